/- A number behind bytes: the document's Put. -/
import Derived.Test.YtojddfbbeiobpaaS6
namespace Go.Proofs.Ytojddfbbeiobpaa
open Go.RowKit
set_option maxRecDepth 100000
set_option maxHeartbeats 1000000 in
theorem rput_own (A : Option Addr) (l : List UInt8) (c n : Nat) (m : Int) (w : World) (h : Rd w w.heap.size A l) (hA : A = none → l = [] ∧ c = 0) (hl : l.length < 2 ^ 45) (hn : n < 2 ^ 64) (hm : -2 ^ 63 ≤ m ∧ m < 2 ^ 63) :
    Calls Try.prog 26 #[.slice A l.length c, .int .u64 n, .int .i64 m] w fun e w' => ∃ v, e = .returned v ∧ w'.ownsRow w.heap.size 5 1 v (l.length + wid m) ((l ++ nb (wid m) n).map B) ∧ Below w.heap.size w w' := by
  obtain ⟨i0, hi, hz0, hz1, hz2⟩ := info_parts infoB
  have H := Lib.hid h; have HA := Lib.hid hA
  clear h hA
  obtain ⟨M, hM⟩ : ∃ M, M = wid m := ⟨_, rfl⟩
  have hMl := wid_le m
  rw [← hM] at hMl
  have HM : Hid (M = wid m) := hM
  clear hM
  rw [← HM.out]
  go_enter Try.func26, Try.ntmps26
  apply wp_seq_k; intro _ _
  go_cut [6] (fun x wx => x = .slice none 0 0 ∧ w = wx)
  case first =>
    go_wp2_with fail
    go_meet
    exact ⟨rfl, rfl⟩
  obtain ⟨rfl, rfl⟩ := hcut
  rename_i hkk
  apply hkk
  clear hkk
  apply wp_seq_k; intro _ _
  go_cut [2] (fun x wx => x = .int .i64 M ∧ w = wx)
  case first =>
    go_wp2_with fail
    all_goals
      go_meet
      refine ⟨?_, rfl⟩
      have e := HM.out
      unfold wid at e
      split at e
      all_goals first | (refine congrArg (Value.int .i64) ?_; omega) | (exfalso; simp only [Bool.or_eq_true, decide_eq_true_eq, not_or, Bool.not_eq_true] at *; omega)
  case rest =>
    obtain ⟨rfl, rfl⟩ := hcut
    go_wp2_with (at_builtin; refine append_rd rfl _ _ rfl w.heap.size (.slice none 0 0) 0 [] rfl (World.ownsRow_nil _ _ _ _) A l c rfl HA.out H.out (by omega) (Nat.le_refl _) ?_)
    intro v w1 hown hgrow
    have ho1 : w1.ownsRow w.heap.size 5 1 v l.length (l.map B) := by simpa using hown
    have hb : Below w.heap.size w w1 := (Below.refl _ _).grown hgrow (Nat.le_refl _) (fun k hk => by simp [Value.ownBlock] at hk)
    have HO := Lib.hid ho1
    clear hown hgrow ho1
    go_wp2
    go_loopw [8, 9] (fun p i w' => ∃ j : Nat, 1 ≤ j ∧ j ≤ M ∧ i = .int .i64 j ∧ p = .int .u64 ((256 ^ (j - 1) : Nat) : Int) ∧ w1 = w') (fun _ i _ => M - (intOf i).toNat)
    case atStart => exact ⟨1, by omega, by omega, by go_num, rfl, rfl⟩
    case round =>
      obtain ⟨j, hj1, hj2, rfl, rfl, rfl⟩ := hrel
      by_cases hlt : j < M
      · have d1 : decide ((j : Int) < (M : Int)) = true := by simp; omega
        obtain ⟨p, hp⟩ : ∃ p : Nat, p = 256 ^ (j - 1) := ⟨_, rfl⟩
        have hp1 : 256 ^ (j + 1 - 1) = p * 256 := by rw [hp, ← Nat.pow_succ]; congr 1; omega
        have hp2 : p ≤ 256 ^ 6 := by rw [hp]; exact Nat.pow_le_pow_right (by omega) (by omega)
        rw [← hp]
        have HP := Lib.hid hp1
        clear hp1 hp
        simp only [Nat.reducePow] at hp2
        go_wp2
        go_roundw
        case rel => exact ⟨j + 1, by omega, by omega, by go_num, by rw [HP.out]; go_num, by trivial⟩
        case measure => simp [intOf]; omega
      · have d1 : decide ((j : Int) < (M : Int)) = false := by simp; omega
        have hj : j = M := by omega
        obtain ⟨P, hP⟩ : ∃ P : Nat, P = 256 ^ (M - 1) := ⟨_, rfl⟩
        rw [hj] at d1
        rw [hj, ← hP]
        have HP := Lib.hid hP
        clear hP hj hlt hj1 hj2
        go_wp2
        go_loopw [7, 8, 10] (fun x p i w' => ∃ k : Nat, k ≤ M ∧ i = .int .i64 k ∧ p = .int .u64 ((P / 256 ^ k : Nat) : Int) ∧ Hid (w'.ownsRow w.heap.size 5 1 x (l.length + k) ((l ++ (nb M n).take k).map B)) ∧ Below w.heap.size w w') (fun _ _ i _ => M - (intOf i).toNat)
        case atStart => exact ⟨0, by omega, by go_num, by simp, Lib.hid (by simpa using HO.out), hb⟩
        case round =>
          obtain ⟨k, hk, rfl, rfl, ho, hbel⟩ := hrel
          have hbs := hbel.size
          by_cases hlt : k < M
          · have d2 : decide ((k : Int) < (M : Int)) = true := by simp; omega
            obtain ⟨s, hs⟩ : ∃ s : Nat, s = M - 1 - k := ⟨_, rfl⟩
            obtain ⟨q, hq⟩ : ∃ q : Nat, q = P / 256 ^ k := ⟨_, rfl⟩
            have hq2 : P / 256 ^ (k + 1) = q / 256 := by rw [hq, Nat.div_div_eq_div_mul, ← Nat.pow_succ]
            have hq3 : q = 256 ^ s := by
              rw [hq, HP.out, show M - 1 = s + k by omega, Nat.pow_add]
              exact Nat.mul_div_cancel _ (Nat.pow_pos (by omega))
            have hq0 : 0 < q := by rw [hq3]; exact Nat.pow_pos (by omega)
            have hq1 : q ≤ 256 ^ 7 := by rw [hq3]; exact Nat.pow_le_pow_right (by omega) (by omega)
            obtain ⟨t, htq⟩ : ∃ t : Nat, t = n / q := ⟨_, rfl⟩
            have ev : (t : Int) % 256 = (n : Int) / 2 ^ (8 * s) % 256 := by rw [htq, hq3, show (256 : Nat) = 2 ^ 8 from rfl, ← Nat.pow_mul]; norm_cast
            have ht : (n : Int) / (q : Int) = (t : Int) := by rw [htq]; norm_cast
            have ht2 : t < 2 ^ 64 := by rw [htq]; exact Nat.lt_of_le_of_lt (Nat.div_le_self _ _) hn
            clear htq
            rw [← hq]
            simp only [Nat.reducePow] at hq1
            have HQ2 := Lib.hid hq2
            have HEV := Lib.hid ev
            have HS := Lib.hid hs
            clear hq hq2 hq3 ev hs
            go_wp2_with (at_builtin; refine wpList_append_own _ rfl _ _ 28 rfl w.heap.size 5 i0 (.int .u8 0) 1 1 Try.underlying28 hi hz0 hz1 hz2 rfl (by decide) _ _ _ rfl (ho.out.alloc _) ⟨wr.heap.size, 0, none⟩ 1 1 [.int .u8 ((t : Int) % 256)] rfl rfl (by intro j u hj; match j, hj with | 0, hj => (simp at hj; subst hj; simp [Addr.add])) (by intro u hu; simp at hu; subst hu; rfl) (by unfold maxLen; omega) (by omega) (by simp; omega) ?_)
            intro v' w2 hown' hgrow _
            have ho2 : w2.ownsRow w.heap.size 5 1 v' (l.length + (k + 1)) ((l ++ (nb M n).take (k + 1)).map B) := by rw [nb_step l M n k s hlt HS.out, ← HEV.out]; exact hown'
            have hb1 : Below w.heap.size w w2 := (hbel.alloc hbs _).grown hgrow (by simp; omega) (fun g hg => (ho.out.lt g hg).1)
            have HO2 := Lib.hid ho2
            clear ho2 hown' hgrow ho
            go_wp2
            go_roundw
            case rel => exact ⟨k + 1, by omega, by go_num, by rw [HQ2.out]; go_num, HO2, hb1⟩
            case measure => simp [intOf]; omega
          · have d2 : decide ((k : Int) < (M : Int)) = false := by simp; omega
            have hk' : k = M := by omega
            have ho' := ho.out
            rw [hk', List.take_of_length_le (by rw [nb_length]; omega)] at ho'
            have HR := Lib.hid ho'
            clear ho ho' hlt
            go_wp2
            go_ret
            exact ⟨_, rfl, HR.out, hbel⟩
theorem rput_any (A : Option Addr) (l : List UInt8) (c n : Nat) (m : Int) (w : World) (h : Rd w w.heap.size A l) (hA : A = none → l = [] ∧ c = 0) (hl : l.length < 2 ^ 45) (hn : n < 2 ^ 64) (hm : -2 ^ 63 ≤ m ∧ m < 2 ^ 63) :
    Calls Try.prog 26 #[.slice A l.length c, .int .u64 n, .int .i64 m] w fun e w' => ∃ A' c', e = .returned (.slice A' (l.length + wid m) c') ∧ Rd w' w'.heap.size A' (l ++ nb (wid m) n) ∧ Below w.heap.size w w' := by
  refine (rput_own A l c n m w h hA hl hn hm).mono ?_
  rintro e w' ⟨v, rfl, ho, hb⟩
  obtain ⟨A', c', rfl, hrd, _⟩ := Rd.of_own ho (by simp [nb_length])
  exact ⟨A', c', by simp [nb_length], hrd, hb⟩
end Go.Proofs.Ytojddfbbeiobpaa
