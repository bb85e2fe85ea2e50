/- A number behind bytes: the program's Put. -/
import Derived.Test.YtfldoihindbdmaaS4
import Derived.Laws.ShiftsVarLaws
import Derived.Deep.DeepCutAuto
namespace Go.Proofs.Ytfldoihindbdmaa
open Go.RowKit
set_option maxRecDepth 100000
theorem clone_both (A : Option Addr) (l : List UInt8) (c : Nat) (w : World) (h : Rd w w.heap.size A l) (hA : A = none → l = [] ∧ c = 0) (hl : l.length < 2 ^ 46) :
    Calls Try.prog 50 #[.slice A l.length c] w fun e w' => ∃ v, e = .returned v ∧ w'.ownsRow w.heap.size 5 1 v l.length (l.map B) ∧ Below w.heap.size w w' := by
  cases A with
  | none =>
    obtain ⟨rfl, rfl⟩ := hA rfl
    refine (clone_nil w).mono ?_
    rintro e w' ⟨rfl, hb⟩
    exact ⟨_, rfl, World.ownsRow_nil _ _ _ _, hb⟩
  | some ad =>
    refine (clone_any ad l c w h hl).mono ?_
    rintro e w' ⟨v, rfl, ho, _, hb⟩
    exact ⟨v, rfl, ho, hb⟩
/-- In how many bytes a number is put. -/
def wid (m : Int) : Nat := if 1 ≤ m ∧ m ≤ 8 then m.toNat else 8
theorem wid_le (m : Int) : 1 ≤ wid m ∧ wid m ≤ 8 := by unfold wid; split <;> omega
/-- The number's bytes, the greatest first. -/
def nb (m n : Nat) : List UInt8 := (List.range m).map fun i => UInt8.ofNat (n / 256 ^ (m - 1 - i))
theorem nb_length (m n : Nat) : (nb m n).length = m := by simp [nb]
theorem nb_take (m n k : Nat) (h : k < m) : (nb m n).take (k + 1) = (nb m n).take k ++ [UInt8.ofNat (n / 256 ^ (m - 1 - k))] := by
  rw [List.take_succ_eq_append_getElem (by rw [nb_length]; exact h)]
  simp [nb]
theorem nb_step (l : List UInt8) (M n k s : Nat) (hk : k < M) (hs : s = M - 1 - k) :
    (l ++ (nb M n).take (k + 1)).map B = List.map B l ++ (List.take k (List.map B (nb M n)) ++ [Value.int .u8 ((n : Int) / 2 ^ (8 * s) % 256)]) := by
  rw [nb_take _ _ _ hk, ← hs]
  have e : B (UInt8.ofNat (n / 256 ^ s)) = Value.int .u8 ((n : Int) / 2 ^ (8 * s) % 256) := by
    unfold B
    rw [UInt8.toNat_ofNat', show (256 : Nat) = 2 ^ 8 from rfl, ← Nat.pow_mul]
    congr 1
  simp [List.map_take, e]
set_option maxHeartbeats 1000000 in
theorem put_any (A : Option Addr) (l : List UInt8) (c n : Nat) (m : Int) (w : World) (h : Rd w w.heap.size A l) (hA : A = none → l = [] ∧ c = 0) (hl : l.length < 2 ^ 45) (_hn : n < 2 ^ 64) (hm : -2 ^ 63 ≤ m ∧ m < 2 ^ 63) :
    Calls Try.prog 25 #[.slice A l.length c, .int .u64 n, .int .i64 m] w fun e w' => ∃ g cur, e = .returned (.slice (some ⟨g, 0, none⟩) (l.length + wid m) (l.length + wid m)) ∧ w.heap.size ≤ g ∧
      bk w' g = some (.cells cur 5 (0, 0)) ∧ l.length + wid m ≤ cur.size ∧ cur.toList.take (l.length + wid m) = (l ++ nb (wid m) n).map B ∧ Below w.heap.size w w' := by
  obtain ⟨i0, hi, hz0, hz1, hz2⟩ := info_parts infoB
  have C := Lib.hid (clone_both A l c w h hA (by omega))
  clear h hA
  obtain ⟨M, hM⟩ : ∃ M, M = wid m := ⟨_, rfl⟩
  have hMl := wid_le m
  rw [← hM] at hMl
  have HM : Hid (M = wid m) := hM
  clear hM
  rw [← HM.out]
  go_enter Try.func25, Try.ntmps25
  apply wp_seq_k; intro _ _
  go_cut [6] (fun x wx => x = .slice none 0 0 ∧ w = wx)
  case first =>
    go_wp2_with fail
    go_meet
    exact ⟨rfl, rfl⟩
  obtain ⟨rfl, rfl⟩ := hcut
  rename_i hkk
  apply hkk
  clear hkk
  apply wp_seq_k; intro _ _
  go_cut [2] (fun x wx => x = .int .i64 M ∧ w = wx)
  case first =>
    go_wp2_with fail
    all_goals
      go_meet
      refine ⟨?_, rfl⟩
      have e := HM.out
      unfold wid at e
      split at e
      all_goals first | (refine congrArg (Value.int .i64) ?_; omega) | (exfalso; simp only [Bool.or_eq_true, decide_eq_true_eq, not_or, Bool.not_eq_true] at *; omega)
  case rest =>
    obtain ⟨rfl, rfl⟩ := hcut
    go_wp2_with fail
    refine C.out.mono ?_
    rintro e w1 ⟨v, rfl, ho, hb⟩
    have HOW := Lib.hid ho
    clear ho C
    go_wp2
    go_loopw [7, 8] (fun x i w' => ∃ k : Nat, k ≤ M ∧ i = .int .i64 ((M : Int) - 1 - k) ∧ Hid (w'.ownsRow w.heap.size 5 1 x (l.length + k) ((l ++ (nb M n).take k).map B)) ∧ Below w.heap.size w w') (fun _ i _ => (intOf i + 1).toNat)
    case atStart => exact ⟨0, by omega, by go_num, Lib.hid (by simpa using HOW.out), hb⟩
    case round =>
      obtain ⟨k, hk, rfl, ho, hbel⟩ := hrel
      have hbs := hbel.size
      by_cases hlt : k < M
      · obtain ⟨s, hs⟩ : ∃ s : Nat, s = M - 1 - k := ⟨_, rfl⟩
        have es : (M : Int) - 1 - k = (s : Int) := by omega
        rw [es]
        have hs8 : s < 8 := by omega
        have HS := Lib.hid hs
        clear es
        clear hs
        go_wp2_with (at_builtin; refine wpList_append_own _ rfl _ _ 22 rfl w.heap.size 5 i0 (.int .u8 0) 1 1 Try.underlying22 hi hz0 hz1 hz2 rfl (by decide) _ _ _ rfl (ho.out.alloc _) ⟨wr.heap.size, 0, none⟩ 1 1 [.int .u8 ((n : Int) / 2 ^ (8 * s) % 256)] rfl rfl (by intro j u hj; match j, hj with | 0, hj => (simp at hj; subst hj; simp [Addr.add])) (by intro u hu; simp at hu; subst hu; rfl) (by unfold maxLen; omega) (by omega) (by simp; omega) ?_)
        intro v' w1 hown' hgrow _
        have ho2 : w1.ownsRow w.heap.size 5 1 v' (l.length + (k + 1)) ((l ++ (nb M n).take (k + 1)).map B) := by rw [nb_step l M n k s hlt HS.out]; exact hown'
        have hb1 : Below w.heap.size w w1 := (hbel.alloc hbs _).grown hgrow (by simp; omega) (fun g hg => (ho.out.lt g hg).1)
        have HO2 := Lib.hid ho2
        clear ho2 hown' hgrow ho
        go_wp2
        go_roundw
        case rel => exact ⟨k + 1, by omega, by have := HS.out; go_num, HO2, hb1⟩
        case measure => simp [intOf]
      · obtain rfl : k = M := by omega
        have es : (k : Int) - 1 - k = -1 := by omega
        rw [es]
        have ho' := ho.out
        rw [List.take_of_length_le (by rw [nb_length]; omega)] at ho'
        obtain ⟨hlen, ⟨_, h0⟩ | ⟨g, cap, cur, rfl, hg, hbk, hle, hmx, hcs, htk⟩⟩ := ho'
        · omega
        clear ho hlt es
        have HB := Lib.hid (show bk wr g = _ from hbk)
        have HT := Lib.hid htk
        clear hbk htk hlen
        go_wp2_with fail
        refine (clip_any (some ⟨g, 0, none⟩) (l.length + k) cap hle wr).mono ?_
        rintro e w2 ⟨rfl, hb2⟩
        have hbw := hbel.trans (hb2.mono hbs)
        have hbk2 := bk_keep hb2 (bk_lt HB.out) HB.out
        have HB2 := Lib.hid hbk2
        clear hbk2 hb2
        go_wp2_with fail
        go_ret
        exact ⟨g, cur, rfl, hg, HB2.out, by omega, by simpa using HT.out, hbw⟩
end Go.Proofs.Ytfldoihindbdmaa
