/- OctetsOrder, walked. -/
import Derived.Test.YtmpmddgledahbaaS12
import Derived.Test.YtmpmddgledahbaaL4
import Derived.Laws.IdiomStrings
import Derived.Laws.BytesArg
namespace Go.Proofs.Ytmpmddgledahbaa
open Go.RowKit
set_option maxRecDepth 100000
theorem conv_rd {w : World} {n : Nat} {A : Option Addr} {l : List UInt8} (h : Rd w n A l) (c : Nat) (hl : A = none → l = []) :
    (convert 22 9 (.slice A l.length c)).run Try.prog w = .ok (.string ⟨l.toArray⟩) w := by
  cases A with
  | none =>
    obtain rfl := hl rfl
    exact run_convert_bytes_nil w 22 5 Try.underlying22 Try.underlying5 _ _ 9 Try.underlying9
  | some ad =>
    refine run_convert_bytes_back w 22 9 5 ad c l Try.underlying22 Try.underlying5 Try.underlying9 fun j hj => ?_
    exact h.news j _ (by rw [List.getElem?_map, List.getElem?_eq_getElem hj]; rfl)
set_option maxHeartbeats 1000000 in
theorem octetsOrder_walk (m n : Nat) (many : UInt8) (hm : m < 2 ^ 64) (hn : n < 2 ^ 64) (w : World) :
    Calls Try.prog 8 #[.int .u64 m, .int .u64 n, B many] w fun e w' => e = .returned (.bool true) ∧ Below w.heap.size w w' := by
  have hml := many.toNat_lt
  obtain ⟨W, hW⟩ : ∃ W, W = 1 + many.toNat % 8 := ⟨_, rfl⟩
  have hWi : (1 : Int) + (many.toNat : Int) % 8 = (W : Int) := by omega
  have hw8 : W < 8 → IntKind.u64.wrap (2 ^ (8 * (1 + many.toNat % 8))) = ((256 ^ W : Nat) : Int) := fun h => by
    rw [← hW]
    have : 256 ^ W ≤ 256 ^ 7 := Nat.pow_le_pow_right (by omega) (by omega)
    rw [show (256 : Nat) = 2 ^ 8 from rfl, ← Nat.pow_mul, ← Nat.pow_mul] at this
    rw [show (256 : Nat) = 2 ^ 8 from rfl, ← Nat.pow_mul]
    have h2 : ((2 : Int) ^ (8 * W)) = ((2 ^ (8 * W) : Nat) : Int) := by norm_cast
    rw [h2]
    generalize 2 ^ (8 * W) = z at *
    rw [IntKind.wrap_u64]
    simp only [Nat.reduceMul, Nat.reducePow] at this
    omega
  have hW1 : 1 ≤ W ∧ W ≤ 8 := by omega
  have hwid : wid W = W := by unfold wid; rw [if_pos (by omega)]; rfl
  by_cases h8 : W < 8
  · obtain ⟨P, hP⟩ : ∃ P, P = 256 ^ W := ⟨_, rfl⟩
    have hP0 : 0 < P := by rw [hP]; exact Nat.pow_pos (by omega)
    have e1 := hw8 h8
    rw [← hP] at e1
    clear hw8
    have d1 : decide ((1 : Int) + (many.toNat : Int) % 8 < 8) = true := by simp; omega
    have HP := Lib.hid hP; have HW := Lib.hid hW; have HWI := Lib.hid hWi; have HWD := Lib.hid hwid
    clear hP hW hWi hwid
    go_enter Try.func8, Try.ntmps8
    go_wp2_with fail
    have hM : m % P < P := Nat.mod_lt _ hP0
    have hN : n % P < P := Nat.mod_lt _ hP0
    have kM : m % P < 2 ^ 64 := Nat.lt_of_le_of_lt (Nat.mod_le _ _) hm
    have kN : n % P < 2 ^ 64 := Nat.lt_of_le_of_lt (Nat.mod_le _ _) hn
    rw [show ((m : Int) % (P : Int)) = ((m % P : Nat) : Int) from by norm_cast, show ((n : Int) % (P : Int)) = ((n % P : Nat) : Int) from by norm_cast, HWI.out]
    clear e1
    generalize m % P = M at *
    generalize n % P = N at *
    rw [HP.out] at hM hN
    refine (put_any none [] 0 M (W : Int) w Rd.nil (by simp) (by simp) kM (by omega)).mono ?_
    rintro e w1 ⟨g, cur, rfl, hg, hb, hs, ht, f1⟩
    rw [HWD.out] at ht hs
    simp only [HWD.out, List.length_nil, Nat.zero_add, List.nil_append] at ht hs ⊢
    have HB := Lib.hid hb; have HT := Lib.hid ht; have HS := Lib.hid hs
    clear hb ht hs
    go_wp2_with fail
    refine (put_any none [] 0 N (W : Int) w1 Rd.nil (by simp) (by simp) kN (by omega)).mono ?_
    rintro e w2 ⟨g', cur', rfl, hg', hb, hs, ht, f2⟩
    rw [HWD.out] at ht hs
    simp only [HWD.out, List.length_nil, Nat.zero_add, List.nil_append] at ht hs ⊢
    have R1 : Rd w2 w2.heap.size (some ⟨g, 0, none⟩) (nb W M) := Rd.of_take (bk_keep f2 (bk_lt HB.out) HB.out) HT.out (Nat.lt_of_lt_of_le (bk_lt HB.out) f2.size)
    have R2 : Rd w2 w2.heap.size (some ⟨g', 0, none⟩) (nb W N) := Rd.of_take hb ht (bk_lt hb)
    have c1 := conv_rd R1 W (by simp)
    have c2 := conv_rd R2 W (by simp)
    rw [nb_length] at c1 c2
    have f := f1.trans (f2.mono f1.size)
    clear R1 R2 HB HT HS hb hs ht f1 f2
    have q1 := less_nb W M N hM hN
    have q2 := same_nb W M N hM hN
    have q3 : ((M : Int) == (N : Int)) = decide (M = N) := by rw [Bool.eq_iff_iff]; simp; omega
    go_wp2_with fail
    refine (lives_any _).mono ?_
    rintro e w3 ⟨rfl, f3⟩
    have f4 := f.trans (f3.mono f.size)
    clear f f3
    go_wp2_with fail
    go_ret
    exact ⟨rfl, f4⟩
  · clear hw8
    obtain rfl : W = 8 := by omega
    have d1 : decide ((1 : Int) + (many.toNat : Int) % 8 < 8) = false := by simp; omega
    have HW := Lib.hid hW; have HWI := Lib.hid hWi; have HWD := Lib.hid hwid
    clear hW hWi hwid
    have hM : m < 256 ^ 8 := hm
    have hN : n < 256 ^ 8 := hn
    obtain ⟨W, hW⟩ : ∃ W, W = 8 := ⟨_, rfl⟩
    rw [← hW] at hM hN HWI HWD
    have hW2 : 1 ≤ W ∧ W ≤ 8 := by omega
    clear h8
    clear hW
    go_enter Try.func8, Try.ntmps8
    go_wp2_with fail
    rw [HWI.out]
    refine (put_any none [] 0 m (W : Int) w Rd.nil (by simp) (by simp) hm (by omega)).mono ?_
    rintro e w1 ⟨g, cur, rfl, hg, hb, hs, ht, f1⟩
    rw [HWD.out] at ht hs
    simp only [HWD.out, List.length_nil, Nat.zero_add, List.nil_append] at ht hs ⊢
    have HB := Lib.hid hb; have HT := Lib.hid ht; have HS := Lib.hid hs
    clear hb ht hs
    go_wp2_with fail
    refine (put_any none [] 0 n (W : Int) w1 Rd.nil (by simp) (by simp) hn (by omega)).mono ?_
    rintro e w2 ⟨g', cur', rfl, hg', hb, hs, ht, f2⟩
    rw [HWD.out] at ht hs
    simp only [HWD.out, List.length_nil, Nat.zero_add, List.nil_append] at ht hs ⊢
    have R1 : Rd w2 w2.heap.size (some ⟨g, 0, none⟩) (nb W m) := Rd.of_take (bk_keep f2 (bk_lt HB.out) HB.out) HT.out (Nat.lt_of_lt_of_le (bk_lt HB.out) f2.size)
    have R2 : Rd w2 w2.heap.size (some ⟨g', 0, none⟩) (nb W n) := Rd.of_take hb ht (bk_lt hb)
    have c1 := conv_rd R1 W (by simp)
    have c2 := conv_rd R2 W (by simp)
    rw [nb_length] at c1 c2
    have f := f1.trans (f2.mono f1.size)
    clear R1 R2 HB HT HS hb hs ht f1 f2
    have q1 := less_nb W m n hM hN
    have q2 := same_nb W m n hM hN
    have q3 : ((m : Int) == (n : Int)) = decide (m = n) := by rw [Bool.eq_iff_iff]; simp; omega
    go_wp2_with fail
    refine (lives_any _).mono ?_
    rintro e w3 ⟨rfl, f3⟩
    have f4 := f.trans (f3.mono f.size)
    clear f f3
    go_wp2_with fail
    go_ret
    exact ⟨rfl, f4⟩
end Go.Proofs.Ytmpmddgledahbaa
