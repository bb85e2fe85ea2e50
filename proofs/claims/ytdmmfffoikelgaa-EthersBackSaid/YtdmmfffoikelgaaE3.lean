/- Ethers: lives; EthersGroup. -/
import Derived.Test.YtdmmfffoikelgaaE2
namespace Go.Proofs.Ytdmmfffoikelgaa
open Go.RowKit
set_option maxRecDepth 100000
theorem lives8_any (w : World) : Calls Try.prog 8 #[] w fun e w' => e = .returned (.bool true) ∧ Below w.heap.size w w' := by
  have hb : ∀ A, Try.prog.built 27 [(0, .agg #[Value.int IntKind.u8 1, Value.int IntKind.u8 2, Value.int IntKind.u8 3, Value.int IntKind.u8 4, Value.int IntKind.u8 5, Value.int IntKind.u8 6]), (1, .agg #[Value.int IntKind.u8 7, Value.int IntKind.u8 8, Value.int IntKind.u8 9, Value.int IntKind.u8 10, Value.int IntKind.u8 11, Value.int IntKind.u8 12]), (2, .int .u16 34525), (3, .slice A 1 1)] = some (frc [1, 2, 3, 4, 5, 6] [7, 8, 9, 10, 11, 12] 34525 A 1 1) := fun A => builtFrame_all [1, 2, 3, 4, 5, 6] [7, 8, 9, 10, 11, 12] 34525 A 1 1 rfl rfl
  have q : ∀ w, (Op.equalIn 10000 23 (.agg #[Value.int IntKind.u8 51, Value.int IntKind.u8 51, Value.int IntKind.u8 255, Value.int IntKind.u8 0, Value.int IntKind.u8 18, Value.int IntKind.u8 52]) (.agg #[Value.int IntKind.u8 51, Value.int IntKind.u8 51, Value.int IntKind.u8 255, Value.int IntKind.u8 0, Value.int IntKind.u8 18, Value.int IntKind.u8 52])).run Try.prog w = .ok true w := eqMac [51, 51, 255, 0, 18, 52] [51, 51, 255, 0, 18, 52] rfl rfl
  have d6 : ([1, 2, 3, 4, 5, 6] : List UInt8).length = 6 := rfl
  have s6 : ([7, 8, 9, 10, 11, 12] : List UInt8).length = 6 := rfl
  go_enter Try.func8, Try.ntmps8
  go_wp2_with fail
  have a0 : Below w.heap.size w ((w.alloc (.cells #[Value.int IntKind.u8 99] 5)).alloc (.cells (frc [1, 2, 3, 4, 5, 6] [7, 8, 9, 10, 11, 12] 34525 (some ⟨w.heap.size, 0, none⟩) 1 1) 27)) := ((Below.refl _ _).alloc (Nat.le_refl _) _).alloc (by simp) _
  have R0 : Rd ((w.alloc (.cells #[Value.int IntKind.u8 99] 5)).alloc (.cells (frc [1, 2, 3, 4, 5, 6] [7, 8, 9, 10, 11, 12] 34525 (some ⟨w.heap.size, 0, none⟩) 1 1) 27)) ((w.alloc (.cells #[Value.int IntKind.u8 99] 5)).alloc (.cells (frc [1, 2, 3, 4, 5, 6] [7, 8, 9, 10, 11, 12] 34525 (some ⟨w.heap.size, 0, none⟩) 1 1) 27)).heap.size (some ⟨w.heap.size, 0, none⟩) [99] :=
    ((Rd.lit w [99] 5).below ((Below.refl _ _).alloc (Nat.le_refl _) _) (Nat.le_refl _)).mono (by simp)
  refine (eput_any [1, 2, 3, 4, 5, 6] [7, 8, 9, 10, 11, 12] 34525 (some ⟨w.heap.size, 0, none⟩) [99] 1 _ rfl rfl (by omega) R0 (by simp) (by simp)).mono ?_
  rintro e w1 ⟨v, rfl, ho, b1⟩
  have f1 := a0.trans (b1.mono a0.size)
  have hfr : frb [1, 2, 3, 4, 5, 6] [7, 8, 9, 10, 11, 12] 34525 [99] = [1, 2, 3, 4, 5, 6, 7, 8, 9, 10, 11, 12, 134, 221, 99] := by rfl
  rw [hfr] at ho
  obtain ⟨A1, c1, rfl, hR1, _, _⟩ := Rd.of_own ho rfl
  have HR1 := Lib.hid hR1
  clear R0 b1 a0 hfr ho hR1 hb
  go_wp2_with fail
  have a2 := (Below.refl w1.heap.size w1).alloc (Nat.le_refl _) (.cells (List.map B [1, 2, 3, 4, 5, 6, 7, 8, 9, 10, 11, 12, 134, 221, 99]).toArray 5 (0, 0))
  refine (sameBytes_any A1 (some ⟨w1.heap.size, 0, none⟩) [1, 2, 3, 4, 5, 6, 7, 8, 9, 10, 11, 12, 134, 221, 99] [1, 2, 3, 4, 5, 6, 7, 8, 9, 10, 11, 12, 134, 221, 99] c1 15 _ ((HR1.out.below a2 (Nat.le_refl _)).mono a2.size) (Rd.lit w1 _ 5) (by simp) (by simp)).mono ?_
  rintro e w2 ⟨rfl, b2⟩
  simp only [beq_self_eq_true]
  have f2 := f1.trans ((a2.trans (b2.mono a2.size)).mono f1.size)
  clear a2 b2 HR1
  go_wp2_with fail
  refine (group_any [255, 2, 0, 0, 0, 0, 0, 0, 0, 0, 0, 1, 255, 0, 18, 52] rfl w2).mono ?_
  rintro e w3 ⟨rfl, b3⟩
  have f3 := f2.trans (b3.mono f2.size)
  rw [show av (grp [255, 2, 0, 0, 0, 0, 0, 0, 0, 0, 0, 1, 255, 0, 18, 52]) = .agg #[Value.int IntKind.u8 51, Value.int IntKind.u8 51, Value.int IntKind.u8 255, Value.int IntKind.u8 0, Value.int IntKind.u8 18, Value.int IntKind.u8 52] from rfl]
  clear b3
  go_wp2_with fail
  go_ret
  exact ⟨rfl, f3⟩
theorem ethersGroup_walk (a b : List UInt8) (ha : a.length = 16) (hb : b.length = 16) (w : World) : Calls Try.prog 4 #[av a, av b] w fun e w' => e = .returned (.bool true) ∧ Below w.heap.size w w' := by
  have ga := grp_length a ha
  have gb := grp_length b hb
  have q := eqMac (grp a) (grp b) ga gb
  have hs : (grp a == grp b) = (((a[12] == b[12]) && (a[13] == b[13])) && (a[14] == b[14]) && (a[15] == b[15])) := by
    rw [grp_eq a ha, grp_eq b hb, Bool.eq_iff_iff]
    simp only [beq_iff_eq, List.cons.injEq, Bool.and_eq_true, true_and, and_true]
    simp [and_assoc]
  obtain ⟨c0, e0⟩ : ∃ c, c = (a[12] == b[12]) := ⟨_, rfl⟩
  obtain ⟨c1, e1⟩ : ∃ c, c = (a[13] == b[13]) := ⟨_, rfl⟩
  obtain ⟨c2, e2⟩ : ∃ c, c = (a[14] == b[14]) := ⟨_, rfl⟩
  obtain ⟨c3, e3⟩ : ∃ c, c = (a[15] == b[15]) := ⟨_, rfl⟩
  rw [← e0, ← e1, ← e2, ← e3] at hs
  have u : ∀ x y : UInt8, ((x.toNat : Int) == (y.toNat : Int)) = (x == y) := fun x y => by rw [Bool.eq_iff_iff]; simp [← UInt8.toNat_inj]; omega
  have v0 : ((a[12].toNat : Int) == (b[12].toNat : Int)) = c0 := by rw [e0, u]
  have v1 : ((a[13].toNat : Int) == (b[13].toNat : Int)) = c1 := by rw [e1, u]
  have v2 : ((a[14].toNat : Int) == (b[14].toNat : Int)) = c2 := by rw [e2, u]
  have v3 : ((a[15].toNat : Int) == (b[15].toNat : Int)) = c3 := by rw [e3, u]
  have m0 : (grp a)[0] = 51 := rfl
  have m1 : (grp a)[1] = 51 := rfl
  rw [hs] at q
  clear hs u e0 e1 e2 e3
  go_enter Try.func4, Try.ntmps4
  go_wp2_with fail
  have a0 : Below w.heap.size w ((w.alloc (.cells (List.map B a).toArray 29)).alloc (.cells (List.map B b).toArray 29)) := ((Below.refl _ _).alloc (Nat.le_refl _) _).alloc (by simp) _
  refine (group_any a ha _).mono ?_
  rintro e w1 ⟨rfl, b1⟩
  have k0 := bk_keep b1 (by simp; omega) (show bk ((w.alloc (.cells (List.map B a).toArray 29)).alloc (.cells (List.map B b).toArray 29)) w.heap.size = some (.cells (List.map B a).toArray 29 (0, 0)) by rw [bk_alloc_past _ _ _ (by simp)]; exact bk_alloc_at _ _ _ rfl)
  have k1 := bk_keep b1 (by simp) (show bk ((w.alloc (.cells (List.map B a).toArray 29)).alloc (.cells (List.map B b).toArray 29)) (w.heap.size + 1) = some (.cells (List.map B b).toArray 29 (0, 0)) from bk_alloc_at _ _ _ (by simp))
  have f1 := a0.trans (b1.mono a0.size)
  have s1 : w.heap.size + 2 ≤ w1.heap.size := by have := b1.size; simpa using this
  clear a0 b1
  go_wp2_with fail
  have a2 : Below w1.heap.size w1 (w1.alloc (.cells (List.map B (grp a)).toArray 23)) := (Below.refl _ _).alloc (Nat.le_refl _) _
  refine (group_any b hb _).mono ?_
  rintro e w2 ⟨rfl, b2⟩
  have j0 := bk_keep (a2.trans (b2.mono a2.size)) (by omega) k0
  have j1 := bk_keep (a2.trans (b2.mono a2.size)) (by omega) k1
  have j2 := bk_keep b2 (by simp) (bk_alloc_at w1 (.cells (List.map B (grp a)).toArray 23) _ rfl)
  have f2 := f1.trans ((a2.trans (b2.mono a2.size)).mono f1.size)
  have s2 : w1.heap.size + 1 ≤ w2.heap.size := by have := b2.size; simpa using this
  have f3 : Below w.heap.size w (w2.alloc (.cells (List.map B (grp b)).toArray 23)) := f2.alloc f2.size _
  clear k0 k1 a2 b2 f1 f2
  have i0 := bk_cell j0
  have i1 := bk_cell j1
  have i2 := bk_cell j2
  cases c0 <;> cases c1 <;> cases c2 <;> cases c3
  all_goals
    simp only [Bool.and_true, Bool.and_false, Bool.false_and, Bool.true_and] at q
    go_wp2_with fail
    refine (lives8_any _).mono ?_
    rintro e w3 ⟨rfl, b3⟩
    have f4 := f3.trans (b3.mono f3.size)
    clear b3 f3
    go_wp2_with fail
    go_ret
    exact ⟨rfl, f4⟩
end Go.Proofs.Ytdmmfffoikelgaa
