/- Two hashes, reckoned; lives. -/
import Derived.Test.YtmdalmegogfanaaDoorI5
import Derived.Lib.SmallJoins
namespace Go.Proofs.YtmdalmegogfanaaDoor
open Go.RowKit
set_option maxRecDepth 1000000
@[go_sem ↓] theorem bwA8 (dst : Option Tmp) (ps : Array (Nat × Operand)) (t : TypeId) (pos : String) (af : Array Edge) (g : Option (Nat × Bool)) (a : Act) (w : World) (K : Act → World → Prop) (Q : Exit → Act → World → Prop) :
    Oper.wp Tryd.prog ⟨dst, .build 25 ps, t, pos, af, g⟩ a w K Q = bldTo (wpHid Tryd.prog ⟨dst, .build 25 ps, t, pos, af, g⟩ a w K Q) (fun c => K (a.put dst (.agg c)) w) (Tryd.prog.built 25 (ps.toList.map fun x => (x.1, a.eval x.2))) :=
  wp_build_bk 25 dst ps t pos af g a w K Q
@[go_sem ↓] theorem bqA8 (dst : Option Tmp) (ps : Array (Nat × Operand)) (t : TypeId) (pos : String) (af : Array Edge) (g : Option (Nat × Bool)) (a : Act) (m : Nat) (W : World) (K : Act → Prop) :
    Oper.quiet Tryd.prog ⟨dst, .build 25 ps, t, pos, af, g⟩ a (fun w' => ∃ x : Later m W, w' = x.w) K = bldTo (quietHid0 Tryd.prog ⟨dst, .build 25 ps, t, pos, af, g⟩ a (fun w' => ∃ x : Later m W, w' = x.w) K) (fun c => K (a.put dst (.agg c))) (Tryd.prog.built 25 (ps.toList.map fun x => (x.1, a.eval x.2))) :=
  quiet_build_bk 25 dst ps t pos af g a _ ⟨W, ⟨W, Below.refl _ _⟩, rfl⟩ K
theorem hash_abc : bgn (digest [97, 98, 99]) [186, 120, 22, 191, 143, 1, 207, 234] = true := by decide +kernel
theorem hash_nil : bgn (digest []) [227, 176, 196, 66, 152, 252, 28, 20] = true := by decide +kernel
theorem built_abc : Tryd.prog.built 25 [(0, .int .u8 186), (1, .int .u8 120), (2, .int .u8 22), (3, .int .u8 191), (4, .int .u8 143), (5, .int .u8 1), (6, .int .u8 207), (7, .int .u8 234)] = some (([186, 120, 22, 191, 143, 1, 207, 234] : List UInt8).map B).toArray := by kernel_rfl
theorem built_nil : Tryd.prog.built 25 [(0, .int .u8 227), (1, .int .u8 176), (2, .int .u8 196), (3, .int .u8 66), (4, .int .u8 152), (5, .int .u8 252), (6, .int .u8 28), (7, .int .u8 20)] = some (([227, 176, 196, 66, 152, 252, 28, 20] : List UInt8).map B).toArray := by kernel_rfl
theorem built_0 : Tryd.prog.built 25 [] = some #[B 0, B 0, B 0, B 0, B 0, B 0, B 0, B 0] := by kernel_rfl
theorem built_12 : Tryd.prog.built 25 [(3, .int .u8 1), (7, .int .u8 2)] = some #[B 0, B 0, B 0, B 1, B 0, B 0, B 0, B 2] := by kernel_rfl
theorem eqA8 (a b : List UInt8) (ha : a.length = 8) (hb : b.length = 8) (w : World) : (Op.equalIn 10000 25 (.agg (List.map B a).toArray) (.agg (List.map B b).toArray)).run Tryd.prog w = .ok (a == b) w :=
  run_equalIn_bytes w 9998 25 5 8 Tryd.underlying25 Tryd.underlying5 (fun _ => by kernel_rfl) a b ha hb
theorem eq_0 (w : World) : (Op.equalIn 10000 25 (.agg #[B 0, B 0, B 0, B 0, B 0, B 0, B 0, B 0]) (.agg #[B 0, B 0, B 0, B 0, B 0, B 0, B 0, B 0])).run Tryd.prog w = .ok true w := eqA8 [0, 0, 0, 0, 0, 0, 0, 0] [0, 0, 0, 0, 0, 0, 0, 0] rfl rfl w
theorem eq_12 (w : World) : (Op.equalIn 10000 25 (.agg #[B 0, B 0, B 0, B 1, B 0, B 0, B 0, B 2]) (.agg #[B 0, B 0, B 0, B 1, B 0, B 0, B 0, B 2])).run Tryd.prog w = .ok true w := eqA8 [0, 0, 0, 1, 0, 0, 0, 2] [0, 0, 0, 1, 0, 0, 0, 2] rfl rfl w
attribute [local go_sem] eq_0 eq_12 built_abc built_nil built_0 built_12
theorem digest_length (b : List UInt8) : (digest b).length = 32 := rfl
theorem lives15_any (w : World) (hg : GE w) : Calls Tryd.prog 10 #[] w fun e w' => e = .returned (.bool true) ∧ Below w.heap.size w w' := by
  have hw1 : 1 < w.heap.size := by obtain ⟨_, _, h⟩ := hg.each; exact bk_lt h
  have HG := Lib.hid hg
  clear hg
  have t1 : tid 0 0 = [0, 0, 0, 0, 0, 0, 0, 0] := by decide
  have t2 : tid 1 2 = [0, 0, 0, 1, 0, 0, 0, 2] := by decide
  have C1 := temp_any 0 0 (by decide) (by decide)
  have C2 := temp_any 1 2 (by decide) (by decide)
  rw [t1, show rsv (two32 0 0) = true from by decide] at C1
  rw [t2, show rsv (two32 1 2) = false from by decide] at C2
  have C3 := sum_any
  have HC1 := Lib.hid C1; have HC2 := Lib.hid C2
  clear C1 C2 C3 t1 t2
  go_enter Tryd.func10, Tryd.ntmps10
  go_wp2_with fail
  refine (HC1.out w).mono ?_
  rintro e w1 ⟨rfl, b1⟩
  have B1 := Lib.hid b1
  clear b1 HC1
  go_wp2_with fail
  have k1 : bk (w1.alloc (.cells #[B 0, B 0, B 0, B 0, B 0, B 0, B 0, B 0] 25)) w1.heap.size = some (.cells #[B 0, B 0, B 0, B 0, B 0, B 0, B 0, B 0] 25 (0, 0)) := bk_alloc_at _ _ _ rfl
  have a1 : Below w.heap.size w (w1.alloc (.cells #[B 0, B 0, B 0, B 0, B 0, B 0, B 0, B 0] 25)) := B1.out.alloc B1.out.size _
  generalize w1.alloc (.cells #[B 0, B 0, B 0, B 0, B 0, B 0, B 0, B 0] 25) = w2 at *
  generalize w1.heap.size = x1 at *
  have l1 := bk_lt k1
  have A1 := Lib.hid a1
  clear a1 B1
  refine (HC2.out w2).mono ?_
  rintro e w3 ⟨rfl, b3⟩
  have k3 := bk_keep b3 l1 k1
  have B3 := Lib.hid (A1.out.trans (b3.mono A1.out.size))
  clear b3 HC2 A1 k1 l1
  have cv := Go.Joins.run_convert_bytes_const_at (P := Tryd.prog) (w3.alloc (.cells #[B 0, B 0, B 0, B 1, B 0, B 0, B 0, B 2] 25)) 35 5 #[.int .u8 97, .int .u8 98, .int .u8 99] 3 3 (w3.heap.size + 1) (by simp) Tryd.underlying35 Tryd.underlying5
  go_wp2_with fail
  clear cv
  have k4 : bk ((w3.alloc (.cells #[B 0, B 0, B 0, B 1, B 0, B 0, B 0, B 2] 25)).alloc (.cells #[.int .u8 97, .int .u8 98, .int .u8 99] 5 (3, 4))) x1 = some (.cells #[B 0, B 0, B 0, B 0, B 0, B 0, B 0, B 0] 25 (0, 0)) := (bk_alloc_past _ _ _ (by simp; have := bk_lt k3; omega)).trans ((bk_alloc_past _ _ _ (bk_lt k3)).trans k3)
  have j4 : bk ((w3.alloc (.cells #[B 0, B 0, B 0, B 1, B 0, B 0, B 0, B 2] 25)).alloc (.cells #[.int .u8 97, .int .u8 98, .int .u8 99] 5 (3, 4))) w3.heap.size = some (.cells #[B 0, B 0, B 0, B 1, B 0, B 0, B 0, B 2] 25 (0, 0)) := (bk_alloc_past _ _ _ (by simp)).trans (bk_alloc_at _ _ _ rfl)
  have r4 : Rd ((w3.alloc (.cells #[B 0, B 0, B 0, B 1, B 0, B 0, B 0, B 2] 25)).alloc (.cells #[.int .u8 97, .int .u8 98, .int .u8 99] 5 (3, 4))) ((w3.alloc (.cells #[B 0, B 0, B 0, B 1, B 0, B 0, B 0, B 2] 25)).alloc (.cells #[.int .u8 97, .int .u8 98, .int .u8 99] 5 (3, 4))).heap.size (some ⟨w3.heap.size + 1, 0, none⟩) [97, 98, 99] := by
    have hb : bk ((w3.alloc (.cells #[B 0, B 0, B 0, B 1, B 0, B 0, B 0, B 2] 25)).alloc (.cells #[.int .u8 97, .int .u8 98, .int .u8 99] 5 (3, 4))) (w3.heap.size + 1) = some (.cells #[.int .u8 97, .int .u8 98, .int .u8 99] 5 (3, 4)) := bk_alloc_at _ _ _ (by simp)
    exact Rd.of_take (m := 3) hb (by rfl) (bk_lt hb)
  have a4 : Below w.heap.size w ((w3.alloc (.cells #[B 0, B 0, B 0, B 1, B 0, B 0, B 0, B 2] 25)).alloc (.cells #[.int .u8 97, .int .u8 98, .int .u8 99] 5 (3, 4))) := (B3.out.alloc B3.out.size _).alloc (by simp; have := B3.out.size; omega) _
  clear k3
  generalize (w3.alloc (.cells #[B 0, B 0, B 0, B 1, B 0, B 0, B 0, B 2] 25)).alloc (.cells #[.int .u8 97, .int .u8 98, .int .u8 99] 5 (3, 4)) = w4 at *
  generalize w3.heap.size = x3 at *
  have C := sum_any (some ⟨x3 + 1, 0, none⟩) [97, 98, 99] 3 w4 r4 (fun h => by cases h) (by decide) (HG.out.below a4 hw1)
  have A4 := Lib.hid a4
  have HC := Lib.hid C
  clear C a4 B3 r4
  refine HC.out.mono ?_
  rintro e w5 ⟨rfl, b5⟩
  have k5 := bk_keep b5 (bk_lt k4) k4
  have j5 := bk_keep b5 (bk_lt j4) j4
  have B5 := Lib.hid (A4.out.trans (b5.mono A4.out.size))
  clear b5 HC A4 k4 j4
  go_wp2_with fail
  have CB := begins_any (digest [97, 98, 99]) [186, 120, 22, 191, 143, 1, 207, 234] rfl rfl w5
  rw [hash_abc] at CB
  refine CB.mono ?_
  clear CB
  rintro e w6 ⟨rfl, b6⟩
  have k6 := bk_keep b6 (bk_lt k5) k5
  have j6 := bk_keep b6 (bk_lt j5) j5
  have B6 := Lib.hid (B5.out.trans (b6.mono B5.out.size))
  clear b6 B5 k5 j5
  go_wp2_with fail
  refine (sum_any none [] 0 w6 Rd.nil (fun _ => ⟨rfl, rfl⟩) (by decide) (HG.out.below B6.out hw1)).mono ?_
  rintro e w7 ⟨rfl, b7⟩
  have k7 := bk_keep b7 (bk_lt k6) k6
  have j7 := bk_keep b7 (bk_lt j6) j6
  have B7 := Lib.hid (B6.out.trans (b7.mono B6.out.size))
  clear b7 B6 k6 j6
  go_wp2_with fail
  have CB := begins_any (digest []) [227, 176, 196, 66, 152, 252, 28, 20] rfl rfl w7
  rw [hash_nil] at CB
  refine CB.mono ?_
  clear CB
  rintro e w8 ⟨rfl, b8⟩
  have k8 := bk_keep b8 (bk_lt k7) k7
  have j8 := bk_keep b8 (bk_lt j7) j7
  have B8 := Lib.hid (B7.out.trans (b8.mono B7.out.size))
  clear b8 B7 k7 j7
  go_wp2_with fail
  go_ret
  exact ⟨rfl, B8.out⟩
end Go.Proofs.YtmdalmegogfanaaDoor
