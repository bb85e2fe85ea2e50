/- IdentsTemp: the walk. -/
import Derived.Test.YtmdalmegogfanaaDoorI6
import Derived.ChangeKeysEq
namespace Go.Proofs.YtmdalmegogfanaaDoor
open Go.RowKit
set_option maxRecDepth 100000
@[go_sem ↓] theorem ldA2 (dst : Option Tmp) (x : Operand) (t : TypeId) (pos : String) (af : Array Edge) (g : Option (Nat × Bool)) (a : Act) (w : World) (K : Act → World → Prop) (Q : Exit → Act → World → Prop) :
    Oper.wp Tryd.prog ⟨dst, .load 33 x, t, pos, af, g⟩ a w K Q = ldPtr (wpHid Tryd.prog ⟨dst, .load 33 x, t, pos, af, g⟩ a w K Q) 2 w (fun c => K (a.put dst (.agg c)) w) (a.eval x) :=
  wp_load_bk 33 2 _ Tryd.underlying33 rfl (by kernel_rfl) dst x t pos af g a w K Q
@[go_sem ↓] theorem stA2 (dst : Option Tmp) (x y : Operand) (t : TypeId) (pos : String) (af : Array Edge) (g : Option (Nat × Bool)) (a : Act) (w : World) (K : Act → World → Prop) (Q : Exit → Act → World → Prop) :
    Oper.wp Tryd.prog ⟨dst, .store 33 x y, t, pos, af, g⟩ a w K Q = stPtr (wpHid Tryd.prog ⟨dst, .store 33 x y, t, pos, af, g⟩ a w K Q) 2 w (fun w' => K (a.put dst undef) w') (a.eval x) (a.eval y) :=
  wp_store_bk 33 2 (by kernel_rfl) dst x y t pos af g a w K Q
@[go_sem ↓] theorem qlA2 (dst : Option Tmp) (x : Operand) (t : TypeId) (pos : String) (af : Array Edge) (g : Option (Nat × Bool)) (a : Act) (m : Nat) (W : World) (K : Act → Prop) :
    Oper.quiet Tryd.prog ⟨dst, .load 33 x, t, pos, af, g⟩ a (fun w' => ∃ x : Later m W, w' = x.w) K =
      ldLater (quietHid Tryd.prog ⟨dst, .load 33 x, t, pos, af, g⟩ a (fun w' => ∃ x : Later m W, w' = x.w) K) m 2 W (fun c => K (a.put dst (.agg c))) (a.eval x) :=
  quiet_load_bk 33 2 _ Tryd.underlying33 rfl (by kernel_rfl) dst x t pos af g a m W K
theorem eqA2 (a b c d : Nat) (w : World) : (Op.equalIn 10000 33 (.agg #[.int .u32 a, .int .u32 b]) (.agg #[.int .u32 c, .int .u32 d])).run Tryd.prog w = .ok (decide (a = c ∧ b = d)) w := by
  rw [run_equalIn_array w 9999 _ _ Tryd.underlying33 (i := (Tryd.prog.info? 28).get!) (by kernel_rfl)]
  have hc : Tryd.prog.cellsOf 28 = 1 := by kernel_rfl
  have hu := fun w => run_underlying Tryd.underlying28 w
  by_cases h1 : a = c
  · subst h1
    simp [hc, List.range, List.range.loop, Op.eqItems, part, isAgg, hu, run_equalIn_int (P := Tryd.prog) _ _ 28 .u32 .u32 _ _ Tryd.underlying28]
    by_cases h2 : b = d
    · simp [h2]
    · simp [h2]; omega
  · simp [hc, List.range, List.range.loop, Op.eqItems, part, isAgg, hu, run_equalIn_int (P := Tryd.prog) _ _ 28 .u32 .u32 _ _ Tryd.underlying28, h1]
    omega
theorem tid_head {a b : Nat} (ha : a < 4294967296) (hb : b < 4294967296) : ((tid a b).getD 0 0).toNat = a / 16777216 := by
  have h : (tid a b).getD 0 0 = UInt8.ofNat (two32 a b / 72057594037927936) := rfl
  rw [h, UInt8.toNat_ofNat']
  unfold two32
  omega
theorem tid_last {a b : Nat} (_ha : a < 4294967296) (_hb : b < 4294967296) : ((tid a b).getD 7 0).toNat = b % 256 := by
  have h : (tid a b).getD 7 0 = UInt8.ofNat (two32 a b / 1) := rfl
  rw [h, UInt8.toNat_ofNat']
  unfold two32
  omega
theorem tid_eq {a b c d : Nat} (ha : a < 4294967296) (hb : b < 4294967296) (hc : c < 4294967296) (hd : d < 4294967296) : (tid a b == tid c d) = decide (a = c ∧ b = d) := by
  rw [Bool.eq_iff_iff, beq_iff_eq, decide_eq_true_eq]
  constructor
  · intro h
    have h1 := tid_val ha hb
    rw [h, tid_val hc hd] at h1
    unfold two32 at h1
    omega
  · rintro ⟨rfl, rfl⟩; rfl
theorem identsTemp_walk (a b c d : Nat) (ha : a < 4294967296) (hb : b < 4294967296) (hc : c < 4294967296) (hd : d < 4294967296) (w : World) (hg : GE w) :
    Calls Tryd.prog 4 #[.agg #[.int .u32 a, .int .u32 b], .agg #[.int .u32 c, .int .u32 d]] w fun e w' => e = .returned (.bool true) ∧ Below w.heap.size w w' := by
  have hw1 : 1 < w.heap.size := by obtain ⟨_, _, h⟩ := hg.each; exact bk_lt h
  have HG := Lib.hid hg
  have C1 := temp_any a b ha hb
  have C2 := temp_any c d hc hd
  have E1 := eqA8 (tid a b) (tid c d) (tid_length _ _) (tid_length _ _)
  have E2 := eqA2 a b c d
  rw [tid_eq ha hb hc hd] at E1
  have hl := tid_length a b
  have hh := tid_head ha hb
  have hz := tid_last ha hb
  have hl2 := tid_length c d
  generalize decide (a = c ∧ b = d) = q at *
  generalize tid a b = t1 at *
  generalize tid c d = t2 at *
  have s1 : (t1.map B).toArray.size = 8 := by simp [hl]
  have s2 : (t2.map B).toArray.size = 8 := by simp [hl2]
  have o1 := ones_map t1
  have o2 := ones_map t2
  have g0 : ((t1.map B).toArray)[0]? = some (.int .u8 ((a : Int) / 16777216)) := by
    rw [List.getD_eq_getElem?_getD, List.getElem?_eq_getElem (by omega)] at hh
    rw [List.getElem?_toArray, List.getElem?_map, List.getElem?_eq_getElem (by omega)]
    simp only [Option.map_some, B, Option.some.injEq, Value.int.injEq, true_and]
    simp only [Option.getD_some] at hh
    omega
  have g7 : ((t1.map B).toArray)[7]? = some (.int .u8 ((b : Int) % 256)) := by
    rw [List.getD_eq_getElem?_getD, List.getElem?_eq_getElem (by omega)] at hz
    rw [List.getElem?_toArray, List.getElem?_map, List.getElem?_eq_getElem (by omega)]
    simp only [Option.map_some, B, Option.some.injEq, Value.int.injEq, true_and]
    simp only [Option.getD_some] at hz
    omega
  have m1 : IntKind.u8.wrap ((a : Int) / 16777216) = (a : Int) / 16777216 := by rw [IntKind.wrap_u8]; omega
  have m2 : IntKind.u8.wrap (b : Int) = (b : Int) % 256 := IntKind.wrap_u8 _
  obtain ⟨R1, hR1⟩ : ∃ R, R = (t1.map B).toArray := ⟨_, rfl⟩
  obtain ⟨R2, hR2⟩ : ∃ R, R = (t2.map B).toArray := ⟨_, rfl⟩
  have o1 : ones R1.toList = true := by rw [hR1]; exact ones_map t1
  have o2 : ones R2.toList = true := by rw [hR2]; exact ones_map t2
  rw [← hR1] at C1 E1 g0 g7 s1
  rw [← hR2] at C2 E1 s2
  have HC1 := Lib.hid C1; have HC2 := Lib.hid C2
  clear C1 C2 hg hl hh hz hl2 hR1 hR2
  go_enter Tryd.func4, Tryd.ntmps4
  go_wp2_with fail
  have k0 : bk ((w.alloc (.cells #[.int .u32 a, .int .u32 b] 33)).alloc (.cells #[.int .u32 c, .int .u32 d] 33)) w.heap.size = some (.cells #[.int .u32 a, .int .u32 b] 33 (0, 0)) := (bk_alloc_past _ _ _ (by simp)).trans (bk_alloc_at _ _ _ rfl)
  have j0 : bk ((w.alloc (.cells #[.int .u32 a, .int .u32 b] 33)).alloc (.cells #[.int .u32 c, .int .u32 d] 33)) (w.heap.size + 1) = some (.cells #[.int .u32 c, .int .u32 d] 33 (0, 0)) := bk_alloc_at _ _ _ (by simp)
  have b0 : Below w.heap.size w ((w.alloc (.cells #[.int .u32 a, .int .u32 b] 33)).alloc (.cells #[.int .u32 c, .int .u32 d] 33)) := (by (repeat (first | exact Below.refl _ _ | assumption | refine Below.drew ?_ | refine bdrewN ?_ _ | refine Below.alloc ?_ (by first | omega | (simp <;> omega) | (simp only [World.size_alloc] <;> omega)) _ | refine below_setRow ?_ (by first | omega | (simp <;> omega)) _ | refine Below.setCell ?_ (by first | omega | (simp <;> omega)) _)))
  generalize ((w.alloc (.cells #[.int .u32 a, .int .u32 b] 33)).alloc (.cells #[.int .u32 c, .int .u32 d] 33)) = w0 at *
  have B0 := Lib.hid b0
  clear b0
  refine (HC1.out w0).mono ?_
  rintro e w1 ⟨rfl, b1⟩
  have k1 := bk_keep b1 (bk_lt k0) k0
  have j1 := bk_keep b1 (bk_lt j0) j0
  have B1 := Lib.hid (B0.out.trans (b1.mono B0.out.size))
  clear b1 B0 k0 j0 HC1
  have k2 : bk (w1.alloc (.cells R1 25)) w.heap.size = some (.cells #[.int .u32 a, .int .u32 b] 33 (0, 0)) := (bk_alloc_past _ _ _ (bk_lt k1)).trans k1
  have j2 : bk (w1.alloc (.cells R1 25)) (w.heap.size + 1) = some (.cells #[.int .u32 c, .int .u32 d] 33 (0, 0)) := (bk_alloc_past _ _ _ (bk_lt j1)).trans j1
  have r2 : bk (w1.alloc (.cells R1 25)) w1.heap.size = some (.cells R1 25 (0, 0)) := bk_alloc_at _ _ _ rfl
  have b2 : Below w.heap.size w (w1.alloc (.cells R1 25)) := B1.out.alloc B1.out.size _
  have cc0 : (w1.alloc (.cells R1 25)).cell? ⟨w.heap.size + 1, 0, none⟩ = some (.int .u32 c) := bk_cell j2 0
  have cc1 : (w1.alloc (.cells R1 25)).cell? ⟨w.heap.size + 1, 1, none⟩ = some (.int .u32 d) := bk_cell j2 1
  have KJ := Lib.hid (And.intro k2 (And.intro j2 (And.intro r2 b2)))
  clear k2 j2 r2 b2
  go_wp2_with fail
  obtain ⟨k2, j2, r2, b2⟩ := KJ.out
  clear KJ cc0 cc1
  clear B1 k1 j1
  generalize w1.alloc (.cells R1 25) = w2 at *
  generalize w1.heap.size = x1 at *
  have B2 := Lib.hid b2
  clear b2
  refine (HC2.out w2).mono ?_
  rintro e w3 ⟨rfl, b3⟩
  have k3 := bk_keep b3 (bk_lt k2) k2
  have j3 := bk_keep b3 (bk_lt j2) j2
  have r3 := bk_keep b3 (bk_lt r2) r2
  have B3 := Lib.hid (B2.out.trans (b3.mono B2.out.size))
  clear b3 B2 k2 j2 r2 HC2
  go_wp2_with fail
  have k4 : bk (w3.alloc (.cells R2 25)) w.heap.size = some (.cells #[.int .u32 a, .int .u32 b] 33 (0, 0)) := (bk_alloc_past _ _ _ (bk_lt k3)).trans k3
  have j4 : bk (w3.alloc (.cells R2 25)) (w.heap.size + 1) = some (.cells #[.int .u32 c, .int .u32 d] 33 (0, 0)) := (bk_alloc_past _ _ _ (bk_lt j3)).trans j3
  have r4 : bk (w3.alloc (.cells R2 25)) x1 = some (.cells R1 25 (0, 0)) := (bk_alloc_past _ _ _ (bk_lt r3)).trans r3
  have q4 : bk (w3.alloc (.cells R2 25)) w3.heap.size = some (.cells R2 25 (0, 0)) := bk_alloc_at _ _ _ rfl
  have b4 : Below w.heap.size w (w3.alloc (.cells R2 25)) := B3.out.alloc B3.out.size _
  clear B3 k3 j3 r3
  generalize w3.alloc (.cells R2 25) = w4 at *
  generalize w3.heap.size = x3 at *
  have B4 := Lib.hid b4
  clear b4
  have l1 := bk_lt k4
  have l2 := bk_lt j4
  have l3 := bk_lt r4
  have l4 := bk_lt q4
  have c0 := bk_cell r4 0
  have c7 := bk_cell r4 7
  rw [g0] at c0
  rw [g7] at c7
  have p0 : w4.cell? ⟨w.heap.size, 0, none⟩ = some (.int .u32 a) := bk_cell k4 0
  have p1 : w4.cell? ⟨w.heap.size, 1, none⟩ = some (.int .u32 b) := bk_cell k4 1
  refine wp_region_later (w4.heap.size) (by kernel_rfl) (by kernel_rfl) ?_
  repeat (go_big_quiet_step (((rename_i xq; with_reducible exact later_call xq (Nat.le_refl _) (lives15_any xq.w (HG.out.below (B4.out.trans (xq.h.mono B4.out.size)) hw1))))))
  (first | refine wpQuiet_nil ?_ | (go_big_quiet_want; (try go_big_quiet_op); trace_state; fail))
  intro w5 hw'
  have q5 := later_elim hw'
  clear hw'
  go_wp2_with fail
  go_ret
  exact ⟨rfl, B4.out.trans (q5.mono B4.out.size)⟩
end Go.Proofs.YtmdalmegogfanaaDoor
