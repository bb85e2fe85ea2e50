/- SelectsRules: of two that differ in one thing alone. -/
import Derived.Test.YtcoonncedlbbkaaDoorX18
namespace Go.Proofs.YtcoonncedlbbkaaDoor
open Go.RowKit Ad
set_option maxRecDepth 100000
set_option maxHeartbeats 2000000
@[go_sem ↓] theorem bwCdb (dst : Option Tmp) (ps : Array (Nat × Operand)) (t : TypeId) (pos : String) (af : Array Edge) (g : Option (Nat × Bool)) (a : Act) (w : World) (K : Act → World → Prop) (Q : Exit → Act → World → Prop) :
    Oper.wp Tryd.prog ⟨dst, .build 33 ps, t, pos, af, g⟩ a w K Q = bldTo (wpHid Tryd.prog ⟨dst, .build 33 ps, t, pos, af, g⟩ a w K Q) (fun c => K (a.put dst (.agg c)) w) (Tryd.prog.built 33 (ps.toList.map fun x => (x.1, a.eval x.2))) :=
  wp_build_bk 33 dst ps t pos af g a w K Q
@[go_sem ↓] theorem bqCdb (dst : Option Tmp) (ps : Array (Nat × Operand)) (t : TypeId) (pos : String) (af : Array Edge) (g : Option (Nat × Bool)) (a : Act) (m : Nat) (W : World) (K : Act → Prop) :
    Oper.quiet Tryd.prog ⟨dst, .build 33 ps, t, pos, af, g⟩ a (fun w' => ∃ x : Later m W, w' = x.w) K = bldTo (quietHid0 Tryd.prog ⟨dst, .build 33 ps, t, pos, af, g⟩ a (fun w' => ∃ x : Later m W, w' = x.w) K) (fun c => K (a.put dst (.agg c))) (Tryd.prog.built 33 (ps.toList.map fun x => (x.1, a.eval x.2))) :=
  quiet_build_bk 33 dst ps t pos af g a _ ⟨W, ⟨W, Below.refl _ _⟩, rfl⟩ K
theorem builtCd_cd (c : Cd) : Tryd.prog.built 33 [(0, .agg (List.map B c.a).toArray), (1, .bool c.d), (2, .bool c.t)] = some c.row := by
  have e : ∀ parts : List (Nat × Value), Tryd.prog.built 33 parts = Instr.fill (#[(0, 16), (16, 1), (17, 1)][·]?) zeroCd.row parts := fun parts => by rw [zrow]; kernel_rfl
  rw [e, show [(0, Value.agg (List.map B c.a).toArray), (1, Value.bool c.d), (2, Value.bool c.t)] = partsAt 0 [.agg (List.map B c.a).toArray, .bool c.d, .bool c.t] from rfl,
    fill_all _ _ 0 0 _ (by simp [placesOk, Value.cells, c.h]) (by simp [widths, Value.cells, c.h, Cd.row_size]), Cd.row_cat c]
  have h : zeroCd.row.toList.drop 18 = [] := List.drop_of_length_le (by simp [Cd.row_size])
  simp [widths, Value.cells, c.h, h]
theorem builtCd_bare (a : List UInt8) (h : a.length = 16) : Tryd.prog.built 33 [(0, .agg (List.map B a).toArray)] = some (bare a h).row := by
  have e : ∀ parts : List (Nat × Value), Tryd.prog.built 33 parts = Instr.fill (#[(0, 16), (16, 1), (17, 1)][·]?) zeroCd.row parts := fun parts => by rw [zrow]; kernel_rfl
  rw [e, show [(0, Value.agg (List.map B a).toArray)] = partsAt 0 [.agg (List.map B a).toArray] from rfl,
    fill_all _ _ 0 0 _ (by simp [placesOk, Value.cells, h]) (by simp [widths, Value.cells, h, Cd.row_size]), Cd.row_cat (bare a h)]
  have h2 : zeroCd.row.toList.drop 16 = [.bool false, .bool false] := by rw [zrow]; rfl
  simp [widths, Value.cells, h, h2, bare]
/-- What the walk holds. -/
structure Sr (n : Nat) (dst : List UInt8) (c : Cd) (w0 w : World) : Prop where
  f : Below n w0 w
  n0 : 0 < n
  k0 : bk w n = some (.cells (List.map B dst).toArray 23 (0, 0))
  k1 : bk w (n + 1) = some (.cells c.row 33 (0, 0))
  g : GK w
theorem Sr.next {n : Nat} {dst : List UInt8} {c : Cd} {w0 w w' : World} (h : Sr n dst c w0 w) (hb : Below w.heap.size w w') : Sr n dst c w0 w' :=
  ⟨h.f.trans (hb.mono (Nat.le_of_lt (bk_lt h.k0))), h.n0, bk_keep hb (bk_lt h.k0) h.k0, bk_keep hb (bk_lt h.k1) h.k1, h.g.up hb⟩
/-- A cell is set, of another block or of the candidate's. -/
theorem Sr.set {n : Nat} {dst : List UInt8} {c : Cd} {w0 w : World} (h : Sr n dst c w0 w) (g j : Nat) (v : Value) (hg : n + 1 < g) : Sr n dst c w0 (w.setCell ⟨g, j, none⟩ v) := by
  obtain ⟨cg, tg, fg, g1, g2⟩ := h.g
  have h0 := h.n0
  exact ⟨h.f.setCell (show n ≤ g by omega) v, h0, (bk_setCell_other _ _ _ _ _ (by omega)).trans h.k0, (bk_setCell_other _ _ _ _ _ (by omega)).trans h.k1, cg, tg, fg, (bk_setCell_other _ _ _ _ _ (by omega)).trans g1, g2⟩
theorem Sr.put {n : Nat} {dst : List UInt8} {c : Cd} {w0 w : World} (h : Sr n dst c w0 w) (j : Nat) (v : Value) (c' : Cd) (hc : c.row.setIfInBounds j v = c'.row) : Sr n dst c' w0 (w.setCell ⟨n + 1, j, none⟩ v) := by
  obtain ⟨cg, tg, fg, g1, g2⟩ := h.g
  have h0 := h.n0
  refine ⟨h.f.setCell (show n ≤ n + 1 by omega) v, h0, (bk_setCell_other _ _ _ _ _ (by omega)).trans h.k0, ?_, cg, tg, fg, (bk_setCell_other _ _ _ _ _ (by omega)).trans g1, g2⟩
  rw [bk_setCell_same, h.k1, ← hc]
  rfl
theorem selectsRules_walk (dst : List UInt8) (hd : dst.length = 16) (c : Cd) (bit : UInt8) (w : World) (hk : GK w) :
    Calls Tryd.prog 5 #[av dst, .agg c.row, B bit] w fun e w' => e = .returned (.bool true) ∧ Below w.heap.size w w' := by
  have hw0 : 0 < w.heap.size := by obtain ⟨c, t, fr, h1, _⟩ := hk; exact bk_lt h1
  have ba : Below w.heap.size w ((w.alloc (.cells (List.map B dst).toArray 23 (0, 0))).alloc (.cells c.row 33 (0, 0))) := (by (repeat (first | exact Below.refl _ _ | assumption | refine Below.drew ?_ | refine bdrewN ?_ _ | refine Below.alloc ?_ (by first | omega | (simp <;> omega) | (simp only [World.size_alloc] <;> omega)) _ | refine below_setRow ?_ (by first | omega | (simp <;> omega)) _ | refine Below.setCell ?_ (by first | omega | (simp <;> omega)) _)))
  have v0 : bk ((w.alloc (.cells (List.map B dst).toArray 23 (0, 0))).alloc (.cells c.row 33 (0, 0))) w.heap.size = some (.cells (List.map B dst).toArray 23 (0, 0)) := (bk_alloc_past _ _ _ (by simp)).trans (bk_alloc_at _ _ _ rfl)
  have v1 : bk ((w.alloc (.cells (List.map B dst).toArray 23 (0, 0))).alloc (.cells c.row 33 (0, 0))) (w.heap.size + 1) = some (.cells c.row 33 (0, 0)) := bk_alloc_at _ _ _ (by simp)
  have HX : Hid (Sr w.heap.size dst c w ((w.alloc (.cells (List.map B dst).toArray 23 (0, 0))).alloc (.cells c.row 33 (0, 0)))) := Lib.hid ⟨ba, hw0, v0, v1, hk.up ba⟩
  have sz : ((w.alloc (.cells (List.map B dst).toArray 23 (0, 0))).alloc (.cells c.row 33 (0, 0))).heap.size = w.heap.size + 2 := by simp
  obtain ⟨own, hown⟩ : ∃ x : Cd, x = ⟨dst, c.d, c.t, hd⟩ := ⟨_, rfl⟩
  have BO : Tryd.prog.built 33 [(0, .agg (List.map B dst).toArray), (1, .bool c.d), (2, .bool c.t)] = some own.row := by
    have := builtCd_cd own
    rw [hown] at this ⊢
    exact this
  have HO : Hid (own.a = dst) := Lib.hid (by rw [hown])
  have E1 := eqAddr c.a dst c.h hd
  obtain ⟨u, hu⟩ : ∃ q, q = (c.a == dst) := ⟨_, rfl⟩
  rw [← hu] at E1
  have HU := Lib.hid hu
  clear ba hk hown hu v0 v1
  go_enter Tryd.func5, Tryd.ntmps5
  go_upto_region 2 with fail
  have a2 : Below (w.heap.size + 2) ((w.alloc (.cells (List.map B dst).toArray 23 (0, 0))).alloc (.cells c.row 33 (0, 0))) (((w.alloc (.cells (List.map B dst).toArray 23 (0, 0))).alloc (.cells c.row 33 (0, 0))).alloc (.cells own.row 33 (0, 0))) := by
    rw [← sz]
    exact (Below.refl _ _).alloc (Nat.le_refl _) _
  replace HX := Lib.hid (HX.out.next (by rw [sz]; exact a2))
  have K2 := Lib.hid (show bk (((w.alloc (.cells (List.map B dst).toArray 23 (0, 0))).alloc (.cells c.row 33 (0, 0))).alloc (.cells own.row 33 (0, 0))) (w.heap.size + 2) = some (.cells own.row 33 (0, 0)) from bk_alloc_at _ _ _ sz.symm)
  clear sz a2 BO
  generalize ((w.alloc (.cells (List.map B dst).toArray 23 (0, 0))).alloc (.cells c.row 33 (0, 0))).alloc (.cells own.row 33 (0, 0)) = w4 at *
  cases u
  case false =>
    have M1 := Lib.hid (sbetter_any dst hd own c)
    rw [better_own dst own c HO.out (by have := HU.out.symm; rw [beq_eq_false_iff_ne] at this; exact this)] at M1
    have v0 := HX.out.k0; have v1 := HX.out.k1
    have l0 := bk_lt v0; have l1 := bk_lt v1
    have vk := K2.out; have lk := bk_lt vk
    go_wp2_with fail
    refine (M1.out _ HX.out.g).mono ?_
    rintro e w6 ⟨rfl, b6⟩
    replace HX := Lib.hid (HX.out.next b6)
    replace K2 := Lib.hid (bk_keep b6 (bk_lt K2.out) K2.out)
    clear b6 vk lk
    clear v0 v1 l0 l1
    clear K2 M1
    have v0 := HX.out.k0; have v1 := HX.out.k1
    have l0 := bk_lt v0; have l1 := bk_lt v1
    go_upto_region 5 with fail
    obtain ⟨m2, hm2⟩ : ∃ m, m = (w6).heap.size := ⟨_, rfl⟩
    rw [← hm2]
    have h2 : w.heap.size + 1 < m2 := by rw [hm2]; exact l1
    have a5 : Below (w6).heap.size (w6) ((w6).alloc (.cells c.row 33 (0, 0))) := (Below.refl _ _).alloc (Nat.le_refl _) _
    have K2 : Hid (bk ((w6).alloc (.cells c.row 33 (0, 0))) m2 = some (.cells c.row 33 (0, 0))) := Lib.hid (bk_alloc_at _ _ _ hm2)
    replace HX := Lib.hid (HX.out.next a5)
    clear v0 v1 l0 l1
    clear a5 hm2
    generalize (w6).alloc (.cells c.row 33 (0, 0)) = w5 at *
    have v0 := HX.out.k0; have v1 := HX.out.k1
    have l0 := bk_lt v0; have l1 := bk_lt v1
    have v2 := K2.out; have l2 := bk_lt v2
    have c1 := (bk_cell v1 16).trans c.row_d; have z1 := bk_frozen v1 16
    have c2 := (bk_cell v2 16).trans c.row_d; have z2 := bk_frozen v2 16
    go_upto_region 7 with fail
    have HX1 := HX.out.set m2 16 (.bool true) h2
    have HX2 := Lib.hid (HX1.put 16 (.bool false) (c.old false) (c.row_setd false))
    have K2' : Hid (bk ((w5.setCell ⟨m2, 16, none⟩ (.bool true)).setCell ⟨w.heap.size + 1, 16, none⟩ (.bool false)) m2 = some (.cells (c.old true).row 33 (0, 0))) := Lib.hid (by
      rw [bk_setCell_other _ _ _ _ _ (by omega), bk_setCell_same, v2, ← c.row_setd true]; rfl)
    clear v2 l2 c1 z1 c2 z2 K2 HX1 HX
    clear v0 v1 l0 l1
    have HX := HX2; have K2 := K2'
    clear HX2 K2'
    generalize (w5.setCell ⟨m2, 16, none⟩ (.bool true)).setCell ⟨w.heap.size + 1, 16, none⟩ (.bool false) = w6 at *
    have M1 := Lib.hid (sbetter_any dst hd (c.old false) (c.old true))
    rw [better_old dst (c.old false) (c.old true) rfl rfl rfl] at M1
    have M2 := Lib.hid (sbetter_any dst hd (c.old true) (c.old false))
    rw [better_asym dst _ _ (better_old dst (c.old false) (c.old true) rfl rfl rfl)] at M2
    have v0 := HX.out.k0; have v1 := HX.out.k1
    have l0 := bk_lt v0; have l1 := bk_lt v1
    have vk := K2.out; have lk := bk_lt vk
    go_wp2_with fail
    refine (M1.out _ HX.out.g).mono ?_
    rintro e w6 ⟨rfl, b6⟩
    replace HX := Lib.hid (HX.out.next b6)
    replace K2 := Lib.hid (bk_keep b6 (bk_lt K2.out) K2.out)
    clear b6 vk lk
    clear v0 v1 l0 l1
    have v0 := HX.out.k0; have v1 := HX.out.k1
    have l0 := bk_lt v0; have l1 := bk_lt v1
    have vk := K2.out; have lk := bk_lt vk
    go_wp2_with fail
    refine (M2.out _ HX.out.g).mono ?_
    rintro e w6 ⟨rfl, b6⟩
    replace HX := Lib.hid (HX.out.next b6)
    replace K2 := Lib.hid (bk_keep b6 (bk_lt K2.out) K2.out)
    clear b6 vk lk
    clear v0 v1 l0 l1
    clear M1 M2 K2 h2
    obtain ⟨e, he⟩ : ∃ e, e = c.old false := ⟨_, rfl⟩
    rw [← he] at HX
    clear he
    have v0 := HX.out.k0; have v1 := HX.out.k1
    have l0 := bk_lt v0; have l1 := bk_lt v1
    go_upto_region 10 with fail
    obtain ⟨m3, hm3⟩ : ∃ m, m = w6.heap.size := ⟨_, rfl⟩
    rw [← hm3]
    have h3 : w.heap.size + 1 < m3 := by rw [hm3]; exact l1
    have a5 : Below w6.heap.size w6 (w6.alloc (.cells e.row 33 (0, 0))) := (Below.refl _ _).alloc (Nat.le_refl _) _
    have K3 : Hid (bk (w6.alloc (.cells e.row 33 (0, 0))) m3 = some (.cells e.row 33 (0, 0))) := Lib.hid (bk_alloc_at _ _ _ hm3)
    replace HX := Lib.hid (HX.out.next a5)
    clear v0 v1 l0 l1
    clear a5 hm3
    generalize w6.alloc (.cells e.row 33 (0, 0)) = w7 at *
    have v0 := HX.out.k0; have v1 := HX.out.k1
    have l0 := bk_lt v0; have l1 := bk_lt v1
    have v3 := K3.out; have l3 := bk_lt v3
    have c1 := (bk_cell v1 17).trans e.row_t; have z1 := bk_frozen v1 17
    have c2 := (bk_cell v3 17).trans e.row_t; have z2 := bk_frozen v3 17
    go_upto_region 12 with fail
    have HX1 := HX.out.set m3 17 (.bool false) h3
    have HX2 := Lib.hid (HX1.put 17 (.bool true) (e.tmp true) (e.row_sett true))
    have K3' : Hid (bk ((w7.setCell ⟨m3, 17, none⟩ (.bool false)).setCell ⟨w.heap.size + 1, 17, none⟩ (.bool true)) m3 = some (.cells (e.tmp false).row 33 (0, 0))) := Lib.hid (by
      rw [bk_setCell_other _ _ _ _ _ (by omega), bk_setCell_same, v3, ← e.row_sett false]; rfl)
    clear v3 l3 c1 z1 c2 z2 K3 HX1 HX
    clear v0 v1 l0 l1
    have HX := HX2; have K3 := K3'
    clear HX2 K3'
    generalize (w7.setCell ⟨m3, 17, none⟩ (.bool false)).setCell ⟨w.heap.size + 1, 17, none⟩ (.bool true) = w8 at *
    have M1 := Lib.hid (sbetter_any dst hd (e.tmp true) (e.tmp false))
    rw [better_temp dst (e.tmp true) (e.tmp false) rfl rfl rfl rfl] at M1
    have v0 := HX.out.k0; have v1 := HX.out.k1
    have l0 := bk_lt v0; have l1 := bk_lt v1
    have vk := K3.out; have lk := bk_lt vk
    go_wp2_with fail
    refine (M1.out _ HX.out.g).mono ?_
    rintro e w6 ⟨rfl, b6⟩
    replace HX := Lib.hid (HX.out.next b6)
    replace K3 := Lib.hid (bk_keep b6 (bk_lt K3.out) K3.out)
    clear b6 vk lk
    clear v0 v1 l0 l1
    clear M1 K3 h3
    obtain ⟨f, hf⟩ : ∃ f, f = e.tmp true := ⟨_, rfl⟩
    rw [← hf] at HX
    clear hf
    have v0 := HX.out.k0; have v1 := HX.out.k1
    have l0 := bk_lt v0; have l1 := bk_lt v1
    go_upto_region 16 with fail
    obtain ⟨m4, hm4⟩ : ∃ m, m = w6.heap.size := ⟨_, rfl⟩
    rw [← hm4]
    have h4 : w.heap.size + 1 < m4 := by rw [hm4]; exact l1
    have a5 : Below w6.heap.size w6 ((w6.alloc (.cells (List.map B dst).toArray 23 (0, 0))).alloc (.cells (List.map B dst).toArray 23 (0, 0))) := by
      (repeat (first | exact Below.refl _ _ | assumption | refine Below.drew ?_ | refine bdrewN ?_ _ | refine Below.alloc ?_ (by first | omega | (simp <;> omega) | (simp only [World.size_alloc] <;> omega)) _ | refine below_setRow ?_ (by first | omega | (simp <;> omega)) _ | refine Below.setCell ?_ (by first | omega | (simp <;> omega)) _))
    have K4 : Hid (bk ((w6.alloc (.cells (List.map B dst).toArray 23 (0, 0))).alloc (.cells (List.map B dst).toArray 23 (0, 0))) m4 = some (.cells (List.map B dst).toArray 23 (0, 0))) := Lib.hid ((bk_alloc_past _ _ _ (by simp; omega)).trans (bk_alloc_at _ _ _ hm4))
    have K5 : Hid (bk ((w6.alloc (.cells (List.map B dst).toArray 23 (0, 0))).alloc (.cells (List.map B dst).toArray 23 (0, 0))) (m4 + 1) = some (.cells (List.map B dst).toArray 23 (0, 0))) := Lib.hid (bk_alloc_at _ _ _ (by simp; omega))
    replace HX := Lib.hid (HX.out.next a5)
    clear v0 v1 l0 l1
    clear a5 hm4
    generalize (w6.alloc (.cells (List.map B dst).toArray 23 (0, 0))).alloc (.cells (List.map B dst).toArray 23 (0, 0)) = w9 at *
    obtain ⟨k, hk⟩ : ∃ k, k = 16 + bit.toNat % 47 := ⟨_, rfl⟩
    obtain ⟨y, hy⟩ : ∃ y, y = bit.toNat % 47 := ⟨_, rfl⟩
    have hb8 := bit.toNat_lt
    have b0 : IntKind.i64.wrap (bit.toNat : Int) = (bit.toNat : Int) := by rw [IntKind.wrap_i64]; omega
    have b1 : (bit.toNat : Int).tmod 47 = (y : Int) := by rw [hy, Int.tmod_eq_emod_of_nonneg (by omega)]; simp
    have b2 : (bit.toNat : Int) % 47 = (y : Int) := by rw [hy]; simp
    have b3 : IntKind.i64.wrap (16 + (y : Int)) = (k : Int) := by rw [IntKind.wrap_i64]; omega
    have hk63 : k < 63 := by omega
    obtain ⟨j, hj⟩ : ∃ j, j = k + 1 := ⟨_, rfl⟩
    have k1 : IntKind.i64.wrap ((k : Int) + 1) = (j : Int) := by rw [IntKind.wrap_i64]; omega
    have hj64 : j < 64 := by omega
    have HJK := Lib.hid hj
    clear hk hy hj
    -- region 17, 18: the last bit
    obtain ⟨x, hx⟩ : ∃ x, x = dst.getD 15 0 := ⟨_, rfl⟩
    have hx15 : dst[15]? = some x := by rw [hx, List.getD_eq_getElem?_getD, List.getElem?_eq_getElem (by omega)]; rfl
    obtain ⟨D1, hD1⟩ : ∃ D, D = flipAt dst 127 := ⟨_, rfl⟩
    have hDs : dst.set 15 (flipB x 0) = D1 := by rw [hD1, hx]; rfl
    have hD1l : D1.length = 16 := by rw [hD1, flipAt_length, hd]
    obtain ⟨y0, hy0⟩ : ∃ y, y = flipB x 0 := ⟨_, rfl⟩
    have hbx : bits BinOp.xor IntKind.u8 (x.toNat : Int) 1 = (y0.toNat : Int) := by rw [hy0]; exact bits_one x
    rw [← hy0] at hDs
    have HD := Lib.hid (And.intro hDs hD1)
    clear hx hDs hD1 hy0
    have v4 := K4.out; have l4 := bk_lt v4; have v5 := K5.out; have l5 := bk_lt v5
    have c4 : w9.cell? ⟨m4, 15, none⟩ = some (B x) := by rw [bk_cell v4]; simp [hx15]
    have c5 : w9.cell? ⟨m4 + 1, 15, none⟩ = some (B x) := by rw [bk_cell v5]; simp [hx15]
    have z4 := bk_frozen v4 15; have z5 := bk_frozen v5 15
    go_upto_region 19 with fail
    have HX2 := Lib.hid ((HX.out.set m4 15 (B y0) h4).set (m4 + 1) 15 (B y0) (by omega))
    have K4' : Hid (bk ((w9.setCell ⟨m4, 15, none⟩ (B y0)).setCell ⟨m4 + 1, 15, none⟩ (B y0)) m4 = some (.cells (List.map B D1).toArray 23 (0, 0))) := Lib.hid (by
      rw [bk_setCell_other _ _ _ _ _ (by omega), bk_setCell_same, v4, ← HD.out.1, List.map_set]; simp [putObj])
    have K5' : Hid (bk ((w9.setCell ⟨m4, 15, none⟩ (B y0)).setCell ⟨m4 + 1, 15, none⟩ (B y0)) (m4 + 1) = some (.cells (List.map B D1).toArray 23 (0, 0))) := Lib.hid (by
      rw [bk_setCell_same, bk_setCell_other _ _ _ _ _ (by omega), v5, ← HD.out.1, List.map_set]; simp [putObj])
    clear v4 l4 v5 l5 c4 c5 z4 z5 K4 K5 HX hbx hx15
    have HX := HX2; have K4 := K4'; have K5 := K5'
    clear HX2 K4' K5'
    generalize (w9.setCell ⟨m4, 15, none⟩ (B y0)).setCell ⟨m4 + 1, 15, none⟩ (B y0) = w10 at *
    obtain ⟨e1, he1⟩ : ∃ e, e = j / 8 := ⟨_, rfl⟩
    obtain ⟨r1, hr1⟩ : ∃ r, r = j % 8 := ⟨_, rfl⟩
    obtain ⟨s1, hs1⟩ : ∃ s, s = 7 - r1 := ⟨_, rfl⟩
    have he116 : e1 < 16 := by omega
    have he116' : (e1 : Int) < 16 := by omega
    have hs18 : s1 < 8 := by omega
    have f11 : (j : Int).tdiv 8 = (e1 : Int) := by rw [he1, Int.tdiv_eq_ediv_of_nonneg (by omega)]; simp
    have f12 : (j : Int) / 8 = (e1 : Int) := by rw [he1]; simp
    have f13 : (j : Int).tmod 8 = (r1 : Int) := by rw [hr1, Int.tmod_eq_emod_of_nonneg (by omega)]; simp
    have f14 : (j : Int) % 8 = (r1 : Int) := by rw [hr1]; simp
    have f15 : IntKind.i64.wrap (7 - (r1 : Int)) = (s1 : Int) := by rw [IntKind.wrap_i64]; omega
    have f16 : IntKind.u64.wrap (s1 : Int) = (s1 : Int) := by rw [IntKind.wrap_u64]; omega
    obtain ⟨x1, hx1⟩ : ∃ x, x = D1.getD e1 0 := ⟨_, rfl⟩
    have hxe1 : D1[e1]? = some x1 := by rw [hx1, List.getD_eq_getElem?_getD, List.getElem?_eq_getElem (by omega)]; rfl
    obtain ⟨z1, hz1⟩ : ∃ z, z = flipB x1 s1 := ⟨_, rfl⟩
    have hb1 : bits BinOp.xor IntKind.u8 (x1.toNat : Int) (2 ^ s1 % 256) = (z1.toNat : Int) := by rw [hz1]; exact bits_flip x1 s1 hs18
    have HF1 : Hid (D1.set e1 z1 = flipAt D1 j) := Lib.hid (by rw [hz1, hx1, hs1, hr1, he1]; rfl)
    clear he1 hr1 hs1 hx1 hz1
    obtain ⟨e2, he2⟩ : ∃ e, e = k / 8 := ⟨_, rfl⟩
    obtain ⟨r2, hr2⟩ : ∃ r, r = k % 8 := ⟨_, rfl⟩
    obtain ⟨s2, hs2⟩ : ∃ s, s = 7 - r2 := ⟨_, rfl⟩
    have he216 : e2 < 16 := by omega
    have he216' : (e2 : Int) < 16 := by omega
    have hs28 : s2 < 8 := by omega
    have f21 : (k : Int).tdiv 8 = (e2 : Int) := by rw [he2, Int.tdiv_eq_ediv_of_nonneg (by omega)]; simp
    have f22 : (k : Int) / 8 = (e2 : Int) := by rw [he2]; simp
    have f23 : (k : Int).tmod 8 = (r2 : Int) := by rw [hr2, Int.tmod_eq_emod_of_nonneg (by omega)]; simp
    have f24 : (k : Int) % 8 = (r2 : Int) := by rw [hr2]; simp
    have f25 : IntKind.i64.wrap (7 - (r2 : Int)) = (s2 : Int) := by rw [IntKind.wrap_i64]; omega
    have f26 : IntKind.u64.wrap (s2 : Int) = (s2 : Int) := by rw [IntKind.wrap_u64]; omega
    obtain ⟨x2, hx2⟩ : ∃ x, x = D1.getD e2 0 := ⟨_, rfl⟩
    have hxe2 : D1[e2]? = some x2 := by rw [hx2, List.getD_eq_getElem?_getD, List.getElem?_eq_getElem (by omega)]; rfl
    obtain ⟨z2, hz2⟩ : ∃ z, z = flipB x2 s2 := ⟨_, rfl⟩
    have hb2 : bits BinOp.xor IntKind.u8 (x2.toNat : Int) (2 ^ s2 % 256) = (z2.toNat : Int) := by rw [hz2]; exact bits_flip x2 s2 hs28
    have HF2 : Hid (D1.set e2 z2 = flipAt D1 k) := Lib.hid (by rw [hz2, hx2, hs2, hr2, he2]; rfl)
    clear he2 hr2 hs2 hx2 hz2
    have v0 := HX.out.k0; have v1 := HX.out.k1
    have l0 := bk_lt v0; have l1 := bk_lt v1
    have v4 := K4.out; have l4 := bk_lt v4; have v5 := K5.out; have l5 := bk_lt v5
    have c4 : w10.cell? ⟨m4, e1, none⟩ = some (B x1) := by rw [bk_cell v4]; simp [hxe1]
    have c5 : w10.cell? ⟨m4 + 1, e2, none⟩ = some (B x2) := by rw [bk_cell v5]; simp [hxe2]
    have z4 := bk_frozen v4 e1; have z5 := bk_frozen v5 e2
    go_upto_region 21 with fail
    have HX2 := Lib.hid ((HX.out.set m4 e1 (B z1) h4).set (m4 + 1) e2 (B z2) (by omega))
    obtain ⟨D2, hD2⟩ : ∃ D, D = flipAt D1 j := ⟨_, rfl⟩
    obtain ⟨D3, hD3⟩ : ∃ D, D = flipAt D1 k := ⟨_, rfl⟩
    have hD2l : D2.length = 16 := by rw [hD2, flipAt_length, hD1l]
    have hD3l : D3.length = 16 := by rw [hD3, flipAt_length, hD1l]
    have K4' : Hid (bk ((w10.setCell ⟨m4, e1, none⟩ (B z1)).setCell ⟨m4 + 1, e2, none⟩ (B z2)) m4 = some (.cells (List.map B D2).toArray 23 (0, 0))) := Lib.hid (by
      rw [bk_setCell_other _ _ _ _ _ (by omega), bk_setCell_same, v4, hD2, ← HF1.out, List.map_set]; simp [putObj])
    have K5' : Hid (bk ((w10.setCell ⟨m4, e1, none⟩ (B z1)).setCell ⟨m4 + 1, e2, none⟩ (B z2)) (m4 + 1) = some (.cells (List.map B D3).toArray 23 (0, 0))) := Lib.hid (by
      rw [bk_setCell_same, bk_setCell_other _ _ _ _ _ (by omega), v5, hD3, ← HF2.out, List.map_set]; simp [putObj])
    have HNF : Hid (label D2 = label D3 → scope D2 = scope D3 → better dst (bare D2 hD2l) (bare D3 hD3l) = true) := Lib.hid fun e1 e2 =>
      near_far dst hd k hk63 _ _ (by show D2 = _; rw [hD2, HD.out.2, HJK.out]) (by show D3 = _; rw [hD3, HD.out.2]) rfl rfl e1 e2
    clear v4 l4 v5 l5 c4 c5 z4 z5 K4 K5 HX hb1 hb2 hxe1 hxe2 hD2 hD3 HF1 HF2 f11 f12 f13 f14 f15 f16 f21 f22 f23 f24 f25 f26 he116' he216' b0 b1 b2 b3 k1
    clear v0 v1 l0 l1
    have HX := HX2; have K4 := K4'; have K5 := K5'
    clear HX2 K4' K5'
    generalize (w10.setCell ⟨m4, e1, none⟩ (B z1)).setCell ⟨m4 + 1, e2, none⟩ (B z2) = w11 at *
    have HY : Hid (∀ w', Below w11.heap.size w11 w' → GK w') := Lib.hid fun w' h => HX.out.g.up h
    have L1 : Hid (∀ w', Below w11.heap.size w11 w' → Calls Tryd.prog 10 #[av D2] w' fun e w2 => e = .returned (.int .i64 (label D2)) ∧ Below w'.heap.size w' w2) := Lib.hid fun w' h => slabel_any D2 hD2l w' (HY.out w' h)
    have L2 : Hid (∀ w', Below w11.heap.size w11 w' → Calls Tryd.prog 10 #[av D3] w' fun e w2 => e = .returned (.int .i64 (label D3)) ∧ Below w'.heap.size w' w2) := Lib.hid fun w' h => slabel_any D3 hD3l w' (HY.out w' h)
    have S1 : Hid (∀ w', Below w11.heap.size w11 w' → Calls Tryd.prog 14 #[av D2] w' fun e w2 => e = .returned (.int .i64 (scope D2)) ∧ Below w'.heap.size w' w2) := Lib.hid fun w' h => scope_any D2 hD2l w' (HY.out w' h)
    have S2 : Hid (∀ w', Below w11.heap.size w11 w' → Calls Tryd.prog 14 #[av D3] w' fun e w2 => e = .returned (.int .i64 (scope D3)) ∧ Below w'.heap.size w' w2) := Lib.hid fun w' h => scope_any D3 hD3l w' (HY.out w' h)
    have M1 := Lib.hid (sbetter_any dst hd (bare D2 hD2l) (bare D3 hD3l))
    have BN := builtCd_bare D2 hD2l; have BF := builtCd_bare D3 hD3l
    generalize bare D2 hD2l = nr at *; generalize bare D3 hD3l = fr at *
    generalize label D2 = a1 at *; generalize label D3 = a2 at *; generalize scope D2 = g1 at *; generalize scope D3 = g2 at *
    have v0 := HX.out.k0; have v1 := HX.out.k1
    have l0 := bk_lt v0; have l1 := bk_lt v1
    have v4 := K4.out; have l4 := bk_lt v4; have v5 := K5.out; have l5 := bk_lt v5
    by_cases ha : a1 = a2
    · by_cases hg : g1 = g2
      · subst ha hg
        have M := Lib.hid (HNF.out rfl rfl)
        rw [M.out] at M1
        refine wp_region_later (w11.heap.size) (by kernel_rfl) (by kernel_rfl) ?_
        repeat (go_big_quiet_step (((rename_i xq; first | with_reducible exact later_call xq (Nat.le_refl _) (L1.out xq.w xq.h) | with_reducible exact later_call xq (Nat.le_refl _) (L2.out xq.w xq.h) | with_reducible exact later_call xq (Nat.le_refl _) (S1.out xq.w xq.h) | with_reducible exact later_call xq (Nat.le_refl _) (S2.out xq.w xq.h)))))
        (first | refine wpQuiet_nil ?_ | (go_big_quiet_want; (try go_big_quiet_op); trace_state; fail))
        intro w12 hw'
        have q12 := later_elim hw'
        clear hw'
        clear v4 v5 l4 l5
        clear v0 v1 l0 l1
        replace HX := Lib.hid (HX.out.next q12)
        replace K4 := Lib.hid (bk_keep q12 (bk_lt K4.out) K4.out)
        replace K5 := Lib.hid (bk_keep q12 (bk_lt K5.out) K5.out)
        clear q12
        have v0 := HX.out.k0; have v1 := HX.out.k1
        have l0 := bk_lt v0; have l1 := bk_lt v1
        have v4 := K4.out; have l4 := bk_lt v4; have v5 := K5.out; have l5 := bk_lt v5
        go_wp2_with fail
        refine (M1.out _ HX.out.g).mono ?_
        rintro e w13 ⟨rfl, b13⟩
        replace HX := Lib.hid (HX.out.next b13)
        clear v0 v1 l0 l1
        clear b13 v4 v5 l4 l5 K4 K5
        go_wp2_with fail
        refine (lives23_any _ HX.out.g).mono ?_
        rintro e w14 ⟨rfl, b14⟩
        replace HX := Lib.hid (HX.out.next b14)
        clear b14
        go_wp2_with fail
        go_ret
        exact ⟨rfl, HX.out.f⟩
      · subst ha
        have d1 : ((g1 : Int) == (g2 : Int)) = false := by rw [beq_eq_false_iff_ne]; omega
        have d2 : (!((g1 : Int) == (g2 : Int))) = true := by rw [d1]; rfl
        refine wp_region_later (w11.heap.size) (by kernel_rfl) (by kernel_rfl) ?_
        repeat (go_big_quiet_step (((rename_i xq; first | with_reducible exact later_call xq (Nat.le_refl _) (L1.out xq.w xq.h) | with_reducible exact later_call xq (Nat.le_refl _) (L2.out xq.w xq.h) | with_reducible exact later_call xq (Nat.le_refl _) (S1.out xq.w xq.h) | with_reducible exact later_call xq (Nat.le_refl _) (S2.out xq.w xq.h)))))
        (first | refine wpQuiet_nil ?_ | (go_big_quiet_want; (try go_big_quiet_op); trace_state; fail))
        intro w12 hw'
        have q12 := later_elim hw'
        clear hw'
        clear v4 v5 l4 l5
        clear v0 v1 l0 l1
        replace HX := Lib.hid (HX.out.next q12)
        clear q12
        go_wp2_with fail
        refine (lives23_any _ HX.out.g).mono ?_
        rintro e w14 ⟨rfl, b14⟩
        replace HX := Lib.hid (HX.out.next b14)
        clear b14
        go_wp2_with fail
        go_ret
        exact ⟨rfl, HX.out.f⟩
    · have d1 : ((a1 : Int) == (a2 : Int)) = false := by rw [beq_eq_false_iff_ne]; omega
      have d2 : (!((a1 : Int) == (a2 : Int))) = true := by rw [d1]; rfl
      have d3 : (a1 == a2) = false := by rw [beq_eq_false_iff_ne]; exact ha
      have d4 : (!(a1 == a2)) = true := by rw [d3]; rfl
      have d5 : decide (a1 = a2) = false := by simp [ha]
      have d6 : (!decide (a1 = a2)) = true := by rw [d5]; rfl
      have d7 : ((a1 : Int) != (a2 : Int)) = true := d2
      have d8 : (a1 != a2) = true := d4
      refine wp_region_later (w11.heap.size) (by kernel_rfl) (by kernel_rfl) ?_
      repeat (go_big_quiet_step (((rename_i xq; first | with_reducible exact later_call xq (Nat.le_refl _) (L1.out xq.w xq.h) | with_reducible exact later_call xq (Nat.le_refl _) (L2.out xq.w xq.h)))))
      (first | refine wpQuiet_nil ?_ | (go_big_quiet_want; (try go_big_quiet_op); trace_state; fail))
      intro w12 hw'
      have q12 := later_elim hw'
      clear hw'
      clear v4 v5 l4 l5
      clear v0 v1 l0 l1
      replace HX := Lib.hid (HX.out.next q12)
      clear q12
      go_wp2_with fail
      refine (lives23_any _ HX.out.g).mono ?_
      rintro e w14 ⟨rfl, b14⟩
      replace HX := Lib.hid (HX.out.next b14)
      clear b14
      go_wp2_with fail
      go_ret
      exact ⟨rfl, HX.out.f⟩
  case true =>
    clear K2
    have v0 := HX.out.k0; have v1 := HX.out.k1
    have l0 := bk_lt v0; have l1 := bk_lt v1
    go_upto_region 5 with fail
    obtain ⟨m2, hm2⟩ : ∃ m, m = (w4).heap.size := ⟨_, rfl⟩
    rw [← hm2]
    have h2 : w.heap.size + 1 < m2 := by rw [hm2]; exact l1
    have a5 : Below (w4).heap.size (w4) ((w4).alloc (.cells c.row 33 (0, 0))) := (Below.refl _ _).alloc (Nat.le_refl _) _
    have K2 : Hid (bk ((w4).alloc (.cells c.row 33 (0, 0))) m2 = some (.cells c.row 33 (0, 0))) := Lib.hid (bk_alloc_at _ _ _ hm2)
    replace HX := Lib.hid (HX.out.next a5)
    clear v0 v1 l0 l1
    clear a5 hm2
    generalize (w4).alloc (.cells c.row 33 (0, 0)) = w5 at *
    have v0 := HX.out.k0; have v1 := HX.out.k1
    have l0 := bk_lt v0; have l1 := bk_lt v1
    have v2 := K2.out; have l2 := bk_lt v2
    have c1 := (bk_cell v1 16).trans c.row_d; have z1 := bk_frozen v1 16
    have c2 := (bk_cell v2 16).trans c.row_d; have z2 := bk_frozen v2 16
    go_upto_region 7 with fail
    have HX1 := HX.out.set m2 16 (.bool true) h2
    have HX2 := Lib.hid (HX1.put 16 (.bool false) (c.old false) (c.row_setd false))
    have K2' : Hid (bk ((w5.setCell ⟨m2, 16, none⟩ (.bool true)).setCell ⟨w.heap.size + 1, 16, none⟩ (.bool false)) m2 = some (.cells (c.old true).row 33 (0, 0))) := Lib.hid (by
      rw [bk_setCell_other _ _ _ _ _ (by omega), bk_setCell_same, v2, ← c.row_setd true]; rfl)
    clear v2 l2 c1 z1 c2 z2 K2 HX1 HX
    clear v0 v1 l0 l1
    have HX := HX2; have K2 := K2'
    clear HX2 K2'
    generalize (w5.setCell ⟨m2, 16, none⟩ (.bool true)).setCell ⟨w.heap.size + 1, 16, none⟩ (.bool false) = w6 at *
    have M1 := Lib.hid (sbetter_any dst hd (c.old false) (c.old true))
    rw [better_old dst (c.old false) (c.old true) rfl rfl rfl] at M1
    have M2 := Lib.hid (sbetter_any dst hd (c.old true) (c.old false))
    rw [better_asym dst _ _ (better_old dst (c.old false) (c.old true) rfl rfl rfl)] at M2
    have v0 := HX.out.k0; have v1 := HX.out.k1
    have l0 := bk_lt v0; have l1 := bk_lt v1
    have vk := K2.out; have lk := bk_lt vk
    go_wp2_with fail
    refine (M1.out _ HX.out.g).mono ?_
    rintro e w6 ⟨rfl, b6⟩
    replace HX := Lib.hid (HX.out.next b6)
    replace K2 := Lib.hid (bk_keep b6 (bk_lt K2.out) K2.out)
    clear b6 vk lk
    clear v0 v1 l0 l1
    have v0 := HX.out.k0; have v1 := HX.out.k1
    have l0 := bk_lt v0; have l1 := bk_lt v1
    have vk := K2.out; have lk := bk_lt vk
    go_wp2_with fail
    refine (M2.out _ HX.out.g).mono ?_
    rintro e w6 ⟨rfl, b6⟩
    replace HX := Lib.hid (HX.out.next b6)
    replace K2 := Lib.hid (bk_keep b6 (bk_lt K2.out) K2.out)
    clear b6 vk lk
    clear v0 v1 l0 l1
    clear M1 M2 K2 h2
    obtain ⟨e, he⟩ : ∃ e, e = c.old false := ⟨_, rfl⟩
    rw [← he] at HX
    clear he
    have v0 := HX.out.k0; have v1 := HX.out.k1
    have l0 := bk_lt v0; have l1 := bk_lt v1
    go_upto_region 10 with fail
    obtain ⟨m3, hm3⟩ : ∃ m, m = w6.heap.size := ⟨_, rfl⟩
    rw [← hm3]
    have h3 : w.heap.size + 1 < m3 := by rw [hm3]; exact l1
    have a5 : Below w6.heap.size w6 (w6.alloc (.cells e.row 33 (0, 0))) := (Below.refl _ _).alloc (Nat.le_refl _) _
    have K3 : Hid (bk (w6.alloc (.cells e.row 33 (0, 0))) m3 = some (.cells e.row 33 (0, 0))) := Lib.hid (bk_alloc_at _ _ _ hm3)
    replace HX := Lib.hid (HX.out.next a5)
    clear v0 v1 l0 l1
    clear a5 hm3
    generalize w6.alloc (.cells e.row 33 (0, 0)) = w7 at *
    have v0 := HX.out.k0; have v1 := HX.out.k1
    have l0 := bk_lt v0; have l1 := bk_lt v1
    have v3 := K3.out; have l3 := bk_lt v3
    have c1 := (bk_cell v1 17).trans e.row_t; have z1 := bk_frozen v1 17
    have c2 := (bk_cell v3 17).trans e.row_t; have z2 := bk_frozen v3 17
    go_upto_region 12 with fail
    have HX1 := HX.out.set m3 17 (.bool false) h3
    have HX2 := Lib.hid (HX1.put 17 (.bool true) (e.tmp true) (e.row_sett true))
    have K3' : Hid (bk ((w7.setCell ⟨m3, 17, none⟩ (.bool false)).setCell ⟨w.heap.size + 1, 17, none⟩ (.bool true)) m3 = some (.cells (e.tmp false).row 33 (0, 0))) := Lib.hid (by
      rw [bk_setCell_other _ _ _ _ _ (by omega), bk_setCell_same, v3, ← e.row_sett false]; rfl)
    clear v3 l3 c1 z1 c2 z2 K3 HX1 HX
    clear v0 v1 l0 l1
    have HX := HX2; have K3 := K3'
    clear HX2 K3'
    generalize (w7.setCell ⟨m3, 17, none⟩ (.bool false)).setCell ⟨w.heap.size + 1, 17, none⟩ (.bool true) = w8 at *
    have M1 := Lib.hid (sbetter_any dst hd (e.tmp true) (e.tmp false))
    rw [better_temp dst (e.tmp true) (e.tmp false) rfl rfl rfl rfl] at M1
    have v0 := HX.out.k0; have v1 := HX.out.k1
    have l0 := bk_lt v0; have l1 := bk_lt v1
    have vk := K3.out; have lk := bk_lt vk
    go_wp2_with fail
    refine (M1.out _ HX.out.g).mono ?_
    rintro e w6 ⟨rfl, b6⟩
    replace HX := Lib.hid (HX.out.next b6)
    replace K3 := Lib.hid (bk_keep b6 (bk_lt K3.out) K3.out)
    clear b6 vk lk
    clear v0 v1 l0 l1
    clear M1 K3 h3
    obtain ⟨f, hf⟩ : ∃ f, f = e.tmp true := ⟨_, rfl⟩
    rw [← hf] at HX
    clear hf
    have v0 := HX.out.k0; have v1 := HX.out.k1
    have l0 := bk_lt v0; have l1 := bk_lt v1
    go_upto_region 16 with fail
    obtain ⟨m4, hm4⟩ : ∃ m, m = w6.heap.size := ⟨_, rfl⟩
    rw [← hm4]
    have h4 : w.heap.size + 1 < m4 := by rw [hm4]; exact l1
    have a5 : Below w6.heap.size w6 ((w6.alloc (.cells (List.map B dst).toArray 23 (0, 0))).alloc (.cells (List.map B dst).toArray 23 (0, 0))) := by
      (repeat (first | exact Below.refl _ _ | assumption | refine Below.drew ?_ | refine bdrewN ?_ _ | refine Below.alloc ?_ (by first | omega | (simp <;> omega) | (simp only [World.size_alloc] <;> omega)) _ | refine below_setRow ?_ (by first | omega | (simp <;> omega)) _ | refine Below.setCell ?_ (by first | omega | (simp <;> omega)) _))
    have K4 : Hid (bk ((w6.alloc (.cells (List.map B dst).toArray 23 (0, 0))).alloc (.cells (List.map B dst).toArray 23 (0, 0))) m4 = some (.cells (List.map B dst).toArray 23 (0, 0))) := Lib.hid ((bk_alloc_past _ _ _ (by simp; omega)).trans (bk_alloc_at _ _ _ hm4))
    have K5 : Hid (bk ((w6.alloc (.cells (List.map B dst).toArray 23 (0, 0))).alloc (.cells (List.map B dst).toArray 23 (0, 0))) (m4 + 1) = some (.cells (List.map B dst).toArray 23 (0, 0))) := Lib.hid (bk_alloc_at _ _ _ (by simp; omega))
    replace HX := Lib.hid (HX.out.next a5)
    clear v0 v1 l0 l1
    clear a5 hm4
    generalize (w6.alloc (.cells (List.map B dst).toArray 23 (0, 0))).alloc (.cells (List.map B dst).toArray 23 (0, 0)) = w9 at *
    obtain ⟨k, hk⟩ : ∃ k, k = 16 + bit.toNat % 47 := ⟨_, rfl⟩
    obtain ⟨y, hy⟩ : ∃ y, y = bit.toNat % 47 := ⟨_, rfl⟩
    have hb8 := bit.toNat_lt
    have b0 : IntKind.i64.wrap (bit.toNat : Int) = (bit.toNat : Int) := by rw [IntKind.wrap_i64]; omega
    have b1 : (bit.toNat : Int).tmod 47 = (y : Int) := by rw [hy, Int.tmod_eq_emod_of_nonneg (by omega)]; simp
    have b2 : (bit.toNat : Int) % 47 = (y : Int) := by rw [hy]; simp
    have b3 : IntKind.i64.wrap (16 + (y : Int)) = (k : Int) := by rw [IntKind.wrap_i64]; omega
    have hk63 : k < 63 := by omega
    obtain ⟨j, hj⟩ : ∃ j, j = k + 1 := ⟨_, rfl⟩
    have k1 : IntKind.i64.wrap ((k : Int) + 1) = (j : Int) := by rw [IntKind.wrap_i64]; omega
    have hj64 : j < 64 := by omega
    have HJK := Lib.hid hj
    clear hk hy hj
    -- region 17, 18: the last bit
    obtain ⟨x, hx⟩ : ∃ x, x = dst.getD 15 0 := ⟨_, rfl⟩
    have hx15 : dst[15]? = some x := by rw [hx, List.getD_eq_getElem?_getD, List.getElem?_eq_getElem (by omega)]; rfl
    obtain ⟨D1, hD1⟩ : ∃ D, D = flipAt dst 127 := ⟨_, rfl⟩
    have hDs : dst.set 15 (flipB x 0) = D1 := by rw [hD1, hx]; rfl
    have hD1l : D1.length = 16 := by rw [hD1, flipAt_length, hd]
    obtain ⟨y0, hy0⟩ : ∃ y, y = flipB x 0 := ⟨_, rfl⟩
    have hbx : bits BinOp.xor IntKind.u8 (x.toNat : Int) 1 = (y0.toNat : Int) := by rw [hy0]; exact bits_one x
    rw [← hy0] at hDs
    have HD := Lib.hid (And.intro hDs hD1)
    clear hx hDs hD1 hy0
    have v4 := K4.out; have l4 := bk_lt v4; have v5 := K5.out; have l5 := bk_lt v5
    have c4 : w9.cell? ⟨m4, 15, none⟩ = some (B x) := by rw [bk_cell v4]; simp [hx15]
    have c5 : w9.cell? ⟨m4 + 1, 15, none⟩ = some (B x) := by rw [bk_cell v5]; simp [hx15]
    have z4 := bk_frozen v4 15; have z5 := bk_frozen v5 15
    go_upto_region 19 with fail
    have HX2 := Lib.hid ((HX.out.set m4 15 (B y0) h4).set (m4 + 1) 15 (B y0) (by omega))
    have K4' : Hid (bk ((w9.setCell ⟨m4, 15, none⟩ (B y0)).setCell ⟨m4 + 1, 15, none⟩ (B y0)) m4 = some (.cells (List.map B D1).toArray 23 (0, 0))) := Lib.hid (by
      rw [bk_setCell_other _ _ _ _ _ (by omega), bk_setCell_same, v4, ← HD.out.1, List.map_set]; simp [putObj])
    have K5' : Hid (bk ((w9.setCell ⟨m4, 15, none⟩ (B y0)).setCell ⟨m4 + 1, 15, none⟩ (B y0)) (m4 + 1) = some (.cells (List.map B D1).toArray 23 (0, 0))) := Lib.hid (by
      rw [bk_setCell_same, bk_setCell_other _ _ _ _ _ (by omega), v5, ← HD.out.1, List.map_set]; simp [putObj])
    clear v4 l4 v5 l5 c4 c5 z4 z5 K4 K5 HX hbx hx15
    have HX := HX2; have K4 := K4'; have K5 := K5'
    clear HX2 K4' K5'
    generalize (w9.setCell ⟨m4, 15, none⟩ (B y0)).setCell ⟨m4 + 1, 15, none⟩ (B y0) = w10 at *
    obtain ⟨e1, he1⟩ : ∃ e, e = j / 8 := ⟨_, rfl⟩
    obtain ⟨r1, hr1⟩ : ∃ r, r = j % 8 := ⟨_, rfl⟩
    obtain ⟨s1, hs1⟩ : ∃ s, s = 7 - r1 := ⟨_, rfl⟩
    have he116 : e1 < 16 := by omega
    have he116' : (e1 : Int) < 16 := by omega
    have hs18 : s1 < 8 := by omega
    have f11 : (j : Int).tdiv 8 = (e1 : Int) := by rw [he1, Int.tdiv_eq_ediv_of_nonneg (by omega)]; simp
    have f12 : (j : Int) / 8 = (e1 : Int) := by rw [he1]; simp
    have f13 : (j : Int).tmod 8 = (r1 : Int) := by rw [hr1, Int.tmod_eq_emod_of_nonneg (by omega)]; simp
    have f14 : (j : Int) % 8 = (r1 : Int) := by rw [hr1]; simp
    have f15 : IntKind.i64.wrap (7 - (r1 : Int)) = (s1 : Int) := by rw [IntKind.wrap_i64]; omega
    have f16 : IntKind.u64.wrap (s1 : Int) = (s1 : Int) := by rw [IntKind.wrap_u64]; omega
    obtain ⟨x1, hx1⟩ : ∃ x, x = D1.getD e1 0 := ⟨_, rfl⟩
    have hxe1 : D1[e1]? = some x1 := by rw [hx1, List.getD_eq_getElem?_getD, List.getElem?_eq_getElem (by omega)]; rfl
    obtain ⟨z1, hz1⟩ : ∃ z, z = flipB x1 s1 := ⟨_, rfl⟩
    have hb1 : bits BinOp.xor IntKind.u8 (x1.toNat : Int) (2 ^ s1 % 256) = (z1.toNat : Int) := by rw [hz1]; exact bits_flip x1 s1 hs18
    have HF1 : Hid (D1.set e1 z1 = flipAt D1 j) := Lib.hid (by rw [hz1, hx1, hs1, hr1, he1]; rfl)
    clear he1 hr1 hs1 hx1 hz1
    obtain ⟨e2, he2⟩ : ∃ e, e = k / 8 := ⟨_, rfl⟩
    obtain ⟨r2, hr2⟩ : ∃ r, r = k % 8 := ⟨_, rfl⟩
    obtain ⟨s2, hs2⟩ : ∃ s, s = 7 - r2 := ⟨_, rfl⟩
    have he216 : e2 < 16 := by omega
    have he216' : (e2 : Int) < 16 := by omega
    have hs28 : s2 < 8 := by omega
    have f21 : (k : Int).tdiv 8 = (e2 : Int) := by rw [he2, Int.tdiv_eq_ediv_of_nonneg (by omega)]; simp
    have f22 : (k : Int) / 8 = (e2 : Int) := by rw [he2]; simp
    have f23 : (k : Int).tmod 8 = (r2 : Int) := by rw [hr2, Int.tmod_eq_emod_of_nonneg (by omega)]; simp
    have f24 : (k : Int) % 8 = (r2 : Int) := by rw [hr2]; simp
    have f25 : IntKind.i64.wrap (7 - (r2 : Int)) = (s2 : Int) := by rw [IntKind.wrap_i64]; omega
    have f26 : IntKind.u64.wrap (s2 : Int) = (s2 : Int) := by rw [IntKind.wrap_u64]; omega
    obtain ⟨x2, hx2⟩ : ∃ x, x = D1.getD e2 0 := ⟨_, rfl⟩
    have hxe2 : D1[e2]? = some x2 := by rw [hx2, List.getD_eq_getElem?_getD, List.getElem?_eq_getElem (by omega)]; rfl
    obtain ⟨z2, hz2⟩ : ∃ z, z = flipB x2 s2 := ⟨_, rfl⟩
    have hb2 : bits BinOp.xor IntKind.u8 (x2.toNat : Int) (2 ^ s2 % 256) = (z2.toNat : Int) := by rw [hz2]; exact bits_flip x2 s2 hs28
    have HF2 : Hid (D1.set e2 z2 = flipAt D1 k) := Lib.hid (by rw [hz2, hx2, hs2, hr2, he2]; rfl)
    clear he2 hr2 hs2 hx2 hz2
    have v0 := HX.out.k0; have v1 := HX.out.k1
    have l0 := bk_lt v0; have l1 := bk_lt v1
    have v4 := K4.out; have l4 := bk_lt v4; have v5 := K5.out; have l5 := bk_lt v5
    have c4 : w10.cell? ⟨m4, e1, none⟩ = some (B x1) := by rw [bk_cell v4]; simp [hxe1]
    have c5 : w10.cell? ⟨m4 + 1, e2, none⟩ = some (B x2) := by rw [bk_cell v5]; simp [hxe2]
    have z4 := bk_frozen v4 e1; have z5 := bk_frozen v5 e2
    go_upto_region 21 with fail
    have HX2 := Lib.hid ((HX.out.set m4 e1 (B z1) h4).set (m4 + 1) e2 (B z2) (by omega))
    obtain ⟨D2, hD2⟩ : ∃ D, D = flipAt D1 j := ⟨_, rfl⟩
    obtain ⟨D3, hD3⟩ : ∃ D, D = flipAt D1 k := ⟨_, rfl⟩
    have hD2l : D2.length = 16 := by rw [hD2, flipAt_length, hD1l]
    have hD3l : D3.length = 16 := by rw [hD3, flipAt_length, hD1l]
    have K4' : Hid (bk ((w10.setCell ⟨m4, e1, none⟩ (B z1)).setCell ⟨m4 + 1, e2, none⟩ (B z2)) m4 = some (.cells (List.map B D2).toArray 23 (0, 0))) := Lib.hid (by
      rw [bk_setCell_other _ _ _ _ _ (by omega), bk_setCell_same, v4, hD2, ← HF1.out, List.map_set]; simp [putObj])
    have K5' : Hid (bk ((w10.setCell ⟨m4, e1, none⟩ (B z1)).setCell ⟨m4 + 1, e2, none⟩ (B z2)) (m4 + 1) = some (.cells (List.map B D3).toArray 23 (0, 0))) := Lib.hid (by
      rw [bk_setCell_same, bk_setCell_other _ _ _ _ _ (by omega), v5, hD3, ← HF2.out, List.map_set]; simp [putObj])
    have HNF : Hid (label D2 = label D3 → scope D2 = scope D3 → better dst (bare D2 hD2l) (bare D3 hD3l) = true) := Lib.hid fun e1 e2 =>
      near_far dst hd k hk63 _ _ (by show D2 = _; rw [hD2, HD.out.2, HJK.out]) (by show D3 = _; rw [hD3, HD.out.2]) rfl rfl e1 e2
    clear v4 l4 v5 l5 c4 c5 z4 z5 K4 K5 HX hb1 hb2 hxe1 hxe2 hD2 hD3 HF1 HF2 f11 f12 f13 f14 f15 f16 f21 f22 f23 f24 f25 f26 he116' he216' b0 b1 b2 b3 k1
    clear v0 v1 l0 l1
    have HX := HX2; have K4 := K4'; have K5 := K5'
    clear HX2 K4' K5'
    generalize (w10.setCell ⟨m4, e1, none⟩ (B z1)).setCell ⟨m4 + 1, e2, none⟩ (B z2) = w11 at *
    have HY : Hid (∀ w', Below w11.heap.size w11 w' → GK w') := Lib.hid fun w' h => HX.out.g.up h
    have L1 : Hid (∀ w', Below w11.heap.size w11 w' → Calls Tryd.prog 10 #[av D2] w' fun e w2 => e = .returned (.int .i64 (label D2)) ∧ Below w'.heap.size w' w2) := Lib.hid fun w' h => slabel_any D2 hD2l w' (HY.out w' h)
    have L2 : Hid (∀ w', Below w11.heap.size w11 w' → Calls Tryd.prog 10 #[av D3] w' fun e w2 => e = .returned (.int .i64 (label D3)) ∧ Below w'.heap.size w' w2) := Lib.hid fun w' h => slabel_any D3 hD3l w' (HY.out w' h)
    have S1 : Hid (∀ w', Below w11.heap.size w11 w' → Calls Tryd.prog 14 #[av D2] w' fun e w2 => e = .returned (.int .i64 (scope D2)) ∧ Below w'.heap.size w' w2) := Lib.hid fun w' h => scope_any D2 hD2l w' (HY.out w' h)
    have S2 : Hid (∀ w', Below w11.heap.size w11 w' → Calls Tryd.prog 14 #[av D3] w' fun e w2 => e = .returned (.int .i64 (scope D3)) ∧ Below w'.heap.size w' w2) := Lib.hid fun w' h => scope_any D3 hD3l w' (HY.out w' h)
    have M1 := Lib.hid (sbetter_any dst hd (bare D2 hD2l) (bare D3 hD3l))
    have BN := builtCd_bare D2 hD2l; have BF := builtCd_bare D3 hD3l
    generalize bare D2 hD2l = nr at *; generalize bare D3 hD3l = fr at *
    generalize label D2 = a1 at *; generalize label D3 = a2 at *; generalize scope D2 = g1 at *; generalize scope D3 = g2 at *
    have v0 := HX.out.k0; have v1 := HX.out.k1
    have l0 := bk_lt v0; have l1 := bk_lt v1
    have v4 := K4.out; have l4 := bk_lt v4; have v5 := K5.out; have l5 := bk_lt v5
    by_cases ha : a1 = a2
    · by_cases hg : g1 = g2
      · subst ha hg
        have M := Lib.hid (HNF.out rfl rfl)
        rw [M.out] at M1
        refine wp_region_later (w11.heap.size) (by kernel_rfl) (by kernel_rfl) ?_
        repeat (go_big_quiet_step (((rename_i xq; first | with_reducible exact later_call xq (Nat.le_refl _) (L1.out xq.w xq.h) | with_reducible exact later_call xq (Nat.le_refl _) (L2.out xq.w xq.h) | with_reducible exact later_call xq (Nat.le_refl _) (S1.out xq.w xq.h) | with_reducible exact later_call xq (Nat.le_refl _) (S2.out xq.w xq.h)))))
        (first | refine wpQuiet_nil ?_ | (go_big_quiet_want; (try go_big_quiet_op); trace_state; fail))
        intro w12 hw'
        have q12 := later_elim hw'
        clear hw'
        clear v4 v5 l4 l5
        clear v0 v1 l0 l1
        replace HX := Lib.hid (HX.out.next q12)
        replace K4 := Lib.hid (bk_keep q12 (bk_lt K4.out) K4.out)
        replace K5 := Lib.hid (bk_keep q12 (bk_lt K5.out) K5.out)
        clear q12
        have v0 := HX.out.k0; have v1 := HX.out.k1
        have l0 := bk_lt v0; have l1 := bk_lt v1
        have v4 := K4.out; have l4 := bk_lt v4; have v5 := K5.out; have l5 := bk_lt v5
        go_wp2_with fail
        refine (M1.out _ HX.out.g).mono ?_
        rintro e w13 ⟨rfl, b13⟩
        replace HX := Lib.hid (HX.out.next b13)
        clear v0 v1 l0 l1
        clear b13 v4 v5 l4 l5 K4 K5
        go_wp2_with fail
        refine (lives23_any _ HX.out.g).mono ?_
        rintro e w14 ⟨rfl, b14⟩
        replace HX := Lib.hid (HX.out.next b14)
        clear b14
        go_wp2_with fail
        go_ret
        exact ⟨rfl, HX.out.f⟩
      · subst ha
        have d1 : ((g1 : Int) == (g2 : Int)) = false := by rw [beq_eq_false_iff_ne]; omega
        have d2 : (!((g1 : Int) == (g2 : Int))) = true := by rw [d1]; rfl
        refine wp_region_later (w11.heap.size) (by kernel_rfl) (by kernel_rfl) ?_
        repeat (go_big_quiet_step (((rename_i xq; first | with_reducible exact later_call xq (Nat.le_refl _) (L1.out xq.w xq.h) | with_reducible exact later_call xq (Nat.le_refl _) (L2.out xq.w xq.h) | with_reducible exact later_call xq (Nat.le_refl _) (S1.out xq.w xq.h) | with_reducible exact later_call xq (Nat.le_refl _) (S2.out xq.w xq.h)))))
        (first | refine wpQuiet_nil ?_ | (go_big_quiet_want; (try go_big_quiet_op); trace_state; fail))
        intro w12 hw'
        have q12 := later_elim hw'
        clear hw'
        clear v4 v5 l4 l5
        clear v0 v1 l0 l1
        replace HX := Lib.hid (HX.out.next q12)
        clear q12
        go_wp2_with fail
        refine (lives23_any _ HX.out.g).mono ?_
        rintro e w14 ⟨rfl, b14⟩
        replace HX := Lib.hid (HX.out.next b14)
        clear b14
        go_wp2_with fail
        go_ret
        exact ⟨rfl, HX.out.f⟩
    · have d1 : ((a1 : Int) == (a2 : Int)) = false := by rw [beq_eq_false_iff_ne]; omega
      have d2 : (!((a1 : Int) == (a2 : Int))) = true := by rw [d1]; rfl
      have d3 : (a1 == a2) = false := by rw [beq_eq_false_iff_ne]; exact ha
      have d4 : (!(a1 == a2)) = true := by rw [d3]; rfl
      have d5 : decide (a1 = a2) = false := by simp [ha]
      have d6 : (!decide (a1 = a2)) = true := by rw [d5]; rfl
      have d7 : ((a1 : Int) != (a2 : Int)) = true := d2
      have d8 : (a1 != a2) = true := d4
      refine wp_region_later (w11.heap.size) (by kernel_rfl) (by kernel_rfl) ?_
      repeat (go_big_quiet_step (((rename_i xq; first | with_reducible exact later_call xq (Nat.le_refl _) (L1.out xq.w xq.h) | with_reducible exact later_call xq (Nat.le_refl _) (L2.out xq.w xq.h)))))
      (first | refine wpQuiet_nil ?_ | (go_big_quiet_want; (try go_big_quiet_op); trace_state; fail))
      intro w12 hw'
      have q12 := later_elim hw'
      clear hw'
      clear v4 v5 l4 l5
      clear v0 v1 l0 l1
      replace HX := Lib.hid (HX.out.next q12)
      clear q12
      go_wp2_with fail
      refine (lives23_any _ HX.out.g).mono ?_
      rintro e w14 ⟨rfl, b14⟩
      replace HX := Lib.hid (HX.out.next b14)
      clear b14
      go_wp2_with fail
      go_ret
      exact ⟨rfl, HX.out.f⟩
end Go.Proofs.YtcoonncedlbbkaaDoor
