/- Datagrams as values; the same, twins. -/
import Derived.Test.YteeiihfbnkgcaaaC0
import Derived.Test.YteeiihfbnkgcaaaS3
import Derived.Deep.RegionHeld3
namespace Go.Proofs.Yteeiihfbnkgcaaa
open Go.RowKit
set_option maxRecDepth 100000
@[go_sem ↓] theorem ldDatagram (dst : Option Tmp) (x : Operand) (t : TypeId) (pos : String) (af : Array Edge) (g : Option (Nat × Bool)) (a : Act) (w : World) (K : Act → World → Prop) (Q : Exit → Act → World → Prop) :
    Oper.wp Try.prog ⟨dst, .load 29 x, t, pos, af, g⟩ a w K Q = ldPtr (wpHid Try.prog ⟨dst, .load 29 x, t, pos, af, g⟩ a w K Q) 3 w (fun c => K (a.put dst (.agg c)) w) (a.eval x) :=
  wp_load_bk 29 3 _ Try.underlying29 rfl (by kernel_rfl) dst x t pos af g a w K Q
@[go_sem ↓] theorem stDatagram (dst : Option Tmp) (x y : Operand) (t : TypeId) (pos : String) (af : Array Edge) (g : Option (Nat × Bool)) (a : Act) (w : World) (K : Act → World → Prop) (Q : Exit → Act → World → Prop) :
    Oper.wp Try.prog ⟨dst, .store 29 x y, t, pos, af, g⟩ a w K Q = stPtr (wpHid Try.prog ⟨dst, .store 29 x y, t, pos, af, g⟩ a w K Q) 3 w (fun w' => K (a.put dst undef) w') (a.eval x) (a.eval y) :=
  wp_store_bk 29 3 (by kernel_rfl) dst x y t pos af g a w K Q
@[go_sem ↓] theorem qlDatagram (dst : Option Tmp) (x : Operand) (t : TypeId) (pos : String) (af : Array Edge) (g : Option (Nat × Bool)) (a : Act) (m : Nat) (W : World) (K : Act → Prop) :
    Oper.quiet Try.prog ⟨dst, .load 29 x, t, pos, af, g⟩ a (fun w' => ∃ x : Later m W, w' = x.w) K =
      ldLater (quietHid Try.prog ⟨dst, .load 29 x, t, pos, af, g⟩ a (fun w' => ∃ x : Later m W, w' = x.w) K) m 3 W (fun c => K (a.put dst (.agg c))) (a.eval x) :=
  quiet_load_bk 29 3 _ Try.underlying29 rfl (by kernel_rfl) dst x t pos af g a m W K
/-- A datagram's cells. -/
def dgc (f t : Nat) (A : Option Addr) (n c : Nat) : Array Value := #[.int .u16 (f : Int), .int .u16 (t : Int), .slice A n c]
section
variable {f t : Nat} {A : Option Addr} {n c : Nat}
@[go_sem] theorem dgc_size : (dgc f t A n c).size = 3 := by simp [dgc]
@[go_sem] theorem dgc_all : xt (dgc f t A n c) 0 3 = dgc f t A n c := xt_whole _ _ dgc_size
@[go_sem] theorem dgc_from : (dgc f t A n c)[0]? = some (.int .u16 f) := by simp [dgc]
@[go_sem] theorem dgc_to : (dgc f t A n c)[1]? = some (.int .u16 t) := by simp [dgc]
@[go_sem] theorem dgc_data : (dgc f t A n c)[2]? = some (.slice A n c) := by simp [dgc]
@[go_sem] theorem dgc_from' (h : 0 < (dgc f t A n c).size) : (dgc f t A n c)[0] = .int .u16 f := by simp [dgc]
@[go_sem] theorem dgc_to' (h : 1 < (dgc f t A n c).size) : (dgc f t A n c)[1] = .int .u16 t := by simp [dgc]
@[go_sem] theorem dgc_data' (h : 2 < (dgc f t A n c).size) : (dgc f t A n c)[2] = .slice A n c := by simp [dgc]
@[go_sem] theorem dgc_set (A' : Option Addr) (n' c' : Nat) : (dgc f t A n c).setIfInBounds 2 (.slice A' n' c') = dgc f t A' n' c' := by simp [dgc]
@[go_sem] theorem dgc_ones : ones (dgc f t A n c).toList = true := by simp only [dgc]; rfl
end
theorem builtDatagram (parts : List (Nat × Value)) : Try.prog.built 29 parts = Instr.fill (#[(0, 1), (1, 1), (2, 1)][·]?) (dgc 0 0 none 0 0) parts := by kernel_rfl
@[go_sem] theorem builtDatagram_none : Try.prog.built 29 [] = some (dgc 0 0 none 0 0) := by rw [builtDatagram]; rfl
@[go_sem ↓] theorem bwDatagram (dst : Option Tmp) (ps : Array (Nat × Operand)) (t : TypeId) (pos : String) (af : Array Edge) (g : Option (Nat × Bool)) (a : Act) (w : World) (K : Act → World → Prop) (Q : Exit → Act → World → Prop) :
    Oper.wp Try.prog ⟨dst, .build 29 ps, t, pos, af, g⟩ a w K Q = bldTo (wpHid Try.prog ⟨dst, .build 29 ps, t, pos, af, g⟩ a w K Q) (fun c => K (a.put dst (.agg c)) w) (Try.prog.built 29 (ps.toList.map fun x => (x.1, a.eval x.2))) :=
  wp_build_bk 29 dst ps t pos af g a w K Q
@[go_sem ↓] theorem bqDatagram (dst : Option Tmp) (ps : Array (Nat × Operand)) (t : TypeId) (pos : String) (af : Array Edge) (g : Option (Nat × Bool)) (a : Act) (m : Nat) (W : World) (K : Act → Prop) :
    Oper.quiet Try.prog ⟨dst, .build 29 ps, t, pos, af, g⟩ a (fun w' => ∃ x : Later m W, w' = x.w) K = bldTo (quietHid0 Try.prog ⟨dst, .build 29 ps, t, pos, af, g⟩ a (fun w' => ∃ x : Later m W, w' = x.w) K) (fun c => K (a.put dst (.agg c))) (Try.prog.built 29 (ps.toList.map fun x => (x.1, a.eval x.2))) :=
  quiet_build_bk 29 dst ps t pos af g a _ ⟨W, ⟨W, Below.refl _ _⟩, rfl⟩ K
/-- Are two datagrams the same. -/
theorem sameDatagram_any (f t f' t' : Nat) (A A' : Option Addr) (l l' : List UInt8) (c c' : Nat) (w : World)
    (h1 : Rd w w.heap.size A l) (h2 : Rd w w.heap.size A' l') (hl : l.length < 2 ^ 60) (hl' : l'.length < 2 ^ 60) :
    Calls Try.prog 18 #[.agg (dgc f t A l.length c), .agg (dgc f' t' A' l'.length c')] w fun e w' => e = .returned (.bool (decide (f = f') && decide (t = t') && l == l')) ∧ Below w.heap.size w w' := by
  have q1 : ((f : Int) == (f' : Int)) = decide (f = f') := by rw [Bool.eq_iff_iff]; simp; omega
  have q2 : ((t : Int) == (t' : Int)) = decide (t = t') := by rw [Bool.eq_iff_iff]; simp; omega
  have R1 := Lib.hid h1; have R2 := Lib.hid h2
  have C : ∀ w', Below w.heap.size w w' → Calls Try.prog 24 #[.slice A l.length c, .slice A' l'.length c'] w' fun e w'' => e = .returned (.bool (l == l')) ∧ Below w'.heap.size w' w'' := fun w' hb =>
    same_any A A' l l' c c' w' ((R1.out.below hb (Nat.le_refl _)).mono hb.size) ((R2.out.below hb (Nat.le_refl _)).mono hb.size) hl hl'
  have HC := Lib.hid C
  clear h1 h2 C
  generalize decide (f = f') = b1 at *
  generalize decide (t = t') = b2 at *
  generalize (l == l') = b3 at *
  obtain ⟨N, hN⟩ : ∃ N, N = l.length := ⟨_, rfl⟩
  obtain ⟨N', hN'⟩ : ∃ N', N' = l'.length := ⟨_, rfl⟩
  rw [← hN, ← hN'] at HC
  rw [← hN, ← hN']
  clear hN hN' hl hl' R1 R2
  go_enter Try.func18, Try.ntmps18
  cases b1
  case false =>
    go_wp2_with fail
    go_ret
    exact ⟨rfl, ((Below.refl _ _).alloc (Nat.le_refl _) _).alloc (by simp) _⟩
  cases b2
  case false =>
    go_wp2_with fail
    go_ret
    exact ⟨rfl, ((Below.refl _ _).alloc (Nat.le_refl _) _).alloc (by simp) _⟩
  go_wp2_with fail
  refine (HC.out _ (((Below.refl _ _).alloc (Nat.le_refl _) _).alloc (by simp) _)).mono ?_
  rintro e w1 ⟨rfl, b⟩
  go_wp2_with fail
  go_ret
  exact ⟨rfl, (((Below.refl w.heap.size w).alloc (Nat.le_refl _) _).alloc (by simp) _).trans (b.mono (by simp; omega))⟩
theorem twinDatagram_any (f t : Nat) (A : Option Addr) (l : List UInt8) (c : Nat) (w : World) (h : Rd w w.heap.size A l) (hl : l.length < 2 ^ 46) :
    Calls Try.prog 8 #[.agg (dgc f t A l.length c)] w fun e w' => ∃ g, e = .returned (.agg (dgc f t (some ⟨g, 0, none⟩) l.length (l.length + 4))) ∧ w.heap.size ≤ g ∧ bk w' g = some (.cells (List.map B (tw l 199)).toArray 5 (0, 0)) ∧ Below w.heap.size w w' := by
  have H := Lib.hid h
  clear h
  go_enter Try.func8, Try.ntmps8
  go_wp2_with fail
  generalize hz : (Obj.cells #[Value.int IntKind.u16 0, Value.int IntKind.u16 0, Value.slice none 0 0] 29) = zo
  have a0 : Below w.heap.size w ((w.alloc (.cells (dgc f t A l.length c) 29)).alloc zo) := ((Below.refl _ _).alloc (Nat.le_refl _) _).alloc (by simp) _
  have k0 : bk ((w.alloc (.cells (dgc f t A l.length c) 29)).alloc zo) w.heap.size = some (.cells (dgc f t A l.length c) 29 (0, 0)) := by
    rw [bk_alloc_past _ _ _ (by simp)]; exact bk_alloc_at _ _ _ rfl
  have k1 : bk ((w.alloc (.cells (dgc f t A l.length c) 29)).alloc zo) (w.heap.size + 1) = some zo := bk_alloc_at _ _ _ (by simp)
  refine (twinBytes_any A l c _ ((H.out.below a0 (Nat.le_refl _)).mono a0.size) hl).mono ?_
  rintro e w1 ⟨rfl, hT, b1⟩
  have f1 := a0.trans (b1.mono a0.size)
  have h0 := bk_keep b1 (by simp; omega) k0
  have h1 := bk_keep b1 (by simp) k1
  subst hz
  have s1 := b1.size
  simp only [World.size_alloc] at s1 hT
  have c2 : w1.cell? ⟨w.heap.size, 2, none⟩ = some (.slice A l.length c) := by rw [bk_cell h0, dgc_data]
  have hf := bk_frozen h0 2
  clear a0 k0 k1 b1
  go_wp2_with fail
  refine ret_cell (cs := dgc f t (some ⟨w.heap.size + 1 + 1, 0, none⟩) l.length (l.length + 4)) rfl rfl rfl ?_ Try.underlying29 rfl (by rw [dgc_size]; kernel_rfl) ?_
  rotate_left
  · refine ⟨w.heap.size + 1 + 1, rfl, by omega, ?_, ?_⟩
    · rw [bk_setRow_other _ _ _ _ (by omega), bk_setCell_other _ _ _ _ _ (by omega)]; exact hT
    · exact below_setRow (f1.setCell (by simp) _) (by omega) _
  · rw [bk_setRow_same, bk_setCell_other _ _ _ _ _ (by omega), h1]; rfl
theorem leftDatagram_any (f t : Nat) (A : Option Addr) (l : List UInt8) (c g : Nat) (w : World) (h : Rd w w.heap.size A l) (hl : l.length < 2 ^ 46) (hg : bk w g = some (.cells (List.map B (tw l 199)).toArray 5 (0, 0))) :
    Calls Try.prog 12 #[.agg (dgc f t (some ⟨g, 0, none⟩) l.length (l.length + 4)), .agg (dgc f t A l.length c)] w fun e w' => e = .returned (.bool true) ∧ Below w.heap.size w w' := by
  have hgl := bk_lt hg
  have H := Lib.hid h; have HG := Lib.hid hg
  have CS : ∀ w', Below w.heap.size w w' → Calls Try.prog 18 #[.agg (dgc f t (some ⟨g, 0, none⟩) l.length (l.length + 4)), .agg (dgc f t A l.length c)] w' fun e w'' => e = .returned (.bool true) ∧ Below w'.heap.size w' w'' := fun w' hb => by
    have := sameDatagram_any f t f t (some ⟨g, 0, none⟩) A l l (l.length + 4) c w' (Rd.of_bk (bk_keep hb hgl HG.out) (Nat.lt_of_lt_of_le hgl hb.size) (tw_head l 199)) ((H.out.below hb (Nat.le_refl _)).mono hb.size) (by omega) (by omega)
    simpa using this
  have CL : ∀ w', Below w.heap.size w w' → Calls Try.prog 19 #[.slice (some ⟨g, 0, none⟩) l.length (l.length + 4), .slice A l.length c] w' fun e w'' => e = .returned (.bool true) ∧ Below w'.heap.size w' w'' := fun w' hb =>
    leftBytes_any A l c g w' ((H.out.below hb (Nat.le_refl _)).mono hb.size) hl (bk_keep hb hgl HG.out)
  have HCS := Lib.hid CS; have HCL := Lib.hid CL
  clear h hg CS CL H HG
  go_enter Try.func12, Try.ntmps12
  go_wp2_with fail
  have a0 : Below w.heap.size w ((w.alloc (.cells (dgc f t (some ⟨g, 0, none⟩) l.length (l.length + 4)) 29)).alloc (.cells (dgc f t A l.length c) 29)) := ((Below.refl _ _).alloc (Nat.le_refl _) _).alloc (by simp) _
  refine (HCS.out _ a0).mono ?_
  rintro e w1 ⟨rfl, b1⟩
  have f1 := a0.trans (b1.mono a0.size)
  have h0 : bk w1 w.heap.size = some (.cells (dgc f t (some ⟨g, 0, none⟩) l.length (l.length + 4)) 29 (0, 0)) := bk_keep b1 (by simp; omega) (by rw [bk_alloc_past _ _ _ (by simp)]; exact bk_alloc_at _ _ _ rfl)
  have h1 : bk w1 (w.heap.size + 1) = some (.cells (dgc f t A l.length c) 29 (0, 0)) := bk_keep b1 (by simp) (bk_alloc_at _ _ _ (by simp))
  have c0 : w1.cell? ⟨w.heap.size, 2, none⟩ = some (.slice (some ⟨g, 0, none⟩) l.length (l.length + 4)) := by rw [bk_cell h0, dgc_data]
  have c1 : w1.cell? ⟨w.heap.size + 1, 2, none⟩ = some (.slice A l.length c) := by rw [bk_cell h1, dgc_data]
  clear h0 h1 b1 a0
  go_wp2_with fail
  refine (HCL.out _ f1).mono ?_
  rintro e w2 ⟨rfl, b2⟩
  have f2 := f1.trans (b2.mono f1.size)
  clear b2
  go_wp2_with fail
  go_ret
  exact ⟨rfl, f2⟩
end Go.Proofs.Yteeiihfbnkgcaaa
