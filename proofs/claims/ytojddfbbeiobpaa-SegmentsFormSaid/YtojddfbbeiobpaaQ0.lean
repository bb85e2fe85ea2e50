/- Segments as values; the same, twins. -/
import Derived.Test.YtojddfbbeiobpaaC0
import Derived.Test.YtojddfbbeiobpaaS3
import Derived.Test.YtojddfbbeiobpaaL7
namespace Go.Proofs.Ytojddfbbeiobpaa
open Go.RowKit
set_option maxRecDepth 100000
@[go_sem ↓] theorem ldSegment (dst : Option Tmp) (x : Operand) (t : TypeId) (pos : String) (af : Array Edge) (g : Option (Nat × Bool)) (a : Act) (w : World) (K : Act → World → Prop) (Q : Exit → Act → World → Prop) :
    Oper.wp Try.prog ⟨dst, .load 30 x, t, pos, af, g⟩ a w K Q = ldPtr (wpHid Try.prog ⟨dst, .load 30 x, t, pos, af, g⟩ a w K Q) 8 w (fun c => K (a.put dst (.agg c)) w) (a.eval x) :=
  wp_load_bk 30 8 _ Try.underlying30 rfl (by kernel_rfl) dst x t pos af g a w K Q
@[go_sem ↓] theorem stSegment (dst : Option Tmp) (x y : Operand) (t : TypeId) (pos : String) (af : Array Edge) (g : Option (Nat × Bool)) (a : Act) (w : World) (K : Act → World → Prop) (Q : Exit → Act → World → Prop) :
    Oper.wp Try.prog ⟨dst, .store 30 x y, t, pos, af, g⟩ a w K Q = stPtr (wpHid Try.prog ⟨dst, .store 30 x y, t, pos, af, g⟩ a w K Q) 8 w (fun w' => K (a.put dst undef) w') (a.eval x) (a.eval y) :=
  wp_store_bk 30 8 (by kernel_rfl) dst x y t pos af g a w K Q
@[go_sem ↓] theorem qlSegment (dst : Option Tmp) (x : Operand) (t : TypeId) (pos : String) (af : Array Edge) (g : Option (Nat × Bool)) (a : Act) (m : Nat) (W : World) (K : Act → Prop) :
    Oper.quiet Try.prog ⟨dst, .load 30 x, t, pos, af, g⟩ a (fun w' => ∃ x : Later m W, w' = x.w) K =
      ldLater (quietHid Try.prog ⟨dst, .load 30 x, t, pos, af, g⟩ a (fun w' => ∃ x : Later m W, w' = x.w) K) m 8 W (fun c => K (a.put dst (.agg c))) (a.eval x) :=
  quiet_load_bk 30 8 _ Try.underlying30 rfl (by kernel_rfl) dst x t pos af g a m W K
/-- A segment's fields but its Data. -/
structure Sg where
  f : Nat
  t : Nat
  sq : Nat
  ak : Nat
  fl : UInt8
  wi : Nat
  ms : Nat
structure Sg.Ok (s : Sg) : Prop where
  f : s.f < 65536
  t : s.t < 65536
  sq : s.sq < 4294967296
  ak : s.ak < 4294967296
  wi : s.wi < 65536
  ms : s.ms < 65536
def Sg.zero : Sg := ⟨0, 0, 0, 0, 0, 0, 0⟩
/-- A segment's cells. -/
def sgc (s : Sg) (A : Option Addr) (n c : Nat) : Array Value := #[.int .u16 (s.f : Int), .int .u16 (s.t : Int), .int .u32 (s.sq : Int), .int .u32 (s.ak : Int), B s.fl, .int .u16 (s.wi : Int), .int .u16 (s.ms : Int), .slice A n c]
section
variable {s : Sg} {A : Option Addr} {n c : Nat}
@[go_sem] theorem sgc_size : (sgc s A n c).size = 8 := by simp [sgc]
@[go_sem] theorem sgc_all : xt (sgc s A n c) 0 8 = sgc s A n c := xt_whole _ _ sgc_size
@[go_sem] theorem sgc_0 : (sgc s A n c)[0]? = some (.int .u16 s.f) := by simp [sgc]
@[go_sem] theorem sgc_1 : (sgc s A n c)[1]? = some (.int .u16 s.t) := by simp [sgc]
@[go_sem] theorem sgc_2 : (sgc s A n c)[2]? = some (.int .u32 s.sq) := by simp [sgc]
@[go_sem] theorem sgc_3 : (sgc s A n c)[3]? = some (.int .u32 s.ak) := by simp [sgc]
@[go_sem] theorem sgc_4 : (sgc s A n c)[4]? = some (B s.fl) := by simp [sgc]
@[go_sem] theorem sgc_5 : (sgc s A n c)[5]? = some (.int .u16 s.wi) := by simp [sgc]
@[go_sem] theorem sgc_6 : (sgc s A n c)[6]? = some (.int .u16 s.ms) := by simp [sgc]
@[go_sem] theorem sgc_7 : (sgc s A n c)[7]? = some (.slice A n c) := by simp [sgc]
@[go_sem] theorem sgc_0' (h : 0 < (sgc s A n c).size) : (sgc s A n c)[0] = .int .u16 s.f := by simp [sgc]
@[go_sem] theorem sgc_1' (h : 1 < (sgc s A n c).size) : (sgc s A n c)[1] = .int .u16 s.t := by simp [sgc]
@[go_sem] theorem sgc_2' (h : 2 < (sgc s A n c).size) : (sgc s A n c)[2] = .int .u32 s.sq := by simp [sgc]
@[go_sem] theorem sgc_3' (h : 3 < (sgc s A n c).size) : (sgc s A n c)[3] = .int .u32 s.ak := by simp [sgc]
@[go_sem] theorem sgc_4' (h : 4 < (sgc s A n c).size) : (sgc s A n c)[4] = B s.fl := by simp [sgc]
@[go_sem] theorem sgc_5' (h : 5 < (sgc s A n c).size) : (sgc s A n c)[5] = .int .u16 s.wi := by simp [sgc]
@[go_sem] theorem sgc_6' (h : 6 < (sgc s A n c).size) : (sgc s A n c)[6] = .int .u16 s.ms := by simp [sgc]
@[go_sem] theorem sgc_7' (h : 7 < (sgc s A n c).size) : (sgc s A n c)[7] = .slice A n c := by simp [sgc]
@[go_sem] theorem sgc_set (A' : Option Addr) (n' c' : Nat) : (sgc s A n c).setIfInBounds 7 (.slice A' n' c') = sgc s A' n' c' := by simp [sgc]
@[go_sem] theorem sgc_ones : ones (sgc s A n c).toList = true := by simp only [sgc]; rfl
end
theorem builtSegment (parts : List (Nat × Value)) : Try.prog.built 30 parts = Instr.fill (#[(0, 1), (1, 1), (2, 1), (3, 1), (4, 1), (5, 1), (6, 1), (7, 1)][·]?) (sgc Sg.zero none 0 0) parts := by kernel_rfl
@[go_sem] theorem builtSegment_none : Try.prog.built 30 [] = some (sgc Sg.zero none 0 0) := by rw [builtSegment]; rfl
@[go_sem ↓] theorem bwSegment (dst : Option Tmp) (ps : Array (Nat × Operand)) (t : TypeId) (pos : String) (af : Array Edge) (g : Option (Nat × Bool)) (a : Act) (w : World) (K : Act → World → Prop) (Q : Exit → Act → World → Prop) :
    Oper.wp Try.prog ⟨dst, .build 30 ps, t, pos, af, g⟩ a w K Q = bldTo (wpHid Try.prog ⟨dst, .build 30 ps, t, pos, af, g⟩ a w K Q) (fun c => K (a.put dst (.agg c)) w) (Try.prog.built 30 (ps.toList.map fun x => (x.1, a.eval x.2))) :=
  wp_build_bk 30 dst ps t pos af g a w K Q
@[go_sem ↓] theorem bqSegment (dst : Option Tmp) (ps : Array (Nat × Operand)) (t : TypeId) (pos : String) (af : Array Edge) (g : Option (Nat × Bool)) (a : Act) (m : Nat) (W : World) (K : Act → Prop) :
    Oper.quiet Try.prog ⟨dst, .build 30 ps, t, pos, af, g⟩ a (fun w' => ∃ x : Later m W, w' = x.w) K = bldTo (quietHid0 Try.prog ⟨dst, .build 30 ps, t, pos, af, g⟩ a (fun w' => ∃ x : Later m W, w' = x.w) K) (fun c => K (a.put dst (.agg c))) (Try.prog.built 30 (ps.toList.map fun x => (x.1, a.eval x.2))) :=
  quiet_build_bk 30 dst ps t pos af g a _ ⟨W, ⟨W, Below.refl _ _⟩, rfl⟩ K
/-- Two segments that are the same. -/
theorem sameSegment_any (s : Sg) (A A' : Option Addr) (l : List UInt8) (c c' : Nat) (w : World) (h1 : Rd w w.heap.size A l) (h2 : Rd w w.heap.size A' l) (hl : l.length < 2 ^ 60) :
    Calls Try.prog 19 #[.agg (sgc s A l.length c), .agg (sgc s A' l.length c')] w fun e w' => e = .returned (.bool true) ∧ Below w.heap.size w w' := by
  have R1 := Lib.hid h1; have R2 := Lib.hid h2
  have C : ∀ w', Below w.heap.size w w' → Calls Try.prog 28 #[.slice A l.length c, .slice A' l.length c'] w' fun e w'' => e = .returned (.bool true) ∧ Below w'.heap.size w' w'' := fun w' hb => by
    have := same_any A A' l l c c' w' ((R1.out.below hb (Nat.le_refl _)).mono hb.size) ((R2.out.below hb (Nat.le_refl _)).mono hb.size) hl hl
    rwa [beq_self_eq_true] at this
  have HC := Lib.hid C
  clear h1 h2 C
  obtain ⟨N, hN⟩ : ∃ N, N = l.length := ⟨_, rfl⟩
  rw [← hN] at HC ⊢
  clear hN hl R1 R2
  go_enter Try.func19, Try.ntmps19
  go_wp2_with fail
  refine (HC.out _ (((Below.refl _ _).alloc (Nat.le_refl _) _).alloc (by simp) _)).mono ?_
  rintro e w1 ⟨rfl, b⟩
  go_wp2_with fail
  go_ret
  exact ⟨rfl, (((Below.refl w.heap.size w).alloc (Nat.le_refl _) _).alloc (by simp) _).trans (b.mono (by simp; omega))⟩
theorem twinSegment_any (s : Sg) (A : Option Addr) (l : List UInt8) (c : Nat) (w : World) (h : Rd w w.heap.size A l) (hl : l.length < 2 ^ 46) :
    Calls Try.prog 9 #[.agg (sgc s A l.length c)] w fun e w' => ∃ g, e = .returned (.agg (sgc s (some ⟨g, 0, none⟩) l.length (l.length + 4))) ∧ w.heap.size ≤ g ∧ bk w' g = some (.cells (List.map B (tw l 199)).toArray 5 (0, 0)) ∧ Below w.heap.size w w' := by
  have H := Lib.hid h
  clear h
  go_enter Try.func9, Try.ntmps9
  go_wp2_with fail
  generalize hz : (Obj.cells #[Value.int IntKind.u16 0, Value.int IntKind.u16 0, Value.int IntKind.u32 0, Value.int IntKind.u32 0, Value.int IntKind.u8 0, Value.int IntKind.u16 0, Value.int IntKind.u16 0, Value.slice none 0 0] 30) = zo
  have a0 : Below w.heap.size w ((w.alloc (.cells (sgc s A l.length c) 30)).alloc zo) := ((Below.refl _ _).alloc (Nat.le_refl _) _).alloc (by simp) _
  have k0 : bk ((w.alloc (.cells (sgc s A l.length c) 30)).alloc zo) w.heap.size = some (.cells (sgc s A l.length c) 30 (0, 0)) := by
    rw [bk_alloc_past _ _ _ (by simp)]; exact bk_alloc_at _ _ _ rfl
  have k1 : bk ((w.alloc (.cells (sgc s A l.length c) 30)).alloc zo) (w.heap.size + 1) = some zo := bk_alloc_at _ _ _ (by simp)
  refine (twinBytes_any A l c _ ((H.out.below a0 (Nat.le_refl _)).mono a0.size) hl).mono ?_
  rintro e w1 ⟨rfl, hT, b1⟩
  have f1 := a0.trans (b1.mono a0.size)
  have h0 := bk_keep b1 (by simp; omega) k0
  have h1 := bk_keep b1 (by simp) k1
  subst hz
  have s1 := b1.size
  simp only [World.size_alloc] at s1 hT
  have c2 : w1.cell? ⟨w.heap.size, 7, none⟩ = some (.slice A l.length c) := by rw [bk_cell h0, sgc_7]
  have hf := bk_frozen h0 7
  clear a0 k0 k1 b1
  go_wp2_with fail
  refine ret_cell (cs := sgc s (some ⟨w.heap.size + 1 + 1, 0, none⟩) l.length (l.length + 4)) rfl rfl rfl ?_ Try.underlying30 rfl (by rw [sgc_size]; kernel_rfl) ?_
  rotate_left
  · refine ⟨w.heap.size + 1 + 1, rfl, by omega, ?_, ?_⟩
    · rw [bk_setRow_other _ _ _ _ (by omega), bk_setCell_other _ _ _ _ _ (by omega)]; exact hT
    · exact below_setRow (f1.setCell (by simp) _) (by omega) _
  · rw [bk_setRow_same, bk_setCell_other _ _ _ _ _ (by omega), h1]; rfl
theorem leftSegment_any (s : Sg) (A : Option Addr) (l : List UInt8) (c g : Nat) (w : World) (h : Rd w w.heap.size A l) (hl : l.length < 2 ^ 46) (hg : bk w g = some (.cells (List.map B (tw l 199)).toArray 5 (0, 0))) :
    Calls Try.prog 13 #[.agg (sgc s (some ⟨g, 0, none⟩) l.length (l.length + 4)), .agg (sgc s A l.length c)] w fun e w' => e = .returned (.bool true) ∧ Below w.heap.size w w' := by
  have hgl := bk_lt hg
  have H := Lib.hid h; have HG := Lib.hid hg
  have CS : ∀ w', Below w.heap.size w w' → Calls Try.prog 19 #[.agg (sgc s (some ⟨g, 0, none⟩) l.length (l.length + 4)), .agg (sgc s A l.length c)] w' fun e w'' => e = .returned (.bool true) ∧ Below w'.heap.size w' w'' := fun w' hb => by
    have := sameSegment_any s (some ⟨g, 0, none⟩) A l (l.length + 4) c w' (Rd.of_bk (bk_keep hb hgl HG.out) (Nat.lt_of_lt_of_le hgl hb.size) (tw_head l 199)) ((H.out.below hb (Nat.le_refl _)).mono hb.size) (by omega)
    exact this
  have CL : ∀ w', Below w.heap.size w w' → Calls Try.prog 20 #[.slice (some ⟨g, 0, none⟩) l.length (l.length + 4), .slice A l.length c] w' fun e w'' => e = .returned (.bool true) ∧ Below w'.heap.size w' w'' := fun w' hb =>
    leftBytes_any A l c g w' ((H.out.below hb (Nat.le_refl _)).mono hb.size) hl (bk_keep hb hgl HG.out)
  have HCS := Lib.hid CS; have HCL := Lib.hid CL
  clear h hg CS CL H HG
  go_enter Try.func13, Try.ntmps13
  go_wp2_with fail
  have a0 : Below w.heap.size w ((w.alloc (.cells (sgc s (some ⟨g, 0, none⟩) l.length (l.length + 4)) 30)).alloc (.cells (sgc s A l.length c) 30)) := ((Below.refl _ _).alloc (Nat.le_refl _) _).alloc (by simp) _
  refine (HCS.out _ a0).mono ?_
  rintro e w1 ⟨rfl, b1⟩
  have f1 := a0.trans (b1.mono a0.size)
  have h0 : bk w1 w.heap.size = some (.cells (sgc s (some ⟨g, 0, none⟩) l.length (l.length + 4)) 30 (0, 0)) := bk_keep b1 (by simp; omega) (by rw [bk_alloc_past _ _ _ (by simp)]; exact bk_alloc_at _ _ _ rfl)
  have h1 : bk w1 (w.heap.size + 1) = some (.cells (sgc s A l.length c) 30 (0, 0)) := bk_keep b1 (by simp) (bk_alloc_at _ _ _ (by simp))
  have c0 : w1.cell? ⟨w.heap.size, 7, none⟩ = some (.slice (some ⟨g, 0, none⟩) l.length (l.length + 4)) := by rw [bk_cell h0, sgc_7]
  have c1 : w1.cell? ⟨w.heap.size + 1, 7, none⟩ = some (.slice A l.length c) := by rw [bk_cell h1, sgc_7]
  clear h0 h1 b1 a0
  go_wp2_with fail
  refine (HCL.out _ f1).mono ?_
  rintro e w2 ⟨rfl, b2⟩
  have f2 := f1.trans (b2.mono f1.size)
  clear b2
  go_wp2_with fail
  go_ret
  exact ⟨rfl, f2⟩
end Go.Proofs.Ytojddfbbeiobpaa
