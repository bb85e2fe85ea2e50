/- Frames: twins; groups. -/
import Derived.Test.YtdmmfffoikelgaaE0
namespace Go.Proofs.Ytdmmfffoikelgaa
open Go.RowKit
set_option maxRecDepth 100000
theorem twinFrame_any (d s : List UInt8) (k : Nat) (A : Option Addr) (l : List UInt8) (c : Nat) (w : World) (hd : d.length = 6) (hs : s.length = 6) (h : Rd w w.heap.size A l) (hl : l.length < 2 ^ 46) :
    Calls Try.prog 9 #[.agg (frc d s k A l.length c)] w fun e w' => ∃ g, e = .returned (.agg (frc d s k (some ⟨g, 0, none⟩) l.length (l.length + 4))) ∧ w.heap.size ≤ g ∧ bk w' g = some (.cells (List.map B (tw l 199)).toArray 5 (0, 0)) ∧ Below w.heap.size w w' := by
  have H := Lib.hid h
  clear h
  go_enter Try.func9, Try.ntmps9
  go_wp2_with fail
  generalize hz : (Obj.cells #[Value.int IntKind.u8 0, Value.int IntKind.u8 0, Value.int IntKind.u8 0, Value.int IntKind.u8 0, Value.int IntKind.u8 0, Value.int IntKind.u8 0, Value.int IntKind.u8 0, Value.int IntKind.u8 0, Value.int IntKind.u8 0, Value.int IntKind.u8 0, Value.int IntKind.u8 0, Value.int IntKind.u8 0, Value.int IntKind.u16 0, Value.slice none 0 0] 27) = zo
  have a0 : Below w.heap.size w ((w.alloc (.cells (frc d s k A l.length c) 27)).alloc zo) := ((Below.refl _ _).alloc (Nat.le_refl _) _).alloc (by simp) _
  have k0 : bk ((w.alloc (.cells (frc d s k A l.length c) 27)).alloc zo) w.heap.size = some (.cells (frc d s k A l.length c) 27 (0, 0)) := by
    rw [bk_alloc_past _ _ _ (by simp)]; exact bk_alloc_at _ _ _ rfl
  have k1 : bk ((w.alloc (.cells (frc d s k A l.length c) 27)).alloc zo) (w.heap.size + 1) = some zo := bk_alloc_at _ _ _ (by simp)
  refine (twinBytes_any A l c _ ((H.out.below a0 (Nat.le_refl _)).mono a0.size) hl).mono ?_
  rintro e w1 ⟨rfl, hT, b1⟩
  have f1 := a0.trans (b1.mono a0.size)
  have h0 := bk_keep b1 (by simp; omega) k0
  have h1 := bk_keep b1 (by simp) k1
  subst hz
  have s1 := b1.size
  simp only [World.size_alloc] at s1 hT
  obtain ⟨T, hTe⟩ : ∃ T, T = w.heap.size + 1 + 1 := ⟨_, rfl⟩
  have c13 : w1.cell? ⟨w.heap.size, 13, none⟩ = some (.slice A l.length c) := by rw [bk_cell h0, frc_body hd hs]
  have hf := bk_frozen h0 13
  clear a0 k0 k1 b1
  go_wp2_with fail
  refine ret_cell (cs := frc d s k (some ⟨w.heap.size + 1 + 1, 0, none⟩) l.length (l.length + 4)) rfl rfl rfl ?_ Try.underlying27 rfl (by rw [frc_size hd hs]; kernel_rfl) ?_
  rotate_left
  · refine ⟨w.heap.size + 1 + 1, rfl, by omega, ?_, ?_⟩
    · rw [bk_setRow_other _ _ _ _ (by omega), bk_setCell_other _ _ _ _ _ (by omega)]; exact hT
    · exact below_setRow (f1.setCell (by simp) _) (by omega) _
  · rw [bk_setRow_same, bk_setCell_other _ _ _ _ _ (by omega), h1]; rfl
theorem leftFrame_any (d s : List UInt8) (k : Nat) (A : Option Addr) (l : List UInt8) (c g : Nat) (w : World) (hd : d.length = 6) (hs : s.length = 6) (h : Rd w w.heap.size A l) (hl : l.length < 2 ^ 46) (hg : bk w g = some (.cells (List.map B (tw l 199)).toArray 5 (0, 0))) :
    Calls Try.prog 13 #[.agg (frc d s k (some ⟨g, 0, none⟩) l.length (l.length + 4)), .agg (frc d s k A l.length c)] w fun e w' => e = .returned (.bool true) ∧ Below w.heap.size w w' := by
  have hgl := bk_lt hg
  have H := Lib.hid h; have HG := Lib.hid hg
  have CS : ∀ w', Below w.heap.size w w' → Calls Try.prog 21 #[.agg (frc d s k (some ⟨g, 0, none⟩) l.length (l.length + 4)), .agg (frc d s k A l.length c)] w' fun e w'' => e = .returned (.bool true) ∧ Below w'.heap.size w' w'' := fun w' hb => by
    have := sameFrame_any d s d s k k (some ⟨g, 0, none⟩) A l l (l.length + 4) c w' hd hs hd hs (Rd.of_bk (bk_keep hb hgl HG.out) (Nat.lt_of_lt_of_le hgl hb.size) (tw_head l 199)) ((H.out.below hb (Nat.le_refl _)).mono hb.size) (by omega) (by omega)
    simpa using this
  have CL : ∀ w', Below w.heap.size w w' → Calls Try.prog 22 #[.slice (some ⟨g, 0, none⟩) l.length (l.length + 4), .slice A l.length c] w' fun e w'' => e = .returned (.bool true) ∧ Below w'.heap.size w' w'' := fun w' hb =>
    leftBytes_any A l c g w' ((H.out.below hb (Nat.le_refl _)).mono hb.size) hl (bk_keep hb hgl HG.out)
  have HCS := Lib.hid CS; have HCL := Lib.hid CL
  clear h hg CS CL H HG
  go_enter Try.func13, Try.ntmps13
  go_wp2_with fail
  have a0 : Below w.heap.size w ((w.alloc (.cells (frc d s k (some ⟨g, 0, none⟩) l.length (l.length + 4)) 27)).alloc (.cells (frc d s k A l.length c) 27)) := ((Below.refl _ _).alloc (Nat.le_refl _) _).alloc (by simp) _
  refine (HCS.out _ a0).mono ?_
  rintro e w1 ⟨rfl, b1⟩
  have f1 := a0.trans (b1.mono a0.size)
  have h0 : bk w1 w.heap.size = some (.cells (frc d s k (some ⟨g, 0, none⟩) l.length (l.length + 4)) 27 (0, 0)) := bk_keep b1 (by simp; omega) (by rw [bk_alloc_past _ _ _ (by simp)]; exact bk_alloc_at _ _ _ rfl)
  have h1 : bk w1 (w.heap.size + 1) = some (.cells (frc d s k A l.length c) 27 (0, 0)) := bk_keep b1 (by simp) (bk_alloc_at _ _ _ (by simp))
  have c0 : w1.cell? ⟨w.heap.size, 13, none⟩ = some (.slice (some ⟨g, 0, none⟩) l.length (l.length + 4)) := by rw [bk_cell h0, frc_body hd hs]
  have c1 : w1.cell? ⟨w.heap.size + 1, 13, none⟩ = some (.slice A l.length c) := by rw [bk_cell h1, frc_body hd hs]
  clear h0 h1 b1 a0
  go_wp2_with fail
  refine (HCL.out _ f1).mono ?_
  rintro e w2 ⟨rfl, b2⟩
  have f2 := f1.trans (b2.mono f1.size)
  clear b2
  go_wp2_with fail
  go_ret
  exact ⟨rfl, f2⟩
/-- The group of an address. -/
def grp (a : List UInt8) : List UInt8 := [51, 51] ++ a.drop 12
theorem grp_length (a : List UInt8) (h : a.length = 16) : (grp a).length = 6 := by simp [grp, h]
@[go_sem ↓] theorem ldAddr (dst : Option Tmp) (x : Operand) (t : TypeId) (pos : String) (af : Array Edge) (g : Option (Nat × Bool)) (a : Act) (w : World) (K : Act → World → Prop) (Q : Exit → Act → World → Prop) :
    Oper.wp Try.prog ⟨dst, .load 29 x, t, pos, af, g⟩ a w K Q = ldPtr (wpHid Try.prog ⟨dst, .load 29 x, t, pos, af, g⟩ a w K Q) 16 w (fun c => K (a.put dst (.agg c)) w) (a.eval x) :=
  wp_load_bk 29 16 _ Try.underlying29 rfl (by kernel_rfl) dst x t pos af g a w K Q
@[go_sem ↓] theorem stAddr (dst : Option Tmp) (x y : Operand) (t : TypeId) (pos : String) (af : Array Edge) (g : Option (Nat × Bool)) (a : Act) (w : World) (K : Act → World → Prop) (Q : Exit → Act → World → Prop) :
    Oper.wp Try.prog ⟨dst, .store 29 x y, t, pos, af, g⟩ a w K Q = stPtr (wpHid Try.prog ⟨dst, .store 29 x y, t, pos, af, g⟩ a w K Q) 16 w (fun w' => K (a.put dst undef) w') (a.eval x) (a.eval y) :=
  wp_store_bk 29 16 (by kernel_rfl) dst x y t pos af g a w K Q
@[go_sem ↓] theorem qlAddr (dst : Option Tmp) (x : Operand) (t : TypeId) (pos : String) (af : Array Edge) (g : Option (Nat × Bool)) (a : Act) (m : Nat) (W : World) (K : Act → Prop) :
    Oper.quiet Try.prog ⟨dst, .load 29 x, t, pos, af, g⟩ a (fun w' => ∃ x : Later m W, w' = x.w) K =
      ldLater (quietHid Try.prog ⟨dst, .load 29 x, t, pos, af, g⟩ a (fun w' => ∃ x : Later m W, w' = x.w) K) m 16 W (fun c => K (a.put dst (.agg c))) (a.eval x) :=
  quiet_load_bk 29 16 _ Try.underlying29 rfl (by kernel_rfl) dst x t pos af g a m W K
@[go_sem ↓] theorem cpB (dst : Option Tmp) (x y : Operand) (t : TypeId) (pos : String) (af : Array Edge) (gd : Option (Nat × Bool)) (a : Act) (w : World) (K : Act → World → Prop) (Q : Exit → Act → World → Prop) :
    Oper.wp Try.prog ⟨dst, .call { callee := .builtin .copy, args := #[x, y], argTypes := #[25, 25] }, t, pos, af, gd⟩ a w K Q =
      cpPtr (wpHid Try.prog ⟨dst, .call { callee := .builtin .copy, args := #[x, y], argTypes := #[25, 25] }, t, pos, af, gd⟩ a w K Q) w (fun n w' => K (a.put dst (.int .i64 n)) w') (a.eval x) (a.eval y) :=
  wp_copy_bk 25 25 5 Try.underlying25 (by kernel_rfl) dst x y t pos af gd a w K Q
theorem grp_eq (a : List UInt8) (h : a.length = 16) : grp a = [(51 : UInt8), 51, a[12], a[13], a[14], a[15]] := by
  unfold grp
  rw [List.drop_eq_getElem_cons (by omega), List.drop_eq_getElem_cons (by omega), List.drop_eq_getElem_cons (by omega), List.drop_eq_getElem_cons (by omega), List.drop_of_length_le (by omega)]
  rfl
theorem group_any (a : List UInt8) (h : a.length = 16) (w : World) : Calls Try.prog 14 #[av a] w fun e w' => e = .returned (av (grp a)) ∧ Below w.heap.size w w' := by
  have hl4 : (sl a 12 4).length = 4 := sl_length a 12 4 (by omega)
  have hsp : spl [Value.int .u8 51, Value.int .u8 51, Value.int .u8 0, Value.int .u8 0, Value.int .u8 0, Value.int .u8 0] 2 (List.map B (sl a 12 4)) = (List.map B (grp a)).toArray := by
    rw [show [Value.int .u8 51, Value.int .u8 51, Value.int .u8 0, Value.int .u8 0, Value.int .u8 0, Value.int .u8 0] = List.map B [51, 51, 0, 0, 0, 0] from rfl, spl_map]
    congr 2
    simp [splB, grp, sl, List.extract_eq_take_drop, h, List.take_of_length_le]
  have hgl := grp_length a h
  go_enter Try.func14, Try.ntmps14
  go_wp2
  go_region
  go_wp2
  refine ret_cell (cs := (List.map B (grp a)).toArray) rfl rfl rfl ?_ Try.underlying23 rfl (by rw [map_size, hgl]; kernel_rfl) ?_
  rotate_left
  · refine ⟨rfl, ?_⟩
    (repeat (first | exact Below.refl _ _ | assumption | refine Below.drew ?_ | refine bdrewN ?_ _ | refine Below.alloc ?_ (by first | omega | (simp <;> omega) | (simp only [World.size_alloc] <;> omega)) _ | refine below_setRow ?_ (by first | omega | (simp <;> omega)) _ | refine Below.setCell ?_ (by first | omega | (simp <;> omega)) _))
  · simp [go_sem]
theorem rgroup_any (a : List UInt8) (h : a.length = 16) (w : World) : Calls Try.prog 15 #[av a] w fun e w' => e = .returned (av (grp a)) ∧ Below w.heap.size w w' := by
  have hg := grp_eq a h
  have hgl := grp_length a h
  have HG := Lib.hid hg
  clear hg
  go_enter Try.func15, Try.ntmps15
  go_wp2
  refine ret_cell (cs := (List.map B (grp a)).toArray) rfl rfl rfl ?_ Try.underlying23 rfl (by rw [map_size, hgl]; kernel_rfl) ?_
  rotate_left
  · refine ⟨rfl, ?_⟩
    (repeat (first | exact Below.refl _ _ | assumption | refine Below.drew ?_ | refine bdrewN ?_ _ | refine Below.alloc ?_ (by first | omega | (simp <;> omega) | (simp only [World.size_alloc] <;> omega)) _ | refine below_setRow ?_ (by first | omega | (simp <;> omega)) _ | refine Below.setCell ?_ (by first | omega | (simp <;> omega)) _))
  · rw [HG.out, bk_alloc_at _ _ _ (by simp)]; rfl
end Go.Proofs.Ytdmmfffoikelgaa
