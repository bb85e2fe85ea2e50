/- Headers: packets that are the same, twins; answers that are compared; chain, wrong, number. -/
import Derived.Test.YtbfiakikhkiefaaH7
namespace Go.Proofs.Ytbfiakikhkiefaa
open Go.RowKit
set_option maxRecDepth 100000
set_option maxHeartbeats 2000000
@[go_sem ↓] theorem ldPacket (dst : Option Tmp) (x : Operand) (t : TypeId) (pos : String) (af : Array Edge) (g : Option (Nat × Bool)) (a : Act) (w : World) (K : Act → World → Prop) (Q : Exit → Act → World → Prop) :
    Oper.wp Try.prog ⟨dst, .load 30 x, t, pos, af, g⟩ a w K Q = ldPtr (wpHid Try.prog ⟨dst, .load 30 x, t, pos, af, g⟩ a w K Q) 40 w (fun c => K (a.put dst (.agg c)) w) (a.eval x) :=
  wp_load_bk 30 40 _ Try.underlying30 rfl (by kernel_rfl) dst x t pos af g a w K Q
@[go_sem ↓] theorem stPacket (dst : Option Tmp) (x y : Operand) (t : TypeId) (pos : String) (af : Array Edge) (g : Option (Nat × Bool)) (a : Act) (w : World) (K : Act → World → Prop) (Q : Exit → Act → World → Prop) :
    Oper.wp Try.prog ⟨dst, .store 30 x y, t, pos, af, g⟩ a w K Q = stPtr (wpHid Try.prog ⟨dst, .store 30 x y, t, pos, af, g⟩ a w K Q) 40 w (fun w' => K (a.put dst undef) w') (a.eval x) (a.eval y) :=
  wp_store_bk 30 40 (by kernel_rfl) dst x y t pos af g a w K Q
@[go_sem ↓] theorem qlPacket (dst : Option Tmp) (x : Operand) (t : TypeId) (pos : String) (af : Array Edge) (g : Option (Nat × Bool)) (a : Act) (m : Nat) (W : World) (K : Act → Prop) :
    Oper.quiet Try.prog ⟨dst, .load 30 x, t, pos, af, g⟩ a (fun w' => ∃ x : Later m W, w' = x.w) K =
      ldLater (quietHid Try.prog ⟨dst, .load 30 x, t, pos, af, g⟩ a (fun w' => ∃ x : Later m W, w' = x.w) K) m 40 W (fun c => K (a.put dst (.agg c))) (a.eval x) :=
  quiet_load_bk 30 40 _ Try.underlying30 rfl (by kernel_rfl) dst x t pos af g a m W K
@[go_sem ↓] theorem ldAddr (dst : Option Tmp) (x : Operand) (t : TypeId) (pos : String) (af : Array Edge) (g : Option (Nat × Bool)) (a : Act) (w : World) (K : Act → World → Prop) (Q : Exit → Act → World → Prop) :
    Oper.wp Try.prog ⟨dst, .load 23 x, t, pos, af, g⟩ a w K Q = ldPtr (wpHid Try.prog ⟨dst, .load 23 x, t, pos, af, g⟩ a w K Q) 16 w (fun c => K (a.put dst (.agg c)) w) (a.eval x) :=
  wp_load_bk 23 16 _ Try.underlying23 rfl (by kernel_rfl) dst x t pos af g a w K Q
@[go_sem ↓] theorem stAddr (dst : Option Tmp) (x y : Operand) (t : TypeId) (pos : String) (af : Array Edge) (g : Option (Nat × Bool)) (a : Act) (w : World) (K : Act → World → Prop) (Q : Exit → Act → World → Prop) :
    Oper.wp Try.prog ⟨dst, .store 23 x y, t, pos, af, g⟩ a w K Q = stPtr (wpHid Try.prog ⟨dst, .store 23 x y, t, pos, af, g⟩ a w K Q) 16 w (fun w' => K (a.put dst undef) w') (a.eval x) (a.eval y) :=
  wp_store_bk 23 16 (by kernel_rfl) dst x y t pos af g a w K Q
@[go_sem ↓] theorem qlAddr (dst : Option Tmp) (x : Operand) (t : TypeId) (pos : String) (af : Array Edge) (g : Option (Nat × Bool)) (a : Act) (m : Nat) (W : World) (K : Act → Prop) :
    Oper.quiet Try.prog ⟨dst, .load 23 x, t, pos, af, g⟩ a (fun w' => ∃ x : Later m W, w' = x.w) K =
      ldLater (quietHid Try.prog ⟨dst, .load 23 x, t, pos, af, g⟩ a (fun w' => ∃ x : Later m W, w' = x.w) K) m 16 W (fun c => K (a.put dst (.agg c))) (a.eval x) :=
  quiet_load_bk 23 16 _ Try.underlying23 rfl (by kernel_rfl) dst x t pos af g a m W K
@[go_sem ↓] theorem ldFrag (dst : Option Tmp) (x : Operand) (t : TypeId) (pos : String) (af : Array Edge) (g : Option (Nat × Bool)) (a : Act) (w : World) (K : Act → World → Prop) (Q : Exit → Act → World → Prop) :
    Oper.wp Try.prog ⟨dst, .load 27 x, t, pos, af, g⟩ a w K Q = ldPtr (wpHid Try.prog ⟨dst, .load 27 x, t, pos, af, g⟩ a w K Q) 4 w (fun c => K (a.put dst (.agg c)) w) (a.eval x) :=
  wp_load_bk 27 4 _ Try.underlying27 rfl (by kernel_rfl) dst x t pos af g a w K Q
@[go_sem ↓] theorem stFrag (dst : Option Tmp) (x y : Operand) (t : TypeId) (pos : String) (af : Array Edge) (g : Option (Nat × Bool)) (a : Act) (w : World) (K : Act → World → Prop) (Q : Exit → Act → World → Prop) :
    Oper.wp Try.prog ⟨dst, .store 27 x y, t, pos, af, g⟩ a w K Q = stPtr (wpHid Try.prog ⟨dst, .store 27 x y, t, pos, af, g⟩ a w K Q) 4 w (fun w' => K (a.put dst undef) w') (a.eval x) (a.eval y) :=
  wp_store_bk 27 4 (by kernel_rfl) dst x y t pos af g a w K Q
@[go_sem ↓] theorem qlFrag (dst : Option Tmp) (x : Operand) (t : TypeId) (pos : String) (af : Array Edge) (g : Option (Nat × Bool)) (a : Act) (m : Nat) (W : World) (K : Act → Prop) :
    Oper.quiet Try.prog ⟨dst, .load 27 x, t, pos, af, g⟩ a (fun w' => ∃ x : Later m W, w' = x.w) K =
      ldLater (quietHid Try.prog ⟨dst, .load 27 x, t, pos, af, g⟩ a (fun w' => ∃ x : Later m W, w' = x.w) K) m 4 W (fun c => K (a.put dst (.agg c))) (a.eval x) :=
  quiet_load_bk 27 4 _ Try.underlying27 rfl (by kernel_rfl) dst x t pos af g a m W K
@[go_sem ↓] theorem ldFault (dst : Option Tmp) (x : Operand) (t : TypeId) (pos : String) (af : Array Edge) (g : Option (Nat × Bool)) (a : Act) (w : World) (K : Act → World → Prop) (Q : Exit → Act → World → Prop) :
    Oper.wp Try.prog ⟨dst, .load 47 x, t, pos, af, g⟩ a w K Q = ldPtr (wpHid Try.prog ⟨dst, .load 47 x, t, pos, af, g⟩ a w K Q) 2 w (fun c => K (a.put dst (.agg c)) w) (a.eval x) :=
  wp_load_bk 47 2 _ Try.underlying47 rfl (by kernel_rfl) dst x t pos af g a w K Q
@[go_sem ↓] theorem stFault (dst : Option Tmp) (x y : Operand) (t : TypeId) (pos : String) (af : Array Edge) (g : Option (Nat × Bool)) (a : Act) (w : World) (K : Act → World → Prop) (Q : Exit → Act → World → Prop) :
    Oper.wp Try.prog ⟨dst, .store 47 x y, t, pos, af, g⟩ a w K Q = stPtr (wpHid Try.prog ⟨dst, .store 47 x y, t, pos, af, g⟩ a w K Q) 2 w (fun w' => K (a.put dst undef) w') (a.eval x) (a.eval y) :=
  wp_store_bk 47 2 (by kernel_rfl) dst x y t pos af g a w K Q
@[go_sem ↓] theorem qlFault (dst : Option Tmp) (x : Operand) (t : TypeId) (pos : String) (af : Array Edge) (g : Option (Nat × Bool)) (a : Act) (m : Nat) (W : World) (K : Act → Prop) :
    Oper.quiet Try.prog ⟨dst, .load 47 x, t, pos, af, g⟩ a (fun w' => ∃ x : Later m W, w' = x.w) K =
      ldLater (quietHid Try.prog ⟨dst, .load 47 x, t, pos, af, g⟩ a (fun w' => ∃ x : Later m W, w' = x.w) K) m 2 W (fun c => K (a.put dst (.agg c))) (a.eval x) :=
  quiet_load_bk 47 2 _ Try.underlying47 rfl (by kernel_rfl) dst x t pos af g a m W K
theorem xt_all {c : Array Value} (n : Nat) (h : c.size = n) : xt c 0 n = c := xt_whole _ _ h
section
variable {p : Pk} {A : Option Addr} {n c : Nat}
@[go_sem] theorem pkC_all : xt (pkC p A n c) 0 40 = pkC p A n c := xt_whole _ _ (pkC_size p A n c)
@[go_sem] theorem pkC_xsrc : xt (pkC p A n c) 0 16 = (List.map B p.src).toArray := by
  have := p.hs
  simp [xt, pkC, List.extract_eq_take_drop, this]
@[go_sem] theorem pkC_xdst : xt (pkC p A n c) 16 16 = (List.map B p.dst).toArray := by
  have := p.hs; have := p.hd
  simp [xt, pkC, List.extract_eq_take_drop, *]
@[go_sem] theorem pkC_xfrag : xt (pkC p A n c) 34 4 = fragC p.fi p.fid p.fo p.fm := by
  have := p.hs; have := p.hd
  simp [xt, pkC, List.extract_eq_take_drop, *, fragC, List.drop_append, List.drop_eq_nil_of_le]
theorem pkC_get (j : Nat) (v : Value) (h : (pkC p A n c)[j]? = some v) (hj : j < (pkC p A n c).size) : (pkC p A n c)[j] = v := by
  rw [Array.getElem?_eq_getElem hj] at h
  exact Option.some.inj h
@[go_sem] theorem pkC_hops' (h : 32 < (pkC p A n c).size) : (pkC p A n c)[32] = B p.hops := pkC_get 32 _ (pkC_hops p A n c) h
@[go_sem] theorem pkC_al' (h : 33 < (pkC p A n c).size) : (pkC p A n c)[33] = .bool p.al := pkC_get 33 _ (pkC_al p A n c) h
@[go_sem] theorem pkC_fi' (h : 34 < (pkC p A n c).size) : (pkC p A n c)[34] = .bool p.fi := pkC_get 34 _ (pkC_fi p A n c) h
@[go_sem] theorem pkC_fid' (h : 35 < (pkC p A n c).size) : (pkC p A n c)[35] = .int .u32 (p.fid : Int) := pkC_get 35 _ (pkC_fid p A n c) h
@[go_sem] theorem pkC_fo' (h : 36 < (pkC p A n c).size) : (pkC p A n c)[36] = .int .u16 (p.fo : Int) := pkC_get 36 _ (pkC_fo p A n c) h
@[go_sem] theorem pkC_fm' (h : 37 < (pkC p A n c).size) : (pkC p A n c)[37] = .bool p.fm := pkC_get 37 _ (pkC_fm p A n c) h
@[go_sem] theorem pkC_nx' (h : 38 < (pkC p A n c).size) : (pkC p A n c)[38] = B p.nx := pkC_get 38 _ (pkC_nx p A n c) h
@[go_sem] theorem pkC_body' (h : 39 < (pkC p A n c).size) : (pkC p A n c)[39] = .slice A n c := pkC_get 39 _ (pkC_body p A n c) h
@[go_sem] theorem pkC_set (A' : Option Addr) (n' c' : Nat) : (pkC p A n c).setIfInBounds 39 (.slice A' n' c') = pkC p A' n' c' := by
  have := p.hs; have := p.hd
  unfold pkC
  rw [List.setIfInBounds_toArray]
  congr 1
  rw [List.set_append_right _ _ (by simp [*])]
  simp [*]
@[go_sem] theorem pkC_ones : ones (pkC p A n c).toList = true := by unfold pkC; simp only [ones_append, ones_map]; rfl
end
theorem eqAddr (a b : List UInt8) (ha : a.length = 16) (hb : b.length = 16) (w : World) : (Op.equalIn 10000 23 (.agg (List.map B a).toArray) (.agg (List.map B b).toArray)).run Try.prog w = .ok (a == b) w :=
  run_equalIn_bytes w 9998 23 5 16 Try.underlying23 Try.underlying5 (fun _ => by kernel_rfl) a b ha hb
theorem eqFrag (fi : Bool) (fid fo : Nat) (fm : Bool) (w : World) : (Op.equalIn 10000 27 (.agg (fragC fi fid fo fm)) (.agg (fragC fi fid fo fm))).run Try.prog w = .ok true w := by
  rw [run_equalIn_agg _ 9999 _ _ _ Try.underlying27 (by kernel_rfl)]
  unfold fragC
  go_simp

theorem eqFault (co fa : Nat) (w : World) : (Op.equalIn 10000 47 (.agg (faultC co fa)) (.agg (faultC co fa))).run Try.prog w = .ok true w := by
  rw [run_equalIn_agg _ 9999 _ _ _ Try.underlying47 (by kernel_rfl)]
  unfold faultC
  simp [go_sem]
/-- Two packets that are the same. -/
theorem samePacket_any (p : Pk) (A A' : Option Addr) (l : List UInt8) (c c' : Nat) (w : World) (h1 : Rd w w.heap.size A l) (h2 : Rd w w.heap.size A' l) (hl : l.length < 2 ^ 60) :
    Calls Try.prog 24 #[.agg (pkC p A l.length c), .agg (pkC p A' l.length c')] w fun e w' => e = .returned (.bool true) ∧ Below w.heap.size w w' := by
  have R1 := Lib.hid h1; have R2 := Lib.hid h2
  have C : ∀ w', Below w.heap.size w w' → Calls Try.prog 29 #[.slice A l.length c, .slice A' l.length c'] w' fun e w'' => e = .returned (.bool true) ∧ Below w'.heap.size w' w'' := fun w' hb => by
    have := same_any A A' l l c c' w' ((R1.out.below hb (Nat.le_refl _)).mono hb.size) ((R2.out.below hb (Nat.le_refl _)).mono hb.size) hl hl
    rwa [beq_self_eq_true] at this
  have HC := Lib.hid C
  clear h1 h2 C
  have q1 := fun w => eqAddr p.src p.src p.hs p.hs w
  have q2 := fun w => eqAddr p.dst p.dst p.hd p.hd w
  have q3 := fun w => eqFrag p.fi p.fid p.fo p.fm w
  simp only [beq_self_eq_true] at q1 q2
  obtain ⟨N, hN⟩ : ∃ N, N = l.length := ⟨_, rfl⟩
  rw [← hN] at HC ⊢
  clear hN hl R1 R2
  go_enter Try.func24, Try.ntmps24
  go_wp2_with fail
  refine (HC.out _ (((Below.refl _ _).alloc (Nat.le_refl _) _).alloc (by simp) _)).mono ?_
  rintro e w1 ⟨rfl, b⟩
  go_wp2_with fail
  go_ret
  exact ⟨rfl, (((Below.refl w.heap.size w).alloc (Nat.le_refl _) _).alloc (by simp) _).trans (b.mono (by simp; omega))⟩
theorem twinPacket_any (p : Pk) (A : Option Addr) (l : List UInt8) (c : Nat) (w : World) (h : Rd w w.heap.size A l) (hl : l.length < 2 ^ 46) :
    Calls Try.prog 10 #[.agg (pkC p A l.length c)] w fun e w' => ∃ g, e = .returned (.agg (pkC p (some ⟨g, 0, none⟩) l.length (l.length + 4))) ∧ w.heap.size ≤ g ∧ bk w' g = some (.cells (List.map B (tw l 199)).toArray 5 (0, 0)) ∧ Below w.heap.size w w' := by
  have H := Lib.hid h
  clear h
  go_enter Try.func10, Try.ntmps10
  go_wp2_with fail
  generalize hz : (Obj.cells #[Value.int IntKind.u8 0, Value.int IntKind.u8 0, Value.int IntKind.u8 0, Value.int IntKind.u8 0, Value.int IntKind.u8 0, Value.int IntKind.u8 0, Value.int IntKind.u8 0, Value.int IntKind.u8 0, Value.int IntKind.u8 0, Value.int IntKind.u8 0, Value.int IntKind.u8 0, Value.int IntKind.u8 0, Value.int IntKind.u8 0, Value.int IntKind.u8 0, Value.int IntKind.u8 0, Value.int IntKind.u8 0, Value.int IntKind.u8 0, Value.int IntKind.u8 0, Value.int IntKind.u8 0, Value.int IntKind.u8 0, Value.int IntKind.u8 0, Value.int IntKind.u8 0, Value.int IntKind.u8 0, Value.int IntKind.u8 0, Value.int IntKind.u8 0, Value.int IntKind.u8 0, Value.int IntKind.u8 0, Value.int IntKind.u8 0, Value.int IntKind.u8 0, Value.int IntKind.u8 0, Value.int IntKind.u8 0, Value.int IntKind.u8 0, Value.int IntKind.u8 0, Value.bool false, Value.bool false, Value.int IntKind.u32 0, Value.int IntKind.u16 0, Value.bool false, Value.int IntKind.u8 0, Value.slice none 0 0] 30) = zo
  have a0 : Below w.heap.size w ((w.alloc (.cells (pkC p A l.length c) 30)).alloc zo) := ((Below.refl _ _).alloc (Nat.le_refl _) _).alloc (by simp) _
  have k0 : bk ((w.alloc (.cells (pkC p A l.length c) 30)).alloc zo) w.heap.size = some (.cells (pkC p A l.length c) 30 (0, 0)) := by
    rw [bk_alloc_past _ _ _ (by simp)]; exact bk_alloc_at _ _ _ rfl
  have k1 : bk ((w.alloc (.cells (pkC p A l.length c) 30)).alloc zo) (w.heap.size + 1) = some zo := bk_alloc_at _ _ _ (by simp)
  refine (twinBytes_any A l c _ ((H.out.below a0 (Nat.le_refl _)).mono a0.size) hl).mono ?_
  rintro e w1 ⟨rfl, hT, b1⟩
  have f1 := a0.trans (b1.mono a0.size)
  have h0 := bk_keep b1 (by simp; omega) k0
  have h1 := bk_keep b1 (by simp) k1
  subst hz
  have s1 := b1.size
  simp only [World.size_alloc] at s1 hT
  have c2 : w1.cell? ⟨w.heap.size, 39, none⟩ = some (.slice A l.length c) := by rw [bk_cell h0, pkC_body]
  have hf := bk_frozen h0 39
  clear a0 k0 k1 b1
  go_wp2_with fail
  refine ret_cell (cs := pkC p (some ⟨w.heap.size + 1 + 1, 0, none⟩) l.length (l.length + 4)) rfl rfl rfl ?_ Try.underlying30 rfl (by rw [pkC_size]; kernel_rfl) ?_
  rotate_left
  · refine ⟨w.heap.size + 1 + 1, rfl, by omega, ?_, ?_⟩
    · rw [bk_setRow_other _ _ _ _ (by omega), bk_setCell_other _ _ _ _ _ (by omega)]; exact hT
    · exact below_setRow (f1.setCell (by simp) _) (by omega) _
  · rw [bk_setRow_same, bk_setCell_other _ _ _ _ _ (by omega), h1]; rfl
theorem leftPacket_any (p : Pk) (A : Option Addr) (l : List UInt8) (c g : Nat) (w : World) (h : Rd w w.heap.size A l) (hl : l.length < 2 ^ 46) (hg : bk w g = some (.cells (List.map B (tw l 199)).toArray 5 (0, 0))) :
    Calls Try.prog 14 #[.agg (pkC p (some ⟨g, 0, none⟩) l.length (l.length + 4)), .agg (pkC p A l.length c)] w fun e w' => e = .returned (.bool true) ∧ Below w.heap.size w w' := by
  have hgl := bk_lt hg
  have H := Lib.hid h; have HG := Lib.hid hg
  have CS : ∀ w', Below w.heap.size w w' → Calls Try.prog 24 #[.agg (pkC p (some ⟨g, 0, none⟩) l.length (l.length + 4)), .agg (pkC p A l.length c)] w' fun e w'' => e = .returned (.bool true) ∧ Below w'.heap.size w' w'' := fun w' hb => by
    have := samePacket_any p (some ⟨g, 0, none⟩) A l (l.length + 4) c w' (Rd.of_bk (bk_keep hb hgl HG.out) (Nat.lt_of_lt_of_le hgl hb.size) (tw_head l 199)) ((H.out.below hb (Nat.le_refl _)).mono hb.size) (by omega)
    exact this
  have CL : ∀ w', Below w.heap.size w w' → Calls Try.prog 20 #[.slice (some ⟨g, 0, none⟩) l.length (l.length + 4), .slice A l.length c] w' fun e w'' => e = .returned (.bool true) ∧ Below w'.heap.size w' w'' := fun w' hb =>
    leftBytes_any A l c g w' ((H.out.below hb (Nat.le_refl _)).mono hb.size) hl (bk_keep hb hgl HG.out)
  have HCS := Lib.hid CS; have HCL := Lib.hid CL
  clear h hg CS CL H HG
  go_enter Try.func14, Try.ntmps14
  go_wp2_with fail
  have a0 : Below w.heap.size w ((w.alloc (.cells (pkC p (some ⟨g, 0, none⟩) l.length (l.length + 4)) 30)).alloc (.cells (pkC p A l.length c) 30)) := ((Below.refl _ _).alloc (Nat.le_refl _) _).alloc (by simp) _
  refine (HCS.out _ a0).mono ?_
  rintro e w1 ⟨rfl, b1⟩
  have f1 := a0.trans (b1.mono a0.size)
  have h0 : bk w1 w.heap.size = some (.cells (pkC p (some ⟨g, 0, none⟩) l.length (l.length + 4)) 30 (0, 0)) := bk_keep b1 (by simp; omega) (by rw [bk_alloc_past _ _ _ (by simp)]; exact bk_alloc_at _ _ _ rfl)
  have h1 : bk w1 (w.heap.size + 1) = some (.cells (pkC p A l.length c) 30 (0, 0)) := bk_keep b1 (by simp) (bk_alloc_at _ _ _ (by simp))
  have c0 : w1.cell? ⟨w.heap.size, 39, none⟩ = some (.slice (some ⟨g, 0, none⟩) l.length (l.length + 4)) := by rw [bk_cell h0, pkC_body]
  have c1 : w1.cell? ⟨w.heap.size + 1, 39, none⟩ = some (.slice A l.length c) := by rw [bk_cell h1, pkC_body]
  clear h0 h1 b1 a0
  go_wp2_with fail
  refine (HCL.out _ f1).mono ?_
  rintro e w2 ⟨rfl, b2⟩
  have f2 := f1.trans (b2.mono f1.size)
  clear b2
  go_wp2_with fail
  go_ret
  exact ⟨rfl, f2⟩
end Go.Proofs.Ytbfiakikhkiefaa
