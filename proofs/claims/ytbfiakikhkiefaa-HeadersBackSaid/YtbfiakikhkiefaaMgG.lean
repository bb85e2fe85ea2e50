import Derived.Test.YtbfiakikhkiefaaH7
import Derived.Test.YtbfiakikhkiefaaL10
import Derived.Test.YtbfiakikhkiefaaMgF
/- Headers: packets that are the same, twins; answers that are compared; chain, wrong, number. -/
namespace Go.Proofs.Ytbfiakikhkiefaa
open Go.RowKit
set_option maxRecDepth 100000
set_option maxHeartbeats 2000000
@[go_sem ↓] theorem ldPacket (dst : Option Tmp) (x : Operand) (t : TypeId) (pos : String) (af : Array Edge) (g : Option (Nat × Bool)) (a : Act) (w : World) (K : Act → World → Prop) (Q : Exit → Act → World → Prop) :
    Oper.wp Try.prog ⟨dst, .load 30 x, t, pos, af, g⟩ a w K Q = ldPtr (wpHid Try.prog ⟨dst, .load 30 x, t, pos, af, g⟩ a w K Q) 40 w (fun c => K (a.put dst (.agg c)) w) (a.eval x) :=
  wp_load_bk 30 40 _ Try.underlying30 rfl (by kernel_rfl) dst x t pos af g a w K Q
@[go_sem ↓] theorem stPacket (dst : Option Tmp) (x y : Operand) (t : TypeId) (pos : String) (af : Array Edge) (g : Option (Nat × Bool)) (a : Act) (w : World) (K : Act → World → Prop) (Q : Exit → Act → World → Prop) :
    Oper.wp Try.prog ⟨dst, .store 30 x y, t, pos, af, g⟩ a w K Q = stPtr (wpHid Try.prog ⟨dst, .store 30 x y, t, pos, af, g⟩ a w K Q) 40 w (fun w' => K (a.put dst undef) w') (a.eval x) (a.eval y) :=
  wp_store_bk 30 40 (by kernel_rfl) dst x y t pos af g a w K Q
@[go_sem ↓] theorem qlPacket (dst : Option Tmp) (x : Operand) (t : TypeId) (pos : String) (af : Array Edge) (g : Option (Nat × Bool)) (a : Act) (m : Nat) (W : World) (K : Act → Prop) :
    Oper.quiet Try.prog ⟨dst, .load 30 x, t, pos, af, g⟩ a (fun w' => ∃ x : Later m W, w' = x.w) K =
      ldLater (quietHid Try.prog ⟨dst, .load 30 x, t, pos, af, g⟩ a (fun w' => ∃ x : Later m W, w' = x.w) K) m 40 W (fun c => K (a.put dst (.agg c))) (a.eval x) :=
  quiet_load_bk 30 40 _ Try.underlying30 rfl (by kernel_rfl) dst x t pos af g a m W K
@[go_sem ↓] theorem ldAddr (dst : Option Tmp) (x : Operand) (t : TypeId) (pos : String) (af : Array Edge) (g : Option (Nat × Bool)) (a : Act) (w : World) (K : Act → World → Prop) (Q : Exit → Act → World → Prop) :
    Oper.wp Try.prog ⟨dst, .load 23 x, t, pos, af, g⟩ a w K Q = ldPtr (wpHid Try.prog ⟨dst, .load 23 x, t, pos, af, g⟩ a w K Q) 16 w (fun c => K (a.put dst (.agg c)) w) (a.eval x) :=
  wp_load_bk 23 16 _ Try.underlying23 rfl (by kernel_rfl) dst x t pos af g a w K Q
@[go_sem ↓] theorem stAddr (dst : Option Tmp) (x y : Operand) (t : TypeId) (pos : String) (af : Array Edge) (g : Option (Nat × Bool)) (a : Act) (w : World) (K : Act → World → Prop) (Q : Exit → Act → World → Prop) :
    Oper.wp Try.prog ⟨dst, .store 23 x y, t, pos, af, g⟩ a w K Q = stAt (wpHid Try.prog ⟨dst, .store 23 x y, t, pos, af, g⟩ a w K Q) 16 w (fun w' => K (a.put dst undef) w') (a.eval x) (a.eval y) :=
  wp_store_any 23 16 (by kernel_rfl) dst x y t pos af g a w K Q
@[go_sem ↓] theorem qlAddr (dst : Option Tmp) (x : Operand) (t : TypeId) (pos : String) (af : Array Edge) (g : Option (Nat × Bool)) (a : Act) (m : Nat) (W : World) (K : Act → Prop) :
    Oper.quiet Try.prog ⟨dst, .load 23 x, t, pos, af, g⟩ a (fun w' => ∃ x : Later m W, w' = x.w) K =
      ldLater (quietHid Try.prog ⟨dst, .load 23 x, t, pos, af, g⟩ a (fun w' => ∃ x : Later m W, w' = x.w) K) m 16 W (fun c => K (a.put dst (.agg c))) (a.eval x) :=
  quiet_load_bk 23 16 _ Try.underlying23 rfl (by kernel_rfl) dst x t pos af g a m W K
@[go_sem ↓] theorem ldFrag (dst : Option Tmp) (x : Operand) (t : TypeId) (pos : String) (af : Array Edge) (g : Option (Nat × Bool)) (a : Act) (w : World) (K : Act → World → Prop) (Q : Exit → Act → World → Prop) :
    Oper.wp Try.prog ⟨dst, .load 27 x, t, pos, af, g⟩ a w K Q = ldPtr (wpHid Try.prog ⟨dst, .load 27 x, t, pos, af, g⟩ a w K Q) 4 w (fun c => K (a.put dst (.agg c)) w) (a.eval x) :=
  wp_load_bk 27 4 _ Try.underlying27 rfl (by kernel_rfl) dst x t pos af g a w K Q
@[go_sem ↓] theorem stFrag (dst : Option Tmp) (x y : Operand) (t : TypeId) (pos : String) (af : Array Edge) (g : Option (Nat × Bool)) (a : Act) (w : World) (K : Act → World → Prop) (Q : Exit → Act → World → Prop) :
    Oper.wp Try.prog ⟨dst, .store 27 x y, t, pos, af, g⟩ a w K Q = stAt (wpHid Try.prog ⟨dst, .store 27 x y, t, pos, af, g⟩ a w K Q) 4 w (fun w' => K (a.put dst undef) w') (a.eval x) (a.eval y) :=
  wp_store_any 27 4 (by kernel_rfl) dst x y t pos af g a w K Q
@[go_sem ↓] theorem qlFrag (dst : Option Tmp) (x : Operand) (t : TypeId) (pos : String) (af : Array Edge) (g : Option (Nat × Bool)) (a : Act) (m : Nat) (W : World) (K : Act → Prop) :
    Oper.quiet Try.prog ⟨dst, .load 27 x, t, pos, af, g⟩ a (fun w' => ∃ x : Later m W, w' = x.w) K =
      ldLater (quietHid Try.prog ⟨dst, .load 27 x, t, pos, af, g⟩ a (fun w' => ∃ x : Later m W, w' = x.w) K) m 4 W (fun c => K (a.put dst (.agg c))) (a.eval x) :=
  quiet_load_bk 27 4 _ Try.underlying27 rfl (by kernel_rfl) dst x t pos af g a m W K
@[go_sem ↓] theorem ldFault (dst : Option Tmp) (x : Operand) (t : TypeId) (pos : String) (af : Array Edge) (g : Option (Nat × Bool)) (a : Act) (w : World) (K : Act → World → Prop) (Q : Exit → Act → World → Prop) :
    Oper.wp Try.prog ⟨dst, .load 47 x, t, pos, af, g⟩ a w K Q = ldPtr (wpHid Try.prog ⟨dst, .load 47 x, t, pos, af, g⟩ a w K Q) 2 w (fun c => K (a.put dst (.agg c)) w) (a.eval x) :=
  wp_load_bk 47 2 _ Try.underlying47 rfl (by kernel_rfl) dst x t pos af g a w K Q
@[go_sem ↓] theorem stFault (dst : Option Tmp) (x y : Operand) (t : TypeId) (pos : String) (af : Array Edge) (g : Option (Nat × Bool)) (a : Act) (w : World) (K : Act → World → Prop) (Q : Exit → Act → World → Prop) :
    Oper.wp Try.prog ⟨dst, .store 47 x y, t, pos, af, g⟩ a w K Q = stPtr (wpHid Try.prog ⟨dst, .store 47 x y, t, pos, af, g⟩ a w K Q) 2 w (fun w' => K (a.put dst undef) w') (a.eval x) (a.eval y) :=
  wp_store_bk 47 2 (by kernel_rfl) dst x y t pos af g a w K Q
@[go_sem ↓] theorem qlFault (dst : Option Tmp) (x : Operand) (t : TypeId) (pos : String) (af : Array Edge) (g : Option (Nat × Bool)) (a : Act) (m : Nat) (W : World) (K : Act → Prop) :
    Oper.quiet Try.prog ⟨dst, .load 47 x, t, pos, af, g⟩ a (fun w' => ∃ x : Later m W, w' = x.w) K =
      ldLater (quietHid Try.prog ⟨dst, .load 47 x, t, pos, af, g⟩ a (fun w' => ∃ x : Later m W, w' = x.w) K) m 2 W (fun c => K (a.put dst (.agg c))) (a.eval x) :=
  quiet_load_bk 47 2 _ Try.underlying47 rfl (by kernel_rfl) dst x t pos af g a m W K
theorem xt_all {c : Array Value} (n : Nat) (h : c.size = n) : xt c 0 n = c := xt_whole _ _ h
section
variable {p : Pk} {A : Option Addr} {n c : Nat}
@[go_sem] theorem pkC_all : xt (pkC p A n c) 0 40 = pkC p A n c := xt_whole _ _ (pkC_size p A n c)
@[go_sem] theorem pkC_xsrc : xt (pkC p A n c) 0 16 = (List.map B p.src).toArray := by
  have := p.hs
  simp [xt, pkC, List.extract_eq_take_drop, this]
@[go_sem] theorem pkC_xdst : xt (pkC p A n c) 16 16 = (List.map B p.dst).toArray := by
  have := p.hs; have := p.hd
  simp [xt, pkC, List.extract_eq_take_drop, *]
@[go_sem] theorem pkC_xfrag : xt (pkC p A n c) 34 4 = fragC p.fi p.fid p.fo p.fm := by
  have := p.hs; have := p.hd
  simp [xt, pkC, List.extract_eq_take_drop, *, fragC, List.drop_append, List.drop_eq_nil_of_le]
theorem pkC_get (j : Nat) (v : Value) (h : (pkC p A n c)[j]? = some v) (hj : j < (pkC p A n c).size) : (pkC p A n c)[j] = v := by
  rw [Array.getElem?_eq_getElem hj] at h
  exact Option.some.inj h
@[go_sem] theorem pkC_hops' (h : 32 < (pkC p A n c).size) : (pkC p A n c)[32] = B p.hops := pkC_get 32 _ (pkC_hops p A n c) h
@[go_sem] theorem pkC_al' (h : 33 < (pkC p A n c).size) : (pkC p A n c)[33] = .bool p.al := pkC_get 33 _ (pkC_al p A n c) h
@[go_sem] theorem pkC_fi' (h : 34 < (pkC p A n c).size) : (pkC p A n c)[34] = .bool p.fi := pkC_get 34 _ (pkC_fi p A n c) h
@[go_sem] theorem pkC_fid' (h : 35 < (pkC p A n c).size) : (pkC p A n c)[35] = .int .u32 (p.fid : Int) := pkC_get 35 _ (pkC_fid p A n c) h
@[go_sem] theorem pkC_fo' (h : 36 < (pkC p A n c).size) : (pkC p A n c)[36] = .int .u16 (p.fo : Int) := pkC_get 36 _ (pkC_fo p A n c) h
@[go_sem] theorem pkC_fm' (h : 37 < (pkC p A n c).size) : (pkC p A n c)[37] = .bool p.fm := pkC_get 37 _ (pkC_fm p A n c) h
@[go_sem] theorem pkC_nx' (h : 38 < (pkC p A n c).size) : (pkC p A n c)[38] = B p.nx := pkC_get 38 _ (pkC_nx p A n c) h
@[go_sem] theorem pkC_body' (h : 39 < (pkC p A n c).size) : (pkC p A n c)[39] = .slice A n c := pkC_get 39 _ (pkC_body p A n c) h
@[go_sem] theorem pkC_set (A' : Option Addr) (n' c' : Nat) : (pkC p A n c).setIfInBounds 39 (.slice A' n' c') = pkC p A' n' c' := by
  have := p.hs; have := p.hd
  unfold pkC
  rw [List.setIfInBounds_toArray]
  congr 1
  rw [List.set_append_right _ _ (by simp [*])]
  simp [*]
@[go_sem] theorem pkC_ones : ones (pkC p A n c).toList = true := by unfold pkC; simp only [ones_append, ones_map]; rfl
end
theorem eqAddr (a b : List UInt8) (ha : a.length = 16) (hb : b.length = 16) (w : World) : (Op.equalIn 10000 23 (.agg (List.map B a).toArray) (.agg (List.map B b).toArray)).run Try.prog w = .ok (a == b) w :=
  run_equalIn_bytes w 9998 23 5 16 Try.underlying23 Try.underlying5 (fun _ => by kernel_rfl) a b ha hb
theorem eqFrag (fi : Bool) (fid fo : Nat) (fm : Bool) (w : World) : (Op.equalIn 10000 27 (.agg (fragC fi fid fo fm)) (.agg (fragC fi fid fo fm))).run Try.prog w = .ok true w := by
  rw [run_equalIn_agg _ 9999 _ _ _ Try.underlying27 (by kernel_rfl)]
  unfold fragC
  go_simp

theorem eqFault (co fa : Nat) (w : World) : (Op.equalIn 10000 47 (.agg (faultC co fa)) (.agg (faultC co fa))).run Try.prog w = .ok true w := by
  rw [run_equalIn_agg _ 9999 _ _ _ Try.underlying47 (by kernel_rfl)]
  unfold faultC
  simp [go_sem]
/-- Two packets that are the same. -/
theorem samePacket_any (p : Pk) (A A' : Option Addr) (l : List UInt8) (c c' : Nat) (w : World) (h1 : Rd w w.heap.size A l) (h2 : Rd w w.heap.size A' l) (hl : l.length < 2 ^ 60) :
    Calls Try.prog 24 #[.agg (pkC p A l.length c), .agg (pkC p A' l.length c')] w fun e w' => e = .returned (.bool true) ∧ Below w.heap.size w w' := by
  have R1 := Lib.hid h1; have R2 := Lib.hid h2
  have C : ∀ w', Below w.heap.size w w' → Calls Try.prog 29 #[.slice A l.length c, .slice A' l.length c'] w' fun e w'' => e = .returned (.bool true) ∧ Below w'.heap.size w' w'' := fun w' hb => by
    have := same_any A A' l l c c' w' ((R1.out.below hb (Nat.le_refl _)).mono hb.size) ((R2.out.below hb (Nat.le_refl _)).mono hb.size) hl hl
    rwa [beq_self_eq_true] at this
  have HC := Lib.hid C
  clear h1 h2 C
  have q1 := fun w => eqAddr p.src p.src p.hs p.hs w
  have q2 := fun w => eqAddr p.dst p.dst p.hd p.hd w
  have q3 := fun w => eqFrag p.fi p.fid p.fo p.fm w
  simp only [beq_self_eq_true] at q1 q2
  obtain ⟨N, hN⟩ : ∃ N, N = l.length := ⟨_, rfl⟩
  rw [← hN] at HC ⊢
  clear hN hl R1 R2
  go_enter Try.func24, Try.ntmps24
  go_wp2_with fail
  refine (HC.out _ (((Below.refl _ _).alloc (Nat.le_refl _) _).alloc (by simp) _)).mono ?_
  rintro e w1 ⟨rfl, b⟩
  go_wp2_with fail
  go_ret
  exact ⟨rfl, (((Below.refl w.heap.size w).alloc (Nat.le_refl _) _).alloc (by simp) _).trans (b.mono (by simp; omega))⟩
theorem twinPacket_any (p : Pk) (A : Option Addr) (l : List UInt8) (c : Nat) (w : World) (h : Rd w w.heap.size A l) (hl : l.length < 2 ^ 46) :
    Calls Try.prog 10 #[.agg (pkC p A l.length c)] w fun e w' => ∃ g, e = .returned (.agg (pkC p (some ⟨g, 0, none⟩) l.length (l.length + 4))) ∧ w.heap.size ≤ g ∧ bk w' g = some (.cells (List.map B (tw l 199)).toArray 5 (0, 0)) ∧ Below w.heap.size w w' := by
  have H := Lib.hid h
  clear h
  go_enter Try.func10, Try.ntmps10
  go_wp2_with fail
  generalize hz : (Obj.cells #[Value.int IntKind.u8 0, Value.int IntKind.u8 0, Value.int IntKind.u8 0, Value.int IntKind.u8 0, Value.int IntKind.u8 0, Value.int IntKind.u8 0, Value.int IntKind.u8 0, Value.int IntKind.u8 0, Value.int IntKind.u8 0, Value.int IntKind.u8 0, Value.int IntKind.u8 0, Value.int IntKind.u8 0, Value.int IntKind.u8 0, Value.int IntKind.u8 0, Value.int IntKind.u8 0, Value.int IntKind.u8 0, Value.int IntKind.u8 0, Value.int IntKind.u8 0, Value.int IntKind.u8 0, Value.int IntKind.u8 0, Value.int IntKind.u8 0, Value.int IntKind.u8 0, Value.int IntKind.u8 0, Value.int IntKind.u8 0, Value.int IntKind.u8 0, Value.int IntKind.u8 0, Value.int IntKind.u8 0, Value.int IntKind.u8 0, Value.int IntKind.u8 0, Value.int IntKind.u8 0, Value.int IntKind.u8 0, Value.int IntKind.u8 0, Value.int IntKind.u8 0, Value.bool false, Value.bool false, Value.int IntKind.u32 0, Value.int IntKind.u16 0, Value.bool false, Value.int IntKind.u8 0, Value.slice none 0 0] 30) = zo
  have a0 : Below w.heap.size w ((w.alloc (.cells (pkC p A l.length c) 30)).alloc zo) := ((Below.refl _ _).alloc (Nat.le_refl _) _).alloc (by simp) _
  have k0 : bk ((w.alloc (.cells (pkC p A l.length c) 30)).alloc zo) w.heap.size = some (.cells (pkC p A l.length c) 30 (0, 0)) := by
    rw [bk_alloc_past _ _ _ (by simp)]; exact bk_alloc_at _ _ _ rfl
  have k1 : bk ((w.alloc (.cells (pkC p A l.length c) 30)).alloc zo) (w.heap.size + 1) = some zo := bk_alloc_at _ _ _ (by simp)
  refine (twinBytes_any A l c _ ((H.out.below a0 (Nat.le_refl _)).mono a0.size) hl).mono ?_
  rintro e w1 ⟨rfl, hT, b1⟩
  have f1 := a0.trans (b1.mono a0.size)
  have h0 := bk_keep b1 (by simp; omega) k0
  have h1 := bk_keep b1 (by simp) k1
  subst hz
  have s1 := b1.size
  simp only [World.size_alloc] at s1 hT
  have c2 : w1.cell? ⟨w.heap.size, 39, none⟩ = some (.slice A l.length c) := by rw [bk_cell h0, pkC_body]
  have hf := bk_frozen h0 39
  clear a0 k0 k1 b1
  go_wp2_with fail
  refine ret_cell (cs := pkC p (some ⟨w.heap.size + 1 + 1, 0, none⟩) l.length (l.length + 4)) rfl rfl rfl ?_ Try.underlying30 rfl (by rw [pkC_size]; kernel_rfl) ?_
  rotate_left
  · refine ⟨w.heap.size + 1 + 1, rfl, by omega, ?_, ?_⟩
    · rw [bk_setRow_other _ _ _ _ (by omega), bk_setCell_other _ _ _ _ _ (by omega)]; exact hT
    · exact below_setRow (f1.setCell (by simp) _) (by omega) _
  · rw [bk_setRow_same, bk_setCell_other _ _ _ _ _ (by omega), h1]; rfl
theorem leftPacket_any (p : Pk) (A : Option Addr) (l : List UInt8) (c g : Nat) (w : World) (h : Rd w w.heap.size A l) (hl : l.length < 2 ^ 46) (hg : bk w g = some (.cells (List.map B (tw l 199)).toArray 5 (0, 0))) :
    Calls Try.prog 14 #[.agg (pkC p (some ⟨g, 0, none⟩) l.length (l.length + 4)), .agg (pkC p A l.length c)] w fun e w' => e = .returned (.bool true) ∧ Below w.heap.size w w' := by
  have hgl := bk_lt hg
  have H := Lib.hid h; have HG := Lib.hid hg
  have CS : ∀ w', Below w.heap.size w w' → Calls Try.prog 24 #[.agg (pkC p (some ⟨g, 0, none⟩) l.length (l.length + 4)), .agg (pkC p A l.length c)] w' fun e w'' => e = .returned (.bool true) ∧ Below w'.heap.size w' w'' := fun w' hb => by
    have := samePacket_any p (some ⟨g, 0, none⟩) A l (l.length + 4) c w' (Rd.of_bk (bk_keep hb hgl HG.out) (Nat.lt_of_lt_of_le hgl hb.size) (tw_head l 199)) ((H.out.below hb (Nat.le_refl _)).mono hb.size) (by omega)
    exact this
  have CL : ∀ w', Below w.heap.size w w' → Calls Try.prog 20 #[.slice (some ⟨g, 0, none⟩) l.length (l.length + 4), .slice A l.length c] w' fun e w'' => e = .returned (.bool true) ∧ Below w'.heap.size w' w'' := fun w' hb =>
    leftBytes_any A l c g w' ((H.out.below hb (Nat.le_refl _)).mono hb.size) hl (bk_keep hb hgl HG.out)
  have HCS := Lib.hid CS; have HCL := Lib.hid CL
  clear h hg CS CL H HG
  go_enter Try.func14, Try.ntmps14
  go_wp2_with fail
  have a0 : Below w.heap.size w ((w.alloc (.cells (pkC p (some ⟨g, 0, none⟩) l.length (l.length + 4)) 30)).alloc (.cells (pkC p A l.length c) 30)) := ((Below.refl _ _).alloc (Nat.le_refl _) _).alloc (by simp) _
  refine (HCS.out _ a0).mono ?_
  rintro e w1 ⟨rfl, b1⟩
  have f1 := a0.trans (b1.mono a0.size)
  have h0 : bk w1 w.heap.size = some (.cells (pkC p (some ⟨g, 0, none⟩) l.length (l.length + 4)) 30 (0, 0)) := bk_keep b1 (by simp; omega) (by rw [bk_alloc_past _ _ _ (by simp)]; exact bk_alloc_at _ _ _ rfl)
  have h1 : bk w1 (w.heap.size + 1) = some (.cells (pkC p A l.length c) 30 (0, 0)) := bk_keep b1 (by simp) (bk_alloc_at _ _ _ (by simp))
  have c0 : w1.cell? ⟨w.heap.size, 39, none⟩ = some (.slice (some ⟨g, 0, none⟩) l.length (l.length + 4)) := by rw [bk_cell h0, pkC_body]
  have c1 : w1.cell? ⟨w.heap.size + 1, 39, none⟩ = some (.slice A l.length c) := by rw [bk_cell h1, pkC_body]
  clear h0 h1 b1 a0
  go_wp2_with fail
  refine (HCL.out _ f1).mono ?_
  rintro e w2 ⟨rfl, b2⟩
  have f2 := f1.trans (b2.mono f1.size)
  clear b2
  go_wp2_with fail
  go_ret
  exact ⟨rfl, f2⟩
end Go.Proofs.Ytbfiakikhkiefaa
/- Headers: chain, wrong, number. -/
namespace Go.Proofs.Ytbfiakikhkiefaa
open Go.RowKit
set_option maxRecDepth 100000
set_option maxHeartbeats 2000000
@[go_sem ↓] theorem bwFault (dst : Option Tmp) (ps : Array (Nat × Operand)) (t : TypeId) (pos : String) (af : Array Edge) (g : Option (Nat × Bool)) (a : Act) (w : World) (K : Act → World → Prop) (Q : Exit → Act → World → Prop) :
    Oper.wp Try.prog ⟨dst, .build 47 ps, t, pos, af, g⟩ a w K Q = bldTo (wpHid Try.prog ⟨dst, .build 47 ps, t, pos, af, g⟩ a w K Q) (fun c => K (a.put dst (.agg c)) w) (Try.prog.built 47 (ps.toList.map fun x => (x.1, a.eval x.2))) :=
  wp_build_bk 47 dst ps t pos af g a w K Q
@[go_sem ↓] theorem bqFault (dst : Option Tmp) (ps : Array (Nat × Operand)) (t : TypeId) (pos : String) (af : Array Edge) (g : Option (Nat × Bool)) (a : Act) (m : Nat) (W : World) (K : Act → Prop) :
    Oper.quiet Try.prog ⟨dst, .build 47 ps, t, pos, af, g⟩ a (fun w' => ∃ x : Later m W, w' = x.w) K = bldTo (quietHid0 Try.prog ⟨dst, .build 47 ps, t, pos, af, g⟩ a (fun w' => ∃ x : Later m W, w' = x.w) K) (fun c => K (a.put dst (.agg c))) (Try.prog.built 47 (ps.toList.map fun x => (x.1, a.eval x.2))) :=
  quiet_build_bk 47 dst ps t pos af g a _ ⟨W, ⟨W, Below.refl _ _⟩, rfl⟩ K
@[go_sem] theorem builtFault_none : Try.prog.built 47 [] = some (faultC 0 0) := by kernel_rfl
@[go_sem] theorem fragC_sz {a : Bool} {b c : Nat} {d : Bool} : (fragC a b c d).size = 4 := id rfl
@[go_sem] theorem faultC_sz {a b : Nat} : (faultC a b).size = 2 := id rfl
@[go_sem] theorem fragC_on {a : Bool} {b c : Nat} {d : Bool} : ones (fragC a b c d).toList = true := id rfl
@[go_sem] theorem faultC_on {a b : Nat} : ones (faultC a b).toList = true := id rfl
@[go_sem] theorem fragC_all {a : Bool} {b c : Nat} {d : Bool} : xt (fragC a b c d) 0 4 = fragC a b c d := id rfl
@[go_sem] theorem faultC_all {a b : Nat} : xt (faultC a b) 0 2 = faultC a b := id rfl
@[go_sem] theorem fragC_0 {a : Bool} {b c : Nat} {d : Bool} : (fragC a b c d)[0]? = some (.bool a) := id rfl
@[go_sem] theorem fragC_0' {a : Bool} {b c : Nat} {d : Bool} (h : 0 < (fragC a b c d).size) : (fragC a b c d)[0] = .bool a := id rfl
theorem chain25_any (nx : UInt8) (A : Option Addr) (b : List UInt8) (c at' : Nat) (last : UInt8) (many : Nat) (w : World) (h : Rd w w.heap.size A b) (hA : A = none → b = [] ∧ c = 0) (hc : b.length ≤ c) (hl : b.length < 2 ^ 30) (hat : at' < 2 ^ 32)
    (R : Tl) (hR : chain false nx b at' (if at' = 40 then 6 else at' - 8) (at' == 40) false = R) (h1 : R.last = last) (h2 : R.rest.length = many) (h3 : R.fi = false) (h4 : R.code = 0) (h5 : R.fat = 0) (h6 : R.e = 0) :
    Calls Try.prog 25 #[B nx, .slice A b.length c, .int .u32 (at' : Int), B last, .int .i64 (many : Int)] w fun e w' => e = .returned (.bool true) ∧ Below w.heap.size w w' := by
  have HC := Lib.hid (chain_any nx A b c at' false w h hA hc hl hat)
  have hv : ∀ A' c', tlV R A' c' = .tuple #[B last, .slice A' many c', .bool R.al, .agg (fragC false R.fid R.fo R.fm), .agg (faultC 0 0), .int .i64 0] := fun A' c' => by unfold tlV; rw [h1, h2, h3, h4, h5, h6]; rfl
  have HV := Lib.hid hv; have HR := Lib.hid hR
  have q := fun w => eqFault 0 0 w
  clear h hA hc hR h1 h2 h3 h4 h5 h6 hv
  generalize R.al = x1 at *
  generalize R.fid = x2 at *
  generalize R.fo = x3 at *
  generalize R.fm = x4 at *
  go_enter Try.func25, Try.ntmps25
  go_wp2_with fail
  refine HC.out.mono ?_
  rintro e w1 ⟨A', rfl, _, hb⟩
  rw [HR.out, HV.out]
  go_wp2_with fail
  go_ret
  refine ⟨rfl, hb.trans ?_⟩
  have := hb.size
  (repeat (first | exact Below.refl _ _ | assumption | refine Below.drew ?_ | refine bdrewN ?_ _ | refine Below.alloc ?_ (by first | omega | (simp <;> omega) | (simp only [World.size_alloc] <;> omega)) _ | refine below_setRow ?_ (by first | omega | (simp <;> omega)) _ | refine Below.setCell ?_ (by first | omega | (simp <;> omega)) _))
theorem wrong26_any (nx : UInt8) (A : Option Addr) (b : List UInt8) (c at' co fa : Nat) (w : World) (h : Rd w w.heap.size A b) (hA : A = none → b = [] ∧ c = 0) (hc : b.length ≤ c) (hl : b.length < 2 ^ 30) (hat : at' < 2 ^ 32)
    (R : Tl) (hR : chain false nx b at' (if at' = 40 then 6 else at' - 8) (at' == 40) false = R) (h1 : R = tlF co fa false) (h2 : fa < 4294967295) :
    Calls Try.prog 26 #[B nx, .slice A b.length c, .int .u32 (at' : Int), .agg (faultC co fa)] w fun e w' => e = .returned (.bool true) ∧ Below w.heap.size w w' := by
  have HC : Hid (∀ w', Below w.heap.size w w' → Calls Try.prog 18 #[B nx, .slice A b.length c, .int .u32 (at' : Int), .bool false] w' fun e w'' => ∃ A' c', e = .returned (tlV R A' c') ∧ Below w'.heap.size w' w'') := Lib.hid fun w' hb =>
    (chain_any nx A b c at' false w' ((h.below hb (Nat.le_refl _)).mono hb.size) hA hc hl hat).mono fun e w'' ⟨A', he, _, hb'⟩ => ⟨A', R.rest.length, by rw [he, hR], hb'⟩
  have hv : ∀ A' c', tlV R A' c' = .tuple #[B 0, .slice A' 0 c', .bool false, .agg (fragC false 0 0 false), .agg (faultC co fa), .int .i64 7] := fun A' c' => by rw [h1]; unfold tlV tlF; rw [show min fa 4294967295 = fa by omega]; rfl
  have HV := Lib.hid hv
  have q := fun w => eqFault co fa w
  clear h hA hc hR h1 h2 hv
  go_enter Try.func26, Try.ntmps26
  have a0 : Below w.heap.size w (w.alloc (.cells (faultC co fa) 47 (0, 0))) := (by (repeat (first | exact Below.refl _ _ | assumption | refine Below.drew ?_ | refine bdrewN ?_ _ | refine Below.alloc ?_ (by first | omega | (simp <;> omega) | (simp only [World.size_alloc] <;> omega)) _ | refine below_setRow ?_ (by first | omega | (simp <;> omega)) _ | refine Below.setCell ?_ (by first | omega | (simp <;> omega)) _)))
  have k0 : bk (w.alloc (.cells (faultC co fa) 47 (0, 0))) w.heap.size = some (.cells (faultC co fa) 47 (0, 0)) := bk_alloc_at _ _ _ rfl
  go_wp2_with fail
  refine (HC.out _ a0).mono ?_
  rintro e w1 ⟨A', c', rfl, hb⟩
  rw [HV.out]
  have bb := a0.trans (hb.mono a0.size)
  have k1 := bk_keep hb (bk_lt k0) k0
  have l1 := bk_lt k1
  have hs := bb.size
  clear a0 k0 hb HC HV
  go_wp2_with fail
  go_ret
  refine ⟨rfl, bb.trans ?_⟩
  (repeat (first | exact Below.refl _ _ | assumption | refine Below.drew ?_ | refine bdrewN ?_ _ | refine Below.alloc ?_ (by first | omega | (simp <;> omega) | (simp only [World.size_alloc] <;> omega)) _ | refine below_setRow ?_ (by first | omega | (simp <;> omega)) _ | refine Below.setCell ?_ (by first | omega | (simp <;> omega)) _))
/-- A header's number? -/
def hdr (n : UInt8) : Bool := n == 0 || n == 43 || n == 44 || n == 59 || n == 60
theorem number21_any (n : UInt8) (w : World) : Calls Try.prog 21 #[B n] w fun e w' => e = .returned (.bool (hdr n)) ∧ Below w.heap.size w w' := by
  have t : ∀ k : UInt8, ((n.toNat : Int) == (k.toNat : Int)) = (n == k) := fun k => by rw [Bool.eq_iff_iff]; simp [← UInt8.toNat_inj]; omega
  have t0 := t 0; have t1 := t 43; have t2 := t 44; have t3 := t 59; have t4 := t 60
  simp only [show ((0 : UInt8).toNat : Int) = 0 from rfl, show ((43 : UInt8).toNat : Int) = 43 from rfl, show ((44 : UInt8).toNat : Int) = 44 from rfl, show ((59 : UInt8).toNat : Int) = 59 from rfl, show ((60 : UInt8).toNat : Int) = 60 from rfl] at t0 t1 t2 t3 t4
  have HH : Hid (hdr n = (n == 0 || n == 43 || n == 44 || n == 59 || n == 60)) := Lib.hid rfl
  generalize hdr n = r at *
  generalize (n == 0) = b0 at *
  generalize (n == 43) = b1 at *
  generalize (n == 44) = b2 at *
  generalize (n == 59) = b3 at *
  generalize (n == 60) = b4 at *
  clear t
  go_enter Try.func21, Try.ntmps21
  cases b0 <;> cases b1 <;> cases b2 <;> cases b3 <;> cases b4
  all_goals
    go_wp2_with fail
    go_ret
    exact ⟨by rw [HH.out]; rfl, Below.refl _ _⟩
end Go.Proofs.Ytbfiakikhkiefaa
/- Headers: lives. -/
namespace Go.Proofs.Ytbfiakikhkiefaa
open Go.RowKit
set_option maxRecDepth 100000
set_option maxHeartbeats 2000000
@[go_sem ↓] theorem bwPacket (dst : Option Tmp) (ps : Array (Nat × Operand)) (t : TypeId) (pos : String) (af : Array Edge) (g : Option (Nat × Bool)) (a : Act) (w : World) (K : Act → World → Prop) (Q : Exit → Act → World → Prop) :
    Oper.wp Try.prog ⟨dst, .build 30 ps, t, pos, af, g⟩ a w K Q = bldTo (wpHid Try.prog ⟨dst, .build 30 ps, t, pos, af, g⟩ a w K Q) (fun c => K (a.put dst (.agg c)) w) (Try.prog.built 30 (ps.toList.map fun x => (x.1, a.eval x.2))) :=
  wp_build_bk 30 dst ps t pos af g a w K Q
@[go_sem ↓] theorem bqPacket (dst : Option Tmp) (ps : Array (Nat × Operand)) (t : TypeId) (pos : String) (af : Array Edge) (g : Option (Nat × Bool)) (a : Act) (m : Nat) (W : World) (K : Act → Prop) :
    Oper.quiet Try.prog ⟨dst, .build 30 ps, t, pos, af, g⟩ a (fun w' => ∃ x : Later m W, w' = x.w) K = bldTo (quietHid0 Try.prog ⟨dst, .build 30 ps, t, pos, af, g⟩ a (fun w' => ∃ x : Later m W, w' = x.w) K) (fun c => K (a.put dst (.agg c))) (Try.prog.built 30 (ps.toList.map fun x => (x.1, a.eval x.2))) :=
  quiet_build_bk 30 dst ps t pos af g a _ ⟨W, ⟨W, Below.refl _ _⟩, rfl⟩ K
def pk58 : Pk := ⟨List.replicate 16 0, List.replicate 16 0, 255, false, false, 0, 0, false, 58, rfl, rfl, by decide, by decide⟩
@[go_sem] theorem built58 (A : Option Addr) : Try.prog.built 30 [(5, .int .u8 58), (2, .int .u8 255), (6, .slice A 2 2)] = some (pkC pk58 A 2 2) := by kernel_rfl
@[go_sem] theorem builtF (a b : Nat) : Try.prog.built 47 [(0, .int .u8 (a : Int)), (1, .int .u32 (b : Int))] = some (faultC a b) := by kernel_rfl
@[go_sem] theorem builtF1 : Try.prog.built 47 [(0, .int .u8 1), (1, .int .u32 40)] = some (faultC 1 40) := by kernel_rfl
@[go_sem] theorem builtF2 : Try.prog.built 47 [(0, .int .u8 2), (1, .int .u32 50)] = some (faultC 2 50) := by kernel_rfl
@[go_sem] theorem builtF3 : Try.prog.built 47 [(0, .int .u8 0), (1, .int .u32 43)] = some (faultC 0 43) := by kernel_rfl
def want9 : List UInt8 := [96, 0, 0, 0, 0, 2, 58, 255] ++ List.replicate 32 0 ++ [1, 2]
theorem lives9_any (w : World) : Calls Try.prog 9 #[] w fun e w' => e = .returned (.bool true) ∧ Below w.heap.size w w' := by
  go_enter Try.func9, Try.ntmps9
  go_wp2_with fail
  have a0 : Below w.heap.size w (w.alloc (.cells (List.map B [1, 2]).toArray 5 (0, 0))) := (by (repeat (first | exact Below.refl _ _ | assumption | refine Below.drew ?_ | refine bdrewN ?_ _ | refine Below.alloc ?_ (by first | omega | (simp <;> omega) | (simp only [World.size_alloc] <;> omega)) _ | refine below_setRow ?_ (by first | omega | (simp <;> omega)) _ | refine Below.setCell ?_ (by first | omega | (simp <;> omega)) _)))
  have C := hput_any pk58 (some ⟨w.heap.size, 0, none⟩) [1, 2] 2 (w.alloc (.cells (List.map B [1, 2]).toArray 5 (0, 0))) (Rd.lit w [1, 2] 5) (fun h => by cases h) (by decide)
  refine C.mono ?_
  rintro e w1 ⟨hp, hb⟩
  unfold PutGot at hp
  rw [if_neg (by decide)] at hp
  obtain ⟨A1, c1, rfl, ho1⟩ := hp
  have hG := Gots.of_own ho1
  rw [show pkB pk58 [1, 2] = want9 by decide +kernel] at *
  have bb := a0.trans (hb.mono a0.size)
  have R1 := Lib.hid hG.rd
  clear ho1
  have F := Lib.hid bb
  clear C a0 hb hG bb
  obtain ⟨W9, hW9⟩ : ∃ W, W = want9 := ⟨_, rfl⟩
  rw [← hW9] at R1 ⊢
  have h42 : W9.length = 42 := by rw [hW9]; rfl
  have HW9 := Lib.hid hW9
  clear hW9
  go_wp2_with (at_builtin; refine append_zeros rfl _ _ rfl w1.heap.size ⟨w1.heap.size, 0, none⟩ [96, 0, 0, 0, 0, 2, 58, 255] 8 8 rfl rfl rfl (Rd.lit w1 [96, 0, 0, 0, 0, 2, 58, 255] 5) (own_lit [96, 0, 0, 0, 0, 2, 58, 255] (by simp)) 32 rfl (by simp) (by simp) ?_)
  intro v2 w2 ho2 b2
  have a2 : Below w1.heap.size w1 (w1.alloc (.cells (List.map B [96, 0, 0, 0, 0, 2, 58, 255]).toArray 5 (0, 0))) := (by (repeat (first | exact Below.refl _ _ | assumption | refine Below.drew ?_ | refine bdrewN ?_ _ | refine Below.alloc ?_ (by first | omega | (simp <;> omega) | (simp only [World.size_alloc] <;> omega)) _ | refine below_setRow ?_ (by first | omega | (simp <;> omega)) _ | refine Below.setCell ?_ (by first | omega | (simp <;> omega)) _)))
  have bb := a2.trans (b2.mono (Nat.le_succ _))
  have R2 := Lib.hid (R1.out.below bb (Nat.le_refl _))
  have F2 := Lib.hid (F.out.trans (bb.mono F.out.size))
  have HO2 := Lib.hid ho2
  have s2 := bb.size
  have sF := F.out.size
  clear R1 F a2 b2 bb ho2
  go_wp2_with (at_builtin; refine append_rd rfl _ _ rfl w1.heap.size v2 40 _ rfl (HO2.out.alloc _) (some ⟨w2.heap.size, 0, none⟩) [1, 2] 2 rfl (fun h => by cases h) (Rd.lit w2 [1, 2] 5) (by simp) (by simp; omega) ?_)
  intro v3 w3 ho3 hg3
  have a3 : Below w1.heap.size w2 (w2.alloc (.cells (List.map B [1, 2]).toArray 5 (0, 0))) := (Below.refl _ _).alloc s2 _
  have bb : Below w1.heap.size w2 w3 := a3.trans ((Below.refl _ _).grown hg3 (by simp; omega) (fun k hk => (HO2.out.lt k hk).1))
  have ho3' : w3.ownsRow w1.heap.size 5 1 v3 want9.length (want9.map B) := ho3
  rw [← HW9.out] at ho3'
  obtain ⟨A3, c3, rfl, hR3, _, hc3⟩ := Rd.of_own ho3' rfl
  have R4 := Lib.hid (R2.out.below bb (Nat.le_refl _))
  have F3 := Lib.hid (F2.out.trans (bb.mono sF))
  have R3 := Lib.hid hR3
  have s3 := Nat.le_trans s2 bb.size
  clear F2 R2 HO2 a3 bb ho3 hg3 ho3' hR3
  have CB := sameBytes_any A1 A3 W9 W9 c1 c3 w3 (R4.out.mono s3) R3.out (by rw [h42]; decide) (by rw [h42]; decide)
  rw [beq_self_eq_true, h42] at CB
  have HCB := Lib.hid CB
  clear CB
  go_wp2_with fail
  refine HCB.out.mono ?_
  rintro e w4 ⟨rfl, b4⟩
  have F4 := Lib.hid (F3.out.trans (b4.mono F3.out.size))
  clear HCB b4 F3 R4 R3
  go_wp2_with fail
  have a5 : Below w4.heap.size w4 (w4.alloc (.cells (List.map B [59, 0, 1, 4, 0, 0, 0, 0]).toArray 5 (0, 0))) := (by (repeat (first | exact Below.refl _ _ | assumption | refine Below.drew ?_ | refine bdrewN ?_ _ | refine Below.alloc ?_ (by first | omega | (simp <;> omega) | (simp only [World.size_alloc] <;> omega)) _ | refine below_setRow ?_ (by first | omega | (simp <;> omega)) _ | refine Below.setCell ?_ (by first | omega | (simp <;> omega)) _)))
  refine (chain25_any 60 (some ⟨w4.heap.size, 0, none⟩) [59, 0, 1, 4, 0, 0, 0, 0] 8 40 59 0 (w4.alloc (.cells (List.map B [59, 0, 1, 4, 0, 0, 0, 0]).toArray 5 (0, 0))) (Rd.lit w4 _ 5) (fun h => by cases h) (by decide) (by decide) (by decide) ⟨59, [], false, false, 0, 0, false, 0, 0, 0⟩ (by decide +kernel) rfl rfl rfl rfl rfl rfl).mono ?_
  rintro e w5 ⟨rfl, b5⟩
  have F5 := Lib.hid (F4.out.trans ((a5.trans (b5.mono a5.size)).mono F4.out.size))
  clear a5 b5 F4
  have s5 := F5.out.size
  go_wp2_with fail
  have a6 : Below w5.heap.size w5 (w5.alloc (.cells (List.map B [58, 0, 5, 2, 0, 0, 1, 0, 7]).toArray 5 (0, 0))) := (by (repeat (first | exact Below.refl _ _ | assumption | refine Below.drew ?_ | refine bdrewN ?_ _ | refine Below.alloc ?_ (by first | omega | (simp <;> omega) | (simp only [World.size_alloc] <;> omega)) _ | refine below_setRow ?_ (by first | omega | (simp <;> omega)) _ | refine Below.setCell ?_ (by first | omega | (simp <;> omega)) _)))
  have R6 := Lib.hid (Rd.lit w5 [58, 0, 5, 2, 0, 0, 1, 0, 7] 5)
  refine (chain_any 0 (some ⟨w5.heap.size, 0, none⟩) [58, 0, 5, 2, 0, 0, 1, 0, 7] 9 40 true (w5.alloc (.cells (List.map B [58, 0, 5, 2, 0, 0, 1, 0, 7]).toArray 5 (0, 0))) R6.out (fun h => by cases h) (by decide) (by decide) (by decide)).mono ?_
  rintro e w6 ⟨A6, rfl, hG6, b6⟩
  rw [show chain true 0 [58, 0, 5, 2, 0, 0, 1, 0, 7] 40 (if 40 = 40 then 6 else 40 - 8) (40 == 40) false = ⟨58, [7], true, false, 0, 0, false, 0, 0, 0⟩ by decide +kernel] at *
  have F6 := Lib.hid (F5.out.trans ((a6.trans (b6.mono a6.size)).mono F5.out.size))
  have R7 := Lib.hid hG6.rd
  have R8 := Lib.hid (R6.out.below b6 (Nat.le_refl _))
  have s6 := b6.size
  clear F5 a6 b6 hG6 R6
  rw [show tlV ⟨58, [7], true, false, 0, 0, false, 0, 0, 0⟩ A6 (⟨58, [7], true, false, 0, 0, false, 0, 0, 0⟩ : Tl).rest.length = .tuple #[.int .u8 58, .slice A6 1 1, .bool true, .agg (fragC false 0 0 false), .agg (faultC 0 0), .int .i64 0] from rfl]
  go_wp2_with fail
  have a7 : Below w6.heap.size w6 (((w6.alloc (.cells (fragC false 0 0 false) 27 (0, 0))).alloc (.cells (faultC 0 0) 47 (0, 0))).alloc (.cells (List.map B [7]).toArray 5 (0, 0))) := (by (repeat (first | exact Below.refl _ _ | assumption | refine Below.drew ?_ | refine bdrewN ?_ _ | refine Below.alloc ?_ (by first | omega | (simp <;> omega) | (simp only [World.size_alloc] <;> omega)) _ | refine below_setRow ?_ (by first | omega | (simp <;> omega)) _ | refine Below.setCell ?_ (by first | omega | (simp <;> omega)) _)))
  have l7 : Rd (((w6.alloc (.cells (fragC false 0 0 false) 27 (0, 0))).alloc (.cells (faultC 0 0) 47 (0, 0))).alloc (.cells (List.map B [7]).toArray 5 (0, 0))) (((w6.alloc (.cells (fragC false 0 0 false) 27 (0, 0))).alloc (.cells (faultC 0 0) 47 (0, 0))).alloc (.cells (List.map B [7]).toArray 5 (0, 0))).heap.size (some ⟨w6.heap.size + 1 + 1, 0, none⟩) [7] := by
    have h := Rd.lit ((w6.alloc (.cells (fragC false 0 0 false) 27 (0, 0))).alloc (.cells (faultC 0 0) 47 (0, 0))) [7] 5
    simpa using h
  have CB := sameBytes_any A6 (some ⟨w6.heap.size + 1 + 1, 0, none⟩) [7] [7] 1 1 (((w6.alloc (.cells (fragC false 0 0 false) 27 (0, 0))).alloc (.cells (faultC 0 0) 47 (0, 0))).alloc (.cells (List.map B [7]).toArray 5 (0, 0))) ((R7.out.below a7 (Nat.le_refl _)).mono a7.size) l7 (by decide) (by decide)
  rw [beq_self_eq_true] at CB
  refine CB.mono ?_
  rintro e w7 ⟨rfl, b7⟩
  have bb := a7.trans (b7.mono a7.size)
  have F7 := Lib.hid (F6.out.trans (bb.mono F6.out.size))
  have R9 := Lib.hid ((R8.out.below (bb.mono s6) (Nat.le_refl _)).mono (Nat.le_trans s6 bb.size))
  clear a7 l7 CB b7 bb R8 R7 F6
  go_wp2_with fail
  refine (wrong26_any 0 (some ⟨w5.heap.size, 0, none⟩) [58, 0, 5, 2, 0, 0, 1, 0, 7] 9 48 1 40 w7 R9.out (fun h => by cases h) (by decide) (by decide) (by decide) (tlF 1 40 false) (by decide +kernel) rfl (by decide)).mono ?_
  rintro e w8 ⟨rfl, b8⟩
  have F8 := Lib.hid (F7.out.trans (b8.mono F7.out.size))
  clear b8 F7 R9
  go_wp2_with fail
  have a9 : Below w8.heap.size w8 (w8.alloc (.cells (List.map B [58, 0, 194, 4, 0, 0, 0, 0]).toArray 5 (0, 0))) := (by (repeat (first | exact Below.refl _ _ | assumption | refine Below.drew ?_ | refine bdrewN ?_ _ | refine Below.alloc ?_ (by first | omega | (simp <;> omega) | (simp only [World.size_alloc] <;> omega)) _ | refine below_setRow ?_ (by first | omega | (simp <;> omega)) _ | refine Below.setCell ?_ (by first | omega | (simp <;> omega)) _)))
  have R9 := Lib.hid (Rd.lit w8 [58, 0, 194, 4, 0, 0, 0, 0] 5)
  refine (chain_any 60 (some ⟨w8.heap.size, 0, none⟩) [58, 0, 194, 4, 0, 0, 0, 0] 8 48 true (w8.alloc (.cells (List.map B [58, 0, 194, 4, 0, 0, 0, 0]).toArray 5 (0, 0))) R9.out (fun h => by cases h) (by decide) (by decide) (by decide)).mono ?_
  rintro e w9 ⟨A9, rfl, _, b9⟩
  rw [show chain true 60 [58, 0, 194, 4, 0, 0, 0, 0] 48 (if 48 = 40 then 6 else 48 - 8) (48 == 40) false = tlE 8 by decide +kernel] at *
  have F9 := Lib.hid (F8.out.trans ((a9.trans (b9.mono a9.size)).mono F8.out.size))
  have R10 := Lib.hid ((R9.out.below b9 (Nat.le_refl _)).mono b9.size)
  clear F8 a9 b9 R9
  rw [show tlV (tlE 8) A9 (tlE 8).rest.length = .tuple #[.int .u8 0, .slice A9 0 0, .bool false, .agg (fragC false 0 0 false), .agg (faultC 0 0), .int .i64 8] from rfl]
  go_wp2_with fail
  have a10 : Below w9.heap.size w9 ((w9.alloc (.cells (fragC false 0 0 false) 27 (0, 0))).alloc (.cells (faultC 0 0) 47 (0, 0))) := (by (repeat (first | exact Below.refl _ _ | assumption | refine Below.drew ?_ | refine bdrewN ?_ _ | refine Below.alloc ?_ (by first | omega | (simp <;> omega) | (simp only [World.size_alloc] <;> omega)) _ | refine below_setRow ?_ (by first | omega | (simp <;> omega)) _ | refine Below.setCell ?_ (by first | omega | (simp <;> omega)) _)))
  refine (wrong26_any 60 (some ⟨w8.heap.size, 0, none⟩) [58, 0, 194, 4, 0, 0, 0, 0] 8 48 2 50 ((w9.alloc (.cells (fragC false 0 0 false) 27 (0, 0))).alloc (.cells (faultC 0 0) 47 (0, 0))) ((R10.out.below a10 (Nat.le_refl _)).mono a10.size) (fun h => by cases h) (by decide) (by decide) (by decide) (tlF 2 50 false) (by decide +kernel) rfl (by decide)).mono ?_
  rintro e w10 ⟨rfl, b10⟩
  have F10 := Lib.hid (F9.out.trans ((a10.trans (b10.mono a10.size)).mono F9.out.size))
  clear F9 a10 b10 R10
  go_wp2_with fail
  have a11 : Below w10.heap.size w10 (w10.alloc (.cells (List.map B [58, 0, 0, 1, 0, 0, 0, 0]).toArray 5 (0, 0))) := (by (repeat (first | exact Below.refl _ _ | assumption | refine Below.drew ?_ | refine bdrewN ?_ _ | refine Below.alloc ?_ (by first | omega | (simp <;> omega) | (simp only [World.size_alloc] <;> omega)) _ | refine below_setRow ?_ (by first | omega | (simp <;> omega)) _ | refine Below.setCell ?_ (by first | omega | (simp <;> omega)) _)))
  refine (wrong26_any 43 (some ⟨w10.heap.size, 0, none⟩) [58, 0, 0, 1, 0, 0, 0, 0] 8 40 0 43 (w10.alloc (.cells (List.map B [58, 0, 0, 1, 0, 0, 0, 0]).toArray 5 (0, 0))) (Rd.lit w10 _ 5) (fun h => by cases h) (by decide) (by decide) (by decide) (tlF 0 43 false) (by decide +kernel) rfl (by decide)).mono ?_
  rintro e w11 ⟨rfl, b11⟩
  have F11 := Lib.hid (F10.out.trans ((a11.trans (b11.mono a11.size)).mono F10.out.size))
  clear F10 a11 b11
  go_wp2_with fail
  go_ret
  exact ⟨rfl, F11.out⟩
end Go.Proofs.Ytbfiakikhkiefaa
