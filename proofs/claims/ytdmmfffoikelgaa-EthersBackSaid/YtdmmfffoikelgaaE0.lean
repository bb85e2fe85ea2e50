/- Frames of a link as values. -/
import Derived.Test.YtdmmfffoikelgaaC0
import Derived.Deep.RegionHeld3
namespace Go.Proofs.Ytdmmfffoikelgaa
open Go.RowKit
set_option maxRecDepth 100000
@[go_sem ↓] theorem ldMac (dst : Option Tmp) (x : Operand) (t : TypeId) (pos : String) (af : Array Edge) (g : Option (Nat × Bool)) (a : Act) (w : World) (K : Act → World → Prop) (Q : Exit → Act → World → Prop) :
    Oper.wp Try.prog ⟨dst, .load 23 x, t, pos, af, g⟩ a w K Q = ldPtr (wpHid Try.prog ⟨dst, .load 23 x, t, pos, af, g⟩ a w K Q) 6 w (fun c => K (a.put dst (.agg c)) w) (a.eval x) :=
  wp_load_bk 23 6 _ Try.underlying23 rfl (by kernel_rfl) dst x t pos af g a w K Q
@[go_sem ↓] theorem stMac (dst : Option Tmp) (x y : Operand) (t : TypeId) (pos : String) (af : Array Edge) (g : Option (Nat × Bool)) (a : Act) (w : World) (K : Act → World → Prop) (Q : Exit → Act → World → Prop) :
    Oper.wp Try.prog ⟨dst, .store 23 x y, t, pos, af, g⟩ a w K Q = stPtr (wpHid Try.prog ⟨dst, .store 23 x y, t, pos, af, g⟩ a w K Q) 6 w (fun w' => K (a.put dst undef) w') (a.eval x) (a.eval y) :=
  wp_store_bk 23 6 (by kernel_rfl) dst x y t pos af g a w K Q
@[go_sem ↓] theorem qlMac (dst : Option Tmp) (x : Operand) (t : TypeId) (pos : String) (af : Array Edge) (g : Option (Nat × Bool)) (a : Act) (m : Nat) (W : World) (K : Act → Prop) :
    Oper.quiet Try.prog ⟨dst, .load 23 x, t, pos, af, g⟩ a (fun w' => ∃ x : Later m W, w' = x.w) K =
      ldLater (quietHid Try.prog ⟨dst, .load 23 x, t, pos, af, g⟩ a (fun w' => ∃ x : Later m W, w' = x.w) K) m 6 W (fun c => K (a.put dst (.agg c))) (a.eval x) :=
  quiet_load_bk 23 6 _ Try.underlying23 rfl (by kernel_rfl) dst x t pos af g a m W K
@[go_sem ↓] theorem ldFrame (dst : Option Tmp) (x : Operand) (t : TypeId) (pos : String) (af : Array Edge) (g : Option (Nat × Bool)) (a : Act) (w : World) (K : Act → World → Prop) (Q : Exit → Act → World → Prop) :
    Oper.wp Try.prog ⟨dst, .load 27 x, t, pos, af, g⟩ a w K Q = ldPtr (wpHid Try.prog ⟨dst, .load 27 x, t, pos, af, g⟩ a w K Q) 14 w (fun c => K (a.put dst (.agg c)) w) (a.eval x) :=
  wp_load_bk 27 14 _ Try.underlying27 rfl (by kernel_rfl) dst x t pos af g a w K Q
@[go_sem ↓] theorem stFrame (dst : Option Tmp) (x y : Operand) (t : TypeId) (pos : String) (af : Array Edge) (g : Option (Nat × Bool)) (a : Act) (w : World) (K : Act → World → Prop) (Q : Exit → Act → World → Prop) :
    Oper.wp Try.prog ⟨dst, .store 27 x y, t, pos, af, g⟩ a w K Q = stPtr (wpHid Try.prog ⟨dst, .store 27 x y, t, pos, af, g⟩ a w K Q) 14 w (fun w' => K (a.put dst undef) w') (a.eval x) (a.eval y) :=
  wp_store_bk 27 14 (by kernel_rfl) dst x y t pos af g a w K Q
@[go_sem ↓] theorem qlFrame (dst : Option Tmp) (x : Operand) (t : TypeId) (pos : String) (af : Array Edge) (g : Option (Nat × Bool)) (a : Act) (m : Nat) (W : World) (K : Act → Prop) :
    Oper.quiet Try.prog ⟨dst, .load 27 x, t, pos, af, g⟩ a (fun w' => ∃ x : Later m W, w' = x.w) K =
      ldLater (quietHid Try.prog ⟨dst, .load 27 x, t, pos, af, g⟩ a (fun w' => ∃ x : Later m W, w' = x.w) K) m 14 W (fun c => K (a.put dst (.agg c))) (a.eval x) :=
  quiet_load_bk 27 14 _ Try.underlying27 rfl (by kernel_rfl) dst x t pos af g a m W K
theorem eqMac (a b : List UInt8) (ha : a.length = 6) (hb : b.length = 6) (w : World) : (Op.equalIn 10000 23 (.agg (List.map B a).toArray) (.agg (List.map B b).toArray)).run Try.prog w = .ok (a == b) w :=
  run_equalIn_bytes w 9998 23 5 6 Try.underlying23 Try.underlying5 (fun _ => by kernel_rfl) a b ha hb
/-- A frame's cells. -/
def frc (d s : List UInt8) (k : Nat) (A : Option Addr) (n c : Nat) : Array Value := (List.map B d ++ (List.map B s ++ [Value.int .u16 (k : Int), Value.slice A n c])).toArray
section
variable {d s : List UInt8} {k : Nat} {A : Option Addr} {n c : Nat}
theorem frc_list (hd : d.length = 6) (hs : s.length = 6) : ∃ a0 a1 a2 a3 a4 a5 b0 b1 b2 b3 b4 b5, d = [a0, a1, a2, a3, a4, a5] ∧ s = [b0, b1, b2, b3, b4, b5] := by
  match d, hd, s, hs with
  | [a0, a1, a2, a3, a4, a5], _, [b0, b1, b2, b3, b4, b5], _ => exact ⟨a0, a1, a2, a3, a4, a5, b0, b1, b2, b3, b4, b5, rfl, rfl⟩
@[go_sem] theorem frc_size (hd : d.length = 6) (hs : s.length = 6) : (frc d s k A n c).size = 14 := by simp [frc, hd, hs]
@[go_sem] theorem frc_dst (hd : d.length = 6) : xt (frc d s k A n c) 0 6 = (List.map B d).toArray := by
  simp [xt, frc, List.extract_eq_take_drop, hd]
@[go_sem] theorem frc_src (hd : d.length = 6) (hs : s.length = 6) : xt (frc d s k A n c) 6 6 = (List.map B s).toArray := by
  simp [xt, frc, List.extract_eq_take_drop, hd, hs]
@[go_sem] theorem frc_all (hd : d.length = 6) (hs : s.length = 6) : xt (frc d s k A n c) 0 14 = frc d s k A n c := xt_whole _ _ (frc_size hd hs)
@[go_sem] theorem frc_kind (hd : d.length = 6) (hs : s.length = 6) : (frc d s k A n c)[12]? = some (.int .u16 k) := by simp [frc, hd, hs, List.getElem?_append]
@[go_sem] theorem frc_body (hd : d.length = 6) (hs : s.length = 6) : (frc d s k A n c)[13]? = some (.slice A n c) := by simp [frc, hd, hs, List.getElem?_append]
@[go_sem] theorem frc_kind' (hd : d.length = 6) (hs : s.length = 6) (h : 12 < (frc d s k A n c).size) : (frc d s k A n c)[12] = .int .u16 k := by
  have := frc_kind (k := k) (A := A) (n := n) (c := c) hd hs
  rw [Array.getElem?_eq_getElem h] at this
  exact Option.some.inj this
@[go_sem] theorem frc_body' (hd : d.length = 6) (hs : s.length = 6) (h : 13 < (frc d s k A n c).size) : (frc d s k A n c)[13] = .slice A n c := by
  have := frc_body (k := k) (A := A) (n := n) (c := c) hd hs
  rw [Array.getElem?_eq_getElem h] at this
  exact Option.some.inj this
@[go_sem] theorem frc_set (hd : d.length = 6) (hs : s.length = 6) (A' : Option Addr) (n' c' : Nat) : (frc d s k A n c).setIfInBounds 13 (.slice A' n' c') = frc d s k A' n' c' := by
  obtain ⟨a0, a1, a2, a3, a4, a5, b0, b1, b2, b3, b4, b5, rfl, rfl⟩ := frc_list hd hs
  rfl
@[go_sem] theorem frc_ones : ones (frc d s k A n c).toList = true := by simp only [frc, ones_append, ones_map]; rfl
end
theorem builtFrame (parts : List (Nat × Value)) : Try.prog.built 27 parts = Instr.fill (#[(0, 6), (6, 6), (12, 1), (13, 1)][·]?) (frc (List.replicate 6 0) (List.replicate 6 0) 0 none 0 0) parts := by kernel_rfl
@[go_sem] theorem builtFrame_all (d s : List UInt8) (k : Nat) (A : Option Addr) (n c : Nat) (hd : d.length = 6) (hs : s.length = 6) :
    Try.prog.built 27 [(0, .agg (List.map B d).toArray), (1, .agg (List.map B s).toArray), (2, .int .u16 (k : Int)), (3, .slice A n c)] = some (frc d s k A n c) := by
  rw [builtFrame, show [(0, Value.agg (List.map B d).toArray), (1, .agg (List.map B s).toArray), (2, .int .u16 (k : Int)), (3, .slice A n c)] = partsAt 0 [.agg (List.map B d).toArray, .agg (List.map B s).toArray, .int .u16 (k : Int), .slice A n c] from rfl,
    fill_all _ _ 0 0 _ (by simp [placesOk, Value.cells, hd, hs]) (by simp [widths, Value.cells, hd, hs, frc_size])]
  simp [widths, Value.cells, hd, hs, frc, List.drop_of_length_le]
@[go_sem] theorem builtFrame_none : Try.prog.built 27 [] = some (frc (List.replicate 6 0) (List.replicate 6 0) 0 none 0 0) := by rw [builtFrame]; rfl
@[go_sem ↓] theorem bwFrame (dst : Option Tmp) (ps : Array (Nat × Operand)) (t : TypeId) (pos : String) (af : Array Edge) (g : Option (Nat × Bool)) (a : Act) (w : World) (K : Act → World → Prop) (Q : Exit → Act → World → Prop) :
    Oper.wp Try.prog ⟨dst, .build 27 ps, t, pos, af, g⟩ a w K Q = bldTo (wpHid Try.prog ⟨dst, .build 27 ps, t, pos, af, g⟩ a w K Q) (fun c => K (a.put dst (.agg c)) w) (Try.prog.built 27 (ps.toList.map fun x => (x.1, a.eval x.2))) :=
  wp_build_bk 27 dst ps t pos af g a w K Q
@[go_sem ↓] theorem bqFrame (dst : Option Tmp) (ps : Array (Nat × Operand)) (t : TypeId) (pos : String) (af : Array Edge) (g : Option (Nat × Bool)) (a : Act) (m : Nat) (W : World) (K : Act → Prop) :
    Oper.quiet Try.prog ⟨dst, .build 27 ps, t, pos, af, g⟩ a (fun w' => ∃ x : Later m W, w' = x.w) K = bldTo (quietHid0 Try.prog ⟨dst, .build 27 ps, t, pos, af, g⟩ a (fun w' => ∃ x : Later m W, w' = x.w) K) (fun c => K (a.put dst (.agg c))) (Try.prog.built 27 (ps.toList.map fun x => (x.1, a.eval x.2))) :=
  quiet_build_bk 27 dst ps t pos af g a _ ⟨W, ⟨W, Below.refl _ _⟩, rfl⟩ K
theorem Rd.of_dst {w : World} {h n : Nat} {d s : List UInt8} {k : Nat} {A : Option Addr} {m c : Nat} {t : TypeId} {fr : Nat × Nat} (hb : bk w h = some (.cells (frc d s k A m c) t fr)) (hn : h < n) : Rd w n (some ⟨h, 0, none⟩) d := fun _ => ⟨h, 0, rfl, hn, fun j hj => by
  rw [bk_cell hb, Nat.zero_add]
  simp [frc, List.getElem?_append, hj, List.getElem?_eq_getElem hj]⟩
theorem Rd.of_src {w : World} {h n : Nat} {d s : List UInt8} {k : Nat} {A : Option Addr} {m c : Nat} {t : TypeId} {fr : Nat × Nat} (hb : bk w h = some (.cells (frc d s k A m c) t fr)) (hn : h < n) (hd : d.length = 6) : Rd w n (some ⟨h, 6, none⟩) s := fun _ => ⟨h, 6, rfl, hn, fun j hj => by
  rw [bk_cell hb]
  simp [frc, List.getElem?_append, hd, hj, List.getElem?_eq_getElem hj]⟩
/-- Are two frames the same. -/
theorem sameFrame_any (d s d' s' : List UInt8) (k k' : Nat) (A A' : Option Addr) (l l' : List UInt8) (c c' : Nat) (w : World) (hd : d.length = 6) (hs : s.length = 6) (hd' : d'.length = 6) (hs' : s'.length = 6)
    (h1 : Rd w w.heap.size A l) (h2 : Rd w w.heap.size A' l') (hl : l.length < 2 ^ 60) (hl' : l'.length < 2 ^ 60) :
    Calls Try.prog 21 #[.agg (frc d s k A l.length c), .agg (frc d' s' k' A' l'.length c')] w fun e w' => e = .returned (.bool (d == d' && s == s' && decide (k = k') && l == l')) ∧ Below w.heap.size w w' := by
  have q1 := eqMac d d' hd hd'
  have q2 := eqMac s s' hs hs'
  have q3 : ((k : Int) == (k' : Int)) = decide (k = k') := by rw [Bool.eq_iff_iff]; simp; omega
  have R1 := Lib.hid h1; have R2 := Lib.hid h2
  have C : ∀ w', Below w.heap.size w w' → Calls Try.prog 25 #[.slice A l.length c, .slice A' l'.length c'] w' fun e w'' => e = .returned (.bool (l == l')) ∧ Below w'.heap.size w' w'' := fun w' hb =>
    same_any A A' l l' c c' w' ((R1.out.below hb (Nat.le_refl _)).mono hb.size) ((R2.out.below hb (Nat.le_refl _)).mono hb.size) hl hl'
  have HC := Lib.hid C
  clear h1 h2 C
  generalize (d == d') = b1 at *
  generalize (s == s') = b2 at *
  generalize decide (k = k') = b3 at *
  generalize (l == l') = b4 at *
  obtain ⟨N, hN⟩ : ∃ N, N = l.length := ⟨_, rfl⟩
  obtain ⟨N', hN'⟩ : ∃ N', N' = l'.length := ⟨_, rfl⟩
  rw [← hN, ← hN'] at HC
  rw [← hN, ← hN']
  clear hN hN' hl hl' R1 R2
  go_enter Try.func21, Try.ntmps21
  cases b1
  case false =>
    go_wp2_with fail
    go_ret
    exact ⟨rfl, ((Below.refl _ _).alloc (Nat.le_refl _) _).alloc (by simp) _⟩
  cases b2
  case false =>
    go_wp2_with fail
    go_ret
    exact ⟨rfl, ((Below.refl _ _).alloc (Nat.le_refl _) _).alloc (by simp) _⟩
  cases b3
  case false =>
    go_wp2_with fail
    go_ret
    exact ⟨rfl, ((Below.refl _ _).alloc (Nat.le_refl _) _).alloc (by simp) _⟩
  go_wp2_with fail
  refine (HC.out _ (((Below.refl _ _).alloc (Nat.le_refl _) _).alloc (by simp) _)).mono ?_
  rintro e w1 ⟨rfl, b⟩
  go_wp2_with fail
  go_ret
  exact ⟨rfl, (((Below.refl w.heap.size w).alloc (Nat.le_refl _) _).alloc (by simp) _).trans (b.mono (by simp; omega))⟩
end Go.Proofs.Ytdmmfffoikelgaa
