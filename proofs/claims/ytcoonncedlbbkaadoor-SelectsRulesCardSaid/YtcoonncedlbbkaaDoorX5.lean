/- Selects: labels, the rules, which is better. -/
import Derived.Test.YtcoonncedlbbkaaDoorX4
namespace Go.Proofs.YtcoonncedlbbkaaDoor
open Go.RowKit Ad
set_option maxRecDepth 100000
set_option maxHeartbeats 1000000
@[go_sem ↓] theorem ldRule (dst : Option Tmp) (x : Operand) (t : TypeId) (pos : String) (af : Array Edge) (g : Option (Nat × Bool)) (a : Act) (w : World) (K : Act → World → Prop) (Q : Exit → Act → World → Prop) :
    Oper.wp Tryd.prog ⟨dst, .load 73 x, t, pos, af, g⟩ a w K Q = ldPtr (wpHid Tryd.prog ⟨dst, .load 73 x, t, pos, af, g⟩ a w K Q) 1 w (fun c => K (a.put dst (.agg c)) w) (a.eval x) :=
  wp_load_bk 73 1 _ Tryd.underlying73 rfl (by kernel_rfl) dst x t pos af g a w K Q
@[go_sem ↓] theorem stRule (dst : Option Tmp) (x y : Operand) (t : TypeId) (pos : String) (af : Array Edge) (g : Option (Nat × Bool)) (a : Act) (w : World) (K : Act → World → Prop) (Q : Exit → Act → World → Prop) :
    Oper.wp Tryd.prog ⟨dst, .store 73 x y, t, pos, af, g⟩ a w K Q = stPtr (wpHid Tryd.prog ⟨dst, .store 73 x y, t, pos, af, g⟩ a w K Q) 1 w (fun w' => K (a.put dst undef) w') (a.eval x) (a.eval y) :=
  wp_store_bk 73 1 (by kernel_rfl) dst x y t pos af g a w K Q
@[go_sem ↓] theorem qlRule (dst : Option Tmp) (x : Operand) (t : TypeId) (pos : String) (af : Array Edge) (g : Option (Nat × Bool)) (a : Act) (m : Nat) (W : World) (K : Act → Prop) :
    Oper.quiet Tryd.prog ⟨dst, .load 73 x, t, pos, af, g⟩ a (fun w' => ∃ x : Later m W, w' = x.w) K =
      ldLater (quietHid Tryd.prog ⟨dst, .load 73 x, t, pos, af, g⟩ a (fun w' => ∃ x : Later m W, w' = x.w) K) m 1 W (fun c => K (a.put dst (.agg c))) (a.eval x) :=
  quiet_load_bk 73 1 _ Tryd.underlying73 rfl (by kernel_rfl) dst x t pos af g a m W K
theorem slabel_any (a : List UInt8) (ha : a.length = 16) (w : World) (hk : GK w) :
    Calls Tryd.prog 10 #[av a] w fun e w' => e = .returned (.int .i64 (label a)) ∧ Below w.heap.size w w' := by
  have hw0 : 0 < w.heap.size := by obtain ⟨c, t, fr, h1, _⟩ := hk; exact bk_lt h1
  have ba : Below w.heap.size w ((w.alloc (.cells (List.map B a).toArray 23)).alloc (.cells (Bc 0 0 (.slice none 0 0)) 59)) := (by (repeat (first | exact Below.refl _ _ | assumption | refine Below.drew ?_ | refine bdrewN ?_ _ | refine Below.alloc ?_ (by first | omega | (simp <;> omega) | (simp only [World.size_alloc] <;> omega)) _ | refine below_setRow ?_ (by first | omega | (simp <;> omega)) _ | refine Below.setCell ?_ (by first | omega | (simp <;> omega)) _)))
  have kg : bk ((w.alloc (.cells (List.map B a).toArray 23)).alloc (.cells (Bc 0 0 (.slice none 0 0)) 59)) (w.heap.size + 1) = some (.cells (Bc 0 0 (.slice none 0 0)) 59 (0, 0)) := bk_alloc_at _ _ _ (by simp)
  have C := Lib.hid (label_any (w.heap.size + 1) a ha _ (hk.below ba hw0) (.inl ⟨by omega, kg⟩))
  have BA := Lib.hid ba
  clear ba kg hk
  go_enter Tryd.func10, Tryd.ntmps10
  go_wp2_with fail
  refine C.out.mono ?_
  rintro e w1 ⟨rfl, _, h1, _⟩
  have H1 := Lib.hid (BA.out.trans (h1.below (n := w.heap.size) (by omega) (by simp; omega)))
  clear h1 C BA
  go_wp2_with fail
  go_ret
  exact ⟨rfl, H1.out⟩
theorem rule4_any (g kb : Nat) (dst : List UInt8) (hd : dst.length = 16) (a b : Cd) (w : World) (hk : GK w) (hb : Bn g w ∨ Bf g w) (t : TypeId) (hkb : bk w kb = some (.cells #[.pointer (some ⟨g, 0, none⟩)] t (0, 0))) (hn : kb ≠ g) :
    Calls Tryd.prog 29 #[av dst, .agg a.row, .agg b.row, .pointer (some ⟨kb, 0, none⟩)] w fun e w' => e = .returned (.int .i64 (byI (label a.a == label dst) (label b.a == label dst))) ∧ Bf g w' ∧ Gb g w w' := by
  have hw0 : 0 < w.heap.size := by obtain ⟨c, t, fr, h1, _⟩ := hk; exact bk_lt h1
  have ba : Below w.heap.size w (B3 w dst a b) := by
    unfold B3
    (repeat (first | exact Below.refl _ _ | assumption | refine Below.drew ?_ | refine bdrewN ?_ _ | refine Below.alloc ?_ (by first | omega | (simp <;> omega) | (simp only [World.size_alloc] <;> omega)) _ | refine below_setRow ?_ (by first | omega | (simp <;> omega)) _ | refine Below.setCell ?_ (by first | omega | (simp <;> omega)) _))
  have k1 : bk (B3 w dst a b) (w.heap.size + 1) = some (.cells a.row 33 (0, 0)) := (bk_alloc_past _ _ _ (by simp)).trans (bk_alloc_at _ _ _ (by simp))
  have k2 : bk (B3 w dst a b) (w.heap.size + 2) = some (.cells b.row 33 (0, 0)) := bk_alloc_at _ _ _ (by simp)
  have kk := bk_keep ba (bk_lt hkb) hkb
  have hg0 : g < w.heap.size := by
    rcases hb with h | ⟨_, _, _, h, _⟩
    · exact bk_lt h.2
    · exact bk_lt h
  have g0 : 0 < g := by rcases hb with h | h <;> exact h.1
  have ck := bk_cell kk 0
  have C := Lib.hid (label_any g dst hd _ (hk.below ba hw0) (hb.imp (fun h => h.below ba (Nat.le_refl _)) (fun h => h.below ba (Nat.le_refl _))))
  obtain ⟨la, hla⟩ : ∃ n, n = label a.a := ⟨_, rfl⟩
  obtain ⟨lb, hlb⟩ : ∃ n, n = label b.a := ⟨_, rfl⟩
  obtain ⟨ld, hld⟩ : ∃ n, n = label dst := ⟨_, rfl⟩
  have CA : Hid (∀ w, GK w → Bf g w → Calls Tryd.prog 17 #[.pointer (some ⟨g, 0, none⟩), av a.a] w fun e w' => e = .returned (.int .i64 la) ∧ Below w.heap.size w w') := Lib.hid fun w h1 h2 => by
    rw [hla]; exact (label_any g a.a a.h w h1 (.inr h2)).mono fun _ _ h => ⟨h.1, h.2.2.2 h2⟩
  have CB : Hid (∀ w, GK w → Bf g w → Calls Tryd.prog 17 #[.pointer (some ⟨g, 0, none⟩), av b.a] w fun e w' => e = .returned (.int .i64 lb) ∧ Below w.heap.size w w') := Lib.hid fun w h1 h2 => by
    rw [hlb]; exact (label_any g b.a b.h w h1 (.inr h2)).mono fun _ _ h => ⟨h.1, h.2.2.2 h2⟩
  rw [← hla, ← hlb, ← hld]
  rw [← hld] at C
  obtain ⟨p, hp⟩ : ∃ p, (la == ld) = p := ⟨_, rfl⟩
  obtain ⟨q, hq⟩ : ∃ p, (lb == ld) = p := ⟨_, rfl⟩
  have hp' : ((la : Int) == (ld : Int)) = p := by rw [← hp, Bool.eq_iff_iff]; simp; omega
  have hq' : ((lb : Int) == (ld : Int)) = q := by rw [← hq, Bool.eq_iff_iff]; simp; omega
  rw [hp, hq]
  have HH := Lib.hid (And.intro ba (And.intro k1 (And.intro k2 (And.intro kk hk))))
  clear hla hlb hld hp hq ba k1 k2 hk hb hkb kk
  go_enter Tryd.func29, Tryd.ntmps29
  go_wp2_with fail
  refine C.out.mono ?_
  rintro e w1 ⟨rfl, hf, h1, _⟩
  obtain ⟨ba, k1, k2, kk, hk⟩ := HH.out
  have k1 := h1.keep (m := w.heap.size + 1) (by omega) k1
  have k2 := h1.keep (m := w.heap.size + 2) (by omega) k2
  have kk := h1.keep hn kk
  have l1 := bk_lt k1; have l2 := bk_lt k2
  have ck := bk_cell kk 0
  have lk := bk_lt kk
  have hk1 : GK w1 := by
    obtain ⟨c, t, fr, h0, h2⟩ := hk.below ba hw0
    exact ⟨c, t, fr, h1.keep (by omega) h0, h2⟩
  have FF := Lib.hid (And.intro ((Gb.of ba).trans h1) hf)
  have GG : Hid (∀ xw, Below w1.heap.size w1 xw → GK xw ∧ Bf g xw) := Lib.hid fun xw h => ⟨hk1.below h (by omega), hf.below h (Nat.le_refl _)⟩
  clear C HH h1 hk hk1 hf ba kk
  go_upto_region 2 with fail
  refine wp_region_later (w1.heap.size) (by kernel_rfl) (by kernel_rfl) ?_
  repeat (go_big_quiet_step (((rename_i xq; first | with_reducible exact later_call xq (Nat.le_refl _) (CA.out xq.w (GG.out _ xq.h).1 (GG.out _ xq.h).2) | with_reducible exact later_call xq (Nat.le_refl _) (CB.out xq.w (GG.out _ xq.h).1 (GG.out _ xq.h).2) | with_reducible exact later_call xq (Nat.le_refl _) (by_any p q xq.w)))))
  (first | refine wpQuiet_nil ?_ | (go_big_quiet_want; (try go_big_quiet_op); trace_state; fail))
  intro w2 hw'
  have q2 := later_elim hw'
  clear hw'
  go_wp2_with fail
  go_ret
  exact ⟨rfl, FF.out.2.below q2 (Nat.le_refl _), FF.out.1.trans (Gb.of q2)⟩
end Go.Proofs.YtcoonncedlbbkaaDoor
