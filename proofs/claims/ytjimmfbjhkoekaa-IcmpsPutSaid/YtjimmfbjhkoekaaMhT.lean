import Derived.Test.YtjimmfbjhkoekaaMhS
import Derived.Test.YtjimmfbjhkoekaaMgM
/- Icmps: what a message's kind has, the document's: most kinds. -/
namespace Go.Proofs.Ytjimmfbjhkoekaa
open Go.RowKit
set_option maxRecDepth 100000
set_option maxHeartbeats 2000000
/-- Where the document's body stands: the message's box, bytes of its own. -/
structure RBy (w W : World) (s : Nat) (m : Mv) (v : Value) (L : List UInt8) : Prop where
  bl : Below w.heap.size w W
  box : bk W s = some (.cells (mC m) 33 (0, 0))
  own : Own W (s + 1) v L
  hs : s = w.heap.size
theorem RBy.below {w W W' : World} {s : Nat} {m : Mv} {v : Value} {L : List UInt8} (h : RBy w W s m v L) (b : Below W.heap.size W W') : RBy w W' s m v L :=
  ⟨h.bl.trans (b.mono h.bl.size), bk_keep b (bk_lt h.box) h.box, h.own.below b, h.hs⟩
theorem RBy.num {w W W' : World} {s : Nat} {m : Mv} {v v' : Value} {L L' : List UInt8} (h : RBy w W s m v L) (o : Own W' W.heap.size v' L') (b : Below W.heap.size W W') : RBy w W' s m v' L' :=
  ⟨h.bl.trans (b.mono h.bl.size), bk_keep b (bk_lt h.box) h.box, o.low (bk_lt h.box), h.hs⟩
theorem RBy.app {w W W' : World} {s : Nat} {m : Mv} {v v' : Value} {L L' : List UInt8} (h : RBy w W s m v L) (o : Own W' (s + 1) v' L') (g : W.grownBy W' v.ownBlock) : RBy w W' s m v' L' :=
  ⟨h.bl.grown g h.bl.size fun k hk => by have := (h.own.lt hk).1; have := h.hs; omega, (g.block s (bk_lt h.box) fun e => by have := (h.own.lt e.symm).1; omega).trans h.box, o, h.hs⟩
theorem RBy.le {w W : World} {s : Nat} {m : Mv} {v : Value} {L : List UInt8} (h : RBy w W s m v L) : s + 1 ≤ W.heap.size := bk_lt h.box
theorem RBy.ok {w W : World} {s : Nat} {m : Mv} {v : Value} {L : List UInt8} (h : RBy w W s m v L) (hok : MvOk w w.heap.size m) : MvOk W W.heap.size m := (hok.below h.bl (Nat.le_refl _)).mono h.bl.size
def BodyR (m : Mv) (w : World) (e : Ending) (w' : World) : Prop := ∃ A c, e = .returned (.slice A (partB m.pl).length c) ∧ Own w' w.heap.size (.slice A (partB m.pl).length c) (partB m.pl) ∧ Below w.heap.size w w'
theorem RBy.fin {w W : World} {s : Nat} {m : Mv} {A : Option Addr} {c : Nat} (h : RBy w W s m (.slice A (partB m.pl).length c) (partB m.pl)) : BodyR m w (.returned (.slice A (partB m.pl).length c)) W :=
  ⟨A, c, rfl, h.own.low (by have := h.hs; omega), h.bl⟩
theorem Own.lit (W : World) (l : List UInt8) (h : l.length < 100) : Own (W.alloc (.cells (l.map B).toArray 5)) W.heap.size (.slice (some ⟨W.heap.size, 0, none⟩) l.length l.length) l :=
  .inr ⟨W.heap.size, l.length, _, rfl, Nat.le_refl _, bk_alloc_at _ _ _ rfl, Nat.le_refl _, by simp, by unfold maxLen; omega, by simp [List.take_of_length_le], .inr rfl⟩
theorem Own.len {w : World} {n N c : Nat} {A : Option Addr} {L : List UInt8} (h : Own w n (.slice A N c) L) : N = L.length := by
  rcases h with ⟨e, rfl⟩ | ⟨g, c', cur, e, _⟩
  · exact (Value.slice.inj e).2.1
  · exact (Value.slice.inj e).2.1
theorem rbody133 (m : Mv) (w : World) (hok : MvOk w w.heap.size m) (hs : Small m) (hk : m.kind = 133) : Calls Try.prog 34 #[.agg (mC m)] w fun e w' => BodyR m w e w' := by
  have OK := Lib.hid hok; have HL := Lib.hid hs; have HK := Lib.hid hk
  have b1 := hok.b1; have b2 := hok.b2; have b3 := hok.b3; have b4 := hok.b4; have b5 := hok.b5
  obtain ⟨W, hW⟩ : ∃ W, W = w.alloc (.cells (mC m) 33) := ⟨_, rfl⟩
  obtain ⟨s, hs0⟩ : ∃ s, s = w.heap.size := ⟨_, rfl⟩
  have P : Hid (RBy w W s m (.slice none 0 0) []) := Lib.hid ⟨by rw [hW]; exact (by (repeat (first | exact Below.refl _ _ | assumption | refine Below.drew ?_ | refine bdrewN ?_ _ | refine Below.alloc ?_ (by first | omega | (simp <;> omega) | (simp only [World.size_alloc] <;> omega)) _ | refine below_setRow ?_ (by first | omega | (simp <;> omega)) _ | refine Below.setCell ?_ (by first | omega | (simp <;> omega)) _))), by rw [hW, hs0]; exact bk_alloc_at _ _ _ rfl, Own.nil _ _, hs0⟩
  have HW := Lib.hid hW; have HS := Lib.hid hs0
  clear hok hs hk hW hs0
  go_enter Try.func34, Try.ntmps34
  go_upto_region 1 with fail
  rw [← HS.out]
  change Code.wp _ _ _ _ (w.alloc (.cells (mC m) 33))
  rw [← HW.out]
  clear HW
  have c0 : W.cell? ⟨s, 0, none⟩ = some (.int .u8 133) := by rw [bk_cell P.out.box, mC_0, HK.out]; rfl
  have l1 := bk_lt P.out.box
  go_upto_region 39 with fail
  clear c0 l1
  obtain ⟨X1, hX1⟩ : ∃ X : List UInt8, X = [0, 0, 0, 0] := ⟨_, rfl⟩
  have HX1 := Lib.hid hX1
  have NX1 : Hid ((X1).length = 4) := Lib.hid (by rw [hX1]; rfl)
  have P1 : Hid (RBy w (World.alloc W (.cells #[Value.int .u8 0, Value.int .u8 0, Value.int .u8 0, Value.int .u8 0] 5)) s m (.slice (some ⟨(W).heap.size, 0, none⟩) 4 4) X1) := Lib.hid (by rw [hX1]; exact (P).out.num (Own.lit W [0, 0, 0, 0] (by simp)) (by (repeat (first | exact Below.refl _ _ | assumption | refine Below.drew ?_ | refine bdrewN ?_ _ | refine Below.alloc ?_ (by first | omega | (simp <;> omega) | (simp only [World.size_alloc] <;> omega)) _ | refine below_setRow ?_ (by first | omega | (simp <;> omega)) _ | refine Below.setCell ?_ (by first | omega | (simp <;> omega)) _))))
  clear hX1
  generalize World.alloc W (.cells #[Value.int .u8 0, Value.int .u8 0, Value.int .u8 0, Value.int .u8 0] 5) = W1 at *
  generalize (W).heap.size = g1 at *
  clear P
  change Code.wp _ _ _ _ W1
  have HE : Hid ((X1) ++ optsB (m.os.map Ov.pl) = partB m.pl) := Lib.hid (by (unfold partB; rw [show m.pl.kind = 133 from HK.out, HX1.out]; rfl))
  have c41 := (bk_cell (P1).out.box 41).trans (mC_41 m)
  have lb := bk_lt (P1).out.box
  have CO := Lib.hid (roput_any m.OA m.os m.oc W1 ((P1).out.ok OK.out).os HL.out.o1 (by have := HL.out.o2; omega))
  go_wp2_with fail
  refine CO.out.mono ?_
  rintro e wo ⟨Ao, co, rfl, oo, bo⟩
  have PO := Lib.hid ((P1).out.below bo)
  have RO := Lib.hid (own_rd oo)
  have NO := Lib.hid (own_nn oo)
  have LO : Hid ((X1).length + (optsB (m.os.map Ov.pl)).length < 2 ^ 46) := Lib.hid (by have := HL.out.o2; rw [NX1.out]; omega)
  have EO : Hid (((X1) ++ optsB (m.os.map Ov.pl)).length = (partB m.pl).length) := Lib.hid (by rw [HE.out])
  clear CO oo bo c41 lb P1
  go_wp2_with (at_builtin; refine wpList_appN rfl _ _ rfl (s + 1) (.slice (some ⟨g1, 0, none⟩) (4) 4) (X1) (optsB (m.os.map Ov.pl)) _ rfl PO.out.own Ao co rfl rfl RO.out NO.out PO.out.le LO.out (partB m.pl).length EO.out ?_)
  intro Af cf wf r1 r2 _
  have PF : Hid (RBy w wf s m (.slice Af (partB m.pl).length cf) (partB m.pl)) := Lib.hid (PO.out.app (by rw [HE.out] at r1; exact r1) r2)
  clear r1 r2 RO NO LO EO PO
  go_wp2_with fail
  go_ret
  exact PF.out.fin
theorem rbody135 (m : Mv) (w : World) (hok : MvOk w w.heap.size m) (hs : Small m) (hk : m.kind = 135) : Calls Try.prog 34 #[.agg (mC m)] w fun e w' => BodyR m w e w' := by
  have OK := Lib.hid hok; have HL := Lib.hid hs; have HK := Lib.hid hk
  have b1 := hok.b1; have b2 := hok.b2; have b3 := hok.b3; have b4 := hok.b4; have b5 := hok.b5
  obtain ⟨W, hW⟩ : ∃ W, W = w.alloc (.cells (mC m) 33) := ⟨_, rfl⟩
  obtain ⟨s, hs0⟩ : ∃ s, s = w.heap.size := ⟨_, rfl⟩
  have P : Hid (RBy w W s m (.slice none 0 0) []) := Lib.hid ⟨by rw [hW]; exact (by (repeat (first | exact Below.refl _ _ | assumption | refine Below.drew ?_ | refine bdrewN ?_ _ | refine Below.alloc ?_ (by first | omega | (simp <;> omega) | (simp only [World.size_alloc] <;> omega)) _ | refine below_setRow ?_ (by first | omega | (simp <;> omega)) _ | refine Below.setCell ?_ (by first | omega | (simp <;> omega)) _))), by rw [hW, hs0]; exact bk_alloc_at _ _ _ rfl, Own.nil _ _, hs0⟩
  have HW := Lib.hid hW; have HS := Lib.hid hs0
  clear hok hs hk hW hs0
  go_enter Try.func34, Try.ntmps34
  go_upto_region 1 with fail
  rw [← HS.out]
  change Code.wp _ _ _ _ (w.alloc (.cells (mC m) 33))
  rw [← HW.out]
  clear HW
  have c0 : W.cell? ⟨s, 0, none⟩ = some (.int .u8 135) := by rw [bk_cell P.out.box, mC_0, HK.out]; rfl
  have l1 := bk_lt P.out.box
  go_upto_region 34 with fail
  clear c0 l1
  obtain ⟨X1, hX1⟩ : ∃ X : List UInt8, X = [0, 0, 0, 0] := ⟨_, rfl⟩
  have HX1 := Lib.hid hX1
  have NX1 : Hid (X1.length = 4) := Lib.hid (by rw [hX1]; rfl)
  have PQ : Hid (RBy w (World.alloc W (.cells #[Value.int .u8 0, Value.int .u8 0, Value.int .u8 0, Value.int .u8 0] 5)) s m (.slice (some ⟨W.heap.size, 0, none⟩) 4 4) X1) := Lib.hid (by rw [hX1]; exact P.out.num (Own.lit W [0, 0, 0, 0] (by simp)) (by (repeat (first | exact Below.refl _ _ | assumption | refine Below.drew ?_ | refine bdrewN ?_ _ | refine Below.alloc ?_ (by first | omega | (simp <;> omega) | (simp only [World.size_alloc] <;> omega)) _ | refine below_setRow ?_ (by first | omega | (simp <;> omega)) _ | refine Below.setCell ?_ (by first | omega | (simp <;> omega)) _))))
  clear hX1
  obtain ⟨MX2, hMX2⟩ : ∃ Z : List UInt8, Z = m.tgt := ⟨_, rfl⟩
  have EMX2 := Lib.hid hMX2
  have LMX2 : Hid ((MX2).length = 16) := Lib.hid (by have h1 := m.ht; have h2 := m.hd; have h3 := m.hg; rw [hMX2]; first | rfl | assumption | simp [nb_length])
  clear hMX2
  have lb := bk_lt (PQ).out.box
  have RD := Lib.hid (show Rd (World.alloc W (.cells #[Value.int .u8 0, Value.int .u8 0, Value.int .u8 0, Value.int .u8 0] 5)) (World.alloc W (.cells #[Value.int .u8 0, Value.int .u8 0, Value.int .u8 0, Value.int .u8 0] 5)).heap.size (some ⟨s, 9, none⟩) MX2 by rw [EMX2.out]; exact Rd.tgt PQ.out.box lb)
  obtain ⟨X2, hX2⟩ : ∃ Z : List UInt8, Z = X1 ++ MX2 := ⟨_, rfl⟩
  have HX2 := Lib.hid hX2
  have NX2 : Hid ((X2).length = 20) := Lib.hid (by rw [hX2, List.length_append, NX1.out, LMX2.out])
  have EQ : Hid (((X1) ++ MX2).length = 20) := Lib.hid (by rw [List.length_append, NX1.out, LMX2.out])
  have LQ : Hid ((X1).length + (MX2).length < 2 ^ 46) := Lib.hid (by rw [NX1.out, LMX2.out]; omega)
  clear hX2
  go_wp2_with (at_builtin; refine wpList_appN rfl _ _ rfl (s + 1) (.slice (some ⟨W.heap.size, 0, none⟩) (4) 4) (X1) (MX2) _ rfl (PQ).out.own (some ⟨s, 9, none⟩) 16 rfl LMX2.out.symm RD.out (fun e => by cases e) (PQ).out.le LQ.out (20) EQ.out ?_)
  intro A1 c1 W1 r1 r2 _
  have P1 : Hid (RBy w W1 s m (.slice A1 (20) c1) X2) := Lib.hid (by rw [HX2.out]; exact (PQ).out.app r1 r2)
  clear r1 r2 RD EQ LQ PQ lb
  go_upto_region 39 with fail
  have HE : Hid ((X2) ++ optsB (m.os.map Ov.pl) = partB m.pl) := Lib.hid (by (unfold partB; rw [show m.pl.kind = 135 from HK.out, HX2.out, HX1.out, EMX2.out]; rfl))
  have c41 := (bk_cell (P1).out.box 41).trans (mC_41 m)
  have lb := bk_lt (P1).out.box
  have CO := Lib.hid (roput_any m.OA m.os m.oc W1 ((P1).out.ok OK.out).os HL.out.o1 (by have := HL.out.o2; omega))
  go_wp2_with fail
  refine CO.out.mono ?_
  rintro e wo ⟨Ao, co, rfl, oo, bo⟩
  have PO := Lib.hid ((P1).out.below bo)
  have RO := Lib.hid (own_rd oo)
  have NO := Lib.hid (own_nn oo)
  have LO : Hid ((X2).length + (optsB (m.os.map Ov.pl)).length < 2 ^ 46) := Lib.hid (by have := HL.out.o2; rw [NX2.out]; omega)
  have EO : Hid (((X2) ++ optsB (m.os.map Ov.pl)).length = (partB m.pl).length) := Lib.hid (by rw [HE.out])
  clear CO oo bo c41 lb P1
  go_wp2_with (at_builtin; refine wpList_appN rfl _ _ rfl (s + 1) (.slice (A1) (20) c1) (X2) (optsB (m.os.map Ov.pl)) _ rfl PO.out.own Ao co rfl rfl RO.out NO.out PO.out.le LO.out (partB m.pl).length EO.out ?_)
  intro Af cf wf r1 r2 _
  have PF : Hid (RBy w wf s m (.slice Af (partB m.pl).length cf) (partB m.pl)) := Lib.hid (PO.out.app (by rw [HE.out] at r1; exact r1) r2)
  clear r1 r2 RO NO LO EO PO
  go_wp2_with fail
  go_ret
  exact PF.out.fin
theorem rbody136 (m : Mv) (w : World) (hok : MvOk w w.heap.size m) (hs : Small m) (hk : m.kind = 136) : Calls Try.prog 34 #[.agg (mC m)] w fun e w' => BodyR m w e w' := by
  have OK := Lib.hid hok; have HL := Lib.hid hs; have HK := Lib.hid hk
  have b1 := hok.b1; have b2 := hok.b2; have b3 := hok.b3; have b4 := hok.b4; have b5 := hok.b5
  obtain ⟨W, hW⟩ : ∃ W, W = w.alloc (.cells (mC m) 33) := ⟨_, rfl⟩
  obtain ⟨s, hs0⟩ : ∃ s, s = w.heap.size := ⟨_, rfl⟩
  have P : Hid (RBy w W s m (.slice none 0 0) []) := Lib.hid ⟨by rw [hW]; exact (by (repeat (first | exact Below.refl _ _ | assumption | refine Below.drew ?_ | refine bdrewN ?_ _ | refine Below.alloc ?_ (by first | omega | (simp <;> omega) | (simp only [World.size_alloc] <;> omega)) _ | refine below_setRow ?_ (by first | omega | (simp <;> omega)) _ | refine Below.setCell ?_ (by first | omega | (simp <;> omega)) _))), by rw [hW, hs0]; exact bk_alloc_at _ _ _ rfl, Own.nil _ _, hs0⟩
  have HW := Lib.hid hW; have HS := Lib.hid hs0
  clear hok hs hk hW hs0
  go_enter Try.func34, Try.ntmps34
  go_upto_region 1 with fail
  rw [← HS.out]
  change Code.wp _ _ _ _ (w.alloc (.cells (mC m) 33))
  rw [← HW.out]
  clear HW
  have c0 : W.cell? ⟨s, 0, none⟩ = some (.int .u8 136) := by rw [bk_cell P.out.box, mC_0, HK.out]; rfl
  have l1 := bk_lt P.out.box
  go_upto_region 36 with fail
  clear c0
  have c5 : W.cell? ⟨s, 5, none⟩ = some (.int .u8 (m.flags.toNat : Int)) := (bk_cell P.out.box 5).trans (mC_5 m)
  obtain ⟨X1, hX1⟩ : ∃ X : List UInt8, X = [m.flags, 0, 0, 0] := ⟨_, rfl⟩
  have HX1 := Lib.hid hX1
  have NX1 : Hid (X1.length = 4) := Lib.hid (by rw [hX1]; rfl)
  have PQ : Hid (RBy w (World.alloc W.drew (.cells #[Value.int .u8 (m.flags.toNat : Int), Value.int .u8 0, Value.int .u8 0, Value.int .u8 0] 5)) s m (.slice (some ⟨W.heap.size, 0, none⟩) 4 4) X1) := Lib.hid (by rw [hX1]; exact (P.out.below (by (repeat (first | exact Below.refl _ _ | assumption | refine Below.drew ?_ | refine bdrewN ?_ _ | refine Below.alloc ?_ (by first | omega | (simp <;> omega) | (simp only [World.size_alloc] <;> omega)) _ | refine below_setRow ?_ (by first | omega | (simp <;> omega)) _ | refine Below.setCell ?_ (by first | omega | (simp <;> omega)) _)))).num (Own.lit W.drew [m.flags, 0, 0, 0] (by simp)) (by (repeat (first | exact Below.refl _ _ | assumption | refine Below.drew ?_ | refine bdrewN ?_ _ | refine Below.alloc ?_ (by first | omega | (simp <;> omega) | (simp only [World.size_alloc] <;> omega)) _ | refine below_setRow ?_ (by first | omega | (simp <;> omega)) _ | refine Below.setCell ?_ (by first | omega | (simp <;> omega)) _))))
  clear hX1
  obtain ⟨MX2, hMX2⟩ : ∃ Z : List UInt8, Z = m.tgt := ⟨_, rfl⟩
  have EMX2 := Lib.hid hMX2
  have LMX2 : Hid ((MX2).length = 16) := Lib.hid (by have h1 := m.ht; have h2 := m.hd; have h3 := m.hg; rw [hMX2]; first | rfl | assumption | simp [nb_length])
  clear hMX2
  have lb := bk_lt (PQ).out.box
  have RD := Lib.hid (show Rd (World.alloc W.drew (.cells #[Value.int .u8 (m.flags.toNat : Int), Value.int .u8 0, Value.int .u8 0, Value.int .u8 0] 5)) (World.alloc W.drew (.cells #[Value.int .u8 (m.flags.toNat : Int), Value.int .u8 0, Value.int .u8 0, Value.int .u8 0] 5)).heap.size (some ⟨s, 9, none⟩) MX2 by rw [EMX2.out]; exact Rd.tgt PQ.out.box lb)
  obtain ⟨X2, hX2⟩ : ∃ Z : List UInt8, Z = X1 ++ MX2 := ⟨_, rfl⟩
  have HX2 := Lib.hid hX2
  have NX2 : Hid ((X2).length = 20) := Lib.hid (by rw [hX2, List.length_append, NX1.out, LMX2.out])
  have EQ : Hid (((X1) ++ MX2).length = 20) := Lib.hid (by rw [List.length_append, NX1.out, LMX2.out])
  have LQ : Hid ((X1).length + (MX2).length < 2 ^ 46) := Lib.hid (by rw [NX1.out, LMX2.out]; omega)
  clear hX2
  go_region_law (refine step_app rfl _ _ rfl (s + 1) (.slice (some ⟨W.heap.size, 0, none⟩) (4) 4) (X1) (MX2) _ rfl (PQ).out.own (some ⟨s, 9, none⟩) 16 rfl LMX2.out.symm RD.out (fun e => by cases e) (PQ).out.le LQ.out ?_; intro A1 NN c1 W1 r1 r2 _; have P1 : Hid (RBy w W1 s m (.slice A1 (20) c1) X2) := Lib.hid (by rw [HX2.out]; have e := r1.len; rw [EQ.out] at e; subst e; exact (PQ).out.app r1 r2); have EN : Hid (NN = 20) := Lib.hid (r1.len.trans EQ.out); clear r1 r2 RD EQ LQ PQ lb)
  all_goals
    obtain rfl := EN.out
    go_upto_region 39 with fail
    have HE : Hid ((X2) ++ optsB (m.os.map Ov.pl) = partB m.pl) := Lib.hid (by (unfold partB; rw [show m.pl.kind = 136 from HK.out, HX2.out, HX1.out, EMX2.out]; rfl))
    have c41 := (bk_cell (P1).out.box 41).trans (mC_41 m)
    have lb := bk_lt (P1).out.box
    have CO := Lib.hid (roput_any m.OA m.os m.oc W1 ((P1).out.ok OK.out).os HL.out.o1 (by have := HL.out.o2; omega))
    go_wp2_with fail
    refine CO.out.mono ?_
    rintro e wo ⟨Ao, co, rfl, oo, bo⟩
    have PO := Lib.hid ((P1).out.below bo)
    have RO := Lib.hid (own_rd oo)
    have NO := Lib.hid (own_nn oo)
    have LO : Hid ((X2).length + (optsB (m.os.map Ov.pl)).length < 2 ^ 46) := Lib.hid (by have := HL.out.o2; rw [NX2.out]; omega)
    have EO : Hid (((X2) ++ optsB (m.os.map Ov.pl)).length = (partB m.pl).length) := Lib.hid (by rw [HE.out])
    clear CO oo bo c41 lb P1
    go_wp2_with (at_builtin; refine wpList_appN rfl _ _ rfl (s + 1) (.slice (A1) (20) c1) (X2) (optsB (m.os.map Ov.pl)) _ rfl PO.out.own Ao co rfl rfl RO.out NO.out PO.out.le LO.out (partB m.pl).length EO.out ?_)
    intro Af cf wf r1 r2 _
    have PF : Hid (RBy w wf s m (.slice Af (partB m.pl).length cf) (partB m.pl)) := Lib.hid (PO.out.app (by rw [HE.out] at r1; exact r1) r2)
    clear r1 r2 RO NO LO EO PO
    go_wp2_with fail
    go_ret
    exact PF.out.fin
theorem rbody137 (m : Mv) (w : World) (hok : MvOk w w.heap.size m) (hs : Small m) (hk : m.kind = 137) : Calls Try.prog 34 #[.agg (mC m)] w fun e w' => BodyR m w e w' := by
  have OK := Lib.hid hok; have HL := Lib.hid hs; have HK := Lib.hid hk
  have b1 := hok.b1; have b2 := hok.b2; have b3 := hok.b3; have b4 := hok.b4; have b5 := hok.b5
  obtain ⟨W, hW⟩ : ∃ W, W = w.alloc (.cells (mC m) 33) := ⟨_, rfl⟩
  obtain ⟨s, hs0⟩ : ∃ s, s = w.heap.size := ⟨_, rfl⟩
  have P : Hid (RBy w W s m (.slice none 0 0) []) := Lib.hid ⟨by rw [hW]; exact (by (repeat (first | exact Below.refl _ _ | assumption | refine Below.drew ?_ | refine bdrewN ?_ _ | refine Below.alloc ?_ (by first | omega | (simp <;> omega) | (simp only [World.size_alloc] <;> omega)) _ | refine below_setRow ?_ (by first | omega | (simp <;> omega)) _ | refine Below.setCell ?_ (by first | omega | (simp <;> omega)) _))), by rw [hW, hs0]; exact bk_alloc_at _ _ _ rfl, Own.nil _ _, hs0⟩
  have HW := Lib.hid hW; have HS := Lib.hid hs0
  clear hok hs hk hW hs0
  go_enter Try.func34, Try.ntmps34
  go_upto_region 1 with fail
  rw [← HS.out]
  change Code.wp _ _ _ _ (w.alloc (.cells (mC m) 33))
  rw [← HW.out]
  clear HW
  have c0 : W.cell? ⟨s, 0, none⟩ = some (.int .u8 137) := by rw [bk_cell P.out.box, mC_0, HK.out]; rfl
  have l1 := bk_lt P.out.box
  go_upto_region 38 with fail
  clear c0
  obtain ⟨X1, hX1⟩ : ∃ X : List UInt8, X = [0, 0, 0, 0] := ⟨_, rfl⟩
  have HX1 := Lib.hid hX1
  have NX1 : Hid (X1.length = 4) := Lib.hid (by rw [hX1]; rfl)
  have PQ : Hid (RBy w (World.alloc W.drew (.cells #[Value.int .u8 0, Value.int .u8 0, Value.int .u8 0, Value.int .u8 0] 5)) s m (.slice (some ⟨W.heap.size, 0, none⟩) 4 4) X1) := Lib.hid (by rw [hX1]; exact (P.out.below (by (repeat (first | exact Below.refl _ _ | assumption | refine Below.drew ?_ | refine bdrewN ?_ _ | refine Below.alloc ?_ (by first | omega | (simp <;> omega) | (simp only [World.size_alloc] <;> omega)) _ | refine below_setRow ?_ (by first | omega | (simp <;> omega)) _ | refine Below.setCell ?_ (by first | omega | (simp <;> omega)) _)))).num (Own.lit W.drew [0, 0, 0, 0] (by simp)) (by (repeat (first | exact Below.refl _ _ | assumption | refine Below.drew ?_ | refine bdrewN ?_ _ | refine Below.alloc ?_ (by first | omega | (simp <;> omega) | (simp only [World.size_alloc] <;> omega)) _ | refine below_setRow ?_ (by first | omega | (simp <;> omega)) _ | refine Below.setCell ?_ (by first | omega | (simp <;> omega)) _))))
  clear hX1
  obtain ⟨Y1, hY1⟩ : ∃ Y : List UInt8, Y = m.tgt := ⟨_, rfl⟩
  obtain ⟨Y2, hY2⟩ : ∃ Y : List UInt8, Y = m.dst := ⟨_, rfl⟩
  have LY1 : Hid (Y1.length = 16) := Lib.hid (by rw [hY1]; exact m.ht)
  have LY2 : Hid (Y2.length = 16) := Lib.hid (by rw [hY2]; exact m.hd)
  have HY1 := Lib.hid hY1; have HY2 := Lib.hid hY2
  clear hY1 hY2
  have R1 : Hid (Rd (World.alloc W.drew (.cells #[Value.int .u8 0, Value.int .u8 0, Value.int .u8 0, Value.int .u8 0] 5)) (World.alloc W.drew (.cells #[Value.int .u8 0, Value.int .u8 0, Value.int .u8 0, Value.int .u8 0] 5)).heap.size (some ⟨s, 9, none⟩) Y1) := Lib.hid (by rw [HY1.out]; exact Rd.tgt PQ.out.box (bk_lt PQ.out.box))
  have Q1 : Hid (X1.length + Y1.length < 2 ^ 46) := Lib.hid (by rw [NX1.out, LY1.out]; omega)
  have F : Hid (∀ A1 N c1 W1, Own W1 (s + 1) (.slice A1 N c1) (X1 ++ Y1) → World.grownBy (World.alloc W.drew (.cells #[Value.int .u8 0, Value.int .u8 0, Value.int .u8 0, Value.int .u8 0] 5)) W1 (Value.slice (some ⟨W.heap.size, 0, none⟩) 4 4).ownBlock → RBy w W1 s m (.slice A1 N c1) (X1 ++ Y1) ∧ Rd W1 W1.heap.size (some ⟨s, 25, none⟩) Y2 ∧ (X1 ++ Y1).length + Y2.length < 2 ^ 46 ∧ N = 20) := Lib.hid fun A1 N c1 W1 r1 r2 => by
    have h := PQ.out.app r1 r2
    exact ⟨h, by rw [HY2.out]; exact Rd.dstM h.box (bk_lt h.box), by rw [List.length_append, NX1.out, LY1.out, LY2.out]; omega, by rw [r1.len, List.length_append, NX1.out, LY1.out]⟩
  go_region_law (first
    | (refine step_app rfl _ _ rfl (s + 1) (.slice (some ⟨W.heap.size, 0, none⟩) 4 4) X1 Y1 _ rfl PQ.out.own (some ⟨s, 9, none⟩) 16 rfl LY1.out.symm R1.out (fun e => by cases e) PQ.out.le Q1.out ?_; intro A1 N1 c1 W1 r1 r2 _; have P1 := Lib.hid (F.out A1 N1 c1 W1 r1 r2); have EN := Lib.hid P1.out.2.2.2; clear r1 r2 F R1 Q1)
    | (refine step_app rfl _ _ rfl (s + 1) (.slice A1 N1 c1) (X1 ++ Y1) Y2 _ rfl P1.out.1.own (some ⟨s, 25, none⟩) 16 rfl LY2.out.symm P1.out.2.1 (fun e => by cases e) P1.out.1.le P1.out.2.2.1 ?_; intro A2 N2 c2 W2 r1 r2 _; have P2 := Lib.hid (P1.out.1.app r1 r2); have EN2 : Hid (N2 = 36) := Lib.hid (by rw [r1.len, List.length_append, List.length_append, NX1.out, LY1.out, LY2.out]); clear r1 r2 P1))
  all_goals
    obtain rfl := EN2.out
    obtain ⟨X3, hX3⟩ : ∃ X : List UInt8, X = X1 ++ Y1 ++ Y2 := ⟨_, rfl⟩
    rw [← hX3] at P2
    have HX3 := Lib.hid hX3
    have NX3 : Hid (X3.length = 36) := Lib.hid (by rw [hX3, List.length_append, List.length_append, NX1.out, LY1.out, LY2.out])
    clear hX3
    go_upto_region 39 with fail
    have HE : Hid ((X3) ++ optsB (m.os.map Ov.pl) = partB m.pl) := Lib.hid (by (unfold partB; rw [show m.pl.kind = 137 from HK.out, HX3.out, HX1.out, HY1.out, HY2.out]; rfl))
    have c41 := (bk_cell (P2).out.box 41).trans (mC_41 m)
    have lb := bk_lt (P2).out.box
    have CO := Lib.hid (roput_any m.OA m.os m.oc W2 ((P2).out.ok OK.out).os HL.out.o1 (by have := HL.out.o2; omega))
    go_wp2_with fail
    refine CO.out.mono ?_
    rintro e wo ⟨Ao, co, rfl, oo, bo⟩
    have PO := Lib.hid ((P2).out.below bo)
    have RO := Lib.hid (own_rd oo)
    have NO := Lib.hid (own_nn oo)
    have LO : Hid ((X3).length + (optsB (m.os.map Ov.pl)).length < 2 ^ 46) := Lib.hid (by have := HL.out.o2; rw [NX3.out]; omega)
    have EO : Hid (((X3) ++ optsB (m.os.map Ov.pl)).length = (partB m.pl).length) := Lib.hid (by rw [HE.out])
    clear CO oo bo c41 lb P2
    go_wp2_with (at_builtin; refine wpList_appN rfl _ _ rfl (s + 1) (.slice (A2) (36) c2) (X3) (optsB (m.os.map Ov.pl)) _ rfl PO.out.own Ao co rfl rfl RO.out NO.out PO.out.le LO.out (partB m.pl).length EO.out ?_)
    intro Af cf wf r1 r2 _
    have PF : Hid (RBy w wf s m (.slice Af (partB m.pl).length cf) (partB m.pl)) := Lib.hid (PO.out.app (by rw [HE.out] at r1; exact r1) r2)
    clear r1 r2 RO NO LO EO PO
    go_wp2_with fail
    go_ret
    exact PF.out.fin
end Go.Proofs.Ytjimmfbjhkoekaa
/- Icmps: what a message's kind has, the document's: routers, echoes, questions. -/
namespace Go.Proofs.Ytjimmfbjhkoekaa
open Go.RowKit
set_option maxRecDepth 100000
set_option maxHeartbeats 2000000
theorem rbody134 (m : Mv) (w : World) (hok : MvOk w w.heap.size m) (hs : Small m) (hk : m.kind = 134) : Calls Try.prog 34 #[.agg (mC m)] w fun e w' => BodyR m w e w' := by
  have OK := Lib.hid hok; have HL := Lib.hid hs; have HK := Lib.hid hk
  have b1 := hok.b1; have b2 := hok.b2; have b3 := hok.b3; have b4 := hok.b4; have b5 := hok.b5
  obtain ⟨W, hW⟩ : ∃ W, W = w.alloc (.cells (mC m) 33) := ⟨_, rfl⟩
  obtain ⟨s, hs0⟩ : ∃ s, s = w.heap.size := ⟨_, rfl⟩
  have P : Hid (RBy w W s m (.slice none 0 0) []) := Lib.hid ⟨by rw [hW]; exact (by (repeat (first | exact Below.refl _ _ | assumption | refine Below.drew ?_ | refine bdrewN ?_ _ | refine Below.alloc ?_ (by first | omega | (simp <;> omega) | (simp only [World.size_alloc] <;> omega)) _ | refine below_setRow ?_ (by first | omega | (simp <;> omega)) _ | refine Below.setCell ?_ (by first | omega | (simp <;> omega)) _))), by rw [hW, hs0]; exact bk_alloc_at _ _ _ rfl, Own.nil _ _, hs0⟩
  have HW := Lib.hid hW; have HS := Lib.hid hs0
  clear hok hs hk hW hs0
  go_enter Try.func34, Try.ntmps34
  go_upto_region 1 with fail
  rw [← HS.out]
  change Code.wp _ _ _ _ (w.alloc (.cells (mC m) 33))
  rw [← HW.out]
  clear HW
  have c0 : W.cell? ⟨s, 0, none⟩ = some (.int .u8 134) := by rw [bk_cell P.out.box, mC_0, HK.out]; rfl
  have l1 := bk_lt P.out.box
  have c4 : W.cell? ⟨s, 4, none⟩ = some (.int .u8 (m.hops.toNat : Int)) := (bk_cell P.out.box 4).trans (mC_4 m)
  have c5 : W.cell? ⟨s, 5, none⟩ = some (.int .u8 (m.flags.toNat : Int)) := (bk_cell P.out.box 5).trans (mC_5 m)
  have c6 := (bk_cell P.out.box 6).trans (mC_6 m)
  obtain ⟨X1, hX1⟩ : ∃ X : List UInt8, X = [m.hops, m.flags] := ⟨_, rfl⟩
  have HX1 := Lib.hid hX1
  have NX1 : Hid (X1.length = 2) := Lib.hid (by rw [hX1]; rfl)
  have PQ : Hid (RBy w (World.alloc W (.cells #[Value.int .u8 (m.hops.toNat : Int), Value.int .u8 (m.flags.toNat : Int)] 5)) s m (.slice (some ⟨W.heap.size, 0, none⟩) 2 2) X1) := Lib.hid (by rw [hX1]; exact P.out.num (Own.lit W [m.hops, m.flags] (by simp)) (by (repeat (first | exact Below.refl _ _ | assumption | refine Below.drew ?_ | refine bdrewN ?_ _ | refine Below.alloc ?_ (by first | omega | (simp <;> omega) | (simp only [World.size_alloc] <;> omega)) _ | refine below_setRow ?_ (by first | omega | (simp <;> omega)) _ | refine Below.setCell ?_ (by first | omega | (simp <;> omega)) _))))
  clear hX1
  have C : Hid (Calls Try.prog 65 #[.slice (some ⟨W.heap.size, 0, none⟩) 2 2, .int .u64 (m.life : Int), .int .i64 2] (World.alloc W (.cells #[Value.int .u8 (m.hops.toNat : Int), Value.int .u8 (m.flags.toNat : Int)] 5)) fun e w' => ∃ A' c', e = .returned (.slice A' 4 c') ∧ Own w' (World.alloc W (.cells #[Value.int .u8 (m.hops.toNat : Int), Value.int .u8 (m.flags.toNat : Int)] 5)).heap.size (.slice A' 4 c') (X1 ++ nb 2 m.life) ∧ Below (World.alloc W (.cells #[Value.int .u8 (m.hops.toNat : Int), Value.int .u8 (m.flags.toNat : Int)] 5)).heap.size (World.alloc W (.cells #[Value.int .u8 (m.hops.toNat : Int), Value.int .u8 (m.flags.toNat : Int)] 5)) w') := Lib.hid (by
    have C0 := rnum_own (some ⟨W.heap.size, 0, none⟩) X1 2 m.life 2 2 (World.alloc W (.cells #[Value.int .u8 (m.hops.toNat : Int), Value.int .u8 (m.flags.toNat : Int)] 5)) (own_rd (PQ.out).own) (own_nn (PQ.out).own) (by have := NX1.out; omega) (by omega) (by omega) rfl
    simp only [NX1.out, Nat.reduceAdd] at C0
    exact C0)
  go_upto_region 29 with fail
  go_wp2_with fail
  refine (C).out.mono ?_
  rintro e W1 ⟨A1, c1, rfl, o1, b1⟩
  obtain ⟨X2, hX2⟩ : ∃ Z : List UInt8, Z = X1 ++ nb 2 m.life := ⟨_, rfl⟩
  have HX2 := Lib.hid hX2
  have NX2 : Hid ((X2).length = 4) := Lib.hid (by rw [hX2, List.length_append, NX1.out, nb_length])
  have P1 : Hid (RBy w W1 s m (.slice A1 4 c1) X2) := Lib.hid (by rw [hX2]; exact (PQ.out).num o1 b1)
  clear o1 b1 C hX2
  clear c0 l1 c4 c5 c6 PQ P
  have c7 := (bk_cell P1.out.box 7).trans (mC_7 m)
  have c8 := (bk_cell P1.out.box 8).trans (mC_8 m)
  have l1 := bk_lt P1.out.box
  go_upto_region 30 with fail
  have PD := Lib.hid (P1.out.below (W' := W1.drew) (by (repeat (first | exact Below.refl _ _ | assumption | refine Below.drew ?_ | refine bdrewN ?_ _ | refine Below.alloc ?_ (by first | omega | (simp <;> omega) | (simp only [World.size_alloc] <;> omega)) _ | refine below_setRow ?_ (by first | omega | (simp <;> omega)) _ | refine Below.setCell ?_ (by first | omega | (simp <;> omega)) _))))
  have C1 : Hid (Calls Try.prog 65 #[.slice (A1) 4 c1, .int .u64 (IntKind.u64.wrap (m.reach : Int)), .int .i64 4] (W1.drew) fun e w' => ∃ A' c', e = .returned (.slice A' 8 c') ∧ Own w' (W1.drew).heap.size (.slice A' 8 c') (X2 ++ nb 4 m.reach) ∧ Below (W1.drew).heap.size (W1.drew) w') := Lib.hid (by
    rw [show IntKind.u64.wrap (m.reach : Int) = (m.reach : Int) by rw [IntKind.wrap_u64]; omega]
    have C0 := rnum_own (A1) X2 c1 m.reach 4 4 (W1.drew) (own_rd (PD.out).own) (own_nn (PD.out).own) (by have := NX2.out; omega) (by omega) (by omega) rfl
    simp only [NX2.out, Nat.reduceAdd] at C0
    exact C0)
  have F : Hid (∀ A2 c2 W2, Own W2 W1.drew.heap.size (.slice A2 8 c2) (X2 ++ nb 4 m.reach) → Below W1.drew.heap.size W1.drew W2 → (RBy w W2 s m (.slice A2 8 c2) (X2 ++ nb 4 m.reach) ∧ W2.cell? ⟨s, 8, none⟩ = some (.int .u32 (m.retr : Int)) ∧ s < W2.heap.size) ∧
      Calls Try.prog 65 #[.slice A2 8 c2, .int .u64 (IntKind.u64.wrap (m.retr : Int)), .int .i64 4] W2 fun e w' => ∃ A' c', e = .returned (.slice A' 12 c') ∧ Own w' W2.heap.size (.slice A' 12 c') (X2 ++ nb 4 m.reach ++ nb 4 m.retr) ∧ Below W2.heap.size W2 w') := Lib.hid fun A2 c2 W2 o2 b2 => by
    have h := PD.out.num o2 b2
    refine ⟨⟨h, (bk_cell h.box 8).trans (mC_8 m), bk_lt h.box⟩, ?_⟩
    rw [show IntKind.u64.wrap (m.retr : Int) = (m.retr : Int) by rw [IntKind.wrap_u64]; omega]
    have hl : (X2 ++ nb 4 m.reach).length = 8 := by rw [List.length_append, NX2.out, nb_length]
    have C0 := rnum_own A2 (X2 ++ nb 4 m.reach) c2 m.retr 4 4 W2 (own_rd h.own) (own_nn h.own) (by omega) (by omega) (by omega) rfl
    simp only [hl, Nat.reduceAdd] at C0
    exact C0
  go_region_law (first
    | (go_simp; go_at_call 65; with_reducible refine C1.out.mono ?_; rintro e W2 ⟨A2, c2, rfl, o2, b2⟩; obtain ⟨⟨p2, d8, l2⟩, C2⟩ := F.out A2 c2 W2 o2 b2; have P2 := Lib.hid p2; have HC2 := Lib.hid C2; clear C1 o2 b2 p2 C2 F)
    | (go_simp; go_at_call 65; with_reducible refine HC2.out.mono ?_; rintro e W3 ⟨A3, c3, rfl, o3, b3⟩; have P3 := Lib.hid (P2.out.num o3 b3); clear HC2 o3 b3))
  all_goals
    obtain ⟨X3, hX3⟩ : ∃ X : List UInt8, X = X2 ++ nb 4 m.reach ++ nb 4 m.retr := ⟨_, rfl⟩
    rw [← hX3] at P3
    have HX3 := Lib.hid hX3
    have NX3 : Hid (X3.length = 12) := Lib.hid (by rw [hX3, List.length_append, List.length_append, NX2.out, nb_length, nb_length])
    clear hX3
    go_upto_region 39 with fail
    have HE : Hid ((X3) ++ optsB (m.os.map Ov.pl) = partB m.pl) := Lib.hid (by (unfold partB; rw [show m.pl.kind = 134 from HK.out, HX3.out, HX2.out, HX1.out]; rfl))
    have c41 := (bk_cell (P3).out.box 41).trans (mC_41 m)
    have lb := bk_lt (P3).out.box
    have CO := Lib.hid (roput_any m.OA m.os m.oc W3 ((P3).out.ok OK.out).os HL.out.o1 (by have := HL.out.o2; omega))
    go_wp2_with fail
    refine CO.out.mono ?_
    rintro e wo ⟨Ao, co, rfl, oo, bo⟩
    have PO := Lib.hid ((P3).out.below bo)
    have RO := Lib.hid (own_rd oo)
    have NO := Lib.hid (own_nn oo)
    have LO : Hid ((X3).length + (optsB (m.os.map Ov.pl)).length < 2 ^ 46) := Lib.hid (by have := HL.out.o2; rw [NX3.out]; omega)
    have EO : Hid (((X3) ++ optsB (m.os.map Ov.pl)).length = (partB m.pl).length) := Lib.hid (by rw [HE.out])
    clear CO oo bo c41 lb P3
    go_wp2_with (at_builtin; refine wpList_appN rfl _ _ rfl (s + 1) (.slice (A3) (12) c3) (X3) (optsB (m.os.map Ov.pl)) _ rfl PO.out.own Ao co rfl rfl RO.out NO.out PO.out.le LO.out (partB m.pl).length EO.out ?_)
    intro Af cf wf r1 r2 _
    have PF : Hid (RBy w wf s m (.slice Af (partB m.pl).length cf) (partB m.pl)) := Lib.hid (PO.out.app (by rw [HE.out] at r1; exact r1) r2)
    clear r1 r2 RO NO LO EO PO
    go_wp2_with fail
    go_ret
    exact PF.out.fin
theorem rbodyD (m : Mv) (w : World) (hok : MvOk w w.heap.size m) (hs : Small m) (h1 : m.kind ≠ 130) (h2 : m.kind ≠ 143) (h3 : m.kind ≠ 134) (h4 : m.kind ≠ 133) (h5 : m.kind ≠ 135) (h6 : m.kind ≠ 136) (h7 : m.kind ≠ 137) : Calls Try.prog 34 #[.agg (mC m)] w fun e w' => BodyR m w e w' := by
  have OK := Lib.hid hok; have HL := Lib.hid hs
  have b1 := hok.b1
  obtain ⟨W, hW⟩ : ∃ W, W = w.alloc (.cells (mC m) 33) := ⟨_, rfl⟩
  obtain ⟨s, hs0⟩ : ∃ s, s = w.heap.size := ⟨_, rfl⟩
  have P : Hid (RBy w W s m (.slice none 0 0) []) := Lib.hid ⟨by rw [hW]; exact (by (repeat (first | exact Below.refl _ _ | assumption | refine Below.drew ?_ | refine bdrewN ?_ _ | refine Below.alloc ?_ (by first | omega | (simp <;> omega) | (simp only [World.size_alloc] <;> omega)) _ | refine below_setRow ?_ (by first | omega | (simp <;> omega)) _ | refine Below.setCell ?_ (by first | omega | (simp <;> omega)) _))), by rw [hW, hs0]; exact bk_alloc_at _ _ _ rfl, Own.nil _ _, hs0⟩
  have HW := Lib.hid hW; have HS := Lib.hid hs0
  have HE : Hid (nb 4 m.param ++ m.dd = partB m.pl) := Lib.hid (by
    unfold partB
    have e : m.pl.kind = m.kind := rfl
    rw [e, if_neg h1, if_neg h2, if_neg h3, if_neg h4, if_neg h5, if_neg h6, if_neg h7]
    rfl)
  have n1 : ((m.kind.toNat : Int) == 130) = false := u8ne (c := 130) (by decide) h1; have n2 : ((m.kind.toNat : Int) == 143) = false := u8ne (c := 143) (by decide) h2; have n3 : ((m.kind.toNat : Int) == 134) = false := u8ne (c := 134) (by decide) h3; have n4 : ((m.kind.toNat : Int) == 133) = false := u8ne (c := 133) (by decide) h4; have n5 : ((m.kind.toNat : Int) == 135) = false := u8ne (c := 135) (by decide) h5; have n6 : ((m.kind.toNat : Int) == 136) = false := u8ne (c := 136) (by decide) h6; have n7 : ((m.kind.toNat : Int) == 137) = false := u8ne (c := 137) (by decide) h7
  clear hok hs hW hs0 h1 h2 h3 h4 h5 h6 h7
  go_enter Try.func34, Try.ntmps34
  go_upto_region 1 with fail
  rw [← HS.out]
  change Code.wp _ _ _ _ (w.alloc (.cells (mC m) 33))
  rw [← HW.out]
  clear HW
  have c0 : W.cell? ⟨s, 0, none⟩ = some (.int .u8 (m.kind.toNat : Int)) := (bk_cell P.out.box 0).trans (mC_0 m)
  have l1 := bk_lt P.out.box
  have c2 := (bk_cell P.out.box 2).trans (mC_2 m)
  have c3 := (bk_cell P.out.box 3).trans (mC_3 m)
  go_upto_region 3 with fail
  have PD := Lib.hid (P.out.below (W' := W.drew) (by (repeat (first | exact Below.refl _ _ | assumption | refine Below.drew ?_ | refine bdrewN ?_ _ | refine Below.alloc ?_ (by first | omega | (simp <;> omega) | (simp only [World.size_alloc] <;> omega)) _ | refine below_setRow ?_ (by first | omega | (simp <;> omega)) _ | refine Below.setCell ?_ (by first | omega | (simp <;> omega)) _))))
  obtain ⟨X0, hX0⟩ : ∃ X : List UInt8, X = [] := ⟨_, rfl⟩
  have NX0 : Hid (X0.length = 0) := Lib.hid (by rw [hX0]; rfl)
  have HX0 := Lib.hid hX0
  rw [← hX0] at PD
  clear hX0
  have C1 : Hid (Calls Try.prog 65 #[.slice (none) 0 0, .int .u64 (IntKind.u64.wrap (m.param : Int)), .int .i64 4] (W.drew) fun e w' => ∃ A' c', e = .returned (.slice A' 4 c') ∧ Own w' (W.drew).heap.size (.slice A' 4 c') (X0 ++ nb 4 m.param) ∧ Below (W.drew).heap.size (W.drew) w') := Lib.hid (by
    rw [show IntKind.u64.wrap (m.param : Int) = (m.param : Int) by rw [IntKind.wrap_u64]; omega]
    have C0 := rnum_own (none) X0 0 m.param 4 4 (W.drew) (own_rd (PD.out).own) (own_nn (PD.out).own) (by have := NX0.out; omega) (by omega) (by omega) rfl
    simp only [NX0.out, Nat.reduceAdd] at C0
    exact C0)
  have ND : Hid (m.DA = none → m.dd = [] ∧ m.dc = 0) := Lib.hid OK.out.dn
  have F : Hid (∀ A2 c2 W2, Own W2 W.drew.heap.size (.slice A2 4 c2) (X0 ++ nb 4 m.param) → Below W.drew.heap.size W.drew W2 → (RBy w W2 s m (.slice A2 4 c2) (X0 ++ nb 4 m.param) ∧ W2.cell? ⟨s, 3, none⟩ = some (.slice m.DA m.dd.length m.dc) ∧ s < W2.heap.size) ∧ Rd W2 W2.heap.size m.DA m.dd) := Lib.hid fun A2 c2 W2 o2 b2 => by
    have h := PD.out.num o2 b2
    exact ⟨⟨h, (bk_cell h.box 3).trans (mC_3 m), bk_lt h.box⟩, (h.ok OK.out).d⟩
  have LQ : Hid ((X0 ++ nb 4 m.param).length + m.dd.length < 2 ^ 46) := Lib.hid (by rw [List.length_append, NX0.out, nb_length]; have := HL.out.d; omega)
  go_region_law (first
    | (go_simp; go_at_call 65; with_reducible refine C1.out.mono ?_; rintro e W2 ⟨A2, c2', rfl, o2, b2⟩; obtain ⟨⟨p2, d8, l2⟩, rd2⟩ := F.out A2 c2' W2 o2 b2; have P2 := Lib.hid p2; have RD2 := Lib.hid rd2; clear C1 o2 b2 p2 rd2 F)
    | (refine step_app rfl _ _ rfl (s + 1) (.slice A2 4 c2') (X0 ++ nb 4 m.param) m.dd _ rfl P2.out.own m.DA m.dc rfl rfl RD2.out ND.out P2.out.le LQ.out ?_; intro A3 N3 c3' W3 r1 r2 _; have P3 := Lib.hid (P2.out.app r1 r2); have EN : Hid (N3 = (partB m.pl).length) := Lib.hid (by rw [r1.len, HX0.out, List.nil_append, HE.out]); clear r1 r2 P2 RD2))
  all_goals
    obtain rfl := EN.out
    rw [HX0.out, List.nil_append, HE.out] at P3
    go_wp2_with fail
    go_ret
    exact P3.out.fin
end Go.Proofs.Ytjimmfbjhkoekaa
/- Icmps: what a message's kind has, the document's: questions to listeners. -/
namespace Go.Proofs.Ytjimmfbjhkoekaa
open Go.RowKit
set_option maxRecDepth 100000
set_option maxHeartbeats 2000000
/-- A row of addresses reads as bytes. -/
theorem Rws.rd16 {w : World} {n g o : Nat} {ss : List (List UInt8)} (h : Rws 16 adr w n (some ⟨g, o, none⟩) ss) (h16 : ∀ z ∈ ss, z.length = 16) {k : Nat} (hk : k < ss.length) : Rd w n (some ⟨g, o + k * 16, none⟩) ss[k] := fun _ => by
  obtain ⟨g', o', c, t, fr, e, hg, hb, hr⟩ := h (by intro e; rw [e] at hk; simp at hk)
  cases e
  obtain ⟨h1, h2⟩ := hr k hk
  have hz := h16 _ (List.getElem_mem hk)
  refine ⟨g, o + k * 16, rfl, hg, fun j hj => ?_⟩
  rw [bk_cell hb]
  have : (xt c (o + k * 16) 16)[j]? = c[o + k * 16 + j]? := by
    unfold xt
    rw [Array.getElem?_extract, if_pos (by omega)]
  rw [← this, h2]
  simp [hj]
theorem rbody130 (m : Mv) (w : World) (hok : MvOk w w.heap.size m) (hs : Small m) (hk : m.kind = 130) (h64 : m.ss.length ≤ 64) : Calls Try.prog 34 #[.agg (mC m)] w fun e w' => BodyR m w e w' := by
  have OK := Lib.hid hok; have HL := Lib.hid hs; have HK := Lib.hid hk
  have b1 := hok.b1; have b2 := hok.b2; have b3 := hok.b3; have b4 := hok.b4; have b5 := hok.b5
  obtain ⟨W, hW⟩ : ∃ W, W = w.alloc (.cells (mC m) 33) := ⟨_, rfl⟩
  obtain ⟨s, hs0⟩ : ∃ s, s = w.heap.size := ⟨_, rfl⟩
  have P : Hid (RBy w W s m (.slice none 0 0) []) := Lib.hid ⟨by rw [hW]; exact (by (repeat (first | exact Below.refl _ _ | assumption | refine Below.drew ?_ | refine bdrewN ?_ _ | refine Below.alloc ?_ (by first | omega | (simp <;> omega) | (simp only [World.size_alloc] <;> omega)) _ | refine below_setRow ?_ (by first | omega | (simp <;> omega)) _ | refine Below.setCell ?_ (by first | omega | (simp <;> omega)) _))), by rw [hW, hs0]; exact bk_alloc_at _ _ _ rfl, Own.nil _ _, hs0⟩
  have HW := Lib.hid hW; have HS := Lib.hid hs0
  clear hok hs hk hW hs0
  go_enter Try.func34, Try.ntmps34
  go_upto_region 1 with fail
  rw [← HS.out]
  change Code.wp _ _ _ _ (w.alloc (.cells (mC m) 33))
  rw [← HW.out]
  clear HW
  have c0 : W.cell? ⟨s, 0, none⟩ = some (.int .u8 130) := by rw [bk_cell P.out.box, mC_0, HK.out]; rfl
  have l1 := bk_lt P.out.box
  have c42 := (bk_cell P.out.box 42).trans (mC_42 m)
  obtain ⟨X0, hX0⟩ : ∃ X : List UInt8, X = [] := ⟨_, rfl⟩
  have NX0 : Hid (X0.length = 0) := Lib.hid (by rw [hX0]; rfl)
  have HX0 := Lib.hid hX0
  rw [← hX0] at P
  clear hX0
  have C : Hid (Calls Try.prog 65 #[.slice (none) 0 0, .int .u64 (m.mx : Int), .int .i64 2] (W) fun e w' => ∃ A' c', e = .returned (.slice A' 2 c') ∧ Own w' (W).heap.size (.slice A' 2 c') (X0 ++ nb 2 m.mx) ∧ Below (W).heap.size (W) w') := Lib.hid (by
    have C0 := rnum_own (none) X0 0 m.mx 2 2 (W) (own_rd (P.out).own) (own_nn (P.out).own) (by have := NX0.out; omega) (by omega) (by omega) rfl
    simp only [NX0.out, Nat.reduceAdd] at C0
    exact C0)
  go_upto_region 5 with fail
  go_wp2_with fail
  refine (C).out.mono ?_
  rintro e W1 ⟨A1, c1, rfl, o1, b1⟩
  obtain ⟨X1, hX1⟩ : ∃ Z : List UInt8, Z = X0 ++ nb 2 m.mx := ⟨_, rfl⟩
  have HX1 := Lib.hid hX1
  have NX1 : Hid ((X1).length = 2) := Lib.hid (by rw [hX1, List.length_append, NX0.out, nb_length])
  have P1 : Hid (RBy w W1 s m (.slice A1 2 c1) X1) := Lib.hid (by rw [hX1]; exact (P.out).num o1 b1)
  clear o1 b1 C hX1
  clear c0 l1 c42 P
  go_upto_region 6 with fail
  have PQ : Hid (RBy w (World.alloc W1 (.cells #[Value.int .u8 0, Value.int .u8 0] 5)) s m (.slice A1 2 c1) X1) := Lib.hid (P1.out.below (by (repeat (first | exact Below.refl _ _ | assumption | refine Below.drew ?_ | refine bdrewN ?_ _ | refine Below.alloc ?_ (by first | omega | (simp <;> omega) | (simp only [World.size_alloc] <;> omega)) _ | refine below_setRow ?_ (by first | omega | (simp <;> omega)) _ | refine Below.setCell ?_ (by first | omega | (simp <;> omega)) _))))
  obtain ⟨MX2, hMX2⟩ : ∃ Z : List UInt8, Z = ([0, 0] : List UInt8) := ⟨_, rfl⟩
  have EMX2 := Lib.hid hMX2
  have LMX2 : Hid ((MX2).length = 2) := Lib.hid (by have h1 := m.ht; have h2 := m.hd; have h3 := m.hg; rw [hMX2]; first | rfl | assumption | simp [nb_length])
  clear hMX2
  have lb := bk_lt (PQ).out.box
  have RD := Lib.hid (show Rd (World.alloc W1 (.cells #[Value.int .u8 0, Value.int .u8 0] 5)) (World.alloc W1 (.cells #[Value.int .u8 0, Value.int .u8 0] 5)).heap.size (some ⟨W1.heap.size, 0, none⟩) MX2 by rw [EMX2.out]; exact (Rd.lit W1 [0, 0] 5))
  obtain ⟨X2, hX2⟩ : ∃ Z : List UInt8, Z = X1 ++ MX2 := ⟨_, rfl⟩
  have HX2 := Lib.hid hX2
  have NX2 : Hid ((X2).length = 4) := Lib.hid (by rw [hX2, List.length_append, NX1.out, LMX2.out])
  have EQ : Hid (((X1) ++ MX2).length = 4) := Lib.hid (by rw [List.length_append, NX1.out, LMX2.out])
  have LQ : Hid ((X1).length + (MX2).length < 2 ^ 46) := Lib.hid (by rw [NX1.out, LMX2.out]; omega)
  clear hX2
  go_wp2_with (at_builtin; refine wpList_appN rfl _ _ rfl (s + 1) (.slice (A1) (2) c1) (X1) (MX2) _ rfl (PQ).out.own (some ⟨W1.heap.size, 0, none⟩) 2 rfl LMX2.out.symm RD.out (fun e => by cases e) (PQ).out.le LQ.out (4) EQ.out ?_)
  intro A2 c2 W2 r1 r2 _
  have P2 : Hid (RBy w W2 s m (.slice A2 (4) c2) X2) := Lib.hid (by rw [HX2.out]; exact (PQ).out.app r1 r2)
  clear r1 r2 RD EQ LQ PQ lb
  go_upto_region 7 with fail
  obtain ⟨MX3, hMX3⟩ : ∃ Z : List UInt8, Z = m.grp := ⟨_, rfl⟩
  have EMX3 := Lib.hid hMX3
  have LMX3 : Hid ((MX3).length = 16) := Lib.hid (by have h1 := m.ht; have h2 := m.hd; have h3 := m.hg; rw [hMX3]; first | rfl | assumption | simp [nb_length])
  clear hMX3
  have lb := bk_lt (P2).out.box
  have RD := Lib.hid (show Rd (W2) (W2).heap.size (some ⟨s, 43, none⟩) MX3 by rw [EMX3.out]; exact Rd.grp P2.out.box lb)
  obtain ⟨X3, hX3⟩ : ∃ Z : List UInt8, Z = X2 ++ MX3 := ⟨_, rfl⟩
  have HX3 := Lib.hid hX3
  have NX3 : Hid ((X3).length = 20) := Lib.hid (by rw [hX3, List.length_append, NX2.out, LMX3.out])
  have EQ : Hid (((X2) ++ MX3).length = 20) := Lib.hid (by rw [List.length_append, NX2.out, LMX3.out])
  have LQ : Hid ((X2).length + (MX3).length < 2 ^ 46) := Lib.hid (by rw [NX2.out, LMX3.out]; omega)
  clear hX3
  go_wp2_with (at_builtin; refine wpList_appN rfl _ _ rfl (s + 1) (.slice (A2) (4) c2) (X2) (MX3) _ rfl (P2).out.own (some ⟨s, 43, none⟩) 16 rfl LMX3.out.symm RD.out (fun e => by cases e) (P2).out.le LQ.out (20) EQ.out ?_)
  intro A3 c3 W3 r1 r2 _
  have P3 : Hid (RBy w W3 s m (.slice A3 (20) c3) X3) := Lib.hid (by rw [HX3.out]; exact (P2).out.app r1 r2)
  clear r1 r2 RD EQ LQ P2 lb
  have c59 : W3.cell? ⟨s, 59, none⟩ = some (.int .u8 (m.rob.toNat : Int)) := (bk_cell P3.out.box 59).trans (mC_59 m)
  have c60 : W3.cell? ⟨s, 60, none⟩ = some (.int .u8 (m.int.toNat : Int)) := (bk_cell P3.out.box 60).trans (mC_60 m)
  have l1 := bk_lt P3.out.box
  go_upto_region 8 with fail
  have PQ : Hid (RBy w (World.alloc W3 (.cells #[Value.int .u8 (m.rob.toNat : Int), Value.int .u8 (m.int.toNat : Int)] 5)) s m (.slice A3 20 c3) X3) := Lib.hid (P3.out.below (by (repeat (first | exact Below.refl _ _ | assumption | refine Below.drew ?_ | refine bdrewN ?_ _ | refine Below.alloc ?_ (by first | omega | (simp <;> omega) | (simp only [World.size_alloc] <;> omega)) _ | refine below_setRow ?_ (by first | omega | (simp <;> omega)) _ | refine Below.setCell ?_ (by first | omega | (simp <;> omega)) _))))
  obtain ⟨MX4, hMX4⟩ : ∃ Z : List UInt8, Z = ([m.rob, m.int] : List UInt8) := ⟨_, rfl⟩
  have EMX4 := Lib.hid hMX4
  have LMX4 : Hid ((MX4).length = 2) := Lib.hid (by have h1 := m.ht; have h2 := m.hd; have h3 := m.hg; rw [hMX4]; first | rfl | assumption | simp [nb_length])
  clear hMX4
  have lb := bk_lt (PQ).out.box
  have RD := Lib.hid (show Rd (World.alloc W3 (.cells #[Value.int .u8 (m.rob.toNat : Int), Value.int .u8 (m.int.toNat : Int)] 5)) (World.alloc W3 (.cells #[Value.int .u8 (m.rob.toNat : Int), Value.int .u8 (m.int.toNat : Int)] 5)).heap.size (some ⟨W3.heap.size, 0, none⟩) MX4 by rw [EMX4.out]; exact (Rd.lit W3 [m.rob, m.int] 5))
  obtain ⟨X4, hX4⟩ : ∃ Z : List UInt8, Z = X3 ++ MX4 := ⟨_, rfl⟩
  have HX4 := Lib.hid hX4
  have NX4 : Hid ((X4).length = 22) := Lib.hid (by rw [hX4, List.length_append, NX3.out, LMX4.out])
  have EQ : Hid (((X3) ++ MX4).length = 22) := Lib.hid (by rw [List.length_append, NX3.out, LMX4.out])
  have LQ : Hid ((X3).length + (MX4).length < 2 ^ 46) := Lib.hid (by rw [NX3.out, LMX4.out]; omega)
  clear hX4
  go_wp2_with (at_builtin; refine wpList_appN rfl _ _ rfl (s + 1) (.slice (A3) (20) c3) (X3) (MX4) _ rfl (PQ).out.own (some ⟨W3.heap.size, 0, none⟩) 2 rfl LMX4.out.symm RD.out (fun e => by cases e) (PQ).out.le LQ.out (22) EQ.out ?_)
  intro A4 c4 W4 r1 r2 _
  have P4 : Hid (RBy w W4 s m (.slice A4 (22) c4) X4) := Lib.hid (by rw [HX4.out]; exact (PQ).out.app r1 r2)
  clear r1 r2 RD EQ LQ PQ lb
  clear c59 c60 l1
  obtain ⟨N, hN⟩ : ∃ N, N = m.ss.length := ⟨_, rfl⟩
  have HN := Lib.hid hN
  have c61 := (bk_cell P4.out.box 61).trans (mC_61 m)
  rw [← hN] at c61 h64
  clear hN
  have l1 := bk_lt P4.out.box
  have C : Hid (Calls Try.prog 65 #[.slice (A4) 22 c4, .int .u64 (N : Int), .int .i64 2] (W4) fun e w' => ∃ A' c', e = .returned (.slice A' 24 c') ∧ Own w' (W4).heap.size (.slice A' 24 c') (X4 ++ nb 2 N) ∧ Below (W4).heap.size (W4) w') := Lib.hid (by
    have C0 := rnum_own (A4) X4 c4 N 2 2 (W4) (own_rd (P4.out).own) (own_nn (P4.out).own) (by have := NX4.out; omega) (by omega) (by omega) rfl
    simp only [NX4.out, Nat.reduceAdd] at C0
    exact C0)
  go_upto_region 9 with fail
  go_wp2_with fail
  refine (C).out.mono ?_
  rintro e W5 ⟨A5, c5, rfl, o1, b1⟩
  obtain ⟨X5, hX5⟩ : ∃ Z : List UInt8, Z = X4 ++ nb 2 N := ⟨_, rfl⟩
  have HX5 := Lib.hid hX5
  have NX5 : Hid ((X5).length = 24) := Lib.hid (by rw [hX5, List.length_append, NX4.out, nb_length])
  have P5 : Hid (RBy w W5 s m (.slice A5 24 c5) X5) := Lib.hid (by rw [hX5]; exact (P4.out).num o1 b1)
  clear o1 b1 C hX5
  clear l1 c61 P4
  go_wp2_with fail
  go_loopw [3, 4] (fun v i W => ∃ (k : Nat) (A : Option Addr) (n c : Nat), k ≤ N ∧ i = .int .i64 k ∧ v = .slice A n c ∧ Hid (RBy w W s m (.slice A n c) (X5 ++ (m.ss.take k).flatten))) (fun _ i _ => N - (intOf i).toNat)
  case atStart => exact ⟨0, A5, 24, c5, by omega, rfl, rfl, Lib.hid (by simpa using P5.out)⟩
  case round =>
    clear P5
    obtain ⟨k, A, n, c, hkN, rfl, rfl, P⟩ := hrel
    have c61 := (bk_cell P.out.box 61).trans (mC_61 m)
    rw [← HN.out] at c61
    have lb := bk_lt P.out.box
    by_cases hlt : k < N
    · have d1 : decide ((k : Int) < (N : Int)) = true := by simp; omega
      have d1' : decide (k < N) = true := by simp; omega
      have hks : k < m.ss.length := by rw [← HN.out]; exact hlt
      have hrow := (P.out.ok OK.out).ss
      obtain ⟨g, o, cc, t, fr, e, hg, hbg, _⟩ := hrow (by intro e; rw [e] at hks; simp at hks)
      rw [e] at hrow c61
      have RD := Lib.hid (hrow.rd16 OK.out.s16 hks)
      have L16 : Hid (16 = (m.ss[k]).length) := Lib.hid (OK.out.s16 _ (List.getElem_mem hks)).symm
      have LQ : Hid ((X5 ++ (m.ss.take k).flatten).length + (m.ss[k]).length < 2 ^ 46) := Lib.hid (by have := take_flat_le OK.out.s16 k; rw [List.length_append, NX5.out, ← L16.out]; have := HN.out; omega)
      have l2 := bk_lt hbg
      have HT := Lib.hid (take_flat hks)
      obtain ⟨Z, hZ⟩ : ∃ Z, Z = X5 ++ (m.ss.take k).flatten := ⟨_, rfl⟩
      rw [← hZ] at P LQ
      obtain ⟨z, hz⟩ : ∃ z, z = m.ss[k] := ⟨_, rfl⟩
      rw [← hz] at RD L16 LQ HT
      have HZ := Lib.hid hZ
      clear hrow hbg e hz hZ
      go_wp2_with (at_builtin; refine wpList_appN rfl _ _ rfl (s + 1) (.slice A n c) Z z _ rfl P.out.own (some ⟨g, o + k * 16, none⟩) 16 rfl L16.out RD.out (fun e => by cases e) P.out.le LQ.out (Z.length + z.length) List.length_append ?_)
      intro A' c' W' r1 r2 _
      have P' : Hid (RBy w W' s m (.slice A' (Z.length + z.length) c') (X5 ++ (m.ss.take (k + 1)).flatten)) := Lib.hid (by rw [HT.out, ← List.append_assoc, ← HZ.out]; exact P.out.app r1 r2)
      clear r1 r2 RD L16 LQ P HT HZ lb l2 c61
      go_wp2
      go_roundw
      case rel => exact ⟨k + 1, A', _, c', by omega, by go_num, rfl, P'⟩
      case measure => simp [intOf]; omega
    · have d1 : decide ((k : Int) < (N : Int)) = false := by simp; omega
      have d1' : decide (k < N) = false := by simp; omega
      obtain rfl : k = N := by omega
      have HE : Hid (X5 ++ (m.ss.take k).flatten = partB m.pl) := Lib.hid (by
        unfold partB
        rw [show m.pl.kind = 130 from HK.out, HN.out, List.take_length, HX5.out, HX4.out, HX3.out, HX2.out, HX1.out, HX0.out, EMX2.out, EMX3.out, EMX4.out, if_pos rfl, HN.out]
        simp [Mv.pl])
      have EN := Lib.hid (P.out.own.len)
      rw [HE.out] at P EN
      obtain rfl := EN.out
      clear hlt HE EN
      go_wp2
      go_ret
      exact P.out.fin
end Go.Proofs.Ytjimmfbjhkoekaa
