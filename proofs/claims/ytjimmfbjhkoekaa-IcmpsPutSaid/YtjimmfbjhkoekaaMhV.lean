import Derived.Test.YtjimmfbjhkoekaaMhS
import Derived.Test.YtjimmfbjhkoekaaMhU
import Derived.Test.YtjimmfbjhkoekaaMgF
import Derived.Test.YtjimmfbjhkoekaaMgL
import Derived.Test.YtjimmfbjhkoekaaMhR
import Derived.Test.YtjimmfbjhkoekaaMhI
import Derived.Test.YtjimmfbjhkoekaaMgT
/- Icmps: the document's Put. -/
namespace Go.Proofs.Ytjimmfbjhkoekaa
open Go.RowKit
set_option maxRecDepth 100000
set_option maxHeartbeats 2000000
@[go_sem ↓] theorem qfMsgP (dst : Option Tmp) (x : Operand) (t : TypeId) (pos : String) (af : Array Edge) (g : Option (Nat × Bool)) (a : Act) (m : Nat) (W : World) (gs : List (Nat × (World → Prop))) [Nonempty (LaterF m W gs)] (K : Act → Prop) :
    Oper.quiet Try.prog ⟨dst, .load 33 x, t, pos, af, g⟩ a (fun w' => ∃ x : LaterF m W gs, w' = x.w) K =
      ldF (quietHid Try.prog ⟨dst, .load 33 x, t, pos, af, g⟩ a (fun w' => ∃ x : LaterF m W gs, w' = x.w) K) gs m 63 W (fun c => K (a.put dst (.agg c))) (a.eval x) :=
  quiet_load_F 33 63 _ Try.underlying33 rfl (by kernel_rfl) dst x t pos af g a m W gs K
theorem rbody_any (m : Mv) (w : World) (hok : MvOk w w.heap.size m) (hs : Small m) (h : okM m.pl = true) : Calls Try.prog 34 #[.agg (mC m)] w fun e w' => BodyR m w e w' := by
  obtain ⟨hmay, hkk⟩ : mayB m.pl = true ∧ isK m.kind = true := by unfold okM at h; rwa [Bool.and_eq_true] at h
  have hms := may_small hmay
  by_cases k1 : m.kind = 130
  · exact rbody130 m w hok hs k1 (hms.1 k1)
  by_cases k2 : m.kind = 143
  · exact rbody143 m w hok hs k2 (hms.2 k2).1 (hms.2 k2).2
  by_cases k3 : m.kind = 134
  · exact rbody134 m w hok hs k3
  by_cases k4 : m.kind = 133
  · exact rbody133 m w hok hs k4
  by_cases k5 : m.kind = 135
  · exact rbody135 m w hok hs k5
  by_cases k6 : m.kind = 136
  · exact rbody136 m w hok hs k6
  by_cases k7 : m.kind = 137
  · exact rbody137 m w hok hs k7
  · exact rbodyD m w hok hs k1 k2 k3 k4 k5 k6 k7
section
variable {n : Nat}
theorem Own.kept {D : List TypeId} {w w' : World} {v : Value} {L : List UInt8} (h : Own w n v L) (hd : 5 ∉ D) (hk : Kept n D w w') : Own w' n v L := by
  rcases h with h | ⟨g, c, cur, e, hg, hb, r⟩
  · exact .inl h
  · exact .inr ⟨g, c, cur, e, hg, hk.row hb hd, r⟩
/-- A call hands back bytes of one's own. -/
def MadeW.ownO (n : Nat) (l : List UInt8) : MadeW n where
  T v := ∃ A c, v = .slice A l.length c ∧ (A = none → l = [] ∧ c = 0) ∧ l.length ≤ c
  R v w := Own w n v l
  D := []
  O := [5]
  inh := ⟨.slice (some ⟨0, 0, none⟩) l.length l.length, _, _, rfl, fun h => (by cases h), Nat.le_refl _⟩
  mono := fun D v w w' hd hk h => h.kept (fun h' => hd _ h' (by simp)) hk
theorem ownO_T {M : MadeW n} {l : List UInt8} {v : Value} (HM : Hid (M = MadeW.ownO n l)) (h : M.T v) : ∃ A c, v = .slice A l.length c ∧ (A = none → l = [] ∧ c = 0) ∧ l.length ≤ c := by
  have := HM.out
  subst this
  exact h
theorem ownO_R {M : MadeW n} {l : List UInt8} {v : Value} {w : World} (HM : Hid (M = MadeW.ownO n l)) (h : M.R v w) : Own w n v l := by
  have := HM.out
  subst this
  exact h
theorem ownO_end {M : MadeW n} {l : List UInt8} {A : Option Addr} {k c : Nat} {w w' : World} (HM : Hid (M = MadeW.ownO n l)) (hb : Below w.heap.size w w') (hm : n ≤ w.heap.size) (h : Own w' n (.slice A k c) l) : madeEndW M w (.returned (.slice A k c)) w' := by
  obtain ⟨A', c', e, _, h1, h2⟩ := h.sl
  have := HM.out
  subst this
  exact ⟨_, rfl, Kept.of_below hb hm, ⟨A', c', e, h1, h2⟩, h⟩
def Ent.ownO (k : Nat) {M : MadeW n} {l : List UInt8} (HM : Hid (M = MadeW.ownO n l)) : Ent n := ⟨k, fun _ => M, [], [5], [], fun _ => by have := HM.out; subst this; exact ⟨rfl, rfl⟩⟩
end
def RPutM (src dst : List UInt8) (m : Msg) (n : Nat) (e : Ending) (w' : World) : Prop :=
  if okM m then ∃ A c, e = .returned (.tuple #[.slice A (putB src dst m).length c, .int .i64 0]) ∧ Own w' n (.slice A (putB src dst m).length c) (putB src dst m)
  else e = .returned (.tuple #[.slice none 0 0, .int .i64 1])
/-- Where the document's Put stands. -/
structure RPW (w W : World) (src dst : List UInt8) (m : Mv) (s : Nat) : Prop where
  bl : Below w.heap.size w W
  ks : bk W s = some (.cells (src.map B).toArray 23 (0, 0))
  kd : bk W (s + 1) = some (.cells (dst.map B).toArray 23 (0, 0))
  km : bk W (s + 1 + 1) = some (.cells (mC m) 33 (0, 0))
  hs : s = w.heap.size
theorem RPW.below {w W W' : World} {src dst : List UInt8} {m : Mv} {s : Nat} (h : RPW w W src dst m s) (b : Below W.heap.size W W') : RPW w W' src dst m s :=
  ⟨h.bl.trans (b.mono h.bl.size), bk_keep b (bk_lt h.ks) h.ks, bk_keep b (bk_lt h.kd) h.kd, bk_keep b (bk_lt h.km) h.km, h.hs⟩
theorem rputm_bad (src dst : List UInt8) (h1 : src.length = 16) (h2 : dst.length = 16) (m : Mv) (w : World) (hok : MvOk w w.heap.size m) (hs : Small m) (hokm : okM m.pl = false) :
    Calls Try.prog 12 #[av src, av dst, .agg (mC m)] w fun e w' => RPutM src dst m.pl w.heap.size e w' ∧ Below w.heap.size w w' := by
  have HS := Lib.hid hs; have OK := Lib.hid hok; have H1 := Lib.hid h1; have H2 := Lib.hid h2; have HOKM := Lib.hid hokm
  obtain ⟨W, hW⟩ : ∃ W, W = ((w.alloc (.cells (src.map B).toArray 23)).alloc (.cells (dst.map B).toArray 23)).alloc (.cells (mC m) 33) := ⟨_, rfl⟩
  obtain ⟨s, hs⟩ : ∃ s, s = w.heap.size := ⟨_, rfl⟩
  have P : Hid (RPW w W src dst m s) := Lib.hid ⟨by rw [hW]; exact (by (repeat (first | exact Below.refl _ _ | assumption | refine Below.drew ?_ | refine bdrewN ?_ _ | refine Below.alloc ?_ (by first | omega | (simp <;> omega) | (simp only [World.size_alloc] <;> omega)) _ | refine below_setRow ?_ (by first | omega | (simp <;> omega)) _ | refine Below.setCell ?_ (by first | omega | (simp <;> omega)) _))), by rw [hW, hs, bk_alloc_past _ _ _ (by simp <;> omega), bk_alloc_past _ _ _ (by simp)]; exact bk_alloc_at _ _ _ rfl, by rw [hW, hs, bk_alloc_past _ _ _ (by simp)]; exact bk_alloc_at _ _ _ (by simp), by rw [hW, hs]; exact bk_alloc_at _ _ _ (by simp), hs⟩
  have HS0 := Lib.hid hs; have HW := Lib.hid hW
  clear hs hW h1 h2 hok hokm
  go_enter Try.func12, Try.ntmps12
  go_upto_region 1 with fail
  rw [← HS0.out]
  change Code.wp _ _ _ _ (((w.alloc (.cells (src.map B).toArray 23)).alloc (.cells (dst.map B).toArray 23)).alloc (.cells (mC m) 33))
  rw [← HW.out]
  clear HW
  have km := P.out.km
  have lm := bk_lt km
  have sz := mC_size m
  have CM := Lib.hid (rmay_any m W ((OK.out.below P.out.bl (Nat.le_refl _)).mono P.out.bl.size))
  rw [HOKM.out] at CM
  go_wp2_with fail
  refine CM.out.mono ?_
  rintro e W1 ⟨rfl, b1⟩
  have P1 := Lib.hid (P.out.below b1)
  clear CM b1 km lm P
  go_wp2_with fail
  go_ret2
  exact ⟨by unfold RPutM; rw [HOKM.out]; rfl, P1.out.bl⟩
theorem rputm_good (src dst : List UInt8) (h1 : src.length = 16) (h2 : dst.length = 16) (m : Mv) (w : World) (hok : MvOk w w.heap.size m) (hs : Small m) (hokm : okM m.pl = true) :
    Calls Try.prog 12 #[av src, av dst, .agg (mC m)] w fun e w' => RPutM src dst m.pl w.heap.size e w' ∧ Below w.heap.size w w' := by
  have HS := Lib.hid hs; have OK := Lib.hid hok; have H1 := Lib.hid h1; have H2 := Lib.hid h2; have HOKM := Lib.hid hokm
  obtain ⟨W, hW⟩ : ∃ W, W = ((w.alloc (.cells (src.map B).toArray 23)).alloc (.cells (dst.map B).toArray 23)).alloc (.cells (mC m) 33) := ⟨_, rfl⟩
  obtain ⟨s, hs⟩ : ∃ s, s = w.heap.size := ⟨_, rfl⟩
  have P : Hid (RPW w W src dst m s) := Lib.hid ⟨by rw [hW]; exact (by (repeat (first | exact Below.refl _ _ | assumption | refine Below.drew ?_ | refine bdrewN ?_ _ | refine Below.alloc ?_ (by first | omega | (simp <;> omega) | (simp only [World.size_alloc] <;> omega)) _ | refine below_setRow ?_ (by first | omega | (simp <;> omega)) _ | refine Below.setCell ?_ (by first | omega | (simp <;> omega)) _))), by rw [hW, hs, bk_alloc_past _ _ _ (by simp <;> omega), bk_alloc_past _ _ _ (by simp)]; exact bk_alloc_at _ _ _ rfl, by rw [hW, hs, bk_alloc_past _ _ _ (by simp)]; exact bk_alloc_at _ _ _ (by simp), by rw [hW, hs]; exact bk_alloc_at _ _ _ (by simp), hs⟩
  have HS0 := Lib.hid hs; have HW := Lib.hid hW
  clear hs hW h1 h2 hok hokm
  go_enter Try.func12, Try.ntmps12
  go_upto_region 1 with fail
  rw [← HS0.out]
  change Code.wp _ _ _ _ (((w.alloc (.cells (src.map B).toArray 23)).alloc (.cells (dst.map B).toArray 23)).alloc (.cells (mC m) 33))
  rw [← HW.out]
  clear HW
  have km := P.out.km
  have lm := bk_lt km
  have sz := mC_size m
  have CM := Lib.hid (rmay_any m W ((OK.out.below P.out.bl (Nat.le_refl _)).mono P.out.bl.size))
  rw [HOKM.out] at CM
  go_wp2_with fail
  refine CM.out.mono ?_
  rintro e W1 ⟨rfl, b1⟩
  have P1 := Lib.hid (P.out.below b1)
  clear CM b1 km lm P
  go_upto_region 3 with fail
  have km := P1.out.km
  have lm := bk_lt km
  have c0 : W1.cell? ⟨s + 1 + 1, 0, none⟩ = some (.int .u8 (m.kind.toNat : Int)) := (bk_cell km 0).trans (mC_0 m)
  have c1 : W1.cell? ⟨s + 1 + 1, 1, none⟩ = some (.int .u8 (m.code.toNat : Int)) := (bk_cell km 1).trans (mC_1 m)
  obtain ⟨X, hX⟩ : ∃ X : List UInt8, X = [m.kind, m.code, 0, 0] := ⟨_, rfl⟩
  have HX := Lib.hid hX
  have NX : Hid (X.length = 4) := Lib.hid (by rw [hX]; rfl)
  have PL : Hid ((partB m.pl).length < 2 ^ 31) := Lib.hid (partB_le m HS.out OK.out (by have h := HOKM.out; unfold okM at h; rw [Bool.and_eq_true] at h; exact h.1))
  obtain ⟨Y, hY⟩ : ∃ Y, Y = partB m.pl := ⟨_, rfl⟩
  have HY := Lib.hid hY
  rw [← hY] at PL
  obtain ⟨M4, hM4⟩ : ∃ M : MadeW W1.heap.size, M = MadeW.row _ (fun b => .slice (some ⟨b, 0, none⟩) 4 4) #[.int .u8 (m.kind.toNat : Int), .int .u8 (m.code.toNat : Int), .int .u8 0, .int .u8 0] 5 := ⟨_, rfl⟩
  obtain ⟨M6, hM6⟩ : ∃ M : MadeW W1.heap.size, M = MadeW.ownO _ Y := ⟨_, rfl⟩
  obtain ⟨M7, hM7⟩ : ∃ M : MadeW W1.heap.size, M = MadeW.own _ [5] (X ++ Y) := ⟨_, rfl⟩
  have H4 := Lib.hid hM4; have H6 := Lib.hid hM6; have H7 := Lib.hid hM7
  clear hM4 hM6 hM7 hX hY
  refine wp_region_e (W1.heap.size) ([.row 4 H4, .ownO 6 H6, .own 7 H7]) (fun k => (([(7, [4, 6])] : List (Nat × List Nat)).lookup k).getD []) (Fs.nil) (by first | omega | (simp <;> omega)) (by kernel_rfl) (by kernel_rfl) (by kernel_rfl) (by kernel_rfl) EnvW.Ini.nil ?_
  refine walkW_segn 4 [] facts0 noneHx (by kernel_rfl) (by kernel_rfl) ?_
  simp only [List.take_succ_cons, List.take_zero, List.drop_succ_cons, List.drop_zero, Nat.reduceAdd]
  repeat (go_big_quiet_step (fail))
  (first | refine wpQuiet_nil ?_ | (go_big_quiet_want; (try go_big_quiet_op); trace_state; fail))
  refine walkW_mk (fun _ => M4) [] M4 ([]) facts0 (by kernel_rfl) (by kernel_rfl) (by kernel_rfl) rfl rfl (fun w' hb' hg' => ?_) (fun v4 h4 => ?_)
  · unfold madeAtW
    go_simp
    ((exact (row_mk (b := w'.heap.size) H4 ((Below.refl _ _).alloc (Nat.le_refl _) _) hb'.size hb'.size (bk_alloc_at _ _ _ rfl) :)))
  obtain ⟨b4, m4, rfl⟩ := row_T H4 h4
  simp only [Act.put, List.setIfInBounds_toArray, List.set_cons_succ, List.set_cons_zero, Nat.reduceAdd]
  refine walkW_segn 1 [] facts0 noneHx (by kernel_rfl) (by kernel_rfl) ?_
  simp only [List.take_succ_cons, List.take_zero, List.drop_succ_cons, List.drop_zero, Nat.reduceAdd]
  repeat (go_big_quiet_step (fail))
  (first | refine wpQuiet_nil ?_ | (go_big_quiet_want; (try go_big_quiet_op); trace_state; fail))
  refine walkW_mk (fun _ => M6) [] M6 ([]) facts0 (by kernel_rfl) (by kernel_rfl) (by kernel_rfl) rfl rfl (fun w' hb' hg' => ?_) (fun v6 h6 => ?_)
  · unfold madeAtW
    go_simp
    ((refine (rbody_any m w' ((OK.out.below (P1.out.bl.trans (hb'.mono P1.out.bl.size)) (Nat.le_refl _)).mono (Nat.le_trans P1.out.bl.size hb'.size)) HS.out HOKM.out).mono ?_; rintro e w2 ⟨A, c, rfl, o, b⟩; exact ownO_end H6 b hb'.size (by rw [HY.out]; exact o.low hb'.size)))
  obtain ⟨A6, c6, rfl, n6, le6⟩ := ownO_T H6 h6
  simp only [Act.put, List.setIfInBounds_toArray, List.set_cons_succ, List.set_cons_zero, Nat.reduceAdd]
  refine walkW_mk (fun _ => M7) [] M7 ([(4, M4.R (.slice (some ⟨b4, 0, none⟩) 4 4)), (6, M6.R (.slice A6 Y.length c6))]) (facts2 (fun w h => h.2.1 rfl) (fun w h => h.1 rfl)) (by kernel_rfl) (by kernel_rfl) (by kernel_rfl) rfl rfl (fun w' hb' hg' => ?_) (fun v7 h7 => ?_)
  · ((exact append_mk rfl H7 (l1 := X) (l2 := Y) rfl rfl (by rw [HX.out]; exact Own.row m4 (row_R H4 (fun b b' h => by simpa using h) (hg' _ (.head _))) (by simp) (by unfold maxLen; omega) rfl rfl) rfl rfl n6 (own_rd (ownO_R H6 (hg' _ (.tail _ (.head _))))) (by rw [NX.out]; have := PL.out; omega) hb'.size (.inr (by simp))))
  obtain ⟨A7, c7, rfl, n7, le7⟩ := own_T H7 h7
  simp only [Act.put, List.setIfInBounds_toArray, List.set_cons_succ, List.set_cons_zero, Nat.reduceAdd]
  refine walkW_segn 1 [] facts0 noneHx (by kernel_rfl) (by kernel_rfl) ?_
  simp only [List.take_succ_cons, List.take_zero, List.drop_succ_cons, List.drop_zero, Nat.reduceAdd]
  repeat (go_big_quiet_step (fail))
  (first | refine wpQuiet_nil ?_ | (go_big_quiet_want; (try go_big_quiet_op); trace_state; fail))
  refine walkW_nil ?_
  intro w5 b5 hf
  have o5 := Own.of (L := X ++ Y) (own_R H7 ((hf 7 (by kernel_rfl)).1 rfl)) rfl
  have hN : (X ++ Y).length = 4 + (partB m.pl).length := by rw [List.length_append, NX.out, HY.out]
  have hB31 : (X ++ Y).length < 2 ^ 32 := by rw [hN]; have := PL.out; rw [HY.out] at this; omega
  obtain ⟨BB, hBB⟩ : ∃ B, B = X ++ Y := ⟨_, rfl⟩
  rw [← hBB] at o5 hN hB31 n7 le7
  rw [← hBB]
  have HBB : Hid (BB = bodyB m.pl) := Lib.hid (by rw [hBB, HX.out, HY.out]; rfl)
  have P5 := Lib.hid (P1.out.below b5)
  have hle := b5.size
  clear hBB hf h4 h6 h7 H4 H6 H7 n6 le6 M4 M6 M7 PL NX HX HY b5 c0 c1 km lm
  have hn4 : 4 ≤ BB.length := by omega
  obtain ⟨g, c', cur, e, hg, hbg, hc1, hc2, hc3, htk, hfull⟩ : ∃ g c' cur, Value.slice A7 BB.length c7 = .slice (some ⟨g, 0, none⟩) BB.length c' ∧ W1.heap.size ≤ g ∧ bk w5 g = some (.cells cur 5 (0, 0)) ∧ BB.length ≤ c' ∧ c' ≤ cur.size ∧ c' ≤ maxLen ∧ cur.toList.take BB.length = BB.map B ∧ (cur.size = c' ∨ c' = BB.length) := by
    rcases o5 with ⟨e, e2⟩ | h
    · rw [e2] at hn4; simp at hn4
    · exact h
  cases e
  have O5 := Lib.hid (show Own w5 W1.heap.size (.slice (some ⟨g, 0, none⟩) BB.length c7) BB from .inr ⟨g, c7, cur, rfl, hg, hbg, hc1, hc2, hc3, htk, hfull⟩)
  have KG := Lib.hid (And.intro hbg (And.intro htk (And.intro hg (And.intro hc1 (And.intro hc2 (And.intro hc3 hfull))))))
  have HB31 := Lib.hid hB31
  obtain ⟨N, hN'⟩ : ∃ N, N = BB.length := ⟨_, rfl⟩
  have HN := Lib.hid hN'
  have CV0 := rover_any src dst 58 (some ⟨g, 0, none⟩) BB c7 w5 H1.out H2.out (own_rd O5.out) (fun e => by cases e) HB31.out
  rw [← hN'] at hn4 CV0
  rw [← hN']
  obtain ⟨SM, hSM⟩ : ∃ S, S = sumOf (ovr src dst 58 BB) := ⟨_, rfl⟩
  rw [← hSM] at CV0
  have CV := Lib.hid CV0
  have HSM := Lib.hid hSM
  have hS : SM ≤ 65535 := by rw [hSM]; unfold sumOf; omega
  have ks := P5.out.ks; have kd := P5.out.kd
  have ls := bk_lt ks; have ld := bk_lt kd
  have z1 : (List.map B src).toArray.size = 16 := by simp [H1.out]
  have z2 : (List.map B dst).toArray.size = 16 := by simp [H2.out]
  clear o5 hN hB31 n7 le7 hbg htk hg hc1 hc2 hc3 hfull CV0 hN' hSM
  go_wp2_with fail
  refine CV.out.mono ?_
  rintro e w6 ⟨rfl, b6⟩
  have P6 := Lib.hid (P5.out.below b6)
  have KG6 := Lib.hid (bk_keep b6 (bk_lt KG.out.1) KG.out.1)
  clear CV b6 ks kd ls ld z1 z2 P5 O5
  have l6 := bk_lt KG6.out
  have f2 := bk_frozen KG6.out 2; have f3 := bk_frozen KG6.out 3
  obtain ⟨u2, g2⟩ : ∃ u, w6.cell? ⟨g, 2, none⟩ = some u := ⟨cur[2]'(by have := KG.out; have := HN.out; omega), by rw [bk_cell KG6.out]; exact Array.getElem?_eq_getElem _⟩
  obtain ⟨u3, g3⟩ : ∃ u, w6.cell? ⟨g, 3, none⟩ = some u := ⟨cur[3]'(by have := KG.out; have := HN.out; omega), by rw [bk_cell KG6.out]; exact Array.getElem?_eq_getElem _⟩
  have i2 : decide ((2 : Int) < (N : Int)) = true := by simp; omega
  have i3 : decide ((3 : Int) < (N : Int)) = true := by simp; omega
  have i2' : (2 : Int) < (N : Int) := by omega
  have i3' : (3 : Int) < (N : Int) := by omega
  have i2'' : 2 < N := by omega
  have i3'' : 3 < N := by omega
  go_upto_region 7 with fail
  have FX : Hid (RPutM src dst m.pl w.heap.size (.returned (.tuple #[.slice (some ⟨g, 0, none⟩) N c7, .int .i64 0])) ((w6.setCell ⟨g, 2, none⟩ (.int .u8 ((SM : Int) / 256))).setCell ⟨g, 3, none⟩ (.int .u8 ((SM : Int) % 256))) ∧ Below w.heap.size w ((w6.setCell ⟨g, 2, none⟩ (.int .u8 ((SM : Int) / 256))).setCell ⟨g, 3, none⟩ (.int .u8 ((SM : Int) % 256)))) := Lib.hid (by
    obtain ⟨_, h2, h3, h4, h5, h6, h7⟩ := KG.out
    have h8 := P1.out.bl.size
    have e : (putB src dst m.pl).length = N := by rw [HN.out, HBB.out, putB_len, bodyB_len]
    have ht := put_cells src dst m.pl SM (by rw [HSM.out, HBB.out]) (by omega) cur (by rw [← HBB.out]; exact h2)
    refine ⟨?_, (P6.out.bl.setCell (p := ⟨g, 2, none⟩) (show w.heap.size ≤ g by omega) _).setCell (p := ⟨g, 3, none⟩) (show w.heap.size ≤ g by omega) _⟩
    unfold RPutM
    rw [HOKM.out, if_pos rfl]
    refine ⟨some ⟨g, 0, none⟩, c7, by rw [e], .inr ⟨g, c7, (cur.setIfInBounds 2 (.int .u8 ((SM : Int) / 256))).setIfInBounds 3 (.int .u8 ((SM : Int) % 256)), rfl, by omega, by rw [bk_setCell_same, bk_setCell_same, KG6.out]; rfl, by rw [e, HN.out]; exact h4, by simpa using h5, h6, ht, by rw [e, HN.out]; simpa using h7⟩⟩)
  clear g2 g3 f2 f3 l6 i2 i3 i2' i3' i2'' i3'' P6 KG KG6
  go_wp2_with fail
  go_ret2
  exact FX.out
theorem rputm_any (src dst : List UInt8) (h1 : src.length = 16) (h2 : dst.length = 16) (m : Mv) (w : World) (hok : MvOk w w.heap.size m) (hs : Small m) :
    Calls Try.prog 12 #[av src, av dst, .agg (mC m)] w fun e w' => RPutM src dst m.pl w.heap.size e w' ∧ Below w.heap.size w w' := by
  cases h : okM m.pl with
  | false => exact rputm_bad src dst h1 h2 m w hok hs h
  | true => exact rputm_good src dst h1 h2 m w hok hs h
end Go.Proofs.Ytjimmfbjhkoekaa
/- Icmps: a message's twin, and bytes behind it, lie apart. -/
namespace Go.Proofs.Ytjimmfbjhkoekaa
open Go.RowKit
set_option maxRecDepth 100000
set_option maxHeartbeats 1000000
theorem fine_low {w w' : World} {d : Lx} (h : d.Fine w) (t : ∀ k, k < w.heap.size → bk w' k = bk w k) : d.Fine w' := by
  have key : ∀ {A : Option Addr} {c : Nat} {ty : TypeId}, Room w A c ty → Room w' A c ty := fun hr h0 => by
    obtain ⟨b, o, cur, e, hb, hc⟩ := hr h0
    exact ⟨b, o, cur, e, (t b (bk_lt hb)).trans hb, hc⟩
  cases d with
  | «by» A n c => exact ⟨h.1, h.2.1, key h.2.2⟩
  | ad A n c => exact ⟨h.1, h.2.1, key h.2.2⟩
/-- A list's memory lies from lo on, below hi. -/
def Lx.In (d : Lx) (lo hi : Nat) : Prop := ∀ k m, d.rg k m → lo ≤ k ∧ k < hi
theorem in_by {b n c lo hi : Nat} (h1 : lo ≤ b) (h2 : b < hi) : (Lx.by (some ⟨b, 0, none⟩) n c).In lo hi := fun k m r => by
  obtain ⟨p, e, _⟩ := r
  cases e
  exact ⟨h1, h2⟩
theorem in_ad {b n c lo hi : Nat} (h1 : lo ≤ b) (h2 : b < hi) : (Lx.ad (some ⟨b, 0, none⟩) n c).In lo hi := fun k m r => by
  obtain ⟨p, e, _⟩ := r
  cases e
  exact ⟨h1, h2⟩
theorem In.wide {d : Lx} {lo hi lo' hi' : Nat} (h : d.In lo hi) (h1 : lo' ≤ lo) (h2 : hi ≤ hi') : d.In lo' hi' := fun k m r => by have := h k m r; omega
/-- Lists of two stretches of blocks. -/
theorem dis_in {L1 L2 : List Lx} {lo mid hi : Nat} (h1 : DisX L1) (h2 : DisX L2) (i1 : ∀ d ∈ L1, d.In lo mid) (i2 : ∀ d ∈ L2, d.In mid hi) : DisX (L1 ++ L2) :=
  dis_app h1 h2 fun a ha b hb k m r1 r2 => by
    have := i1 a ha k m r1
    have := i2 b hb k m r2
    omega
theorem in_app {L1 L2 : List Lx} {lo hi : Nat} (i1 : ∀ d ∈ L1, d.In lo hi) (i2 : ∀ d ∈ L2, d.In lo hi) : ∀ d ∈ L1 ++ L2, d.In lo hi := fun d hd => by
  rcases List.mem_append.1 hd with hd | hd
  · exact i1 d hd
  · exact i2 d hd
theorem TwO.dis {w : World} {n : Nat} {ol tl : List Ov} (h : TwO w n ol tl) : DisX (optL tl) := by
  have key : ∀ (i j : Nat) (hi : i < tl.length) (hj : j < tl.length), i < j → ∀ k m, (Lx.by tl[i].A tl[i].d.length tl[i].c).rg k m → (Lx.by tl[j].A tl[j].d.length tl[j].c).rg k m → False := fun i j hi hj hij k m r1 r2 => by
    obtain ⟨b, e1, _⟩ := h.at' i hi
    obtain ⟨b', e2, _⟩ := h.at' j hj
    have := h.ap i j hi hj hij b b' e1 e2
    obtain ⟨p, f1, _⟩ := r1
    obtain ⟨p', f4, _⟩ := r2
    rw [e1] at f1
    rw [e2] at f4
    cases f1
    cases f4
    omega
  intro i j a b hne ha hb k m r1 r2
  obtain ⟨hi, ea⟩ := List.getElem?_eq_some_iff.1 ha
  obtain ⟨hj, eb⟩ := List.getElem?_eq_some_iff.1 hb
  unfold optL at hi hj ea eb
  rw [List.length_map] at hi hj
  rw [List.getElem_map] at ea eb
  subst ea eb
  rcases Nat.lt_or_gt_of_ne hne with e | e
  · exact key i j hi hj e k m r1 r2
  · exact key j i hj hi e k m r2 r1
theorem TwR.dis {w : World} {n : Nat} {rl tl : List Rv} (h : TwR w n rl tl) : DisX (recL' tl) :=
  dis_recs (fun i hi => by obtain ⟨b, e, _⟩ := h.at' i hi; exact ⟨b, e⟩) fun i j hi hj hij e => by
    obtain ⟨b, e1, _⟩ := h.at' i hi
    obtain ⟨b', e2, _⟩ := h.at' j hj
    have := h.ap i j hi hj hij b b' e1 e2
    rw [e1, e2] at e
    cases e
    omega
theorem mem_opt {tl : List Ov} {d : Lx} (h : d ∈ optL tl) : ∃ i, ∃ hi : i < tl.length, d = .by tl[i].A tl[i].d.length tl[i].c := by
  unfold optL at h
  obtain ⟨x, hx, rfl⟩ := List.mem_map.1 h
  obtain ⟨i, hi, rfl⟩ := List.mem_iff_getElem.1 hx
  exact ⟨i, hi, rfl⟩
theorem mem_rec {tl : List Rv} {d : Lx} (h : d ∈ recL' tl) : ∃ i, ∃ hi : i < tl.length, d = .ad tl[i].A tl[i].s.length tl[i].c := by
  unfold recL' at h
  obtain ⟨x, hx, rfl⟩ := List.mem_map.1 h
  obtain ⟨i, hi, rfl⟩ := List.mem_iff_getElem.1 hx
  exact ⟨i, hi, rfl⟩
section
variable {w : World} {n : Nat} {m : Mv} {bd go ga gr : Nat} {tl : List Ov} {rl : List Rv}
theorem TwM.inD (h : TwM w n m bd go ga gr tl rl) : ∀ d ∈ [Lx.by (some ⟨bd, 0, none⟩) m.dd.length (m.dd.length + 4)], d.In n go := fun d hd => by
  rw [List.mem_singleton] at hd; subst hd
  exact in_by h.nd h.no
theorem TwM.inO (h : TwM w n m bd go ga gr tl rl) : ∀ d ∈ optL tl, d.In go ga := fun d hd => by
  obtain ⟨i, hi, rfl⟩ := mem_opt hd
  obtain ⟨b, e, _, q3, _⟩ := h.tO.at' i hi
  have := h.lo i hi b e
  rw [e]
  exact in_by (by omega) this
theorem TwM.inA (h : TwM w n m bd go ga gr tl rl) : ∀ d ∈ [Lx.ad (some ⟨ga, 0, none⟩) m.ss.length (m.ss.length + 4)], d.In ga gr := fun d hd => by
  rw [List.mem_singleton] at hd; subst hd
  exact in_ad (Nat.le_refl _) h.nr
theorem TwM.inR (h : TwM w n m bd go ga gr tl rl) : ∀ d ∈ recL' rl, d.In gr w.heap.size := fun d hd => by
  obtain ⟨i, hi, rfl⟩ := mem_rec hd
  obtain ⟨b, e, _, q3, q4⟩ := h.tR.at' i hi
  rw [e]
  exact in_ad (by omega) (bk_lt q4)
/-- The twin's lists lie apart. -/
theorem TwM.dis (h : TwM w n m bd go ga gr tl rl) : DisX (msgL (twM m bd go ga gr tl rl)) ∧ ∀ d ∈ msgL (twM m bd go ga gr tl rl), d.In n w.heap.size := by
  have l0 := h.nd; have l1 := h.no; have l2 := h.na; have l3 := h.nr; have l4 := h.kr.lt
  have e : msgL (twM m bd go ga gr tl rl) = [Lx.by (some ⟨bd, 0, none⟩) m.dd.length (m.dd.length + 4)] ++ optL tl ++ [Lx.ad (some ⟨ga, 0, none⟩) m.ss.length (m.ss.length + 4)] ++ recL' rl := rfl
  have iD := h.inD; have iO := h.inO; have iA := h.inA; have iR := h.inR
  have d1 : DisX ([Lx.by (some ⟨bd, 0, none⟩) m.dd.length (m.dd.length + 4)] ++ optL tl) := dis_in (dis_one _) h.tO.dis iD iO
  have i1 : ∀ d ∈ [Lx.by (some ⟨bd, 0, none⟩) m.dd.length (m.dd.length + 4)] ++ optL tl, d.In n ga := in_app (fun d hd => In.wide (iD d hd) (Nat.le_refl _) (by omega)) (fun d hd => In.wide (iO d hd) (by omega) (Nat.le_refl _))
  have d2 := dis_in d1 (dis_one _) i1 iA
  have i2 := in_app (fun d hd => In.wide (i1 d hd) (Nat.le_refl _) (show ga ≤ gr by omega)) (fun d hd => In.wide (iA d hd) (show n ≤ ga by omega) (Nat.le_refl _))
  rw [e]
  exact ⟨dis_in d2 h.tR.dis i2 iR, in_app (fun d hd => In.wide (i2 d hd) (Nat.le_refl _) (by omega)) (fun d hd => In.wide (iR d hd) (by omega) (Nat.le_refl _))⟩
theorem TwM.fine (h : TwM w n m bd go ga gr tl rl) (hl : LimM m) (h16 : ∀ r ∈ m.rs, ∀ z ∈ r.s, z.length = 16) : ∀ d ∈ msgL (twM m bd go ga gr tl rl), d.Fine w := fun d hd => by
  have l1 := hl.d; have l3 := hl.s
  have e : msgL (twM m bd go ga gr tl rl) = [Lx.by (some ⟨bd, 0, none⟩) m.dd.length (m.dd.length + 4)] ++ optL tl ++ [Lx.ad (some ⟨ga, 0, none⟩) m.ss.length (m.ss.length + 4)] ++ recL' rl := rfl
  rw [e] at hd
  rcases List.mem_append.1 hd with hd | hd
  · rcases List.mem_append.1 hd with hd | hd
    · rcases List.mem_append.1 hd with hd | hd
      · rw [List.mem_singleton] at hd; subst hd
        exact ⟨by omega, by omega, fun _ => ⟨bd, 0, _, rfl, h.kd, by simp [tw_length]⟩⟩
      · obtain ⟨i, hi, rfl⟩ := mem_opt hd
        obtain ⟨b, q1, q2, q3, q4⟩ := h.tO.at' i hi
        have hdl := (h.tO.ok hl.od _ (List.getElem_mem hi)).2
        exact ⟨by omega, by omega, fun _ => ⟨b, 0, _, q1, q4, by simp [tw_length]; omega⟩⟩
    · rw [List.mem_singleton] at hd; subst hd
      obtain ⟨_, cur, k1, k2, _⟩ := h.ka
      exact ⟨by omega, by omega, fun _ => ⟨ga, 0, cur, rfl, k1, by omega⟩⟩
  · obtain ⟨i, hi, rfl⟩ := mem_rec hd
    obtain ⟨b, q1, q2, q3, q4⟩ := h.tR.at' i hi
    have hok := h.tR.ok (fun r hr => ⟨h16 r hr, hl.rs r hr⟩) _ (List.getElem_mem hi)
    have hf := flat16 (tw4_16 hok.1.2.1)
    rw [tw4_length] at hf
    exact ⟨hok.2.1, by have := hok.2.2; omega, fun _ => ⟨b, 0, _, q1, q4, by rw [List.size_toArray, List.length_map, hf]; omega⟩⟩
end
theorem Own.fine {w : World} {n k c : Nat} {A : Option Addr} {L : List UInt8} (h : Own w n (.slice A k c) L) : (Lx.by A k c).Fine w ∧ ∀ hi, w.heap.size ≤ hi → (Lx.by A k c).In n hi := by
  rcases h with ⟨e, rfl⟩ | ⟨g, c', cur, e, hg, hb, h1, h2, h3, _⟩
  · cases e
    exact ⟨⟨Nat.le_refl _, by omega, fun h => absurd h (by omega)⟩, fun hi _ k m r => by obtain ⟨p, e, _⟩ := r; cases e⟩
  · cases e
    exact ⟨⟨h1, by unfold maxLen at h3; omega, fun _ => ⟨g, 0, cur, rfl, hb, by omega⟩⟩, fun hi hh => in_by hg (Nat.lt_of_lt_of_le (bk_lt hb) hh)⟩
end Go.Proofs.Ytjimmfbjhkoekaa
/- IcmpsPut, walked. -/
namespace Go.Proofs.Ytjimmfbjhkoekaa
open Go.RowKit
set_option maxRecDepth 100000
set_option maxHeartbeats 2000000
/-- What both Puts hand back. -/
def outB (src dst : List UInt8) (m : Msg) : List UInt8 := if okM m then putB src dst m else []
def outE (m : Msg) : Nat := if okM m then 0 else 1
theorem put_out {src dst : List UInt8} {m : Msg} {n : Nat} {e : Ending} {w' : World} (h : PutM src dst m n e w') : ∃ A c, e = .returned (.tuple #[.slice A (outB src dst m).length c, .int .i64 (outE m : Int)]) ∧ Own w' n (.slice A (outB src dst m).length c) (outB src dst m) := by
  unfold PutM at h
  unfold outB outE
  cases hk : okM m with
  | true =>
    rw [hk, if_pos rfl] at h
    obtain ⟨A, e, o⟩ := h
    exact ⟨A, _, by rw [if_pos rfl, if_pos rfl]; exact e, by rw [if_pos rfl]; exact o⟩
  | false =>
    rw [hk] at h
    exact ⟨none, 0, h, .inl ⟨rfl, rfl⟩⟩
theorem rput_out {src dst : List UInt8} {m : Msg} {n : Nat} {e : Ending} {w' : World} (h : RPutM src dst m n e w') : ∃ A c, e = .returned (.tuple #[.slice A (outB src dst m).length c, .int .i64 (outE m : Int)]) ∧ Own w' n (.slice A (outB src dst m).length c) (outB src dst m) := by
  unfold RPutM at h
  unfold outB outE
  cases hk : okM m with
  | true =>
    rw [hk, if_pos rfl] at h
    obtain ⟨A, c, e, o⟩ := h
    exact ⟨A, c, by rw [if_pos rfl, if_pos rfl]; exact e, by rw [if_pos rfl]; exact o⟩
  | false =>
    rw [hk] at h
    exact ⟨none, 0, h, .inl ⟨rfl, rfl⟩⟩
theorem out_le {src dst : List UInt8} {m : Mv} {w : World} {n : Nat} (hs : Small m) (hok : MvOk w n m) : (outB src dst m.pl).length < 2 ^ 32 := by
  unfold outB
  split
  · rename_i h
    have h' := h
    unfold okM at h'
    rw [Bool.and_eq_true] at h'
    have h1 := putB_len src dst m.pl
    have h2 := partB_le m hs hok h'.1
    omega
  · simp
theorem lim_of {m : Mv} (h1 : msgSum m ≤ 6000) (h2 : optsSum m.os ≤ 5000) : LimM m := by
  unfold msgSum at h1
  unfold optsSum at h2
  have hr : ∀ l : List Rv, l.length ≤ (l.map fun x => 20 + 16 * x.s.length).sum ∧ ∀ r ∈ l, r.s.length ≤ (l.map fun x => 20 + 16 * x.s.length).sum := fun l => by
    induction l with
    | nil => exact ⟨by simp, fun r hr => by simp at hr⟩
    | cons x l ih =>
      rw [List.map_cons, List.sum_cons, List.length_cons]
      refine ⟨by omega, fun r hr => ?_⟩
      rcases List.mem_cons.1 hr with rfl | hr
      · omega
      · have := ih.2 r hr; omega
  have ho : ∀ l : List Ov, ∀ r ∈ l, r.d.length ≤ (l.map fun x => x.d.length).sum := fun l => by
    induction l with
    | nil => exact fun r hr => by simp at hr
    | cons x l ih =>
      rw [List.map_cons, List.sum_cons]
      intro r hr
      rcases List.mem_cons.1 hr with rfl | hr
      · omega
      · have := ih r hr; omega
  have h3 := hr m.rs
  have h4 := ho m.os
  exact ⟨by omega, by omega, fun x hx => by have := h4 x hx; omega, by omega, by omega, fun r hr => by have := h3.2 r hr; omega⟩
/-- Where the law stands: the ends' box, the message's. -/
structure IP (w W : World) (E : List UInt8) (m : Mv) (s : Nat) : Prop where
  bl : Below w.heap.size w W
  ke : bk W s = some (.cells (List.map B E).toArray 25 (0, 0))
  km : bk W (s + 1) = some (.cells (mC m) 33 (0, 0))
  hs : s = w.heap.size
theorem IP.below {w W W' : World} {E : List UInt8} {m : Mv} {s : Nat} (h : IP w W E m s) (b : Below W.heap.size W W') : IP w W' E m s :=
  ⟨h.bl.trans (b.mono h.bl.size), bk_keep b (bk_lt h.ke) h.ke, bk_keep b (bk_lt h.km) h.km, h.hs⟩
theorem IP.ok {w W : World} {E : List UInt8} {m : Mv} {s : Nat} (h : IP w W E m s) (hok : MvOk w w.heap.size m) : MvOk W W.heap.size m := (hok.below h.bl (Nat.le_refl _)).mono h.bl.size
/-- With the twin's box. -/
structure IT (w W : World) (E : List UInt8) (m : Mv) (s n g bd go ga gr : Nat) (tl : List Ov) (rl : List Rv) : Prop where
  p : IP w W E m s
  tw : TwM W n m bd go ga gr tl rl
  kt : bk W g = some (.cells (mC (twM m bd go ga gr tl rl)) 33 (0, 0))
  hn : w.heap.size ≤ n
theorem IT.below {w W W' : World} {E : List UInt8} {m : Mv} {s n g bd go ga gr : Nat} {tl : List Ov} {rl : List Rv} (h : IT w W E m s n g bd go ga gr tl rl) (b : Below W.heap.size W W') : IT w W' E m s n g bd go ga gr tl rl :=
  ⟨h.p.below b, h.tw.below b, bk_keep b (bk_lt h.kt) h.kt, h.hn⟩
theorem icmpsPut_walk (src dst : List UInt8) (m : Mv) (w : World) (h1 : src.length = 16) (h2 : dst.length = 16) (hok : MvOk w w.heap.size m) (hb : Big m) :
    Calls Try.prog 3 #[av (src ++ dst), .agg (mC m)] w fun e w' => e = .returned (.bool true) ∧ Below w.heap.size w w' := by
  have OK := Lib.hid hok; have HB := Lib.hid hb; have H1 := Lib.hid h1; have H2 := Lib.hid h2
  clear hok hb
  obtain ⟨E, hE⟩ : ∃ E, E = src ++ dst := ⟨_, rfl⟩
  have q0 : sl E 0 16 = src := by rw [hE]; exact sl_src h1
  have q1 : sl E 16 16 = dst := by rw [hE]; exact sl_dst h1 h2
  have qn : E.length = 32 := by rw [hE, List.length_append]; omega
  rw [← hE]
  clear hE
  obtain ⟨W, hW⟩ : ∃ W, W = ((w.alloc (.cells (List.map B E).toArray 25)).alloc (.cells (mC m) 33)) := ⟨_, rfl⟩
  obtain ⟨s, hs⟩ : ∃ s, s = w.heap.size := ⟨_, rfl⟩
  have P : Hid (IP w W E m s) := Lib.hid ⟨by rw [hW]; exact (by (repeat (first | exact Below.refl _ _ | assumption | refine Below.drew ?_ | refine bdrewN ?_ _ | refine Below.alloc ?_ (by first | omega | (simp <;> omega) | (simp only [World.size_alloc] <;> omega)) _ | refine below_setRow ?_ (by first | omega | (simp <;> omega)) _ | refine Below.setCell ?_ (by first | omega | (simp <;> omega)) _))), by rw [hW, hs, bk_alloc_past _ _ _ (by simp)]; exact bk_alloc_at _ _ _ rfl, by rw [hW, hs]; exact bk_alloc_at _ _ _ (by simp), hs⟩
  have HW := Lib.hid hW; have HS := Lib.hid hs
  clear hW hs h1 h2
  go_enter Try.func3, Try.ntmps3
  go_upto_region 1 with fail
  rw [← HS.out]
  change Code.wp _ _ _ _ ((w.alloc (.cells (List.map B E).toArray 25)).alloc (.cells (mC m) 33))
  rw [← HW.out]
  clear HW
  have km := P.out.km
  have lm := bk_lt km
  have sz := fun m => mC_size m
  have so := fun m => mC_ones m
  have CG := Lib.hid (great11_any m W (P.out.ok OK.out) HB.out)
  go_wp2_with fail
  refine CG.out.mono ?_
  rintro e W1 ⟨b, rfl, hgr, b1⟩
  have P1 := Lib.hid (P.out.below b1)
  clear CG km lm b1 P
  cases b
  · obtain ⟨g1, g2⟩ := hgr rfl
    have SM := Lib.hid (small_of g1 g2)
    have HL := Lib.hid (lim_of g1 g2)
    clear hgr g1 g2
    have km := P1.out.km
    have lm := bk_lt km
    have CT := Lib.hid (twinMessage_any m W1 (P1.out.ok OK.out) HL.out)
    go_wp2_with fail
    refine CT.out.mono ?_
    rintro e W2 ⟨bd, go, ga, gr, tl, rl, rfl, hT, b2⟩
    obtain ⟨t, ht⟩ : ∃ t, t = twM m bd go ga gr tl rl := ⟨_, rfl⟩
    have HT := Lib.hid ht
    have T2 := Lib.hid (And.intro (P1.out.below b2) hT)
    rw [← ht]
    clear CT km lm hT b2 ht
    go_upto_region 4 with fail
    obtain ⟨g, hg⟩ : ∃ g, g = W2.heap.size := ⟨_, rfl⟩
    rw [← hg]
    have T3 : Hid (IT w (World.alloc W2 (.cells (mC t) 33)) E m s W1.heap.size g bd go ga gr tl rl) := Lib.hid ⟨T2.out.1.below (by (repeat (first | exact Below.refl _ _ | assumption | refine Below.drew ?_ | refine bdrewN ?_ _ | refine Below.alloc ?_ (by first | omega | (simp <;> omega) | (simp only [World.size_alloc] <;> omega)) _ | refine below_setRow ?_ (by first | omega | (simp <;> omega)) _ | refine Below.setCell ?_ (by first | omega | (simp <;> omega)) _))), T2.out.2.below (by (repeat (first | exact Below.refl _ _ | assumption | refine Below.drew ?_ | refine bdrewN ?_ _ | refine Below.alloc ?_ (by first | omega | (simp <;> omega) | (simp only [World.size_alloc] <;> omega)) _ | refine below_setRow ?_ (by first | omega | (simp <;> omega)) _ | refine Below.setCell ?_ (by first | omega | (simp <;> omega)) _))), by rw [hg, ← HT.out]; exact bk_alloc_at _ _ _ rfl, P1.out.bl.size⟩
    generalize World.alloc W2 (.cells (mC t) 33) = W3 at *
    clear hg T2
    have HPL : Hid (t.pl = m.pl) := Lib.hid (by rw [HT.out]; exact T3.out.tw.pl)
    have ST : Hid (Small t) := Lib.hid (by
      have h1 := T3.out.tw.tO.len
      have h2 := T3.out.tw.tO.pl
      have h3 := SM.out
      rw [HT.out]
      exact ⟨by show tl.length < _; rw [h1]; exact h3.o1, by show (optsB (tl.map Ov.pl)).length < _; rw [h2]; exact h3.o2, h3.d⟩)
    have OT : Hid (∀ W, IT w W E m s W1.heap.size g bd go ga gr tl rl → MvOk W W.heap.size t ∧ bk W g = some (.cells (mC t) 33 (0, 0))) := Lib.hid fun W h => by
      rw [HT.out]
      exact ⟨h.tw.mv OK.out HL.out, h.kt⟩
    have ke := T3.out.p.ke; have kt := (OT.out _ T3.out).2
    have le := bk_lt ke; have lt := bk_lt kt
    have CP := Lib.hid (putm_any src dst H1.out H2.out t W3 (OT.out _ T3.out).1 ST.out)
    go_wp2_with fail
    refine CP.out.mono ?_
    rintro e W4 ⟨hput, b4⟩
    rw [HPL.out] at hput
    obtain ⟨A, c, rfl, ho4⟩ := put_out hput
    have hL32 : (outB src dst m.pl).length < 2 ^ 32 := out_le SM.out OK.out
    obtain ⟨L, hL⟩ : ∃ L, L = outB src dst m.pl := ⟨_, rfl⟩
    have HLL := Lib.hid hL
    rw [← hL] at ho4 hL32 ⊢
    obtain ⟨Er, hEr⟩ : ∃ Er, Er = outE m.pl := ⟨_, rfl⟩
    have HER := Lib.hid hEr
    rw [← hEr]
    obtain ⟨N, hN⟩ : ∃ N, N = L.length := ⟨_, rfl⟩
    rw [← hN] at ho4 hL32 ⊢
    have HN := Lib.hid hN
    have O4 := Lib.hid ho4
    have T4 := Lib.hid (T3.out.below b4)
    clear CP ke kt le lt hput b4 ho4 hL hEr hN
    have ke := T4.out.p.ke; have km := T4.out.p.km
    have le := bk_lt ke; have lm := bk_lt km
    have CR := Lib.hid (rputm_any src dst H1.out H2.out m W4 (T4.out.p.ok OK.out) SM.out)
    go_wp2_with fail
    refine CR.out.mono ?_
    rintro e W5 ⟨hput, b5⟩
    obtain ⟨A', c', rfl, ho5⟩ := rput_out hput
    rw [← HLL.out, ← HN.out] at ho5
    rw [← HLL.out, ← HN.out, ← HER.out]
    have T5 := Lib.hid (T4.out.below b5)
    have O5 := Lib.hid (O4.out.below b5)
    have C0 := sameBytes_any A A' L L c c' W5 (own_rd O5.out) (own_rd ho5) (by rw [← HN.out]; omega) (by rw [← HN.out]; omega)
    rw [← HN.out, beq_self_eq_true] at C0
    have CS := Lib.hid C0
    clear CR ke km le lm hput b5 ho5 O4 T4 C0
    have n1 : ((Er : Int) != (Er : Int)) = false := by simp
    go_wp2_with fail
    refine CS.out.mono ?_
    rintro e W6 ⟨rfl, b6⟩
    have T6 := Lib.hid (T5.out.below b6)
    have O6 := Lib.hid (O5.out.below b6)
    have kt := (OT.out _ T6.out).2; have km := T6.out.p.km
    have lt := bk_lt kt; have lm := bk_lt km
    have C0 := leftMessage_any W1.heap.size m bd go ga gr tl rl W6 (T6.out.p.ok OK.out) HL.out T6.out.tw
    rw [← HT.out] at C0
    have CL := Lib.hid C0
    clear CS b6 T5 O5 C0
    go_wp2_with fail
    refine CL.out.mono ?_
    rintro e W7 ⟨rfl, b7⟩
    have T7 := Lib.hid (T6.out.below b7)
    have O7 := Lib.hid (O6.out.below b7)
    clear CL b7 T6 O6 kt km lt lm n1
    go_upto_region 9 with fail
    obtain ⟨bb, hbb⟩ : ∃ b, b = W7.heap.size := ⟨_, rfl⟩
    rw [← hbb]
    generalize hW8 : World.alloc W7 _ = W8
    have b8 : Below W7.heap.size W7 W8 := by rw [← hW8]; exact (by (repeat (first | exact Below.refl _ _ | assumption | refine Below.drew ?_ | refine bdrewN ?_ _ | refine Below.alloc ?_ (by first | omega | (simp <;> omega) | (simp only [World.size_alloc] <;> omega)) _ | refine below_setRow ?_ (by first | omega | (simp <;> omega)) _ | refine Below.setCell ?_ (by first | omega | (simp <;> omega)) _)))
    have kb : bk W8 bb = some (.cells #[.slice none 0 0] 44 (0, 0)) := by rw [← hW8]; exact bk_alloc_at _ _ _ hbb
    have HBB := Lib.hid hbb; have B8 := Lib.hid b8; have KB := Lib.hid kb
    have T8 := Lib.hid (T7.out.below b8)
    have hbw : w.heap.size ≤ bb := by rw [hbb]; exact T7.out.p.bl.size
    have HBW := Lib.hid hbw
    clear hW8 hbb b8 kb hbw
    have kt := (OT.out _ T8.out).2
    have lt := bk_lt kt
    have SZ : Hid (t.os.length + t.rs.length < 2 ^ 27) := Lib.hid (by
      have h1 := T7.out.tw.tO.len; have h2 := T7.out.tw.tR.len; have h3 := HL.out.o; have h4 := HL.out.r
      rw [HT.out]; show tl.length + rl.length < _; omega)
    have C9 := Lib.hid (blMessage bb w.heap.size bb [] t W8 (BL.new KB.out) (Nat.le_refl _)
      (((OT.out _ T7.out).1.os.1.below B8.out (Nat.le_refl _)).mono (by rw [HBB.out]; exact Nat.le_refl _)) (((OT.out _ T7.out).1.rs.below B8.out (Nat.le_refl _)).mono (by rw [HBB.out]; exact Nat.le_refl _))
      (by have := SZ.out; simp only [List.length_nil]; omega) HBW.out T8.out.p.bl.size)
    go_wp2_with fail
    refine C9.out.mono ?_
    rintro e W9 ⟨rfl, S9⟩
    have HS9 := Lib.hid S9
    have F9 := Lib.hid (T8.out.p.bl.trans S9.bel)
    have C10 := Lib.hid (blBytes bb w.heap.size ([] ++ msgL t) A N c W9 S9.bl (by have := SZ.out; simp only [List.nil_append, List.length_append, List.length_cons, List.length_nil, msgL, optL, recL', List.length_map]; omega) HBW.out F9.out.size)
    clear C9 S9 kt lt
    go_wp2_with fail
    refine C10.out.mono ?_
    rintro e W10 ⟨rfl, h10, f10, B10⟩
    have F10 := Lib.hid (F9.out.trans B10)
    have low7 : ∀ k, k < W7.heap.size → bk W10 k = bk W7 k := fun k hk => by
      rw [f10.low k (by rw [HBB.out]; exact hk), HS9.out.fr.low k (by rw [HBB.out]; exact hk)]
      exact B8.out.block k hk
    have h16 : ∀ r ∈ m.rs, ∀ z ∈ r.s, z.length = 16 := fun r hr => (OK.out.rss r hr).2.1
    have fineM := T7.out.tw.fine HL.out h16
    obtain ⟨disM, inM⟩ := T7.out.tw.dis
    rw [← HT.out] at fineM disM inM
    obtain ⟨fineA, inA⟩ := Own.fine O7.out
    have inM' : ∀ d ∈ msgL t, d.In W1.heap.size W3.heap.size := by
      obtain ⟨_, i3⟩ := T3.out.tw.dis
      rw [← HT.out] at i3
      exact i3
    have C11 := Lib.hid (apart_lx bb w.heap.size ([] ++ msgL t ++ [.by A N c]) W10 h10 (fun d hd => by
      rw [List.nil_append] at hd
      rcases List.mem_append.1 hd with hd | hd
      · exact fine_low (fineM d hd) low7
      · rw [List.mem_singleton] at hd; subst hd
        exact fine_low fineA low7) (by
      rw [List.nil_append]
      exact dis_in disM (dis_one _) inM' (fun d hd => by rw [List.mem_singleton] at hd; subst hd; exact inA _ (Nat.le_refl _))) (by
      have := SZ.out
      simp only [List.nil_append, List.length_append, List.length_cons, List.length_nil, msgL, optL, recL', List.length_map]; omega))
    have FW : Hid (∀ w', Wrt (rgX ([] ++ msgL t ++ [.by A N c])) W10 w' → Below w.heap.size w w') := Lib.hid fun w' hw => F10.out.trans (hw.below F10.out.size fun b j hr => by
      obtain ⟨d, hd, r⟩ := hr
      rw [List.nil_append] at hd
      rcases List.mem_append.1 hd with hd | hd
      · have := (inM d hd b j r).1
        have := T3.out.hn
        omega
      · rw [List.mem_singleton] at hd; subst hd
        have := (inA _ (Nat.le_refl _) b j r).1
        have := T3.out.p.bl.size
        omega)
    clear C10 h10 f10 B10 low7 h16 fineM disM inM fineA inA inM' F9 HS9
    go_wp2_with fail
    refine C11.out.mono ?_
    rintro e W11 ⟨rfl, hw⟩
    have F11 := Lib.hid (FW.out W11 hw)
    clear C11 hw FW
    go_wp2_with fail
    refine (lives11_any _).mono ?_
    rintro e w12 ⟨rfl, b12⟩
    go_wp2_with fail
    go_ret
    exact ⟨rfl, F11.out.trans (b12.mono F11.out.size)⟩
  · clear hgr
    go_wp2_with fail
    refine (lives11_any _).mono ?_
    rintro e w9 ⟨rfl, b9⟩
    go_wp2_with fail
    go_ret
    exact ⟨rfl, P1.out.bl.trans (b9.mono P1.out.bl.size)⟩
end Go.Proofs.Ytjimmfbjhkoekaa
