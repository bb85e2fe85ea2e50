import Derived.Test.YtjimmfbjhkoekaaMhK
/- Icmps, the document: Get, of a kind. -/
namespace Go.Proofs.Ytjimmfbjhkoekaa
open Go.RowKit
set_option maxRecDepth 100000
set_option maxHeartbeats 2000000
@[go_sem ↓] theorem bwTak (dst : Option Tmp) (ps : Array (Nat × Operand)) (t : TypeId) (pos : String) (af : Array Edge) (g : Option (Nat × Bool)) (a : Act) (w : World) (K : Act → World → Prop) (Q : Exit → Act → World → Prop) :
    Oper.wp Try.prog ⟨dst, .build 87 ps, t, pos, af, g⟩ a w K Q = bldTo (wpHid Try.prog ⟨dst, .build 87 ps, t, pos, af, g⟩ a w K Q) (fun c => K (a.put dst (.agg c)) w) (Try.prog.built 87 (ps.toList.map fun x => (x.1, a.eval x.2))) :=
  wp_build_bk 87 dst ps t pos af g a w K Q
@[go_sem ↓] theorem bqTak (dst : Option Tmp) (ps : Array (Nat × Operand)) (t : TypeId) (pos : String) (af : Array Edge) (g : Option (Nat × Bool)) (a : Act) (m : Nat) (W : World) (K : Act → Prop) :
    Oper.quiet Try.prog ⟨dst, .build 87 ps, t, pos, af, g⟩ a (fun w' => ∃ x : Later m W, w' = x.w) K = bldTo (quietHid0 Try.prog ⟨dst, .build 87 ps, t, pos, af, g⟩ a (fun w' => ∃ x : Later m W, w' = x.w) K) (fun c => K (a.put dst (.agg c))) (Try.prog.built 87 (ps.toList.map fun x => (x.1, a.eval x.2))) :=
  quiet_build_bk 87 dst ps t pos af g a _ ⟨W, ⟨W, Below.refl _ _⟩, rfl⟩ K
@[go_sem] theorem builtTak_1 (A : Option Addr) (n c : Nat) : Try.prog.built 87 [(0, .slice A n c)] = some #[.slice A n c, .int .i64 0] := by kernel_rfl
theorem rget133 (src dst : List UInt8) (h1 : src.length = 16) (h2 : dst.length = 16) (A : Option Addr) (l : List UInt8) (c : Nat) (w : World) (h : Rd w w.heap.size A l) (hA : A = none → l = [] ∧ c = 0) (hc : l.length ≤ c) (hl : l.length < 2 ^ 32) (h4 : ¬ l.length < 4) (hsm : sumOf (ovr src dst 58 l) = 0) (hk : l.headD 0 = 133) :
    Calls Try.prog 20 #[av src, av dst, .slice A l.length c] w fun e w' => RGet 133 (l.getD 1 0) (l.drop 4) w e w' := by
  have hd : ∃ k1 r, l = 133 :: k1 :: r := by
    match l, h4, hk with
    | x :: y :: r, _, hk => exact ⟨y, r, by rw [show x = 133 from hk]⟩
    | [x], h4, _ => exact absurd (by simp) h4
    | [], h4, _ => exact absurd (by simp) h4
  have HSM := Lib.hid hsm; have HKK := Lib.hid hk; have HHD := Lib.hid hd; have H4 := Lib.hid h4
  have H := Lib.hid h; have HA := Lib.hid hA; have HL := Lib.hid hl
  have z1 := h1; have z2 := h2
  clear h hA hl hsm hk hd
  go_enter Try.func20, Try.ntmps20
  go_upto_region 1 with fail
  generalize hW3 : World.alloc (World.alloc (World.alloc w _) _) _ = W3
  have b3 : Below w.heap.size w W3 := by rw [← hW3]; exact (by (repeat (first | exact Below.refl _ _ | assumption | refine Below.drew ?_ | refine bdrewN ?_ _ | refine Below.alloc ?_ (by first | omega | (simp <;> omega) | (simp only [World.size_alloc] <;> omega)) _ | refine below_setRow ?_ (by first | omega | (simp <;> omega)) _ | refine Below.setCell ?_ (by first | omega | (simp <;> omega)) _)))
  obtain ⟨s0, hs⟩ : ∃ s, s = w.heap.size := ⟨_, rfl⟩
  have ks : bk W3 s0 = some (.cells (src.map B).toArray 23 (0, 0)) := by rw [← hW3, hs, bk_alloc_past _ _ _ (by simp <;> omega), bk_alloc_past _ _ _ (by simp)]; exact bk_alloc_at _ _ _ rfl
  have kd : bk W3 (s0 + 1) = some (.cells (dst.map B).toArray 23 (0, 0)) := by rw [← hW3, hs, bk_alloc_past _ _ _ (by simp)]; exact bk_alloc_at _ _ _ (by simp)
  have km : bk W3 (s0 + 1 + 1) = some (.cells (mC (mZ 0 0)) 33 (0, 0)) := by rw [← hW3, hs]; exact (bk_alloc_at _ _ _ (by simp)).trans (by kernel_rfl)
  rw [← hs]
  have B3 := Lib.hid b3; have HS := Lib.hid hs
  clear b3 hs hW3
  have KM := Lib.hid km
  have l1 := bk_lt ks; have l2 := bk_lt kd; have l3 := bk_lt km
  have d1 : decide ((l.length : Int) < 4) = false := by simp; omega
  have CG : Hid (Calls Try.prog 35 #[av src, av dst, B 58, .slice A l.length c] W3 fun e w' => e = .returned (.int .u16 0) ∧ Below W3.heap.size W3 w') := Lib.hid (by
    refine (rover_any src dst 58 A l c W3 h1 h2 ((H.out.below B3.out (Nat.le_refl _)).mono B3.out.size) HA.out HL.out).mono ?_
    rintro e w' ⟨rfl, b⟩
    rw [HSM.out]
    exact ⟨rfl, b⟩)
  clear h4
  go_wp2_with fail
  refine CG.out.mono ?_
  rintro e w4 ⟨rfl, b4⟩
  have B4 := Lib.hid b4
  have km4 := bk_keep b4 l3 km
  have KM4 := Lib.hid km4
  have F4 := Lib.hid (B3.out.trans (b4.mono B3.out.size))
  clear ks kd km l1 l2 l3 b4 CG km4 d1 z1 z2
  obtain ⟨k1, rr, hlr⟩ := HHD.out
  have hln : 4 ≤ l.length := by have := H4.out; omega
  obtain ⟨b, o, rfl, hbn, hcell⟩ : ∃ b o, A = some ⟨b, o, none⟩ ∧ b < w.heap.size ∧ ∀ j (h : j < l.length), w4.cell? ⟨b, o + j, none⟩ = some (B l[j]) := by
    obtain ⟨b, o, e, hb, hc'⟩ := (H.out.below F4.out (Nat.le_refl _)) (by omega)
    exact ⟨b, o, e, hb, hc'⟩
  have g0 : w4.cell? ⟨b, o, none⟩ = some (.int .u8 ((133 : UInt8).toNat : Int)) := by have := hcell 0 (by omega); rw [show l[0] = 133 by simp [hlr]] at this; exact this
  have g1 : w4.cell? ⟨b, o + 1, none⟩ = some (.int .u8 (k1.toNat : Int)) := by have := hcell 1 (by omega); rw [show l[1] = k1 by simp [hlr]] at this; exact this
  have i0 : decide ((0 : Int) < (l.length : Int)) = true := by simp; omega
  have i1 : decide ((1 : Int) < (l.length : Int)) = true := by simp; omega
  have hb4 : b < w4.heap.size := Nat.lt_of_lt_of_le hbn F4.out.size
  have HK1 : Hid (l.getD 1 0 = k1) := Lib.hid (by rw [hlr]; rfl)
  have HHL := Lib.hid (And.intro hln hbn)
  clear hcell hlr
  go_upto_region 5 with fail
  go_region
  generalize hW5 : World.drew (World.alloc w4 _) = W5
  have b5 : Below w4.heap.size w4 W5 := by rw [← hW5]; exact (by (repeat (first | exact Below.refl _ _ | assumption | refine Below.drew ?_ | refine bdrewN ?_ _ | refine Below.alloc ?_ (by first | omega | (simp <;> omega) | (simp only [World.size_alloc] <;> omega)) _ | refine below_setRow ?_ (by first | omega | (simp <;> omega)) _ | refine Below.setCell ?_ (by first | omega | (simp <;> omega)) _)))
  have kgm : bk W5 w4.heap.size = some (.cells (mC (mZ 133 k1)) 33 (0, 0)) := by rw [← hW5, bk_drew]; exact (bk_alloc_at _ _ _ rfl).trans (by kernel_rfl)
  obtain ⟨gm, hgm⟩ : ∃ g, g = w4.heap.size := ⟨_, rfl⟩
  rw [← hgm] at kgm ⊢
  have KGM := Lib.hid kgm; have B5 := Lib.hid b5; have HGM := Lib.hid hgm
  have F5 := Lib.hid (F4.out.trans (b5.mono F4.out.size))
  have hcl : (4 : Int) ≤ (l.length : Int) := by omega
  have hlc : (l.length : Int) ≤ (c : Int) := by omega
  obtain ⟨A4, hA4⟩ : ∃ A4, (if c = 4 then some (⟨b, o, none⟩ : Addr) else some ⟨b, o + 4, none⟩) = A4 := ⟨_, rfl⟩
  have HA4 := Lib.hid hA4
  clear b5 kgm hW5 g0 g1 i0 i1 hgm hb4
  go_upto_region 7 with fail
  obtain ⟨gt, hgt⟩ : ∃ g, g = W5.heap.size := ⟨_, rfl⟩
  rw [← hgt]
  obtain ⟨L, hL⟩ : ∃ L, L = l.drop 4 := ⟨_, rfl⟩
  generalize hW6 : World.alloc W5 _ = W6
  have P0 : Hid (RM true w W6 (s0 + 1 + 1) gm gt L (mZ 133 k1) (.ok 0)) := Lib.hid (by
    have b6 : Below W5.heap.size W5 W6 := by rw [← hW6]; exact (by (repeat (first | exact Below.refl _ _ | assumption | refine Below.drew ?_ | refine bdrewN ?_ _ | refine Below.alloc ?_ (by first | omega | (simp <;> omega) | (simp only [World.size_alloc] <;> omega)) _ | refine below_setRow ?_ (by first | omega | (simp <;> omega)) _ | refine Below.setCell ?_ (by first | omega | (simp <;> omega)) _)))
    have kt : bk W6 gt = some (.cells #[.slice A4 (l.length - 4) (c - 4), .int .i64 0] 87 (0, 0)) := by rw [← hW6]; exact bk_alloc_at _ _ _ hgt
    have F6 := F5.out.trans (b6.mono F5.out.size)
    have q1 := bk_lt KM4.out; have q2 := bk_lt KGM.out; have q3 := HGM.out; have q4 := HS.out; have q5 := F4.out.size
    have hT : TU W6 gt w.heap.size L (.ok 0) := by
      refine ⟨⟨A4, l.length - 4, c - 4, kt, fun e => ?_, by omega, fun q e => ?_⟩, by omega⟩
      · rw [← HA4.out] at e
        split at e <;> cases e
      · cases e
        have e0 : L.length = l.length - 4 := by rw [hL, List.length_drop]
        refine ⟨by omega, by omega, fun h0 => ?_⟩
        rw [List.drop_zero] at h0 ⊢
        have e1 : A4 = some ⟨b, o + 4, none⟩ := by rw [← HA4.out, if_neg (by omega)]
        obtain ⟨b', o', e2, hb, hcc⟩ := H.out.below F6 (Nat.le_refl _) (by omega)
        cases e2
        refine ⟨b, o + 4, e1, hb, fun j hj => ?_⟩
        have h5 := hcc (4 + j) (by omega)
        have e3 : L[j] = l[4 + j]'(by omega) := by simp only [hL, List.getElem_drop]
        rw [e3, Nat.add_assoc]
        exact h5
    refine ⟨F6, hT.te, fun _ => hT, ?_, bk_keep b6 q2 KGM.out, by omega⟩
    exact bk_keep b6 (Nat.lt_of_lt_of_le (Nat.lt_of_lt_of_le q1 (by have := B5.out.size; exact this)) (Nat.le_refl _)) (bk_keep B5.out q1 KM4.out))
  have HLL : Hid (L.length < 2 ^ 32) := Lib.hid (by rw [hL, List.length_drop]; have := HL.out; omega)
  have HLE := Lib.hid hL
  have hres : ∀ e w', RGet 133 k1 L w e w' → RGet 133 (l.getD 1 0) (l.drop 4) w e w' := fun e w' h => by rw [HK1.out, ← hL]; exact h
  have HRES := Lib.hid hres
  have u0 : W6.cell? ⟨gm, 0, none⟩ = some (.int .u8 133) := by rw [bk_cell P0.out.km, mC_0]; rfl
  have lgm := bk_lt P0.out.km
  have LT : Hid (gt = W5.heap.size ∧ W6.heap.size = gt + 1) := Lib.hid ⟨hgt, by rw [← hW6, hgt]; simp⟩
  clear hA4 hgt hL hW6 hres H HA HL F4 F5 B3 B4 B5 KM KM4 KGM HGM HSM HKK HHD H4 HS HHL HA4 hcl hlc hln hbn LT W3 W5 w4
  have C := Lib.hid (tk_bytes gt w.heap.size 4 L _ W6 ((P0).out.tu rfl) HLL.out (by omega))
  go_upto_region 25 with fail
  go_wp2_with fail
  refine C.out.mono ?_
  rintro e X1 ⟨_, _, rfl, _, hu1, t1⟩
  try simp only [GS.adv_adv, Nat.reduceAdd] at hu1
  have Q1 := Lib.hid ((P0).out.call hu1 t1)
  clear C P0 hu1 t1
  have C := Lib.hid (tk_options gt w.heap.size L _ X1 (Q1.out.tu rfl) HLL.out)
  have HSZ : Hid (gt < (X1).heap.size) := Lib.hid ((Q1).out.te.err).2
  go_upto_region 26 with fail
  go_wp2_with fail
  refine C.out.mono ?_
  rintro e X2 ⟨AO, cO, ol, rfl, ho, ho64, hov, hte, t1⟩
  have P1 := Lib.hid (Q1.out.callE hte t1)
  have HOV := Lib.hid hov
  have ut := (bk_cell P1.out.km 41).trans (mC_41 _)
  have fz := bk_frozen P1.out.km 41
  have lt := bk_lt P1.out.km
  have HOO : Hid (OO ((X2).setCell ⟨gm, 41, none⟩ (.slice AO ol.length cO)) (X1).heap.size AO cO ol) := Lib.hid (ho.turnBelow (F := fun k => k = gm) ((Tn.refl _ _).set (.inl rfl)) fun k e => by have := HSZ.out; have := P1.out.lo; omega)
  clear C Q1 hte t1 ho ho64 hov
  go_upto_region 55 with fail
  have Q2 := Lib.hid (P1.out.set (j := 41) (v := .slice AO ol.length cO) (sM41 _ _ _ _))
  generalize World.setCell X2 _ _ = yX2 at *
  clear P1 ut fz lt
  have OKF : Hid (∀ c', OO ((yX2).setRow (s0 + 1 + 1) c') (X1).heap.size AO cO ol) := Lib.hid fun c' => HOO.out.turnBelow (F := fun k => k = s0 + 1 + 1) ((Tn.refl _ _).setRow (.inl rfl)) fun k e => by have := HSZ.out; have := Q2.out.lo; omega
  clear HOO HSZ
  have HPG : Hid (PartG L (.ok 0) (mZ 133 k1).pl (Mv.pl { mZ 133 k1 with OA := AO, os := ol, oc := cO }) (GS.opt L (GS.adv L 4 (.ok 0)))) := Lib.hid (by
    unfold PartG
    rw [show (mZ 133 k1).pl.kind = 133 from rfl]
    repeat first | rw [if_pos rfl] | rw [if_neg (by decide)]
    exact ⟨_, rfl, rfl, HOV.out⟩)
  have HST : Hid ((GS.opt L (GS.adv L 4 (.ok 0))) = getS 133 L) := Lib.hid (partG_fun HPG.out).1
  have HPL : Hid (∀ q, (GS.opt L (GS.adv L 4 (.ok 0))) = .ok q → (Mv.pl { mZ 133 k1 with OA := AO, os := ol, oc := cO }) = getV 133 k1 L) := Lib.hid (partG_fun HPG.out).2
  clear HPG
  obtain ⟨st, hst⟩ : ∃ st, st = GS.opt L (GS.adv L 4 (.ok 0)) := ⟨_, rfl⟩
  have PF : Hid (RM false w yX2 (s0 + 1 + 1) gm gt L { mZ 133 k1 with OA := AO, os := ol, oc := cO } st) := Lib.hid (by rw [hst]; exact (Q2).out)
  have HM : Hid (∀ c', MvOk (World.setRow yX2 (s0 + 1 + 1) c') (World.setRow yX2 (s0 + 1 + 1) c').heap.size { mZ 133 k1 with OA := AO, os := ol, oc := cO }) := Lib.hid (fun c' => mv_ok (no_d _ _) (OKF.out c').ovs (no_s _ _) (no_r _ _) (by show _ ∧ _; simp [mZ]))
  rw [← hst] at HST HPL
  clear hst Q2
  have c1 := (PF.out.te.err).1
  have lgt := (PF.out.te.err).2
  have km8 := PF.out.km
  have kr8 := PF.out.kr
  have lm8 := bk_lt km8
  have lr8 := bk_lt kr8
  have sz := fun m => mC_size m
  have so := fun m => mC_ones m
  by_cases he : st.err = 0
  · have n1 : (((st.err : Nat) : Int) != 0) = false := by simp [he]
    obtain ⟨q, hq⟩ := GS.err0 he
    have FX := Lib.hid (HRES.out _ _ (PF.out.fin HST.out hq (HPL.out q hq) (HM.out _)))
    clear he hq
    go_wp2_with fail
    refine ret_two (cs := mC _) rfl rfl rfl rfl (by rw [bk_setRow_same, kr8]; rfl) Try.underlying33 rfl (by rw [mC_size]; kernel_rfl) ?_
    exact FX.out
  · have n1 : (((st.err : Nat) : Int) != 0) = true := by simp [he]
    have FX := Lib.hid (fun W' hb => HRES.out _ W' (rm_bad HST.out he hb))
    have hng : gt ≠ s0 + 1 + 1 := by have := PF.out.lo; omega
    have hng' : s0 + 1 + 1 ≠ gt := hng.symm
    have cR : ∀ c, (World.setRow yX2 (s0 + 1 + 1) c).cell? ⟨gt, 1, none⟩ = some (.int .i64 ((st.err : Nat) : Int)) := fun c => (cell_of_bk (bk_setRow_other _ _ _ _ hng) 1).trans c1
    clear he
    go_upto_region 56 with fail
    go_region
    go_wp2_with fail
    refine ret_two (cs := mC (mZ 0 0)) rfl rfl rfl rfl (by rw [bk_drew, bk_setRow_same, kr8]; kernel_rfl) Try.underlying33 rfl (by rw [mC_size]; kernel_rfl) ?_
    exact FX.out _ (below_row PF.out.bl PF.out.lo.1 _).drew
end Go.Proofs.Ytjimmfbjhkoekaa
/- Icmps, the document: Get, of a kind. -/
namespace Go.Proofs.Ytjimmfbjhkoekaa
open Go.RowKit
set_option maxRecDepth 100000
set_option maxHeartbeats 2000000
theorem rget134 (src dst : List UInt8) (h1 : src.length = 16) (h2 : dst.length = 16) (A : Option Addr) (l : List UInt8) (c : Nat) (w : World) (h : Rd w w.heap.size A l) (hA : A = none → l = [] ∧ c = 0) (hc : l.length ≤ c) (hl : l.length < 2 ^ 32) (h4 : ¬ l.length < 4) (hsm : sumOf (ovr src dst 58 l) = 0) (hk : l.headD 0 = 134) :
    Calls Try.prog 20 #[av src, av dst, .slice A l.length c] w fun e w' => RGet 134 (l.getD 1 0) (l.drop 4) w e w' := by
  have hd : ∃ k1 r, l = 134 :: k1 :: r := by
    match l, h4, hk with
    | x :: y :: r, _, hk => exact ⟨y, r, by rw [show x = 134 from hk]⟩
    | [x], h4, _ => exact absurd (by simp) h4
    | [], h4, _ => exact absurd (by simp) h4
  have HSM := Lib.hid hsm; have HKK := Lib.hid hk; have HHD := Lib.hid hd; have H4 := Lib.hid h4
  have H := Lib.hid h; have HA := Lib.hid hA; have HL := Lib.hid hl
  have z1 := h1; have z2 := h2
  clear h hA hl hsm hk hd
  go_enter Try.func20, Try.ntmps20
  go_upto_region 1 with fail
  generalize hW3 : World.alloc (World.alloc (World.alloc w _) _) _ = W3
  have b3 : Below w.heap.size w W3 := by rw [← hW3]; exact (by (repeat (first | exact Below.refl _ _ | assumption | refine Below.drew ?_ | refine bdrewN ?_ _ | refine Below.alloc ?_ (by first | omega | (simp <;> omega) | (simp only [World.size_alloc] <;> omega)) _ | refine below_setRow ?_ (by first | omega | (simp <;> omega)) _ | refine Below.setCell ?_ (by first | omega | (simp <;> omega)) _)))
  obtain ⟨s0, hs⟩ : ∃ s, s = w.heap.size := ⟨_, rfl⟩
  have ks : bk W3 s0 = some (.cells (src.map B).toArray 23 (0, 0)) := by rw [← hW3, hs, bk_alloc_past _ _ _ (by simp <;> omega), bk_alloc_past _ _ _ (by simp)]; exact bk_alloc_at _ _ _ rfl
  have kd : bk W3 (s0 + 1) = some (.cells (dst.map B).toArray 23 (0, 0)) := by rw [← hW3, hs, bk_alloc_past _ _ _ (by simp)]; exact bk_alloc_at _ _ _ (by simp)
  have km : bk W3 (s0 + 1 + 1) = some (.cells (mC (mZ 0 0)) 33 (0, 0)) := by rw [← hW3, hs]; exact (bk_alloc_at _ _ _ (by simp)).trans (by kernel_rfl)
  rw [← hs]
  have B3 := Lib.hid b3; have HS := Lib.hid hs
  clear b3 hs hW3
  have KM := Lib.hid km
  have l1 := bk_lt ks; have l2 := bk_lt kd; have l3 := bk_lt km
  have d1 : decide ((l.length : Int) < 4) = false := by simp; omega
  have CG : Hid (Calls Try.prog 35 #[av src, av dst, B 58, .slice A l.length c] W3 fun e w' => e = .returned (.int .u16 0) ∧ Below W3.heap.size W3 w') := Lib.hid (by
    refine (rover_any src dst 58 A l c W3 h1 h2 ((H.out.below B3.out (Nat.le_refl _)).mono B3.out.size) HA.out HL.out).mono ?_
    rintro e w' ⟨rfl, b⟩
    rw [HSM.out]
    exact ⟨rfl, b⟩)
  clear h4
  go_wp2_with fail
  refine CG.out.mono ?_
  rintro e w4 ⟨rfl, b4⟩
  have B4 := Lib.hid b4
  have km4 := bk_keep b4 l3 km
  have KM4 := Lib.hid km4
  have F4 := Lib.hid (B3.out.trans (b4.mono B3.out.size))
  clear ks kd km l1 l2 l3 b4 CG km4 d1 z1 z2
  obtain ⟨k1, rr, hlr⟩ := HHD.out
  have hln : 4 ≤ l.length := by have := H4.out; omega
  obtain ⟨b, o, rfl, hbn, hcell⟩ : ∃ b o, A = some ⟨b, o, none⟩ ∧ b < w.heap.size ∧ ∀ j (h : j < l.length), w4.cell? ⟨b, o + j, none⟩ = some (B l[j]) := by
    obtain ⟨b, o, e, hb, hc'⟩ := (H.out.below F4.out (Nat.le_refl _)) (by omega)
    exact ⟨b, o, e, hb, hc'⟩
  have g0 : w4.cell? ⟨b, o, none⟩ = some (.int .u8 ((134 : UInt8).toNat : Int)) := by have := hcell 0 (by omega); rw [show l[0] = 134 by simp [hlr]] at this; exact this
  have g1 : w4.cell? ⟨b, o + 1, none⟩ = some (.int .u8 (k1.toNat : Int)) := by have := hcell 1 (by omega); rw [show l[1] = k1 by simp [hlr]] at this; exact this
  have i0 : decide ((0 : Int) < (l.length : Int)) = true := by simp; omega
  have i1 : decide ((1 : Int) < (l.length : Int)) = true := by simp; omega
  have hb4 : b < w4.heap.size := Nat.lt_of_lt_of_le hbn F4.out.size
  have HK1 : Hid (l.getD 1 0 = k1) := Lib.hid (by rw [hlr]; rfl)
  have HHL := Lib.hid (And.intro hln hbn)
  clear hcell hlr
  go_upto_region 5 with fail
  go_region
  generalize hW5 : World.drew (World.alloc w4 _) = W5
  have b5 : Below w4.heap.size w4 W5 := by rw [← hW5]; exact (by (repeat (first | exact Below.refl _ _ | assumption | refine Below.drew ?_ | refine bdrewN ?_ _ | refine Below.alloc ?_ (by first | omega | (simp <;> omega) | (simp only [World.size_alloc] <;> omega)) _ | refine below_setRow ?_ (by first | omega | (simp <;> omega)) _ | refine Below.setCell ?_ (by first | omega | (simp <;> omega)) _)))
  have kgm : bk W5 w4.heap.size = some (.cells (mC (mZ 134 k1)) 33 (0, 0)) := by rw [← hW5, bk_drew]; exact (bk_alloc_at _ _ _ rfl).trans (by kernel_rfl)
  obtain ⟨gm, hgm⟩ : ∃ g, g = w4.heap.size := ⟨_, rfl⟩
  rw [← hgm] at kgm ⊢
  have KGM := Lib.hid kgm; have B5 := Lib.hid b5; have HGM := Lib.hid hgm
  have F5 := Lib.hid (F4.out.trans (b5.mono F4.out.size))
  have hcl : (4 : Int) ≤ (l.length : Int) := by omega
  have hlc : (l.length : Int) ≤ (c : Int) := by omega
  obtain ⟨A4, hA4⟩ : ∃ A4, (if c = 4 then some (⟨b, o, none⟩ : Addr) else some ⟨b, o + 4, none⟩) = A4 := ⟨_, rfl⟩
  have HA4 := Lib.hid hA4
  clear b5 kgm hW5 g0 g1 i0 i1 hgm hb4
  go_upto_region 7 with fail
  obtain ⟨gt, hgt⟩ : ∃ g, g = W5.heap.size := ⟨_, rfl⟩
  rw [← hgt]
  obtain ⟨L, hL⟩ : ∃ L, L = l.drop 4 := ⟨_, rfl⟩
  generalize hW6 : World.alloc W5 _ = W6
  have P0 : Hid (RM true w W6 (s0 + 1 + 1) gm gt L (mZ 134 k1) (.ok 0)) := Lib.hid (by
    have b6 : Below W5.heap.size W5 W6 := by rw [← hW6]; exact (by (repeat (first | exact Below.refl _ _ | assumption | refine Below.drew ?_ | refine bdrewN ?_ _ | refine Below.alloc ?_ (by first | omega | (simp <;> omega) | (simp only [World.size_alloc] <;> omega)) _ | refine below_setRow ?_ (by first | omega | (simp <;> omega)) _ | refine Below.setCell ?_ (by first | omega | (simp <;> omega)) _)))
    have kt : bk W6 gt = some (.cells #[.slice A4 (l.length - 4) (c - 4), .int .i64 0] 87 (0, 0)) := by rw [← hW6]; exact bk_alloc_at _ _ _ hgt
    have F6 := F5.out.trans (b6.mono F5.out.size)
    have q1 := bk_lt KM4.out; have q2 := bk_lt KGM.out; have q3 := HGM.out; have q4 := HS.out; have q5 := F4.out.size
    have hT : TU W6 gt w.heap.size L (.ok 0) := by
      refine ⟨⟨A4, l.length - 4, c - 4, kt, fun e => ?_, by omega, fun q e => ?_⟩, by omega⟩
      · rw [← HA4.out] at e
        split at e <;> cases e
      · cases e
        have e0 : L.length = l.length - 4 := by rw [hL, List.length_drop]
        refine ⟨by omega, by omega, fun h0 => ?_⟩
        rw [List.drop_zero] at h0 ⊢
        have e1 : A4 = some ⟨b, o + 4, none⟩ := by rw [← HA4.out, if_neg (by omega)]
        obtain ⟨b', o', e2, hb, hcc⟩ := H.out.below F6 (Nat.le_refl _) (by omega)
        cases e2
        refine ⟨b, o + 4, e1, hb, fun j hj => ?_⟩
        have h5 := hcc (4 + j) (by omega)
        have e3 : L[j] = l[4 + j]'(by omega) := by simp only [hL, List.getElem_drop]
        rw [e3, Nat.add_assoc]
        exact h5
    refine ⟨F6, hT.te, fun _ => hT, ?_, bk_keep b6 q2 KGM.out, by omega⟩
    exact bk_keep b6 (Nat.lt_of_lt_of_le (Nat.lt_of_lt_of_le q1 (by have := B5.out.size; exact this)) (Nat.le_refl _)) (bk_keep B5.out q1 KM4.out))
  have HLL : Hid (L.length < 2 ^ 32) := Lib.hid (by rw [hL, List.length_drop]; have := HL.out; omega)
  have HLE := Lib.hid hL
  have hres : ∀ e w', RGet 134 k1 L w e w' → RGet 134 (l.getD 1 0) (l.drop 4) w e w' := fun e w' h => by rw [HK1.out, ← hL]; exact h
  have HRES := Lib.hid hres
  have u0 : W6.cell? ⟨gm, 0, none⟩ = some (.int .u8 134) := by rw [bk_cell P0.out.km, mC_0]; rfl
  have lgm := bk_lt P0.out.km
  have LT : Hid (gt = W5.heap.size ∧ W6.heap.size = gt + 1) := Lib.hid ⟨hgt, by rw [← hW6, hgt]; simp⟩
  clear hA4 hgt hL hW6 hres H HA HL F4 F5 B3 B4 B5 KM KM4 KGM HGM HSM HKK HHD H4 HS HHL HA4 hcl hlc hln hbn LT W3 W5 w4
  obtain ⟨v1, hv1, cv1⟩ := tk_byte gt w.heap.size L _ W6 (P0.out.tu rfl) HLL.out
  have C := Lib.hid cv1
  have bv1 : (v1).toNat < 256 := (v1).toNat_lt
  have Hv1 := Lib.hid hv1
  clear hv1 cv1
  go_upto_region 28 with fail
  go_wp2_with fail
  refine C.out.mono ?_
  rintro e X1 ⟨rfl, hu1, t1⟩
  try simp only [GS.adv_adv, Nat.reduceAdd] at hu1
  have P1 := Lib.hid (P0.out.call hu1 t1)
  have ut := (bk_cell P1.out.km 4).trans (mC_4 _)
  have fz := bk_frozen P1.out.km 4
  have lt := bk_lt P1.out.km
  clear C P0 hu1 t1
  go_upto_region 29 with fail
  have Q1 := Lib.hid (P1.out.set (j := 4) (v := B v1) (sM4 _ _))
  generalize World.setCell X1 _ _ = yX1 at *
  clear P1 ut fz lt bv1
  obtain ⟨v2, hv2, cv2⟩ := tk_byte gt w.heap.size L _ yX1 (Q1.out.tu rfl) HLL.out
  have C := Lib.hid cv2
  have bv2 : (v2).toNat < 256 := (v2).toNat_lt
  have Hv2 := Lib.hid hv2
  clear hv2 cv2
  go_upto_region 29 with fail
  go_wp2_with fail
  refine C.out.mono ?_
  rintro e X2 ⟨rfl, hu1, t1⟩
  try simp only [GS.adv_adv, Nat.reduceAdd] at hu1
  have P1 := Lib.hid (Q1.out.call hu1 t1)
  have ut := (bk_cell P1.out.km 5).trans (mC_5 _)
  have fz := bk_frozen P1.out.km 5
  have lt := bk_lt P1.out.km
  clear C Q1 hu1 t1
  go_upto_region 30 with fail
  have Q2 := Lib.hid (P1.out.set (j := 5) (v := B v2) (sM5 _ _))
  generalize World.setCell X2 _ _ = yX2 at *
  clear P1 ut fz lt bv2
  have C := Lib.hid (tk_num gt w.heap.size 2 L _ yX2 (Q2.out.tu rfl) HLL.out (by omega))
  go_upto_region 30 with fail
  go_wp2_with fail
  refine C.out.mono ?_
  rintro e X3 ⟨rfl, hu1, t1⟩
  try simp only [GS.adv_adv, Nat.reduceAdd] at hu1
  have P1 := Lib.hid (Q2.out.call hu1 t1)
  generalize gv3 : val (GS.got L 2 _) = v3
  have hv3 := (gv3).symm
  clear gv3
  have bv3 : v3 < 256 ^ 2 := by rw [hv3]; exact Nat.lt_of_lt_of_le (val_lt _) (Nat.pow_le_pow_right (by decide) (got_len _ _ _))
  have Hv3 := Lib.hid (And.intro hv3 bv3)
  simp only [Nat.reducePow] at bv3
  have ut := (bk_cell P1.out.km 6).trans (mC_6 _)
  have fz := bk_frozen P1.out.km 6
  have lt := bk_lt P1.out.km
  clear C Q2 hu1 t1 hv3
  go_upto_region 31 with fail
  have Q3 := Lib.hid (P1.out.set (j := 6) (v := .int .u16 (v3 : Int)) (sM6 _ _))
  generalize World.setCell X3 _ _ = yX3 at *
  clear P1 ut fz lt bv3
  have C := Lib.hid (tk_num gt w.heap.size 4 L _ yX3 (Q3.out.tu rfl) HLL.out (by omega))
  go_upto_region 31 with fail
  go_wp2_with fail
  refine C.out.mono ?_
  rintro e X4 ⟨rfl, hu1, t1⟩
  try simp only [GS.adv_adv, Nat.reduceAdd] at hu1
  have P1 := Lib.hid (Q3.out.call hu1 t1)
  generalize gv4 : val (GS.got L 4 _) = v4
  have hv4 := (gv4).symm
  clear gv4
  have bv4 : v4 < 256 ^ 4 := by rw [hv4]; exact Nat.lt_of_lt_of_le (val_lt _) (Nat.pow_le_pow_right (by decide) (got_len _ _ _))
  have Hv4 := Lib.hid (And.intro hv4 bv4)
  simp only [Nat.reducePow] at bv4
  have ut := (bk_cell P1.out.km 7).trans (mC_7 _)
  have fz := bk_frozen P1.out.km 7
  have lt := bk_lt P1.out.km
  clear C Q3 hu1 t1 hv4
  go_upto_region 32 with fail
  have Q4 := Lib.hid (P1.out.set (j := 7) (v := .int .u32 (v4 : Int)) (sM7 _ _))
  generalize World.setCell X4 _ _ = yX4 at *
  clear P1 ut fz lt bv4
  have C := Lib.hid (tk_num gt w.heap.size 4 L _ yX4 (Q4.out.tu rfl) HLL.out (by omega))
  go_upto_region 32 with fail
  go_wp2_with fail
  refine C.out.mono ?_
  rintro e X5 ⟨rfl, hu1, t1⟩
  try simp only [GS.adv_adv, Nat.reduceAdd] at hu1
  have P1 := Lib.hid (Q4.out.call hu1 t1)
  generalize gv5 : val (GS.got L 4 _) = v5
  have hv5 := (gv5).symm
  clear gv5
  have bv5 : v5 < 256 ^ 4 := by rw [hv5]; exact Nat.lt_of_lt_of_le (val_lt _) (Nat.pow_le_pow_right (by decide) (got_len _ _ _))
  have Hv5 := Lib.hid (And.intro hv5 bv5)
  simp only [Nat.reducePow] at bv5
  have ut := (bk_cell P1.out.km 8).trans (mC_8 _)
  have fz := bk_frozen P1.out.km 8
  have lt := bk_lt P1.out.km
  clear C Q4 hu1 t1 hv5
  go_upto_region 33 with fail
  have Q5 := Lib.hid (P1.out.set (j := 8) (v := .int .u32 (v5 : Int)) (sM8 _ _))
  generalize World.setCell X5 _ _ = yX5 at *
  clear P1 ut fz lt bv5
  have C := Lib.hid (tk_options gt w.heap.size L _ yX5 (Q5.out.tu rfl) HLL.out)
  have HSZ : Hid (gt < (yX5).heap.size) := Lib.hid ((Q5).out.te.err).2
  go_upto_region 33 with fail
  go_wp2_with fail
  refine C.out.mono ?_
  rintro e X6 ⟨AO, cO, ol, rfl, ho, ho64, hov, hte, t1⟩
  have P1 := Lib.hid (Q5.out.callE hte t1)
  have HOV := Lib.hid hov
  have ut := (bk_cell P1.out.km 41).trans (mC_41 _)
  have fz := bk_frozen P1.out.km 41
  have lt := bk_lt P1.out.km
  have HOO : Hid (OO ((X6).setCell ⟨gm, 41, none⟩ (.slice AO ol.length cO)) (yX5).heap.size AO cO ol) := Lib.hid (ho.turnBelow (F := fun k => k = gm) ((Tn.refl _ _).set (.inl rfl)) fun k e => by have := HSZ.out; have := P1.out.lo; omega)
  clear C Q5 hte t1 ho ho64 hov
  go_upto_region 55 with fail
  have Q6 := Lib.hid (P1.out.set (j := 41) (v := .slice AO ol.length cO) (sM41 _ _ _ _))
  generalize World.setCell X6 _ _ = yX6 at *
  clear P1 ut fz lt
  have OKF : Hid (∀ c', OO ((yX6).setRow (s0 + 1 + 1) c') (yX5).heap.size AO cO ol) := Lib.hid fun c' => HOO.out.turnBelow (F := fun k => k = s0 + 1 + 1) ((Tn.refl _ _).setRow (.inl rfl)) fun k e => by have := HSZ.out; have := Q6.out.lo; omega
  clear HOO HSZ
  have HPG : Hid (PartG L (.ok 0) (mZ 134 k1).pl (Mv.pl { mZ 134 k1 with hops := v1, flags := v2, life := v3, reach := v4, retr := v5, OA := AO, os := ol, oc := cO }) (GS.opt L (GS.adv L 12 (.ok 0)))) := Lib.hid (by
    unfold PartG
    rw [show (mZ 134 k1).pl.kind = 134 from rfl]
    repeat first | rw [if_pos rfl] | rw [if_neg (by decide)]
    exact ⟨_, _, _, _, _, _, rfl, byte_ok Hv1.out, byte_ok Hv2.out, num_ok' Hv3.out.1, num_ok' Hv4.out.1, num_ok' Hv5.out.1, ⟨rfl, HOV.out⟩, Hv3.out.2, Hv4.out.2, Hv5.out.2⟩)
  have HST : Hid ((GS.opt L (GS.adv L 12 (.ok 0))) = getS 134 L) := Lib.hid (partG_fun HPG.out).1
  have HPL : Hid (∀ q, (GS.opt L (GS.adv L 12 (.ok 0))) = .ok q → (Mv.pl { mZ 134 k1 with hops := v1, flags := v2, life := v3, reach := v4, retr := v5, OA := AO, os := ol, oc := cO }) = getV 134 k1 L) := Lib.hid (partG_fun HPG.out).2
  clear HPG
  obtain ⟨st, hst⟩ : ∃ st, st = GS.opt L (GS.adv L 12 (.ok 0)) := ⟨_, rfl⟩
  have PF : Hid (RM false w yX6 (s0 + 1 + 1) gm gt L { mZ 134 k1 with hops := v1, flags := v2, life := v3, reach := v4, retr := v5, OA := AO, os := ol, oc := cO } st) := Lib.hid (by rw [hst]; exact (Q6).out)
  have HM : Hid (∀ c', MvOk (World.setRow yX6 (s0 + 1 + 1) c') (World.setRow yX6 (s0 + 1 + 1) c').heap.size { mZ 134 k1 with hops := v1, flags := v2, life := v3, reach := v4, retr := v5, OA := AO, os := ol, oc := cO }) := Lib.hid (fun c' => mv_ok (no_d _ _) (OKF.out c').ovs (no_s _ _) (no_r _ _) ⟨by show (0 : Nat) < _; decide, Hv3.out.2, Hv4.out.2, Hv5.out.2, by show (0 : Nat) < _; decide⟩)
  rw [← hst] at HST HPL
  clear hst Q6
  have c1 := (PF.out.te.err).1
  have lgt := (PF.out.te.err).2
  have km8 := PF.out.km
  have kr8 := PF.out.kr
  have lm8 := bk_lt km8
  have lr8 := bk_lt kr8
  have sz := fun m => mC_size m
  have so := fun m => mC_ones m
  by_cases he : st.err = 0
  · have n1 : (((st.err : Nat) : Int) != 0) = false := by simp [he]
    obtain ⟨q, hq⟩ := GS.err0 he
    have FX := Lib.hid (HRES.out _ _ (PF.out.fin HST.out hq (HPL.out q hq) (HM.out _)))
    clear he hq
    go_wp2_with fail
    refine ret_two (cs := mC _) rfl rfl rfl rfl (by rw [bk_setRow_same, kr8]; rfl) Try.underlying33 rfl (by rw [mC_size]; kernel_rfl) ?_
    exact FX.out
  · have n1 : (((st.err : Nat) : Int) != 0) = true := by simp [he]
    have FX := Lib.hid (fun W' hb => HRES.out _ W' (rm_bad HST.out he hb))
    have hng : gt ≠ s0 + 1 + 1 := by have := PF.out.lo; omega
    have hng' : s0 + 1 + 1 ≠ gt := hng.symm
    have cR : ∀ c, (World.setRow yX6 (s0 + 1 + 1) c).cell? ⟨gt, 1, none⟩ = some (.int .i64 ((st.err : Nat) : Int)) := fun c => (cell_of_bk (bk_setRow_other _ _ _ _ hng) 1).trans c1
    clear he
    go_upto_region 56 with fail
    go_region
    go_wp2_with fail
    refine ret_two (cs := mC (mZ 0 0)) rfl rfl rfl rfl (by rw [bk_drew, bk_setRow_same, kr8]; kernel_rfl) Try.underlying33 rfl (by rw [mC_size]; kernel_rfl) ?_
    exact FX.out _ (below_row PF.out.bl PF.out.lo.1 _).drew
theorem rget135 (src dst : List UInt8) (h1 : src.length = 16) (h2 : dst.length = 16) (A : Option Addr) (l : List UInt8) (c : Nat) (w : World) (h : Rd w w.heap.size A l) (hA : A = none → l = [] ∧ c = 0) (hc : l.length ≤ c) (hl : l.length < 2 ^ 32) (h4 : ¬ l.length < 4) (hsm : sumOf (ovr src dst 58 l) = 0) (hk : l.headD 0 = 135) :
    Calls Try.prog 20 #[av src, av dst, .slice A l.length c] w fun e w' => RGet 135 (l.getD 1 0) (l.drop 4) w e w' := by
  have hd : ∃ k1 r, l = 135 :: k1 :: r := by
    match l, h4, hk with
    | x :: y :: r, _, hk => exact ⟨y, r, by rw [show x = 135 from hk]⟩
    | [x], h4, _ => exact absurd (by simp) h4
    | [], h4, _ => exact absurd (by simp) h4
  have HSM := Lib.hid hsm; have HKK := Lib.hid hk; have HHD := Lib.hid hd; have H4 := Lib.hid h4
  have H := Lib.hid h; have HA := Lib.hid hA; have HL := Lib.hid hl
  have z1 := h1; have z2 := h2
  clear h hA hl hsm hk hd
  go_enter Try.func20, Try.ntmps20
  go_upto_region 1 with fail
  generalize hW3 : World.alloc (World.alloc (World.alloc w _) _) _ = W3
  have b3 : Below w.heap.size w W3 := by rw [← hW3]; exact (by (repeat (first | exact Below.refl _ _ | assumption | refine Below.drew ?_ | refine bdrewN ?_ _ | refine Below.alloc ?_ (by first | omega | (simp <;> omega) | (simp only [World.size_alloc] <;> omega)) _ | refine below_setRow ?_ (by first | omega | (simp <;> omega)) _ | refine Below.setCell ?_ (by first | omega | (simp <;> omega)) _)))
  obtain ⟨s0, hs⟩ : ∃ s, s = w.heap.size := ⟨_, rfl⟩
  have ks : bk W3 s0 = some (.cells (src.map B).toArray 23 (0, 0)) := by rw [← hW3, hs, bk_alloc_past _ _ _ (by simp <;> omega), bk_alloc_past _ _ _ (by simp)]; exact bk_alloc_at _ _ _ rfl
  have kd : bk W3 (s0 + 1) = some (.cells (dst.map B).toArray 23 (0, 0)) := by rw [← hW3, hs, bk_alloc_past _ _ _ (by simp)]; exact bk_alloc_at _ _ _ (by simp)
  have km : bk W3 (s0 + 1 + 1) = some (.cells (mC (mZ 0 0)) 33 (0, 0)) := by rw [← hW3, hs]; exact (bk_alloc_at _ _ _ (by simp)).trans (by kernel_rfl)
  rw [← hs]
  have B3 := Lib.hid b3; have HS := Lib.hid hs
  clear b3 hs hW3
  have KM := Lib.hid km
  have l1 := bk_lt ks; have l2 := bk_lt kd; have l3 := bk_lt km
  have d1 : decide ((l.length : Int) < 4) = false := by simp; omega
  have CG : Hid (Calls Try.prog 35 #[av src, av dst, B 58, .slice A l.length c] W3 fun e w' => e = .returned (.int .u16 0) ∧ Below W3.heap.size W3 w') := Lib.hid (by
    refine (rover_any src dst 58 A l c W3 h1 h2 ((H.out.below B3.out (Nat.le_refl _)).mono B3.out.size) HA.out HL.out).mono ?_
    rintro e w' ⟨rfl, b⟩
    rw [HSM.out]
    exact ⟨rfl, b⟩)
  clear h4
  go_wp2_with fail
  refine CG.out.mono ?_
  rintro e w4 ⟨rfl, b4⟩
  have B4 := Lib.hid b4
  have km4 := bk_keep b4 l3 km
  have KM4 := Lib.hid km4
  have F4 := Lib.hid (B3.out.trans (b4.mono B3.out.size))
  clear ks kd km l1 l2 l3 b4 CG km4 d1 z1 z2
  obtain ⟨k1, rr, hlr⟩ := HHD.out
  have hln : 4 ≤ l.length := by have := H4.out; omega
  obtain ⟨b, o, rfl, hbn, hcell⟩ : ∃ b o, A = some ⟨b, o, none⟩ ∧ b < w.heap.size ∧ ∀ j (h : j < l.length), w4.cell? ⟨b, o + j, none⟩ = some (B l[j]) := by
    obtain ⟨b, o, e, hb, hc'⟩ := (H.out.below F4.out (Nat.le_refl _)) (by omega)
    exact ⟨b, o, e, hb, hc'⟩
  have g0 : w4.cell? ⟨b, o, none⟩ = some (.int .u8 ((135 : UInt8).toNat : Int)) := by have := hcell 0 (by omega); rw [show l[0] = 135 by simp [hlr]] at this; exact this
  have g1 : w4.cell? ⟨b, o + 1, none⟩ = some (.int .u8 (k1.toNat : Int)) := by have := hcell 1 (by omega); rw [show l[1] = k1 by simp [hlr]] at this; exact this
  have i0 : decide ((0 : Int) < (l.length : Int)) = true := by simp; omega
  have i1 : decide ((1 : Int) < (l.length : Int)) = true := by simp; omega
  have hb4 : b < w4.heap.size := Nat.lt_of_lt_of_le hbn F4.out.size
  have HK1 : Hid (l.getD 1 0 = k1) := Lib.hid (by rw [hlr]; rfl)
  have HHL := Lib.hid (And.intro hln hbn)
  clear hcell hlr
  go_upto_region 5 with fail
  go_region
  generalize hW5 : World.drew (World.alloc w4 _) = W5
  have b5 : Below w4.heap.size w4 W5 := by rw [← hW5]; exact (by (repeat (first | exact Below.refl _ _ | assumption | refine Below.drew ?_ | refine bdrewN ?_ _ | refine Below.alloc ?_ (by first | omega | (simp <;> omega) | (simp only [World.size_alloc] <;> omega)) _ | refine below_setRow ?_ (by first | omega | (simp <;> omega)) _ | refine Below.setCell ?_ (by first | omega | (simp <;> omega)) _)))
  have kgm : bk W5 w4.heap.size = some (.cells (mC (mZ 135 k1)) 33 (0, 0)) := by rw [← hW5, bk_drew]; exact (bk_alloc_at _ _ _ rfl).trans (by kernel_rfl)
  obtain ⟨gm, hgm⟩ : ∃ g, g = w4.heap.size := ⟨_, rfl⟩
  rw [← hgm] at kgm ⊢
  have KGM := Lib.hid kgm; have B5 := Lib.hid b5; have HGM := Lib.hid hgm
  have F5 := Lib.hid (F4.out.trans (b5.mono F4.out.size))
  have hcl : (4 : Int) ≤ (l.length : Int) := by omega
  have hlc : (l.length : Int) ≤ (c : Int) := by omega
  obtain ⟨A4, hA4⟩ : ∃ A4, (if c = 4 then some (⟨b, o, none⟩ : Addr) else some ⟨b, o + 4, none⟩) = A4 := ⟨_, rfl⟩
  have HA4 := Lib.hid hA4
  clear b5 kgm hW5 g0 g1 i0 i1 hgm hb4
  go_upto_region 7 with fail
  obtain ⟨gt, hgt⟩ : ∃ g, g = W5.heap.size := ⟨_, rfl⟩
  rw [← hgt]
  obtain ⟨L, hL⟩ : ∃ L, L = l.drop 4 := ⟨_, rfl⟩
  generalize hW6 : World.alloc W5 _ = W6
  have P0 : Hid (RM true w W6 (s0 + 1 + 1) gm gt L (mZ 135 k1) (.ok 0)) := Lib.hid (by
    have b6 : Below W5.heap.size W5 W6 := by rw [← hW6]; exact (by (repeat (first | exact Below.refl _ _ | assumption | refine Below.drew ?_ | refine bdrewN ?_ _ | refine Below.alloc ?_ (by first | omega | (simp <;> omega) | (simp only [World.size_alloc] <;> omega)) _ | refine below_setRow ?_ (by first | omega | (simp <;> omega)) _ | refine Below.setCell ?_ (by first | omega | (simp <;> omega)) _)))
    have kt : bk W6 gt = some (.cells #[.slice A4 (l.length - 4) (c - 4), .int .i64 0] 87 (0, 0)) := by rw [← hW6]; exact bk_alloc_at _ _ _ hgt
    have F6 := F5.out.trans (b6.mono F5.out.size)
    have q1 := bk_lt KM4.out; have q2 := bk_lt KGM.out; have q3 := HGM.out; have q4 := HS.out; have q5 := F4.out.size
    have hT : TU W6 gt w.heap.size L (.ok 0) := by
      refine ⟨⟨A4, l.length - 4, c - 4, kt, fun e => ?_, by omega, fun q e => ?_⟩, by omega⟩
      · rw [← HA4.out] at e
        split at e <;> cases e
      · cases e
        have e0 : L.length = l.length - 4 := by rw [hL, List.length_drop]
        refine ⟨by omega, by omega, fun h0 => ?_⟩
        rw [List.drop_zero] at h0 ⊢
        have e1 : A4 = some ⟨b, o + 4, none⟩ := by rw [← HA4.out, if_neg (by omega)]
        obtain ⟨b', o', e2, hb, hcc⟩ := H.out.below F6 (Nat.le_refl _) (by omega)
        cases e2
        refine ⟨b, o + 4, e1, hb, fun j hj => ?_⟩
        have h5 := hcc (4 + j) (by omega)
        have e3 : L[j] = l[4 + j]'(by omega) := by simp only [hL, List.getElem_drop]
        rw [e3, Nat.add_assoc]
        exact h5
    refine ⟨F6, hT.te, fun _ => hT, ?_, bk_keep b6 q2 KGM.out, by omega⟩
    exact bk_keep b6 (Nat.lt_of_lt_of_le (Nat.lt_of_lt_of_le q1 (by have := B5.out.size; exact this)) (Nat.le_refl _)) (bk_keep B5.out q1 KM4.out))
  have HLL : Hid (L.length < 2 ^ 32) := Lib.hid (by rw [hL, List.length_drop]; have := HL.out; omega)
  have HLE := Lib.hid hL
  have hres : ∀ e w', RGet 135 k1 L w e w' → RGet 135 (l.getD 1 0) (l.drop 4) w e w' := fun e w' h => by rw [HK1.out, ← hL]; exact h
  have HRES := Lib.hid hres
  have u0 : W6.cell? ⟨gm, 0, none⟩ = some (.int .u8 135) := by rw [bk_cell P0.out.km, mC_0]; rfl
  have lgm := bk_lt P0.out.km
  have LT : Hid (gt = W5.heap.size ∧ W6.heap.size = gt + 1) := Lib.hid ⟨hgt, by rw [← hW6, hgt]; simp⟩
  clear hA4 hgt hL hW6 hres H HA HL F4 F5 B3 B4 B5 KM KM4 KGM HGM HSM HKK HHD H4 HS HHL HA4 hcl hlc hln hbn LT W3 W5 w4
  have C := Lib.hid (tk_bytes gt w.heap.size 4 L _ W6 ((P0).out.tu rfl) HLL.out (by omega))
  go_upto_region 35 with fail
  go_wp2_with fail
  refine C.out.mono ?_
  rintro e X1 ⟨_, _, rfl, _, hu1, t1⟩
  try simp only [GS.adv_adv, Nat.reduceAdd] at hu1
  have Q1 := Lib.hid ((P0).out.call hu1 t1)
  clear C P0 hu1 t1
  have C := Lib.hid (tk_addr gt w.heap.size L _ X1 (Q1.out.tu rfl) HLL.out)
  go_upto_region 36 with fail
  go_wp2_with fail
  refine C.out.mono ?_
  rintro e X2 ⟨v2, hv2, rfl, hok, hu1, t1⟩
  try simp only [GS.adv_adv, Nat.reduceAdd] at hu1
  have P1 := Lib.hid (Q1.out.call hu1 t1)
  have Hv2 := Lib.hid (And.intro hv2 hok)
  have ut := P1.out.km
  have lt := bk_lt ut
  clear C Q1 hu1 t1 hok
  go_upto_region 36 with fail
  refine (stAdrI _ _ _ _ _ _ _ _ _ _ _).mp ?_
  rw [stAdrQ]
  show stAny _ 16 X2 gm 9 (List.map B v2).toArray _ (bk X2 gm)
  rw [ut, stAny_part _ _ _ _ _ _ _ _ _ (by rw [mC_size]; decide) (by rw [mC_size]; decide) (by simp [hv2]) (by simp only [ones_map])]
  have Q2 := Lib.hid (P1.out.part (j := 9) (z := v2) (sM9 _ v2 hv2))
  generalize World.setRow X2 gm _ = yX2 at *
  go_upto_region 37 with fail
  clear P1 ut lt
  have C := Lib.hid (tk_options gt w.heap.size L _ yX2 (Q2.out.tu rfl) HLL.out)
  have HSZ : Hid (gt < (yX2).heap.size) := Lib.hid ((Q2).out.te.err).2
  go_upto_region 37 with fail
  go_wp2_with fail
  refine C.out.mono ?_
  rintro e X3 ⟨AO, cO, ol, rfl, ho, ho64, hov, hte, t1⟩
  have P1 := Lib.hid (Q2.out.callE hte t1)
  have HOV := Lib.hid hov
  have ut := (bk_cell P1.out.km 41).trans (mC_41 _)
  have fz := bk_frozen P1.out.km 41
  have lt := bk_lt P1.out.km
  have HOO : Hid (OO ((X3).setCell ⟨gm, 41, none⟩ (.slice AO ol.length cO)) (yX2).heap.size AO cO ol) := Lib.hid (ho.turnBelow (F := fun k => k = gm) ((Tn.refl _ _).set (.inl rfl)) fun k e => by have := HSZ.out; have := P1.out.lo; omega)
  clear C Q2 hte t1 ho ho64 hov
  go_upto_region 55 with fail
  have Q3 := Lib.hid (P1.out.set (j := 41) (v := .slice AO ol.length cO) (sM41 _ _ _ _))
  generalize World.setCell X3 _ _ = yX3 at *
  clear P1 ut fz lt
  have OKF : Hid (∀ c', OO ((yX3).setRow (s0 + 1 + 1) c') (yX2).heap.size AO cO ol) := Lib.hid fun c' => HOO.out.turnBelow (F := fun k => k = s0 + 1 + 1) ((Tn.refl _ _).setRow (.inl rfl)) fun k e => by have := HSZ.out; have := Q3.out.lo; omega
  clear HOO HSZ
  have HPG : Hid (PartG L (.ok 0) (mZ 135 k1).pl (Mv.pl { mZ 135 k1 with tgt := v2, ht := hv2, OA := AO, os := ol, oc := cO }) (GS.opt L (GS.adv L 20 (.ok 0)))) := Lib.hid (by
    unfold PartG
    rw [show (mZ 135 k1).pl.kind = 135 from rfl]
    repeat first | rw [if_pos rfl] | rw [if_neg (by decide)]
    exact ⟨_, _, rfl, Hv2.out.1, Hv2.out.2, ⟨rfl, HOV.out⟩⟩)
  have HST : Hid ((GS.opt L (GS.adv L 20 (.ok 0))) = getS 135 L) := Lib.hid (partG_fun HPG.out).1
  have HPL : Hid (∀ q, (GS.opt L (GS.adv L 20 (.ok 0))) = .ok q → (Mv.pl { mZ 135 k1 with tgt := v2, ht := hv2, OA := AO, os := ol, oc := cO }) = getV 135 k1 L) := Lib.hid (partG_fun HPG.out).2
  clear HPG
  obtain ⟨st, hst⟩ : ∃ st, st = GS.opt L (GS.adv L 20 (.ok 0)) := ⟨_, rfl⟩
  have PF : Hid (RM false w yX3 (s0 + 1 + 1) gm gt L { mZ 135 k1 with tgt := v2, ht := hv2, OA := AO, os := ol, oc := cO } st) := Lib.hid (by rw [hst]; exact (Q3).out)
  have HM : Hid (∀ c', MvOk (World.setRow yX3 (s0 + 1 + 1) c') (World.setRow yX3 (s0 + 1 + 1) c').heap.size { mZ 135 k1 with tgt := v2, ht := hv2, OA := AO, os := ol, oc := cO }) := Lib.hid (fun c' => mv_ok (no_d _ _) (OKF.out c').ovs (no_s _ _) (no_r _ _) (by show _ ∧ _; simp [mZ]))
  rw [← hst] at HST HPL
  clear hst Q3
  have c1 := (PF.out.te.err).1
  have lgt := (PF.out.te.err).2
  have km8 := PF.out.km
  have kr8 := PF.out.kr
  have lm8 := bk_lt km8
  have lr8 := bk_lt kr8
  have sz := fun m => mC_size m
  have so := fun m => mC_ones m
  by_cases he : st.err = 0
  · have n1 : (((st.err : Nat) : Int) != 0) = false := by simp [he]
    obtain ⟨q, hq⟩ := GS.err0 he
    have FX := Lib.hid (HRES.out _ _ (PF.out.fin HST.out hq (HPL.out q hq) (HM.out _)))
    clear he hq
    go_wp2_with fail
    refine ret_two (cs := mC _) rfl rfl rfl rfl (by rw [bk_setRow_same, kr8]; rfl) Try.underlying33 rfl (by rw [mC_size]; kernel_rfl) ?_
    exact FX.out
  · have n1 : (((st.err : Nat) : Int) != 0) = true := by simp [he]
    have FX := Lib.hid (fun W' hb => HRES.out _ W' (rm_bad HST.out he hb))
    have hng : gt ≠ s0 + 1 + 1 := by have := PF.out.lo; omega
    have hng' : s0 + 1 + 1 ≠ gt := hng.symm
    have cR : ∀ c, (World.setRow yX3 (s0 + 1 + 1) c).cell? ⟨gt, 1, none⟩ = some (.int .i64 ((st.err : Nat) : Int)) := fun c => (cell_of_bk (bk_setRow_other _ _ _ _ hng) 1).trans c1
    clear he
    go_upto_region 56 with fail
    go_region
    go_wp2_with fail
    refine ret_two (cs := mC (mZ 0 0)) rfl rfl rfl rfl (by rw [bk_drew, bk_setRow_same, kr8]; kernel_rfl) Try.underlying33 rfl (by rw [mC_size]; kernel_rfl) ?_
    exact FX.out _ (below_row PF.out.bl PF.out.lo.1 _).drew
end Go.Proofs.Ytjimmfbjhkoekaa
