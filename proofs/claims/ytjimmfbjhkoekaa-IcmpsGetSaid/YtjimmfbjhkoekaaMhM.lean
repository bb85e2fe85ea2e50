import Derived.Test.YtjimmfbjhkoekaaMhL
/- Icmps, the document: Get, of a kind. -/
namespace Go.Proofs.Ytjimmfbjhkoekaa
open Go.RowKit
set_option maxRecDepth 100000
set_option maxHeartbeats 2000000
theorem rget136 (src dst : List UInt8) (h1 : src.length = 16) (h2 : dst.length = 16) (A : Option Addr) (l : List UInt8) (c : Nat) (w : World) (h : Rd w w.heap.size A l) (hA : A = none → l = [] ∧ c = 0) (hc : l.length ≤ c) (hl : l.length < 2 ^ 32) (h4 : ¬ l.length < 4) (hsm : sumOf (ovr src dst 58 l) = 0) (hk : l.headD 0 = 136) :
    Calls Try.prog 20 #[av src, av dst, .slice A l.length c] w fun e w' => RGet 136 (l.getD 1 0) (l.drop 4) w e w' := by
  have hd : ∃ k1 r, l = 136 :: k1 :: r := by
    match l, h4, hk with
    | x :: y :: r, _, hk => exact ⟨y, r, by rw [show x = 136 from hk]⟩
    | [x], h4, _ => exact absurd (by simp) h4
    | [], h4, _ => exact absurd (by simp) h4
  have HSM := Lib.hid hsm; have HKK := Lib.hid hk; have HHD := Lib.hid hd; have H4 := Lib.hid h4
  have H := Lib.hid h; have HA := Lib.hid hA; have HL := Lib.hid hl
  have z1 := h1; have z2 := h2
  clear h hA hl hsm hk hd
  go_enter Try.func20, Try.ntmps20
  go_upto_region 1 with fail
  generalize hW3 : World.alloc (World.alloc (World.alloc w _) _) _ = W3
  have b3 : Below w.heap.size w W3 := by rw [← hW3]; exact (by (repeat (first | exact Below.refl _ _ | assumption | refine Below.drew ?_ | refine bdrewN ?_ _ | refine Below.alloc ?_ (by first | omega | (simp <;> omega) | (simp only [World.size_alloc] <;> omega)) _ | refine below_setRow ?_ (by first | omega | (simp <;> omega)) _ | refine Below.setCell ?_ (by first | omega | (simp <;> omega)) _)))
  obtain ⟨s0, hs⟩ : ∃ s, s = w.heap.size := ⟨_, rfl⟩
  have ks : bk W3 s0 = some (.cells (src.map B).toArray 23 (0, 0)) := by rw [← hW3, hs, bk_alloc_past _ _ _ (by simp <;> omega), bk_alloc_past _ _ _ (by simp)]; exact bk_alloc_at _ _ _ rfl
  have kd : bk W3 (s0 + 1) = some (.cells (dst.map B).toArray 23 (0, 0)) := by rw [← hW3, hs, bk_alloc_past _ _ _ (by simp)]; exact bk_alloc_at _ _ _ (by simp)
  have km : bk W3 (s0 + 1 + 1) = some (.cells (mC (mZ 0 0)) 33 (0, 0)) := by rw [← hW3, hs]; exact (bk_alloc_at _ _ _ (by simp)).trans (by kernel_rfl)
  rw [← hs]
  have B3 := Lib.hid b3; have HS := Lib.hid hs
  clear b3 hs hW3
  have KM := Lib.hid km
  have l1 := bk_lt ks; have l2 := bk_lt kd; have l3 := bk_lt km
  have d1 : decide ((l.length : Int) < 4) = false := by simp; omega
  have CG : Hid (Calls Try.prog 35 #[av src, av dst, B 58, .slice A l.length c] W3 fun e w' => e = .returned (.int .u16 0) ∧ Below W3.heap.size W3 w') := Lib.hid (by
    refine (rover_any src dst 58 A l c W3 h1 h2 ((H.out.below B3.out (Nat.le_refl _)).mono B3.out.size) HA.out HL.out).mono ?_
    rintro e w' ⟨rfl, b⟩
    rw [HSM.out]
    exact ⟨rfl, b⟩)
  clear h4
  go_wp2_with fail
  refine CG.out.mono ?_
  rintro e w4 ⟨rfl, b4⟩
  have B4 := Lib.hid b4
  have km4 := bk_keep b4 l3 km
  have KM4 := Lib.hid km4
  have F4 := Lib.hid (B3.out.trans (b4.mono B3.out.size))
  clear ks kd km l1 l2 l3 b4 CG km4 d1 z1 z2
  obtain ⟨k1, rr, hlr⟩ := HHD.out
  have hln : 4 ≤ l.length := by have := H4.out; omega
  obtain ⟨b, o, rfl, hbn, hcell⟩ : ∃ b o, A = some ⟨b, o, none⟩ ∧ b < w.heap.size ∧ ∀ j (h : j < l.length), w4.cell? ⟨b, o + j, none⟩ = some (B l[j]) := by
    obtain ⟨b, o, e, hb, hc'⟩ := (H.out.below F4.out (Nat.le_refl _)) (by omega)
    exact ⟨b, o, e, hb, hc'⟩
  have g0 : w4.cell? ⟨b, o, none⟩ = some (.int .u8 ((136 : UInt8).toNat : Int)) := by have := hcell 0 (by omega); rw [show l[0] = 136 by simp [hlr]] at this; exact this
  have g1 : w4.cell? ⟨b, o + 1, none⟩ = some (.int .u8 (k1.toNat : Int)) := by have := hcell 1 (by omega); rw [show l[1] = k1 by simp [hlr]] at this; exact this
  have i0 : decide ((0 : Int) < (l.length : Int)) = true := by simp; omega
  have i1 : decide ((1 : Int) < (l.length : Int)) = true := by simp; omega
  have hb4 : b < w4.heap.size := Nat.lt_of_lt_of_le hbn F4.out.size
  have HK1 : Hid (l.getD 1 0 = k1) := Lib.hid (by rw [hlr]; rfl)
  have HHL := Lib.hid (And.intro hln hbn)
  clear hcell hlr
  go_upto_region 5 with fail
  go_region
  generalize hW5 : World.drew (World.alloc w4 _) = W5
  have b5 : Below w4.heap.size w4 W5 := by rw [← hW5]; exact (by (repeat (first | exact Below.refl _ _ | assumption | refine Below.drew ?_ | refine bdrewN ?_ _ | refine Below.alloc ?_ (by first | omega | (simp <;> omega) | (simp only [World.size_alloc] <;> omega)) _ | refine below_setRow ?_ (by first | omega | (simp <;> omega)) _ | refine Below.setCell ?_ (by first | omega | (simp <;> omega)) _)))
  have kgm : bk W5 w4.heap.size = some (.cells (mC (mZ 136 k1)) 33 (0, 0)) := by rw [← hW5, bk_drew]; exact (bk_alloc_at _ _ _ rfl).trans (by kernel_rfl)
  obtain ⟨gm, hgm⟩ : ∃ g, g = w4.heap.size := ⟨_, rfl⟩
  rw [← hgm] at kgm ⊢
  have KGM := Lib.hid kgm; have B5 := Lib.hid b5; have HGM := Lib.hid hgm
  have F5 := Lib.hid (F4.out.trans (b5.mono F4.out.size))
  have hcl : (4 : Int) ≤ (l.length : Int) := by omega
  have hlc : (l.length : Int) ≤ (c : Int) := by omega
  obtain ⟨A4, hA4⟩ : ∃ A4, (if c = 4 then some (⟨b, o, none⟩ : Addr) else some ⟨b, o + 4, none⟩) = A4 := ⟨_, rfl⟩
  have HA4 := Lib.hid hA4
  clear b5 kgm hW5 g0 g1 i0 i1 hgm hb4
  go_upto_region 7 with fail
  obtain ⟨gt, hgt⟩ : ∃ g, g = W5.heap.size := ⟨_, rfl⟩
  rw [← hgt]
  obtain ⟨L, hL⟩ : ∃ L, L = l.drop 4 := ⟨_, rfl⟩
  generalize hW6 : World.alloc W5 _ = W6
  have P0 : Hid (RM true w W6 (s0 + 1 + 1) gm gt L (mZ 136 k1) (.ok 0)) := Lib.hid (by
    have b6 : Below W5.heap.size W5 W6 := by rw [← hW6]; exact (by (repeat (first | exact Below.refl _ _ | assumption | refine Below.drew ?_ | refine bdrewN ?_ _ | refine Below.alloc ?_ (by first | omega | (simp <;> omega) | (simp only [World.size_alloc] <;> omega)) _ | refine below_setRow ?_ (by first | omega | (simp <;> omega)) _ | refine Below.setCell ?_ (by first | omega | (simp <;> omega)) _)))
    have kt : bk W6 gt = some (.cells #[.slice A4 (l.length - 4) (c - 4), .int .i64 0] 87 (0, 0)) := by rw [← hW6]; exact bk_alloc_at _ _ _ hgt
    have F6 := F5.out.trans (b6.mono F5.out.size)
    have q1 := bk_lt KM4.out; have q2 := bk_lt KGM.out; have q3 := HGM.out; have q4 := HS.out; have q5 := F4.out.size
    have hT : TU W6 gt w.heap.size L (.ok 0) := by
      refine ⟨⟨A4, l.length - 4, c - 4, kt, fun e => ?_, by omega, fun q e => ?_⟩, by omega⟩
      · rw [← HA4.out] at e
        split at e <;> cases e
      · cases e
        have e0 : L.length = l.length - 4 := by rw [hL, List.length_drop]
        refine ⟨by omega, by omega, fun h0 => ?_⟩
        rw [List.drop_zero] at h0 ⊢
        have e1 : A4 = some ⟨b, o + 4, none⟩ := by rw [← HA4.out, if_neg (by omega)]
        obtain ⟨b', o', e2, hb, hcc⟩ := H.out.below F6 (Nat.le_refl _) (by omega)
        cases e2
        refine ⟨b, o + 4, e1, hb, fun j hj => ?_⟩
        have h5 := hcc (4 + j) (by omega)
        have e3 : L[j] = l[4 + j]'(by omega) := by simp only [hL, List.getElem_drop]
        rw [e3, Nat.add_assoc]
        exact h5
    refine ⟨F6, hT.te, fun _ => hT, ?_, bk_keep b6 q2 KGM.out, by omega⟩
    exact bk_keep b6 (Nat.lt_of_lt_of_le (Nat.lt_of_lt_of_le q1 (by have := B5.out.size; exact this)) (Nat.le_refl _)) (bk_keep B5.out q1 KM4.out))
  have HLL : Hid (L.length < 2 ^ 32) := Lib.hid (by rw [hL, List.length_drop]; have := HL.out; omega)
  have HLE := Lib.hid hL
  have hres : ∀ e w', RGet 136 k1 L w e w' → RGet 136 (l.getD 1 0) (l.drop 4) w e w' := fun e w' h => by rw [HK1.out, ← hL]; exact h
  have HRES := Lib.hid hres
  have u0 : W6.cell? ⟨gm, 0, none⟩ = some (.int .u8 136) := by rw [bk_cell P0.out.km, mC_0]; rfl
  have lgm := bk_lt P0.out.km
  have LT : Hid (gt = W5.heap.size ∧ W6.heap.size = gt + 1) := Lib.hid ⟨hgt, by rw [← hW6, hgt]; simp⟩
  clear hA4 hgt hL hW6 hres H HA HL F4 F5 B3 B4 B5 KM KM4 KGM HGM HSM HKK HHD H4 HS HHL HA4 hcl hlc hln hbn LT W3 W5 w4
  obtain ⟨v1, hv1, cv1⟩ := tk_byte gt w.heap.size L _ W6 (P0.out.tu rfl) HLL.out
  have C := Lib.hid cv1
  have bv1 : (v1).toNat < 256 := (v1).toNat_lt
  have Hv1 := Lib.hid hv1
  clear hv1 cv1
  go_upto_region 39 with fail
  go_wp2_with fail
  refine C.out.mono ?_
  rintro e X1 ⟨rfl, hu1, t1⟩
  try simp only [GS.adv_adv, Nat.reduceAdd] at hu1
  have P1 := Lib.hid (P0.out.call hu1 t1)
  have ut := (bk_cell P1.out.km 5).trans (mC_5 _)
  have fz := bk_frozen P1.out.km 5
  have lt := bk_lt P1.out.km
  clear C P0 hu1 t1
  go_upto_region 40 with fail
  have Q1 := Lib.hid (P1.out.set (j := 5) (v := B v1) (sM5 _ _))
  generalize World.setCell X1 _ _ = yX1 at *
  clear P1 ut fz lt bv1
  have C := Lib.hid (tk_bytes gt w.heap.size 3 L _ yX1 ((Q1).out.tu rfl) HLL.out (by omega))
  go_upto_region 40 with fail
  go_wp2_with fail
  refine C.out.mono ?_
  rintro e X2 ⟨_, _, rfl, _, hu1, t1⟩
  try simp only [GS.adv_adv, Nat.reduceAdd] at hu1
  have Q2 := Lib.hid ((Q1).out.call hu1 t1)
  clear C Q1 hu1 t1
  have C := Lib.hid (tk_addr gt w.heap.size L _ X2 (Q2.out.tu rfl) HLL.out)
  go_upto_region 41 with fail
  go_wp2_with fail
  refine C.out.mono ?_
  rintro e X3 ⟨v3, hv3, rfl, hok, hu1, t1⟩
  try simp only [GS.adv_adv, Nat.reduceAdd] at hu1
  have P1 := Lib.hid (Q2.out.call hu1 t1)
  have Hv3 := Lib.hid (And.intro hv3 hok)
  have ut := P1.out.km
  have lt := bk_lt ut
  clear C Q2 hu1 t1 hok
  go_upto_region 41 with fail
  refine (stAdrI _ _ _ _ _ _ _ _ _ _ _).mp ?_
  rw [stAdrQ]
  show stAny _ 16 X3 gm 9 (List.map B v3).toArray _ (bk X3 gm)
  rw [ut, stAny_part _ _ _ _ _ _ _ _ _ (by rw [mC_size]; decide) (by rw [mC_size]; decide) (by simp [hv3]) (by simp only [ones_map])]
  have Q3 := Lib.hid (P1.out.part (j := 9) (z := v3) (sM9 _ v3 hv3))
  generalize World.setRow X3 gm _ = yX3 at *
  go_upto_region 42 with fail
  clear P1 ut lt
  have C := Lib.hid (tk_options gt w.heap.size L _ yX3 (Q3.out.tu rfl) HLL.out)
  have HSZ : Hid (gt < (yX3).heap.size) := Lib.hid ((Q3).out.te.err).2
  go_upto_region 42 with fail
  go_wp2_with fail
  refine C.out.mono ?_
  rintro e X4 ⟨AO, cO, ol, rfl, ho, ho64, hov, hte, t1⟩
  have P1 := Lib.hid (Q3.out.callE hte t1)
  have HOV := Lib.hid hov
  have ut := (bk_cell P1.out.km 41).trans (mC_41 _)
  have fz := bk_frozen P1.out.km 41
  have lt := bk_lt P1.out.km
  have HOO : Hid (OO ((X4).setCell ⟨gm, 41, none⟩ (.slice AO ol.length cO)) (yX3).heap.size AO cO ol) := Lib.hid (ho.turnBelow (F := fun k => k = gm) ((Tn.refl _ _).set (.inl rfl)) fun k e => by have := HSZ.out; have := P1.out.lo; omega)
  clear C Q3 hte t1 ho ho64 hov
  go_upto_region 55 with fail
  have Q4 := Lib.hid (P1.out.set (j := 41) (v := .slice AO ol.length cO) (sM41 _ _ _ _))
  generalize World.setCell X4 _ _ = yX4 at *
  clear P1 ut fz lt
  have OKF : Hid (∀ c', OO ((yX4).setRow (s0 + 1 + 1) c') (yX3).heap.size AO cO ol) := Lib.hid fun c' => HOO.out.turnBelow (F := fun k => k = s0 + 1 + 1) ((Tn.refl _ _).setRow (.inl rfl)) fun k e => by have := HSZ.out; have := Q4.out.lo; omega
  clear HOO HSZ
  have HPG : Hid (PartG L (.ok 0) (mZ 136 k1).pl (Mv.pl { mZ 136 k1 with flags := v1, tgt := v3, ht := hv3, OA := AO, os := ol, oc := cO }) (GS.opt L (GS.adv L 20 (.ok 0)))) := Lib.hid (by
    unfold PartG
    rw [show (mZ 136 k1).pl.kind = 136 from rfl]
    repeat first | rw [if_pos rfl] | rw [if_neg (by decide)]
    exact ⟨_, _, _, rfl, byte_ok Hv1.out, Hv3.out.1, Hv3.out.2, ⟨rfl, HOV.out⟩⟩)
  have HST : Hid ((GS.opt L (GS.adv L 20 (.ok 0))) = getS 136 L) := Lib.hid (partG_fun HPG.out).1
  have HPL : Hid (∀ q, (GS.opt L (GS.adv L 20 (.ok 0))) = .ok q → (Mv.pl { mZ 136 k1 with flags := v1, tgt := v3, ht := hv3, OA := AO, os := ol, oc := cO }) = getV 136 k1 L) := Lib.hid (partG_fun HPG.out).2
  clear HPG
  obtain ⟨st, hst⟩ : ∃ st, st = GS.opt L (GS.adv L 20 (.ok 0)) := ⟨_, rfl⟩
  have PF : Hid (RM false w yX4 (s0 + 1 + 1) gm gt L { mZ 136 k1 with flags := v1, tgt := v3, ht := hv3, OA := AO, os := ol, oc := cO } st) := Lib.hid (by rw [hst]; exact (Q4).out)
  have HM : Hid (∀ c', MvOk (World.setRow yX4 (s0 + 1 + 1) c') (World.setRow yX4 (s0 + 1 + 1) c').heap.size { mZ 136 k1 with flags := v1, tgt := v3, ht := hv3, OA := AO, os := ol, oc := cO }) := Lib.hid (fun c' => mv_ok (no_d _ _) (OKF.out c').ovs (no_s _ _) (no_r _ _) (by show _ ∧ _; simp [mZ]))
  rw [← hst] at HST HPL
  clear hst Q4
  have c1 := (PF.out.te.err).1
  have lgt := (PF.out.te.err).2
  have km8 := PF.out.km
  have kr8 := PF.out.kr
  have lm8 := bk_lt km8
  have lr8 := bk_lt kr8
  have sz := fun m => mC_size m
  have so := fun m => mC_ones m
  by_cases he : st.err = 0
  · have n1 : (((st.err : Nat) : Int) != 0) = false := by simp [he]
    obtain ⟨q, hq⟩ := GS.err0 he
    have FX := Lib.hid (HRES.out _ _ (PF.out.fin HST.out hq (HPL.out q hq) (HM.out _)))
    clear he hq
    go_wp2_with fail
    refine ret_two (cs := mC _) rfl rfl rfl rfl (by rw [bk_setRow_same, kr8]; rfl) Try.underlying33 rfl (by rw [mC_size]; kernel_rfl) ?_
    exact FX.out
  · have n1 : (((st.err : Nat) : Int) != 0) = true := by simp [he]
    have FX := Lib.hid (fun W' hb => HRES.out _ W' (rm_bad HST.out he hb))
    have hng : gt ≠ s0 + 1 + 1 := by have := PF.out.lo; omega
    have hng' : s0 + 1 + 1 ≠ gt := hng.symm
    have cR : ∀ c, (World.setRow yX4 (s0 + 1 + 1) c).cell? ⟨gt, 1, none⟩ = some (.int .i64 ((st.err : Nat) : Int)) := fun c => (cell_of_bk (bk_setRow_other _ _ _ _ hng) 1).trans c1
    clear he
    go_upto_region 56 with fail
    go_region
    go_wp2_with fail
    refine ret_two (cs := mC (mZ 0 0)) rfl rfl rfl rfl (by rw [bk_drew, bk_setRow_same, kr8]; kernel_rfl) Try.underlying33 rfl (by rw [mC_size]; kernel_rfl) ?_
    exact FX.out _ (below_row PF.out.bl PF.out.lo.1 _).drew
theorem rget137 (src dst : List UInt8) (h1 : src.length = 16) (h2 : dst.length = 16) (A : Option Addr) (l : List UInt8) (c : Nat) (w : World) (h : Rd w w.heap.size A l) (hA : A = none → l = [] ∧ c = 0) (hc : l.length ≤ c) (hl : l.length < 2 ^ 32) (h4 : ¬ l.length < 4) (hsm : sumOf (ovr src dst 58 l) = 0) (hk : l.headD 0 = 137) :
    Calls Try.prog 20 #[av src, av dst, .slice A l.length c] w fun e w' => RGet 137 (l.getD 1 0) (l.drop 4) w e w' := by
  have hd : ∃ k1 r, l = 137 :: k1 :: r := by
    match l, h4, hk with
    | x :: y :: r, _, hk => exact ⟨y, r, by rw [show x = 137 from hk]⟩
    | [x], h4, _ => exact absurd (by simp) h4
    | [], h4, _ => exact absurd (by simp) h4
  have HSM := Lib.hid hsm; have HKK := Lib.hid hk; have HHD := Lib.hid hd; have H4 := Lib.hid h4
  have H := Lib.hid h; have HA := Lib.hid hA; have HL := Lib.hid hl
  have z1 := h1; have z2 := h2
  clear h hA hl hsm hk hd
  go_enter Try.func20, Try.ntmps20
  go_upto_region 1 with fail
  generalize hW3 : World.alloc (World.alloc (World.alloc w _) _) _ = W3
  have b3 : Below w.heap.size w W3 := by rw [← hW3]; exact (by (repeat (first | exact Below.refl _ _ | assumption | refine Below.drew ?_ | refine bdrewN ?_ _ | refine Below.alloc ?_ (by first | omega | (simp <;> omega) | (simp only [World.size_alloc] <;> omega)) _ | refine below_setRow ?_ (by first | omega | (simp <;> omega)) _ | refine Below.setCell ?_ (by first | omega | (simp <;> omega)) _)))
  obtain ⟨s0, hs⟩ : ∃ s, s = w.heap.size := ⟨_, rfl⟩
  have ks : bk W3 s0 = some (.cells (src.map B).toArray 23 (0, 0)) := by rw [← hW3, hs, bk_alloc_past _ _ _ (by simp <;> omega), bk_alloc_past _ _ _ (by simp)]; exact bk_alloc_at _ _ _ rfl
  have kd : bk W3 (s0 + 1) = some (.cells (dst.map B).toArray 23 (0, 0)) := by rw [← hW3, hs, bk_alloc_past _ _ _ (by simp)]; exact bk_alloc_at _ _ _ (by simp)
  have km : bk W3 (s0 + 1 + 1) = some (.cells (mC (mZ 0 0)) 33 (0, 0)) := by rw [← hW3, hs]; exact (bk_alloc_at _ _ _ (by simp)).trans (by kernel_rfl)
  rw [← hs]
  have B3 := Lib.hid b3; have HS := Lib.hid hs
  clear b3 hs hW3
  have KM := Lib.hid km
  have l1 := bk_lt ks; have l2 := bk_lt kd; have l3 := bk_lt km
  have d1 : decide ((l.length : Int) < 4) = false := by simp; omega
  have CG : Hid (Calls Try.prog 35 #[av src, av dst, B 58, .slice A l.length c] W3 fun e w' => e = .returned (.int .u16 0) ∧ Below W3.heap.size W3 w') := Lib.hid (by
    refine (rover_any src dst 58 A l c W3 h1 h2 ((H.out.below B3.out (Nat.le_refl _)).mono B3.out.size) HA.out HL.out).mono ?_
    rintro e w' ⟨rfl, b⟩
    rw [HSM.out]
    exact ⟨rfl, b⟩)
  clear h4
  go_wp2_with fail
  refine CG.out.mono ?_
  rintro e w4 ⟨rfl, b4⟩
  have B4 := Lib.hid b4
  have km4 := bk_keep b4 l3 km
  have KM4 := Lib.hid km4
  have F4 := Lib.hid (B3.out.trans (b4.mono B3.out.size))
  clear ks kd km l1 l2 l3 b4 CG km4 d1 z1 z2
  obtain ⟨k1, rr, hlr⟩ := HHD.out
  have hln : 4 ≤ l.length := by have := H4.out; omega
  obtain ⟨b, o, rfl, hbn, hcell⟩ : ∃ b o, A = some ⟨b, o, none⟩ ∧ b < w.heap.size ∧ ∀ j (h : j < l.length), w4.cell? ⟨b, o + j, none⟩ = some (B l[j]) := by
    obtain ⟨b, o, e, hb, hc'⟩ := (H.out.below F4.out (Nat.le_refl _)) (by omega)
    exact ⟨b, o, e, hb, hc'⟩
  have g0 : w4.cell? ⟨b, o, none⟩ = some (.int .u8 ((137 : UInt8).toNat : Int)) := by have := hcell 0 (by omega); rw [show l[0] = 137 by simp [hlr]] at this; exact this
  have g1 : w4.cell? ⟨b, o + 1, none⟩ = some (.int .u8 (k1.toNat : Int)) := by have := hcell 1 (by omega); rw [show l[1] = k1 by simp [hlr]] at this; exact this
  have i0 : decide ((0 : Int) < (l.length : Int)) = true := by simp; omega
  have i1 : decide ((1 : Int) < (l.length : Int)) = true := by simp; omega
  have hb4 : b < w4.heap.size := Nat.lt_of_lt_of_le hbn F4.out.size
  have HK1 : Hid (l.getD 1 0 = k1) := Lib.hid (by rw [hlr]; rfl)
  have HHL := Lib.hid (And.intro hln hbn)
  clear hcell hlr
  go_upto_region 5 with fail
  go_region
  generalize hW5 : World.drew (World.alloc w4 _) = W5
  have b5 : Below w4.heap.size w4 W5 := by rw [← hW5]; exact (by (repeat (first | exact Below.refl _ _ | assumption | refine Below.drew ?_ | refine bdrewN ?_ _ | refine Below.alloc ?_ (by first | omega | (simp <;> omega) | (simp only [World.size_alloc] <;> omega)) _ | refine below_setRow ?_ (by first | omega | (simp <;> omega)) _ | refine Below.setCell ?_ (by first | omega | (simp <;> omega)) _)))
  have kgm : bk W5 w4.heap.size = some (.cells (mC (mZ 137 k1)) 33 (0, 0)) := by rw [← hW5, bk_drew]; exact (bk_alloc_at _ _ _ rfl).trans (by kernel_rfl)
  obtain ⟨gm, hgm⟩ : ∃ g, g = w4.heap.size := ⟨_, rfl⟩
  rw [← hgm] at kgm ⊢
  have KGM := Lib.hid kgm; have B5 := Lib.hid b5; have HGM := Lib.hid hgm
  have F5 := Lib.hid (F4.out.trans (b5.mono F4.out.size))
  have hcl : (4 : Int) ≤ (l.length : Int) := by omega
  have hlc : (l.length : Int) ≤ (c : Int) := by omega
  obtain ⟨A4, hA4⟩ : ∃ A4, (if c = 4 then some (⟨b, o, none⟩ : Addr) else some ⟨b, o + 4, none⟩) = A4 := ⟨_, rfl⟩
  have HA4 := Lib.hid hA4
  clear b5 kgm hW5 g0 g1 i0 i1 hgm hb4
  go_upto_region 7 with fail
  obtain ⟨gt, hgt⟩ : ∃ g, g = W5.heap.size := ⟨_, rfl⟩
  rw [← hgt]
  obtain ⟨L, hL⟩ : ∃ L, L = l.drop 4 := ⟨_, rfl⟩
  generalize hW6 : World.alloc W5 _ = W6
  have P0 : Hid (RM true w W6 (s0 + 1 + 1) gm gt L (mZ 137 k1) (.ok 0)) := Lib.hid (by
    have b6 : Below W5.heap.size W5 W6 := by rw [← hW6]; exact (by (repeat (first | exact Below.refl _ _ | assumption | refine Below.drew ?_ | refine bdrewN ?_ _ | refine Below.alloc ?_ (by first | omega | (simp <;> omega) | (simp only [World.size_alloc] <;> omega)) _ | refine below_setRow ?_ (by first | omega | (simp <;> omega)) _ | refine Below.setCell ?_ (by first | omega | (simp <;> omega)) _)))
    have kt : bk W6 gt = some (.cells #[.slice A4 (l.length - 4) (c - 4), .int .i64 0] 87 (0, 0)) := by rw [← hW6]; exact bk_alloc_at _ _ _ hgt
    have F6 := F5.out.trans (b6.mono F5.out.size)
    have q1 := bk_lt KM4.out; have q2 := bk_lt KGM.out; have q3 := HGM.out; have q4 := HS.out; have q5 := F4.out.size
    have hT : TU W6 gt w.heap.size L (.ok 0) := by
      refine ⟨⟨A4, l.length - 4, c - 4, kt, fun e => ?_, by omega, fun q e => ?_⟩, by omega⟩
      · rw [← HA4.out] at e
        split at e <;> cases e
      · cases e
        have e0 : L.length = l.length - 4 := by rw [hL, List.length_drop]
        refine ⟨by omega, by omega, fun h0 => ?_⟩
        rw [List.drop_zero] at h0 ⊢
        have e1 : A4 = some ⟨b, o + 4, none⟩ := by rw [← HA4.out, if_neg (by omega)]
        obtain ⟨b', o', e2, hb, hcc⟩ := H.out.below F6 (Nat.le_refl _) (by omega)
        cases e2
        refine ⟨b, o + 4, e1, hb, fun j hj => ?_⟩
        have h5 := hcc (4 + j) (by omega)
        have e3 : L[j] = l[4 + j]'(by omega) := by simp only [hL, List.getElem_drop]
        rw [e3, Nat.add_assoc]
        exact h5
    refine ⟨F6, hT.te, fun _ => hT, ?_, bk_keep b6 q2 KGM.out, by omega⟩
    exact bk_keep b6 (Nat.lt_of_lt_of_le (Nat.lt_of_lt_of_le q1 (by have := B5.out.size; exact this)) (Nat.le_refl _)) (bk_keep B5.out q1 KM4.out))
  have HLL : Hid (L.length < 2 ^ 32) := Lib.hid (by rw [hL, List.length_drop]; have := HL.out; omega)
  have HLE := Lib.hid hL
  have hres : ∀ e w', RGet 137 k1 L w e w' → RGet 137 (l.getD 1 0) (l.drop 4) w e w' := fun e w' h => by rw [HK1.out, ← hL]; exact h
  have HRES := Lib.hid hres
  have u0 : W6.cell? ⟨gm, 0, none⟩ = some (.int .u8 137) := by rw [bk_cell P0.out.km, mC_0]; rfl
  have lgm := bk_lt P0.out.km
  have LT : Hid (gt = W5.heap.size ∧ W6.heap.size = gt + 1) := Lib.hid ⟨hgt, by rw [← hW6, hgt]; simp⟩
  clear hA4 hgt hL hW6 hres H HA HL F4 F5 B3 B4 B5 KM KM4 KGM HGM HSM HKK HHD H4 HS HHL HA4 hcl hlc hln hbn LT W3 W5 w4
  have C := Lib.hid (tk_bytes gt w.heap.size 4 L _ W6 ((P0).out.tu rfl) HLL.out (by omega))
  go_upto_region 44 with fail
  go_wp2_with fail
  refine C.out.mono ?_
  rintro e X1 ⟨_, _, rfl, _, hu1, t1⟩
  try simp only [GS.adv_adv, Nat.reduceAdd] at hu1
  have Q1 := Lib.hid ((P0).out.call hu1 t1)
  clear C P0 hu1 t1
  have C := Lib.hid (tk_addr gt w.heap.size L _ X1 (Q1.out.tu rfl) HLL.out)
  go_upto_region 45 with fail
  go_wp2_with fail
  refine C.out.mono ?_
  rintro e X2 ⟨v2, hv2, rfl, hok, hu1, t1⟩
  try simp only [GS.adv_adv, Nat.reduceAdd] at hu1
  have P1 := Lib.hid (Q1.out.call hu1 t1)
  have Hv2 := Lib.hid (And.intro hv2 hok)
  have ut := P1.out.km
  have lt := bk_lt ut
  clear C Q1 hu1 t1 hok
  go_upto_region 45 with fail
  refine (stAdrI _ _ _ _ _ _ _ _ _ _ _).mp ?_
  rw [stAdrQ]
  show stAny _ 16 X2 gm 9 (List.map B v2).toArray _ (bk X2 gm)
  rw [ut, stAny_part _ _ _ _ _ _ _ _ _ (by rw [mC_size]; decide) (by rw [mC_size]; decide) (by simp [hv2]) (by simp only [ones_map])]
  have Q2 := Lib.hid (P1.out.part (j := 9) (z := v2) (sM9 _ v2 hv2))
  generalize World.setRow X2 gm _ = yX2 at *
  go_upto_region 46 with fail
  clear P1 ut lt
  have C := Lib.hid (tk_addr gt w.heap.size L _ yX2 (Q2.out.tu rfl) HLL.out)
  go_upto_region 46 with fail
  go_wp2_with fail
  refine C.out.mono ?_
  rintro e X3 ⟨v3, hv3, rfl, hok, hu1, t1⟩
  try simp only [GS.adv_adv, Nat.reduceAdd] at hu1
  have P1 := Lib.hid (Q2.out.call hu1 t1)
  have Hv3 := Lib.hid (And.intro hv3 hok)
  have ut := P1.out.km
  have lt := bk_lt ut
  clear C Q2 hu1 t1 hok
  go_upto_region 46 with fail
  refine (stAdrI _ _ _ _ _ _ _ _ _ _ _).mp ?_
  rw [stAdrQ]
  show stAny _ 16 X3 gm 25 (List.map B v3).toArray _ (bk X3 gm)
  rw [ut, stAny_part _ _ _ _ _ _ _ _ _ (by rw [mC_size]; decide) (by rw [mC_size]; decide) (by simp [hv3]) (by simp only [ones_map])]
  have Q3 := Lib.hid (P1.out.part (j := 25) (z := v3) (sM25 _ v3 hv3))
  generalize World.setRow X3 gm _ = yX3 at *
  go_upto_region 47 with fail
  clear P1 ut lt
  have C := Lib.hid (tk_options gt w.heap.size L _ yX3 (Q3.out.tu rfl) HLL.out)
  have HSZ : Hid (gt < (yX3).heap.size) := Lib.hid ((Q3).out.te.err).2
  go_upto_region 47 with fail
  go_wp2_with fail
  refine C.out.mono ?_
  rintro e X4 ⟨AO, cO, ol, rfl, ho, ho64, hov, hte, t1⟩
  have P1 := Lib.hid (Q3.out.callE hte t1)
  have HOV := Lib.hid hov
  have ut := (bk_cell P1.out.km 41).trans (mC_41 _)
  have fz := bk_frozen P1.out.km 41
  have lt := bk_lt P1.out.km
  have HOO : Hid (OO ((X4).setCell ⟨gm, 41, none⟩ (.slice AO ol.length cO)) (yX3).heap.size AO cO ol) := Lib.hid (ho.turnBelow (F := fun k => k = gm) ((Tn.refl _ _).set (.inl rfl)) fun k e => by have := HSZ.out; have := P1.out.lo; omega)
  clear C Q3 hte t1 ho ho64 hov
  go_upto_region 55 with fail
  have Q4 := Lib.hid (P1.out.set (j := 41) (v := .slice AO ol.length cO) (sM41 _ _ _ _))
  generalize World.setCell X4 _ _ = yX4 at *
  clear P1 ut fz lt
  have OKF : Hid (∀ c', OO ((yX4).setRow (s0 + 1 + 1) c') (yX3).heap.size AO cO ol) := Lib.hid fun c' => HOO.out.turnBelow (F := fun k => k = s0 + 1 + 1) ((Tn.refl _ _).setRow (.inl rfl)) fun k e => by have := HSZ.out; have := Q4.out.lo; omega
  clear HOO HSZ
  have HPG : Hid (PartG L (.ok 0) (mZ 137 k1).pl (Mv.pl { mZ 137 k1 with tgt := v2, ht := hv2, dst := v3, hd := hv3, OA := AO, os := ol, oc := cO }) (GS.opt L (GS.adv L 36 (.ok 0)))) := Lib.hid (by
    unfold PartG
    rw [show (mZ 137 k1).pl.kind = 137 from rfl]
    repeat first | rw [if_pos rfl] | rw [if_neg (by decide)]
    exact ⟨_, _, _, rfl, Hv2.out.1, Hv2.out.2, Hv3.out.1, Hv3.out.2, ⟨rfl, HOV.out⟩⟩)
  have HST : Hid ((GS.opt L (GS.adv L 36 (.ok 0))) = getS 137 L) := Lib.hid (partG_fun HPG.out).1
  have HPL : Hid (∀ q, (GS.opt L (GS.adv L 36 (.ok 0))) = .ok q → (Mv.pl { mZ 137 k1 with tgt := v2, ht := hv2, dst := v3, hd := hv3, OA := AO, os := ol, oc := cO }) = getV 137 k1 L) := Lib.hid (partG_fun HPG.out).2
  clear HPG
  obtain ⟨st, hst⟩ : ∃ st, st = GS.opt L (GS.adv L 36 (.ok 0)) := ⟨_, rfl⟩
  have PF : Hid (RM false w yX4 (s0 + 1 + 1) gm gt L { mZ 137 k1 with tgt := v2, ht := hv2, dst := v3, hd := hv3, OA := AO, os := ol, oc := cO } st) := Lib.hid (by rw [hst]; exact (Q4).out)
  have HM : Hid (∀ c', MvOk (World.setRow yX4 (s0 + 1 + 1) c') (World.setRow yX4 (s0 + 1 + 1) c').heap.size { mZ 137 k1 with tgt := v2, ht := hv2, dst := v3, hd := hv3, OA := AO, os := ol, oc := cO }) := Lib.hid (fun c' => mv_ok (no_d _ _) (OKF.out c').ovs (no_s _ _) (no_r _ _) (by show _ ∧ _; simp [mZ]))
  rw [← hst] at HST HPL
  clear hst Q4
  have c1 := (PF.out.te.err).1
  have lgt := (PF.out.te.err).2
  have km8 := PF.out.km
  have kr8 := PF.out.kr
  have lm8 := bk_lt km8
  have lr8 := bk_lt kr8
  have sz := fun m => mC_size m
  have so := fun m => mC_ones m
  by_cases he : st.err = 0
  · have n1 : (((st.err : Nat) : Int) != 0) = false := by simp [he]
    obtain ⟨q, hq⟩ := GS.err0 he
    have FX := Lib.hid (HRES.out _ _ (PF.out.fin HST.out hq (HPL.out q hq) (HM.out _)))
    clear he hq
    go_wp2_with fail
    refine ret_two (cs := mC _) rfl rfl rfl rfl (by rw [bk_setRow_same, kr8]; rfl) Try.underlying33 rfl (by rw [mC_size]; kernel_rfl) ?_
    exact FX.out
  · have n1 : (((st.err : Nat) : Int) != 0) = true := by simp [he]
    have FX := Lib.hid (fun W' hb => HRES.out _ W' (rm_bad HST.out he hb))
    have hng : gt ≠ s0 + 1 + 1 := by have := PF.out.lo; omega
    have hng' : s0 + 1 + 1 ≠ gt := hng.symm
    have cR : ∀ c, (World.setRow yX4 (s0 + 1 + 1) c).cell? ⟨gt, 1, none⟩ = some (.int .i64 ((st.err : Nat) : Int)) := fun c => (cell_of_bk (bk_setRow_other _ _ _ _ hng) 1).trans c1
    clear he
    go_upto_region 56 with fail
    go_region
    go_wp2_with fail
    refine ret_two (cs := mC (mZ 0 0)) rfl rfl rfl rfl (by rw [bk_drew, bk_setRow_same, kr8]; kernel_rfl) Try.underlying33 rfl (by rw [mC_size]; kernel_rfl) ?_
    exact FX.out _ (below_row PF.out.bl PF.out.lo.1 _).drew
end Go.Proofs.Ytjimmfbjhkoekaa
/- Icmps, the document: Get, of a kind: queries. -/
namespace Go.Proofs.Ytjimmfbjhkoekaa
open Go.RowKit
set_option maxRecDepth 100000
set_option maxHeartbeats 2000000
theorem part130 {L : List UInt8} {mx N : Nat} {grp : List UInt8} {rob int : UInt8} {zs : List (List UInt8)} {c : UInt8} {m : Msg} (hm : m = { (mZ 130 c).pl with mx := mx, grp := grp, rob := rob, int := int, srcs := zs }) (h1 : numOk L (.ok 0) 2 mx) (h2 : adrOk L ((GS.ok 0).adv L 4) grp) (h3 : numOk L ((GS.ok 0).adv L 20) 1 rob.toNat) (h4 : numOk L ((GS.ok 0).adv L 21) 1 int.toNat)
    (hN : ∀ q, (GS.ok 0).adv L 22 = .ok q → q + 2 ≤ L.length → N = numV L q 2) (hz : ∀ q, ((GS.ok 0).adv L 22).cnt L = .ok q → q + 16 * N ≤ L.length → zs = srcsV L q N) : (((GS.ok 0).adv L 22).cnt L).adv L (16 * N) = getS 130 L ∧ ∀ q, (((GS.ok 0).adv L 22).cnt L).adv L (16 * N) = .ok q → m = getV 130 c L := by
  have eS : getS 130 L = (((GS.ok 0).adv L 22).cnt L).adv L (16 * numV L 22 2) := rfl
  have eV : getV 130 c L = { (mZ 130 c).pl with mx := numV L 0 2, grp := adrV L 4, rob := oneV L 20, int := oneV L 21, srcs := srcsV L 24 (numV L 22 2) } := rfl
  rw [eS, eV]
  by_cases hc : ∃ q, ((GS.ok 0).adv L 22).cnt L = .ok q
  · obtain ⟨q, hc⟩ := hc
    obtain ⟨p2, e1, e2, e3, e4⟩ := cnt_ok hc
    obtain ⟨p1, f1, f2, f3⟩ := adv_ok e1
    cases f1
    have e5 : p2 = 22 := by omega
    subst e5
    have hN' : N = numV L 22 2 := hN _ e1 (by omega)
    refine ⟨by rw [hN'], fun q' hq' => ?_⟩
    obtain ⟨p3, g1, g2, g3⟩ := adv_ok hq'
    rw [hc] at g1
    cases g1
    have z1 := num_of h1 rfl (by omega)
    have z2 := adr_of h2 (ok_adv _ _ _ (by omega)) (by omega)
    have z3 := one_of h3 (ok_adv _ _ _ (by omega)) (by omega)
    have z4 := one_of h4 (ok_adv _ _ _ (by omega)) (by omega)
    have z5 : zs = srcsV L 24 (numV L 22 2) := by
      have := hz _ hc (by omega)
      rw [hN', e2] at this
      exact this
    rw [hm, z1, z2, z3, z4, z5]
  · have hn : ∀ q, ((GS.ok 0).adv L 22).cnt L ≠ .ok q := fun q hq => hc ⟨q, hq⟩
    rw [err_adv hn, err_adv hn]
    exact ⟨rfl, fun q hq => absurd hq (hn q)⟩
theorem rget130 (src dst : List UInt8) (h1 : src.length = 16) (h2 : dst.length = 16) (A : Option Addr) (l : List UInt8) (c : Nat) (w : World) (h : Rd w w.heap.size A l) (hA : A = none → l = [] ∧ c = 0) (hc : l.length ≤ c) (hl : l.length < 2 ^ 32) (h4 : ¬ l.length < 4) (hsm : sumOf (ovr src dst 58 l) = 0) (hk : l.headD 0 = 130) :
    Calls Try.prog 20 #[av src, av dst, .slice A l.length c] w fun e w' => RGet 130 (l.getD 1 0) (l.drop 4) w e w' := by
  have hd : ∃ k1 r, l = 130 :: k1 :: r := by
    match l, h4, hk with
    | x :: y :: r, _, hk => exact ⟨y, r, by rw [show x = 130 from hk]⟩
    | [x], h4, _ => exact absurd (by simp) h4
    | [], h4, _ => exact absurd (by simp) h4
  have HSM := Lib.hid hsm; have HKK := Lib.hid hk; have HHD := Lib.hid hd; have H4 := Lib.hid h4
  have H := Lib.hid h; have HA := Lib.hid hA; have HL := Lib.hid hl
  have z1 := h1; have z2 := h2
  clear h hA hl hsm hk hd
  go_enter Try.func20, Try.ntmps20
  go_upto_region 1 with fail
  generalize hW3 : World.alloc (World.alloc (World.alloc w _) _) _ = W3
  have b3 : Below w.heap.size w W3 := by rw [← hW3]; exact (by (repeat (first | exact Below.refl _ _ | assumption | refine Below.drew ?_ | refine bdrewN ?_ _ | refine Below.alloc ?_ (by first | omega | (simp <;> omega) | (simp only [World.size_alloc] <;> omega)) _ | refine below_setRow ?_ (by first | omega | (simp <;> omega)) _ | refine Below.setCell ?_ (by first | omega | (simp <;> omega)) _)))
  obtain ⟨s0, hs⟩ : ∃ s, s = w.heap.size := ⟨_, rfl⟩
  have ks : bk W3 s0 = some (.cells (src.map B).toArray 23 (0, 0)) := by rw [← hW3, hs, bk_alloc_past _ _ _ (by simp <;> omega), bk_alloc_past _ _ _ (by simp)]; exact bk_alloc_at _ _ _ rfl
  have kd : bk W3 (s0 + 1) = some (.cells (dst.map B).toArray 23 (0, 0)) := by rw [← hW3, hs, bk_alloc_past _ _ _ (by simp)]; exact bk_alloc_at _ _ _ (by simp)
  have km : bk W3 (s0 + 1 + 1) = some (.cells (mC (mZ 0 0)) 33 (0, 0)) := by rw [← hW3, hs]; exact (bk_alloc_at _ _ _ (by simp)).trans (by kernel_rfl)
  rw [← hs]
  have B3 := Lib.hid b3; have HS := Lib.hid hs
  clear b3 hs hW3
  have KM := Lib.hid km
  have l1 := bk_lt ks; have l2 := bk_lt kd; have l3 := bk_lt km
  have d1 : decide ((l.length : Int) < 4) = false := by simp; omega
  have CG : Hid (Calls Try.prog 35 #[av src, av dst, B 58, .slice A l.length c] W3 fun e w' => e = .returned (.int .u16 0) ∧ Below W3.heap.size W3 w') := Lib.hid (by
    refine (rover_any src dst 58 A l c W3 h1 h2 ((H.out.below B3.out (Nat.le_refl _)).mono B3.out.size) HA.out HL.out).mono ?_
    rintro e w' ⟨rfl, b⟩
    rw [HSM.out]
    exact ⟨rfl, b⟩)
  clear h4
  go_wp2_with fail
  refine CG.out.mono ?_
  rintro e w4 ⟨rfl, b4⟩
  have B4 := Lib.hid b4
  have km4 := bk_keep b4 l3 km
  have KM4 := Lib.hid km4
  have F4 := Lib.hid (B3.out.trans (b4.mono B3.out.size))
  clear ks kd km l1 l2 l3 b4 CG km4 d1 z1 z2
  obtain ⟨k1, rr, hlr⟩ := HHD.out
  have hln : 4 ≤ l.length := by have := H4.out; omega
  obtain ⟨b, o, rfl, hbn, hcell⟩ : ∃ b o, A = some ⟨b, o, none⟩ ∧ b < w.heap.size ∧ ∀ j (h : j < l.length), w4.cell? ⟨b, o + j, none⟩ = some (B l[j]) := by
    obtain ⟨b, o, e, hb, hc'⟩ := (H.out.below F4.out (Nat.le_refl _)) (by omega)
    exact ⟨b, o, e, hb, hc'⟩
  have g0 : w4.cell? ⟨b, o, none⟩ = some (.int .u8 ((130 : UInt8).toNat : Int)) := by have := hcell 0 (by omega); rw [show l[0] = 130 by simp [hlr]] at this; exact this
  have g1 : w4.cell? ⟨b, o + 1, none⟩ = some (.int .u8 (k1.toNat : Int)) := by have := hcell 1 (by omega); rw [show l[1] = k1 by simp [hlr]] at this; exact this
  have i0 : decide ((0 : Int) < (l.length : Int)) = true := by simp; omega
  have i1 : decide ((1 : Int) < (l.length : Int)) = true := by simp; omega
  have hb4 : b < w4.heap.size := Nat.lt_of_lt_of_le hbn F4.out.size
  have HK1 : Hid (l.getD 1 0 = k1) := Lib.hid (by rw [hlr]; rfl)
  have HHL := Lib.hid (And.intro hln hbn)
  clear hcell hlr
  go_upto_region 5 with fail
  go_region
  generalize hW5 : World.drew (World.alloc w4 _) = W5
  have b5 : Below w4.heap.size w4 W5 := by rw [← hW5]; exact (by (repeat (first | exact Below.refl _ _ | assumption | refine Below.drew ?_ | refine bdrewN ?_ _ | refine Below.alloc ?_ (by first | omega | (simp <;> omega) | (simp only [World.size_alloc] <;> omega)) _ | refine below_setRow ?_ (by first | omega | (simp <;> omega)) _ | refine Below.setCell ?_ (by first | omega | (simp <;> omega)) _)))
  have kgm : bk W5 w4.heap.size = some (.cells (mC (mZ 130 k1)) 33 (0, 0)) := by rw [← hW5, bk_drew]; exact (bk_alloc_at _ _ _ rfl).trans (by kernel_rfl)
  obtain ⟨gm, hgm⟩ : ∃ g, g = w4.heap.size := ⟨_, rfl⟩
  rw [← hgm] at kgm ⊢
  have KGM := Lib.hid kgm; have B5 := Lib.hid b5; have HGM := Lib.hid hgm
  have F5 := Lib.hid (F4.out.trans (b5.mono F4.out.size))
  have hcl : (4 : Int) ≤ (l.length : Int) := by omega
  have hlc : (l.length : Int) ≤ (c : Int) := by omega
  obtain ⟨A4, hA4⟩ : ∃ A4, (if c = 4 then some (⟨b, o, none⟩ : Addr) else some ⟨b, o + 4, none⟩) = A4 := ⟨_, rfl⟩
  have HA4 := Lib.hid hA4
  clear b5 kgm hW5 g0 g1 i0 i1 hgm hb4
  go_upto_region 7 with fail
  obtain ⟨gt, hgt⟩ : ∃ g, g = W5.heap.size := ⟨_, rfl⟩
  rw [← hgt]
  obtain ⟨L, hL⟩ : ∃ L, L = l.drop 4 := ⟨_, rfl⟩
  generalize hW6 : World.alloc W5 _ = W6
  have P0 : Hid (RM true w W6 (s0 + 1 + 1) gm gt L (mZ 130 k1) (.ok 0)) := Lib.hid (by
    have b6 : Below W5.heap.size W5 W6 := by rw [← hW6]; exact (by (repeat (first | exact Below.refl _ _ | assumption | refine Below.drew ?_ | refine bdrewN ?_ _ | refine Below.alloc ?_ (by first | omega | (simp <;> omega) | (simp only [World.size_alloc] <;> omega)) _ | refine below_setRow ?_ (by first | omega | (simp <;> omega)) _ | refine Below.setCell ?_ (by first | omega | (simp <;> omega)) _)))
    have kt : bk W6 gt = some (.cells #[.slice A4 (l.length - 4) (c - 4), .int .i64 0] 87 (0, 0)) := by rw [← hW6]; exact bk_alloc_at _ _ _ hgt
    have F6 := F5.out.trans (b6.mono F5.out.size)
    have q1 := bk_lt KM4.out; have q2 := bk_lt KGM.out; have q3 := HGM.out; have q4 := HS.out; have q5 := F4.out.size
    have hT : TU W6 gt w.heap.size L (.ok 0) := by
      refine ⟨⟨A4, l.length - 4, c - 4, kt, fun e => ?_, by omega, fun q e => ?_⟩, by omega⟩
      · rw [← HA4.out] at e
        split at e <;> cases e
      · cases e
        have e0 : L.length = l.length - 4 := by rw [hL, List.length_drop]
        refine ⟨by omega, by omega, fun h0 => ?_⟩
        rw [List.drop_zero] at h0 ⊢
        have e1 : A4 = some ⟨b, o + 4, none⟩ := by rw [← HA4.out, if_neg (by omega)]
        obtain ⟨b', o', e2, hb, hcc⟩ := H.out.below F6 (Nat.le_refl _) (by omega)
        cases e2
        refine ⟨b, o + 4, e1, hb, fun j hj => ?_⟩
        have h5 := hcc (4 + j) (by omega)
        have e3 : L[j] = l[4 + j]'(by omega) := by simp only [hL, List.getElem_drop]
        rw [e3, Nat.add_assoc]
        exact h5
    refine ⟨F6, hT.te, fun _ => hT, ?_, bk_keep b6 q2 KGM.out, by omega⟩
    exact bk_keep b6 (Nat.lt_of_lt_of_le (Nat.lt_of_lt_of_le q1 (by have := B5.out.size; exact this)) (Nat.le_refl _)) (bk_keep B5.out q1 KM4.out))
  have HLL : Hid (L.length < 2 ^ 32) := Lib.hid (by rw [hL, List.length_drop]; have := HL.out; omega)
  have HLE := Lib.hid hL
  have hres : ∀ e w', RGet 130 k1 L w e w' → RGet 130 (l.getD 1 0) (l.drop 4) w e w' := fun e w' h => by rw [HK1.out, ← hL]; exact h
  have HRES := Lib.hid hres
  have u0 : W6.cell? ⟨gm, 0, none⟩ = some (.int .u8 130) := by rw [bk_cell P0.out.km, mC_0]; rfl
  have lgm := bk_lt P0.out.km
  have LT : Hid (gt = W5.heap.size ∧ W6.heap.size = gt + 1) := Lib.hid ⟨hgt, by rw [← hW6, hgt]; simp⟩
  clear hA4 hgt hL hW6 hres H HA HL F4 F5 B3 B4 B5 KM KM4 KGM HGM HSM HKK HHD H4 HS HHL HA4 hcl hlc hln hbn LT W3 W5 w4
  have C := Lib.hid (tk_num gt w.heap.size 2 L _ W6 (P0.out.tu rfl) HLL.out (by omega))
  go_upto_region 18 with fail
  go_wp2_with fail
  refine C.out.mono ?_
  rintro e X1 ⟨rfl, hu1, t1⟩
  try simp only [GS.adv_adv, Nat.reduceAdd] at hu1
  have P1 := Lib.hid (P0.out.call hu1 t1)
  generalize gv1 : val (GS.got L 2 _) = v1
  have hv1 := (gv1).symm
  clear gv1
  have bv1 : v1 < 256 ^ 2 := by rw [hv1]; exact Nat.lt_of_lt_of_le (val_lt _) (Nat.pow_le_pow_right (by decide) (got_len _ _ _))
  have Hv1 := Lib.hid (And.intro hv1 bv1)
  simp only [Nat.reducePow] at bv1
  have ut := (bk_cell P1.out.km 42).trans (mC_42 _)
  have fz := bk_frozen P1.out.km 42
  have lt := bk_lt P1.out.km
  clear C P0 hu1 t1 hv1
  go_upto_region 19 with fail
  have Q1 := Lib.hid (P1.out.set (j := 42) (v := .int .u16 (v1 : Int)) (sM42 _ _))
  generalize World.setCell X1 _ _ = yX1 at *
  clear P1 ut fz lt bv1
  have C := Lib.hid (tk_bytes gt w.heap.size 2 L _ yX1 ((Q1).out.tu rfl) HLL.out (by omega))
  go_upto_region 19 with fail
  go_wp2_with fail
  refine C.out.mono ?_
  rintro e X2 ⟨_, _, rfl, _, hu1, t1⟩
  try simp only [GS.adv_adv, Nat.reduceAdd] at hu1
  have Q2 := Lib.hid ((Q1).out.call hu1 t1)
  clear C Q1 hu1 t1
  have C := Lib.hid (tk_addr gt w.heap.size L _ X2 (Q2.out.tu rfl) HLL.out)
  go_upto_region 20 with fail
  go_wp2_with fail
  refine C.out.mono ?_
  rintro e X3 ⟨v3, hv3, rfl, hok, hu1, t1⟩
  try simp only [GS.adv_adv, Nat.reduceAdd] at hu1
  have P1 := Lib.hid (Q2.out.call hu1 t1)
  have Hv3 := Lib.hid (And.intro hv3 hok)
  have ut := P1.out.km
  have lt := bk_lt ut
  clear C Q2 hu1 t1 hok
  go_upto_region 20 with fail
  refine (stAdrI _ _ _ _ _ _ _ _ _ _ _).mp ?_
  rw [stAdrQ]
  show stAny _ 16 X3 gm 43 (List.map B v3).toArray _ (bk X3 gm)
  rw [ut, stAny_part _ _ _ _ _ _ _ _ _ (by rw [mC_size]; decide) (by rw [mC_size]; decide) (by simp [hv3]) (by simp only [ones_map])]
  have Q3 := Lib.hid (P1.out.part (j := 43) (z := v3) (sM43 _ v3 hv3))
  generalize World.setRow X3 gm _ = yX3 at *
  go_upto_region 21 with fail
  clear P1 ut lt
  obtain ⟨v4, hv4, cv4⟩ := tk_byte gt w.heap.size L _ yX3 (Q3.out.tu rfl) HLL.out
  have C := Lib.hid cv4
  have bv4 : (v4).toNat < 256 := (v4).toNat_lt
  have Hv4 := Lib.hid hv4
  clear hv4 cv4
  go_upto_region 21 with fail
  go_wp2_with fail
  refine C.out.mono ?_
  rintro e X4 ⟨rfl, hu1, t1⟩
  try simp only [GS.adv_adv, Nat.reduceAdd] at hu1
  have P1 := Lib.hid (Q3.out.call hu1 t1)
  have ut := (bk_cell P1.out.km 59).trans (mC_59 _)
  have fz := bk_frozen P1.out.km 59
  have lt := bk_lt P1.out.km
  clear C Q3 hu1 t1
  go_upto_region 22 with fail
  have Q4 := Lib.hid (P1.out.set (j := 59) (v := B v4) (sM59 _ _))
  generalize World.setCell X4 _ _ = yX4 at *
  clear P1 ut fz lt bv4
  obtain ⟨v5, hv5, cv5⟩ := tk_byte gt w.heap.size L _ yX4 (Q4.out.tu rfl) HLL.out
  have C := Lib.hid cv5
  have bv5 : (v5).toNat < 256 := (v5).toNat_lt
  have Hv5 := Lib.hid hv5
  clear hv5 cv5
  go_upto_region 22 with fail
  go_wp2_with fail
  refine C.out.mono ?_
  rintro e X5 ⟨rfl, hu1, t1⟩
  try simp only [GS.adv_adv, Nat.reduceAdd] at hu1
  have P1 := Lib.hid (Q4.out.call hu1 t1)
  have ut := (bk_cell P1.out.km 60).trans (mC_60 _)
  have fz := bk_frozen P1.out.km 60
  have lt := bk_lt P1.out.km
  clear C Q4 hu1 t1
  go_upto_region 23 with fail
  have Q5 := Lib.hid (P1.out.set (j := 60) (v := B v5) (sM60 _ _))
  generalize World.setCell X5 _ _ = yX5 at *
  clear P1 ut fz lt bv5
  have C := Lib.hid (tk_count gt w.heap.size L _ yX5 (Q5.out.tu rfl) HLL.out)
  go_upto_region 23 with fail
  go_wp2_with fail
  refine C.out.mono ?_
  rintro e X6 ⟨N, rfl, hN64, hN, hu1, t1⟩
  have Q6 := Lib.hid (Q5.out.call hu1 t1)
  have HN := Lib.hid hN
  clear C Q5 hu1 t1 hN
  have C := Lib.hid (tk_addrs gt w.heap.size N L _ X6 (Q6.out.tu rfl) HLL.out hN64)
  have HSZ : Hid (gt < X6.heap.size) := Lib.hid (Q6.out.te.err).2
  go_wp2_with fail
  refine C.out.mono ?_
  rintro e X7 ⟨AO, cO, zs, rfl, ho, h16, _, hzs, hu1, t1⟩
  have P1 := Lib.hid (Q6.out.call hu1 t1)
  have HZS := Lib.hid (And.intro h16 hzs)
  have ut := (bk_cell P1.out.km 61).trans (mC_61 _)
  have fz := bk_frozen P1.out.km 61
  have lt := bk_lt P1.out.km
  have HOO : Hid (OA (X7.setCell ⟨gm, 61, none⟩ (.slice AO zs.length cO)) X6.heap.size AO cO zs) := Lib.hid (ho.turn (F := fun k => k = gm) ((Tn.refl _ _).set (.inl rfl)) fun k hk e => by have := (World.ownsRow.lt ho k hk).1; have := HSZ.out; have := P1.out.lo; omega)
  clear C Q6 hu1 t1 ho h16 hzs
  go_upto_region 55 with fail
  have Q7 := Lib.hid (P1.out.set (j := 61) (v := .slice AO zs.length cO) (sM61 _ _ _ _))
  generalize World.setCell X7 _ _ = yX7 at *
  clear P1 ut fz lt
  have OKF : Hid (∀ c', OA (yX7.setRow (s0 + 1 + 1) c') X6.heap.size AO cO zs) := Lib.hid fun c' => HOO.out.turn (F := fun k => k = s0 + 1 + 1) ((Tn.refl _ _).setRow (.inl rfl)) fun k hk e => by have := (World.ownsRow.lt HOO.out k hk).1; have := HSZ.out; have := Q7.out.lo; omega
  clear HOO HSZ
  have HPT := Lib.hid (part130 (L := L) (mx := v1) (N := N) (grp := v3) (rob := v4) (int := v5) (zs := zs) (c := k1) rfl (num_ok' Hv1.out.1) Hv3.out.2 (byte_ok Hv4.out) (byte_ok Hv5.out) HN.out HZS.out.2)
  have HST : Hid (GS.adv L (16 * N) (GS.cnt L (GS.adv L 22 (.ok 0))) = getS 130 L) := Lib.hid HPT.out.1
  have HPL : Hid (∀ q, GS.adv L (16 * N) (GS.cnt L (GS.adv L 22 (.ok 0))) = .ok q → (Mv.pl { mZ 130 k1 with mx := v1, grp := v3, hg := hv3, rob := v4, int := v5, SA := AO, ss := zs, sc := cO }) = getV 130 k1 L) := Lib.hid HPT.out.2
  clear HPT
  obtain ⟨st, hst⟩ : ∃ st, st = GS.adv L (16 * N) (GS.cnt L (GS.adv L 22 (.ok 0))) := ⟨_, rfl⟩
  have PF : Hid (RM true w yX7 (s0 + 1 + 1) gm gt L { mZ 130 k1 with mx := v1, grp := v3, hg := hv3, rob := v4, int := v5, SA := AO, ss := zs, sc := cO } st) := Lib.hid (by rw [hst]; exact (Q7).out)
  have HM : Hid (∀ c', MvOk (World.setRow yX7 (s0 + 1 + 1) c') (World.setRow yX7 (s0 + 1 + 1) c').heap.size { mZ 130 k1 with mx := v1, grp := v3, hg := hv3, rob := v4, int := v5, SA := AO, ss := zs, sc := cO }) := Lib.hid (fun c' => mv_ok (no_d _ _) (no_o _ _) ⟨OA.rws (OKF.out c') HZS.out.1, HZS.out.1⟩ (no_r _ _) ⟨by show (0 : Nat) < _; decide, by show (0 : Nat) < _; decide, by show (0 : Nat) < _; decide, by show (0 : Nat) < _; decide, Hv1.out.2⟩)
  rw [← hst] at HST HPL
  clear hst Q7
  have c1 := (PF.out.te.err).1
  have lgt := (PF.out.te.err).2
  have km8 := PF.out.km
  have kr8 := PF.out.kr
  have lm8 := bk_lt km8
  have lr8 := bk_lt kr8
  have sz := fun m => mC_size m
  have so := fun m => mC_ones m
  by_cases he : st.err = 0
  · have n1 : (((st.err : Nat) : Int) != 0) = false := by simp [he]
    obtain ⟨q, hq⟩ := GS.err0 he
    have FX := Lib.hid (HRES.out _ _ (PF.out.fin HST.out hq (HPL.out q hq) (HM.out _)))
    clear he hq
    go_wp2_with fail
    refine ret_two (cs := mC _) rfl rfl rfl rfl (by rw [bk_setRow_same, kr8]; rfl) Try.underlying33 rfl (by rw [mC_size]; kernel_rfl) ?_
    exact FX.out
  · have n1 : (((st.err : Nat) : Int) != 0) = true := by simp [he]
    have FX := Lib.hid (fun W' hb => HRES.out _ W' (rm_bad HST.out he hb))
    have hng : gt ≠ s0 + 1 + 1 := by have := PF.out.lo; omega
    have hng' : s0 + 1 + 1 ≠ gt := hng.symm
    have cR : ∀ c, (World.setRow yX7 (s0 + 1 + 1) c).cell? ⟨gt, 1, none⟩ = some (.int .i64 ((st.err : Nat) : Int)) := fun c => (cell_of_bk (bk_setRow_other _ _ _ _ hng) 1).trans c1
    clear he
    go_upto_region 56 with fail
    go_region
    go_wp2_with fail
    refine ret_two (cs := mC (mZ 0 0)) rfl rfl rfl rfl (by rw [bk_drew, bk_setRow_same, kr8]; kernel_rfl) Try.underlying33 rfl (by rw [mC_size]; kernel_rfl) ?_
    exact FX.out _ (below_row PF.out.bl PF.out.lo.1 _).drew
end Go.Proofs.Ytjimmfbjhkoekaa
