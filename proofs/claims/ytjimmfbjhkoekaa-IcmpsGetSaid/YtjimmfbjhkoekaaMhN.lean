import Derived.Test.YtjimmfbjhkoekaaMhL
/- Icmps, the document: Get, of a kind: echoes, what went wrong. -/
namespace Go.Proofs.Ytjimmfbjhkoekaa
open Go.RowKit
set_option maxRecDepth 100000
set_option maxHeartbeats 2000000
theorem tk_bytesX (gt nb k : Nat) (L : List UInt8) (st : GS) (w : World) (h : TU w gt nb L st) (hL : L.length < 2 ^ 32) (hk : ∀ q, st = .ok q → k < 2 ^ 32) :
    Calls Try.prog 46 #[.pointer (some ⟨gt, 0, none⟩), .int .i64 (k : Int)] w fun e w' => TkB w gt nb k L st e w' := by
  cases st with
  | short =>
    have F : Hid (TkB w gt nb k L .short (.returned (.slice none 0 0)) w) := Lib.hid ⟨none, 0, rfl, .inl ⟨rfl, rfl⟩, h, Tn.refl _ _⟩
    have c1 : w.cell? ⟨gt, 1, none⟩ = some (.int .i64 5) := h.err.1
    have lg := h.less
    clear h
    go_enter Try.func46, Try.ntmps46
    go_wp2_with fail
    go_ret
    exact F.out
  | form =>
    have F : Hid (TkB w gt nb k L .form (.returned (.slice none 0 0)) w) := Lib.hid ⟨none, 0, rfl, .inl ⟨rfl, rfl⟩, h, Tn.refl _ _⟩
    have c1 : w.cell? ⟨gt, 1, none⟩ = some (.int .i64 4) := h.err.1
    have lg := h.less
    clear h
    go_enter Try.func46, Try.ntmps46
    go_wp2_with fail
    go_ret
    exact F.out
  | ok q => exact tk_bytes gt nb k L (.ok q) w h hL (hk q rfl)
theorem rest_got {L : List UInt8} {st : GS} {n : Nat} (h : ∀ q, st = .ok q → q ≤ L.length ∧ n = L.length - q) : GS.adv L n st = GS.rst L st ∧ ∀ q, st = .ok q → GS.got L n st = L.drop q := by
  cases st with
  | short => exact ⟨rfl, fun q e => by cases e⟩
  | form => exact ⟨rfl, fun q e => by cases e⟩
  | ok q =>
    obtain ⟨h1, h2⟩ := h q rfl
    refine ⟨?_, fun q' e => ?_⟩
    · show (if q + n ≤ L.length then GS.ok (q + n) else .short) = .ok L.length
      rw [if_pos (by omega)]
      congr 1
      omega
    · cases e
      simp only [GS.got]
      rw [if_pos (by omega)]
      exact List.take_of_length_le (by rw [List.length_drop]; omega)
theorem rget1 (src dst : List UInt8) (h1 : src.length = 16) (h2 : dst.length = 16) (A : Option Addr) (l : List UInt8) (c : Nat) (w : World) (h : Rd w w.heap.size A l) (hA : A = none → l = [] ∧ c = 0) (hc : l.length ≤ c) (hl : l.length < 2 ^ 32) (h4 : ¬ l.length < 4) (hsm : sumOf (ovr src dst 58 l) = 0) (hk : l.headD 0 = 1) :
    Calls Try.prog 20 #[av src, av dst, .slice A l.length c] w fun e w' => RGet 1 (l.getD 1 0) (l.drop 4) w e w' := by
  have hd : ∃ k1 r, l = 1 :: k1 :: r := by
    match l, h4, hk with
    | x :: y :: r, _, hk => exact ⟨y, r, by rw [show x = 1 from hk]⟩
    | [x], h4, _ => exact absurd (by simp) h4
    | [], h4, _ => exact absurd (by simp) h4
  have HSM := Lib.hid hsm; have HKK := Lib.hid hk; have HHD := Lib.hid hd; have H4 := Lib.hid h4
  have H := Lib.hid h; have HA := Lib.hid hA; have HL := Lib.hid hl
  have z1 := h1; have z2 := h2
  clear h hA hl hsm hk hd
  go_enter Try.func20, Try.ntmps20
  go_upto_region 1 with fail
  generalize hW3 : World.alloc (World.alloc (World.alloc w _) _) _ = W3
  have b3 : Below w.heap.size w W3 := by rw [← hW3]; exact (by (repeat (first | exact Below.refl _ _ | assumption | refine Below.drew ?_ | refine bdrewN ?_ _ | refine Below.alloc ?_ (by first | omega | (simp <;> omega) | (simp only [World.size_alloc] <;> omega)) _ | refine below_setRow ?_ (by first | omega | (simp <;> omega)) _ | refine Below.setCell ?_ (by first | omega | (simp <;> omega)) _)))
  obtain ⟨s0, hs⟩ : ∃ s, s = w.heap.size := ⟨_, rfl⟩
  have ks : bk W3 s0 = some (.cells (src.map B).toArray 23 (0, 0)) := by rw [← hW3, hs, bk_alloc_past _ _ _ (by simp <;> omega), bk_alloc_past _ _ _ (by simp)]; exact bk_alloc_at _ _ _ rfl
  have kd : bk W3 (s0 + 1) = some (.cells (dst.map B).toArray 23 (0, 0)) := by rw [← hW3, hs, bk_alloc_past _ _ _ (by simp)]; exact bk_alloc_at _ _ _ (by simp)
  have km : bk W3 (s0 + 1 + 1) = some (.cells (mC (mZ 0 0)) 33 (0, 0)) := by rw [← hW3, hs]; exact (bk_alloc_at _ _ _ (by simp)).trans (by kernel_rfl)
  rw [← hs]
  have B3 := Lib.hid b3; have HS := Lib.hid hs
  clear b3 hs hW3
  have KM := Lib.hid km
  have l1 := bk_lt ks; have l2 := bk_lt kd; have l3 := bk_lt km
  have d1 : decide ((l.length : Int) < 4) = false := by simp; omega
  have CG : Hid (Calls Try.prog 35 #[av src, av dst, B 58, .slice A l.length c] W3 fun e w' => e = .returned (.int .u16 0) ∧ Below W3.heap.size W3 w') := Lib.hid (by
    refine (rover_any src dst 58 A l c W3 h1 h2 ((H.out.below B3.out (Nat.le_refl _)).mono B3.out.size) HA.out HL.out).mono ?_
    rintro e w' ⟨rfl, b⟩
    rw [HSM.out]
    exact ⟨rfl, b⟩)
  clear h4
  go_wp2_with fail
  refine CG.out.mono ?_
  rintro e w4 ⟨rfl, b4⟩
  have B4 := Lib.hid b4
  have km4 := bk_keep b4 l3 km
  have KM4 := Lib.hid km4
  have F4 := Lib.hid (B3.out.trans (b4.mono B3.out.size))
  clear ks kd km l1 l2 l3 b4 CG km4 d1 z1 z2
  obtain ⟨k1, rr, hlr⟩ := HHD.out
  have hln : 4 ≤ l.length := by have := H4.out; omega
  obtain ⟨b, o, rfl, hbn, hcell⟩ : ∃ b o, A = some ⟨b, o, none⟩ ∧ b < w.heap.size ∧ ∀ j (h : j < l.length), w4.cell? ⟨b, o + j, none⟩ = some (B l[j]) := by
    obtain ⟨b, o, e, hb, hc'⟩ := (H.out.below F4.out (Nat.le_refl _)) (by omega)
    exact ⟨b, o, e, hb, hc'⟩
  have g0 : w4.cell? ⟨b, o, none⟩ = some (.int .u8 ((1 : UInt8).toNat : Int)) := by have := hcell 0 (by omega); rw [show l[0] = 1 by simp [hlr]] at this; exact this
  have g1 : w4.cell? ⟨b, o + 1, none⟩ = some (.int .u8 (k1.toNat : Int)) := by have := hcell 1 (by omega); rw [show l[1] = k1 by simp [hlr]] at this; exact this
  have i0 : decide ((0 : Int) < (l.length : Int)) = true := by simp; omega
  have i1 : decide ((1 : Int) < (l.length : Int)) = true := by simp; omega
  have hb4 : b < w4.heap.size := Nat.lt_of_lt_of_le hbn F4.out.size
  have HK1 : Hid (l.getD 1 0 = k1) := Lib.hid (by rw [hlr]; rfl)
  have HHL := Lib.hid (And.intro hln hbn)
  clear hcell hlr
  go_upto_region 5 with fail
  go_region
  generalize hW5 : World.drew (World.alloc w4 _) = W5
  have b5 : Below w4.heap.size w4 W5 := by rw [← hW5]; exact (by (repeat (first | exact Below.refl _ _ | assumption | refine Below.drew ?_ | refine bdrewN ?_ _ | refine Below.alloc ?_ (by first | omega | (simp <;> omega) | (simp only [World.size_alloc] <;> omega)) _ | refine below_setRow ?_ (by first | omega | (simp <;> omega)) _ | refine Below.setCell ?_ (by first | omega | (simp <;> omega)) _)))
  have kgm : bk W5 w4.heap.size = some (.cells (mC (mZ 1 k1)) 33 (0, 0)) := by rw [← hW5, bk_drew]; exact (bk_alloc_at _ _ _ rfl).trans (by kernel_rfl)
  obtain ⟨gm, hgm⟩ : ∃ g, g = w4.heap.size := ⟨_, rfl⟩
  rw [← hgm] at kgm ⊢
  have KGM := Lib.hid kgm; have B5 := Lib.hid b5; have HGM := Lib.hid hgm
  have F5 := Lib.hid (F4.out.trans (b5.mono F4.out.size))
  have hcl : (4 : Int) ≤ (l.length : Int) := by omega
  have hlc : (l.length : Int) ≤ (c : Int) := by omega
  obtain ⟨A4, hA4⟩ : ∃ A4, (if c = 4 then some (⟨b, o, none⟩ : Addr) else some ⟨b, o + 4, none⟩) = A4 := ⟨_, rfl⟩
  have HA4 := Lib.hid hA4
  clear b5 kgm hW5 g0 g1 i0 i1 hgm hb4
  go_upto_region 7 with fail
  obtain ⟨gt, hgt⟩ : ∃ g, g = W5.heap.size := ⟨_, rfl⟩
  rw [← hgt]
  obtain ⟨L, hL⟩ : ∃ L, L = l.drop 4 := ⟨_, rfl⟩
  generalize hW6 : World.alloc W5 _ = W6
  have P0 : Hid (RM true w W6 (s0 + 1 + 1) gm gt L (mZ 1 k1) (.ok 0)) := Lib.hid (by
    have b6 : Below W5.heap.size W5 W6 := by rw [← hW6]; exact (by (repeat (first | exact Below.refl _ _ | assumption | refine Below.drew ?_ | refine bdrewN ?_ _ | refine Below.alloc ?_ (by first | omega | (simp <;> omega) | (simp only [World.size_alloc] <;> omega)) _ | refine below_setRow ?_ (by first | omega | (simp <;> omega)) _ | refine Below.setCell ?_ (by first | omega | (simp <;> omega)) _)))
    have kt : bk W6 gt = some (.cells #[.slice A4 (l.length - 4) (c - 4), .int .i64 0] 87 (0, 0)) := by rw [← hW6]; exact bk_alloc_at _ _ _ hgt
    have F6 := F5.out.trans (b6.mono F5.out.size)
    have q1 := bk_lt KM4.out; have q2 := bk_lt KGM.out; have q3 := HGM.out; have q4 := HS.out; have q5 := F4.out.size
    have hT : TU W6 gt w.heap.size L (.ok 0) := by
      refine ⟨⟨A4, l.length - 4, c - 4, kt, fun e => ?_, by omega, fun q e => ?_⟩, by omega⟩
      · rw [← HA4.out] at e
        split at e <;> cases e
      · cases e
        have e0 : L.length = l.length - 4 := by rw [hL, List.length_drop]
        refine ⟨by omega, by omega, fun h0 => ?_⟩
        rw [List.drop_zero] at h0 ⊢
        have e1 : A4 = some ⟨b, o + 4, none⟩ := by rw [← HA4.out, if_neg (by omega)]
        obtain ⟨b', o', e2, hb, hcc⟩ := H.out.below F6 (Nat.le_refl _) (by omega)
        cases e2
        refine ⟨b, o + 4, e1, hb, fun j hj => ?_⟩
        have h5 := hcc (4 + j) (by omega)
        have e3 : L[j] = l[4 + j]'(by omega) := by simp only [hL, List.getElem_drop]
        rw [e3, Nat.add_assoc]
        exact h5
    refine ⟨F6, hT.te, fun _ => hT, ?_, bk_keep b6 q2 KGM.out, by omega⟩
    exact bk_keep b6 (Nat.lt_of_lt_of_le (Nat.lt_of_lt_of_le q1 (by have := B5.out.size; exact this)) (Nat.le_refl _)) (bk_keep B5.out q1 KM4.out))
  have HLL : Hid (L.length < 2 ^ 32) := Lib.hid (by rw [hL, List.length_drop]; have := HL.out; omega)
  have HLE := Lib.hid hL
  have hres : ∀ e w', RGet 1 k1 L w e w' → RGet 1 (l.getD 1 0) (l.drop 4) w e w' := fun e w' h => by rw [HK1.out, ← hL]; exact h
  have HRES := Lib.hid hres
  have u0 : W6.cell? ⟨gm, 0, none⟩ = some (.int .u8 1) := by rw [bk_cell P0.out.km, mC_0]; rfl
  have lgm := bk_lt P0.out.km
  have LT : Hid (gt = W5.heap.size ∧ W6.heap.size = gt + 1) := Lib.hid ⟨hgt, by rw [← hW6, hgt]; simp⟩
  clear hA4 hgt hL hW6 hres H HA HL F4 F5 B3 B4 B5 KM KM4 KGM HGM HSM HKK HHD H4 HS HHL HA4 hcl hlc hln hbn LT W3 W5 w4
  have C := Lib.hid (tk_num gt w.heap.size 4 L _ W6 (P0.out.tu rfl) HLL.out (by omega))
  go_upto_region 15 with fail
  go_wp2_with fail
  refine C.out.mono ?_
  rintro e X1 ⟨rfl, hu1, t1⟩
  try simp only [GS.adv_adv, Nat.reduceAdd] at hu1
  have P1 := Lib.hid (P0.out.call hu1 t1)
  generalize gv1 : val (GS.got L 4 _) = v1
  have hv1 := (gv1).symm
  clear gv1
  have bv1 : v1 < 256 ^ 4 := by rw [hv1]; exact Nat.lt_of_lt_of_le (val_lt _) (Nat.pow_le_pow_right (by decide) (got_len _ _ _))
  have Hv1 := Lib.hid (And.intro hv1 bv1)
  simp only [Nat.reducePow] at bv1
  have ut := (bk_cell P1.out.km 2).trans (mC_2 _)
  have fz := bk_frozen P1.out.km 2
  have lt := bk_lt P1.out.km
  clear C P0 hu1 t1 hv1
  go_upto_region 16 with fail
  have Q1 := Lib.hid (P1.out.set (j := 2) (v := .int .u32 (v1 : Int)) (sM2 _ _))
  generalize World.setCell X1 _ _ = yX1 at *
  clear P1 ut fz lt bv1
  obtain ⟨AT, nT, cT, hbT, _, _, hqT⟩ := (Q1.out.tu rfl).box
  have c0 : yX1.cell? ⟨gt, 0, none⟩ = some (.slice AT nT cT) := (bk_cell hbT 0).trans rfl
  have lg0 := bk_lt hbT
  have HSZ : Hid (gt < yX1.heap.size) := Lib.hid lg0
  have C := Lib.hid (tk_bytesX gt w.heap.size nT L (GS.adv L 4 (.ok 0)) yX1 (Q1.out.tu rfl) HLL.out (fun q e => by have := (hqT q e).2.1; have := HLL.out; omega))
  have HRS : Hid (GS.adv L nT (GS.adv L 4 (.ok 0)) = GS.rst L (GS.adv L 4 (.ok 0)) ∧ ∀ q, GS.adv L 4 (.ok 0) = .ok q → GS.got L nT (GS.adv L 4 (.ok 0)) = L.drop q) := Lib.hid (rest_got fun q e => (hqT q e).1 |> fun h => ⟨h, (hqT q e).2.1⟩)
  clear hbT hqT
  go_upto_region 16 with fail
  go_wp2_with fail
  refine C.out.mono ?_
  rintro e X2 ⟨A2, c2, rfl, ho, hu1, t1⟩
  rw [HRS.out.1] at hu1
  have P1 := Lib.hid (Q1.out.call hu1 t1)
  obtain ⟨D, hD⟩ : ∃ D, D = GS.got L nT (GS.adv L 4 (.ok 0)) := ⟨_, rfl⟩
  rw [← hD] at ho ⊢
  have HD := Lib.hid hD
  have ut := (bk_cell P1.out.km 3).trans (mC_3 _)
  have fz := bk_frozen P1.out.km 3
  have lt := bk_lt P1.out.km
  have HOO : Hid (Own (X2.setCell ⟨gm, 3, none⟩ (.slice A2 D.length c2)) yX1.heap.size (.slice A2 D.length c2) D) := Lib.hid (ho.turn fun j hj => bk_setCell_other _ _ _ _ _ (by have := (ho.lt hj).1; have := HSZ.out; have := P1.out.lo; omega))
  clear C Q1 hu1 t1 ho hD c0 lg0
  go_upto_region 55 with fail
  have Q2 := Lib.hid (P1.out.set (j := 3) (v := .slice A2 D.length c2) (sM3 _ _ _ _))
  generalize World.setCell X2 _ _ = yX2 at *
  clear P1 ut fz lt
  have OKF : Hid (∀ c', Own (yX2.setRow (s0 + 1 + 1) c') yX1.heap.size (.slice A2 D.length c2) D) := Lib.hid fun c' => HOO.out.turn fun j hj => bk_setRow_other _ _ _ _ (by have := (HOO.out.lt hj).1; have := HSZ.out; have := Q2.out.lo; omega)
  clear HOO
  have HPG : Hid (PartG L (.ok 0) (mZ 1 k1).pl (Mv.pl { mZ 1 k1 with param := v1, DA := A2, dd := D, dc := c2 }) (GS.rst L (GS.adv L 4 (.ok 0)))) := Lib.hid (by
    unfold PartG
    rw [show (mZ 1 k1).pl.kind = 1 from rfl]
    repeat first | rw [if_pos rfl] | rw [if_neg (by decide)]
    exact ⟨_, _, rfl, num_ok' Hv1.out.1, Hv1.out.2, (fun q e => by show D = _; rw [HD.out]; exact HRS.out.2 q e), rfl⟩)
  have HST : Hid ((GS.rst L (GS.adv L 4 (.ok 0))) = getS 1 L) := Lib.hid (partG_fun HPG.out).1
  have HPL : Hid (∀ q, (GS.rst L (GS.adv L 4 (.ok 0))) = .ok q → (Mv.pl { mZ 1 k1 with param := v1, DA := A2, dd := D, dc := c2 }) = getV 1 k1 L) := Lib.hid (partG_fun HPG.out).2
  clear HPG
  obtain ⟨st, hst⟩ : ∃ st, st = GS.rst L (GS.adv L 4 (.ok 0)) := ⟨_, rfl⟩
  have PF : Hid (RM true w yX2 (s0 + 1 + 1) gm gt L { mZ 1 k1 with param := v1, DA := A2, dd := D, dc := c2 } st) := Lib.hid (by rw [hst]; exact (Q2).out)
  have HM : Hid (∀ c', MvOk (World.setRow yX2 (s0 + 1 + 1) c') (World.setRow yX2 (s0 + 1 + 1) c').heap.size { mZ 1 k1 with param := v1, DA := A2, dd := D, dc := c2 }) := Lib.hid (fun c' => mv_ok (by have h := ((OKF.out c').ov 0).1; exact ⟨h.rd, h.nil, h.le, h.lt⟩) (no_o _ _) (no_s _ _) (no_r _ _) ⟨Hv1.out.2, by show (0 : Nat) < _; decide, by show (0 : Nat) < _; decide, by show (0 : Nat) < _; decide, by show (0 : Nat) < _; decide⟩)
  rw [← hst] at HST HPL
  clear hst Q2
  have c1 := (PF.out.te.err).1
  have lgt := (PF.out.te.err).2
  have km8 := PF.out.km
  have kr8 := PF.out.kr
  have lm8 := bk_lt km8
  have lr8 := bk_lt kr8
  have sz := fun m => mC_size m
  have so := fun m => mC_ones m
  by_cases he : st.err = 0
  · have n1 : (((st.err : Nat) : Int) != 0) = false := by simp [he]
    obtain ⟨q, hq⟩ := GS.err0 he
    have FX := Lib.hid (HRES.out _ _ (PF.out.fin HST.out hq (HPL.out q hq) (HM.out _)))
    clear he hq
    go_wp2_with fail
    refine ret_two (cs := mC _) rfl rfl rfl rfl (by rw [bk_setRow_same, kr8]; rfl) Try.underlying33 rfl (by rw [mC_size]; kernel_rfl) ?_
    exact FX.out
  · have n1 : (((st.err : Nat) : Int) != 0) = true := by simp [he]
    have FX := Lib.hid (fun W' hb => HRES.out _ W' (rm_bad HST.out he hb))
    have hng : gt ≠ s0 + 1 + 1 := by have := PF.out.lo; omega
    have hng' : s0 + 1 + 1 ≠ gt := hng.symm
    have cR : ∀ c, (World.setRow yX2 (s0 + 1 + 1) c).cell? ⟨gt, 1, none⟩ = some (.int .i64 ((st.err : Nat) : Int)) := fun c => (cell_of_bk (bk_setRow_other _ _ _ _ hng) 1).trans c1
    clear he
    go_upto_region 56 with fail
    go_region
    go_wp2_with fail
    refine ret_two (cs := mC (mZ 0 0)) rfl rfl rfl rfl (by rw [bk_drew, bk_setRow_same, kr8]; kernel_rfl) Try.underlying33 rfl (by rw [mC_size]; kernel_rfl) ?_
    exact FX.out _ (below_row PF.out.bl PF.out.lo.1 _).drew
theorem rget2 (src dst : List UInt8) (h1 : src.length = 16) (h2 : dst.length = 16) (A : Option Addr) (l : List UInt8) (c : Nat) (w : World) (h : Rd w w.heap.size A l) (hA : A = none → l = [] ∧ c = 0) (hc : l.length ≤ c) (hl : l.length < 2 ^ 32) (h4 : ¬ l.length < 4) (hsm : sumOf (ovr src dst 58 l) = 0) (hk : l.headD 0 = 2) :
    Calls Try.prog 20 #[av src, av dst, .slice A l.length c] w fun e w' => RGet 2 (l.getD 1 0) (l.drop 4) w e w' := by
  have hd : ∃ k1 r, l = 2 :: k1 :: r := by
    match l, h4, hk with
    | x :: y :: r, _, hk => exact ⟨y, r, by rw [show x = 2 from hk]⟩
    | [x], h4, _ => exact absurd (by simp) h4
    | [], h4, _ => exact absurd (by simp) h4
  have HSM := Lib.hid hsm; have HKK := Lib.hid hk; have HHD := Lib.hid hd; have H4 := Lib.hid h4
  have H := Lib.hid h; have HA := Lib.hid hA; have HL := Lib.hid hl
  have z1 := h1; have z2 := h2
  clear h hA hl hsm hk hd
  go_enter Try.func20, Try.ntmps20
  go_upto_region 1 with fail
  generalize hW3 : World.alloc (World.alloc (World.alloc w _) _) _ = W3
  have b3 : Below w.heap.size w W3 := by rw [← hW3]; exact (by (repeat (first | exact Below.refl _ _ | assumption | refine Below.drew ?_ | refine bdrewN ?_ _ | refine Below.alloc ?_ (by first | omega | (simp <;> omega) | (simp only [World.size_alloc] <;> omega)) _ | refine below_setRow ?_ (by first | omega | (simp <;> omega)) _ | refine Below.setCell ?_ (by first | omega | (simp <;> omega)) _)))
  obtain ⟨s0, hs⟩ : ∃ s, s = w.heap.size := ⟨_, rfl⟩
  have ks : bk W3 s0 = some (.cells (src.map B).toArray 23 (0, 0)) := by rw [← hW3, hs, bk_alloc_past _ _ _ (by simp <;> omega), bk_alloc_past _ _ _ (by simp)]; exact bk_alloc_at _ _ _ rfl
  have kd : bk W3 (s0 + 1) = some (.cells (dst.map B).toArray 23 (0, 0)) := by rw [← hW3, hs, bk_alloc_past _ _ _ (by simp)]; exact bk_alloc_at _ _ _ (by simp)
  have km : bk W3 (s0 + 1 + 1) = some (.cells (mC (mZ 0 0)) 33 (0, 0)) := by rw [← hW3, hs]; exact (bk_alloc_at _ _ _ (by simp)).trans (by kernel_rfl)
  rw [← hs]
  have B3 := Lib.hid b3; have HS := Lib.hid hs
  clear b3 hs hW3
  have KM := Lib.hid km
  have l1 := bk_lt ks; have l2 := bk_lt kd; have l3 := bk_lt km
  have d1 : decide ((l.length : Int) < 4) = false := by simp; omega
  have CG : Hid (Calls Try.prog 35 #[av src, av dst, B 58, .slice A l.length c] W3 fun e w' => e = .returned (.int .u16 0) ∧ Below W3.heap.size W3 w') := Lib.hid (by
    refine (rover_any src dst 58 A l c W3 h1 h2 ((H.out.below B3.out (Nat.le_refl _)).mono B3.out.size) HA.out HL.out).mono ?_
    rintro e w' ⟨rfl, b⟩
    rw [HSM.out]
    exact ⟨rfl, b⟩)
  clear h4
  go_wp2_with fail
  refine CG.out.mono ?_
  rintro e w4 ⟨rfl, b4⟩
  have B4 := Lib.hid b4
  have km4 := bk_keep b4 l3 km
  have KM4 := Lib.hid km4
  have F4 := Lib.hid (B3.out.trans (b4.mono B3.out.size))
  clear ks kd km l1 l2 l3 b4 CG km4 d1 z1 z2
  obtain ⟨k1, rr, hlr⟩ := HHD.out
  have hln : 4 ≤ l.length := by have := H4.out; omega
  obtain ⟨b, o, rfl, hbn, hcell⟩ : ∃ b o, A = some ⟨b, o, none⟩ ∧ b < w.heap.size ∧ ∀ j (h : j < l.length), w4.cell? ⟨b, o + j, none⟩ = some (B l[j]) := by
    obtain ⟨b, o, e, hb, hc'⟩ := (H.out.below F4.out (Nat.le_refl _)) (by omega)
    exact ⟨b, o, e, hb, hc'⟩
  have g0 : w4.cell? ⟨b, o, none⟩ = some (.int .u8 ((2 : UInt8).toNat : Int)) := by have := hcell 0 (by omega); rw [show l[0] = 2 by simp [hlr]] at this; exact this
  have g1 : w4.cell? ⟨b, o + 1, none⟩ = some (.int .u8 (k1.toNat : Int)) := by have := hcell 1 (by omega); rw [show l[1] = k1 by simp [hlr]] at this; exact this
  have i0 : decide ((0 : Int) < (l.length : Int)) = true := by simp; omega
  have i1 : decide ((1 : Int) < (l.length : Int)) = true := by simp; omega
  have hb4 : b < w4.heap.size := Nat.lt_of_lt_of_le hbn F4.out.size
  have HK1 : Hid (l.getD 1 0 = k1) := Lib.hid (by rw [hlr]; rfl)
  have HHL := Lib.hid (And.intro hln hbn)
  clear hcell hlr
  go_upto_region 5 with fail
  go_region
  generalize hW5 : World.drew (World.alloc w4 _) = W5
  have b5 : Below w4.heap.size w4 W5 := by rw [← hW5]; exact (by (repeat (first | exact Below.refl _ _ | assumption | refine Below.drew ?_ | refine bdrewN ?_ _ | refine Below.alloc ?_ (by first | omega | (simp <;> omega) | (simp only [World.size_alloc] <;> omega)) _ | refine below_setRow ?_ (by first | omega | (simp <;> omega)) _ | refine Below.setCell ?_ (by first | omega | (simp <;> omega)) _)))
  have kgm : bk W5 w4.heap.size = some (.cells (mC (mZ 2 k1)) 33 (0, 0)) := by rw [← hW5, bk_drew]; exact (bk_alloc_at _ _ _ rfl).trans (by kernel_rfl)
  obtain ⟨gm, hgm⟩ : ∃ g, g = w4.heap.size := ⟨_, rfl⟩
  rw [← hgm] at kgm ⊢
  have KGM := Lib.hid kgm; have B5 := Lib.hid b5; have HGM := Lib.hid hgm
  have F5 := Lib.hid (F4.out.trans (b5.mono F4.out.size))
  have hcl : (4 : Int) ≤ (l.length : Int) := by omega
  have hlc : (l.length : Int) ≤ (c : Int) := by omega
  obtain ⟨A4, hA4⟩ : ∃ A4, (if c = 4 then some (⟨b, o, none⟩ : Addr) else some ⟨b, o + 4, none⟩) = A4 := ⟨_, rfl⟩
  have HA4 := Lib.hid hA4
  clear b5 kgm hW5 g0 g1 i0 i1 hgm hb4
  go_upto_region 7 with fail
  obtain ⟨gt, hgt⟩ : ∃ g, g = W5.heap.size := ⟨_, rfl⟩
  rw [← hgt]
  obtain ⟨L, hL⟩ : ∃ L, L = l.drop 4 := ⟨_, rfl⟩
  generalize hW6 : World.alloc W5 _ = W6
  have P0 : Hid (RM true w W6 (s0 + 1 + 1) gm gt L (mZ 2 k1) (.ok 0)) := Lib.hid (by
    have b6 : Below W5.heap.size W5 W6 := by rw [← hW6]; exact (by (repeat (first | exact Below.refl _ _ | assumption | refine Below.drew ?_ | refine bdrewN ?_ _ | refine Below.alloc ?_ (by first | omega | (simp <;> omega) | (simp only [World.size_alloc] <;> omega)) _ | refine below_setRow ?_ (by first | omega | (simp <;> omega)) _ | refine Below.setCell ?_ (by first | omega | (simp <;> omega)) _)))
    have kt : bk W6 gt = some (.cells #[.slice A4 (l.length - 4) (c - 4), .int .i64 0] 87 (0, 0)) := by rw [← hW6]; exact bk_alloc_at _ _ _ hgt
    have F6 := F5.out.trans (b6.mono F5.out.size)
    have q1 := bk_lt KM4.out; have q2 := bk_lt KGM.out; have q3 := HGM.out; have q4 := HS.out; have q5 := F4.out.size
    have hT : TU W6 gt w.heap.size L (.ok 0) := by
      refine ⟨⟨A4, l.length - 4, c - 4, kt, fun e => ?_, by omega, fun q e => ?_⟩, by omega⟩
      · rw [← HA4.out] at e
        split at e <;> cases e
      · cases e
        have e0 : L.length = l.length - 4 := by rw [hL, List.length_drop]
        refine ⟨by omega, by omega, fun h0 => ?_⟩
        rw [List.drop_zero] at h0 ⊢
        have e1 : A4 = some ⟨b, o + 4, none⟩ := by rw [← HA4.out, if_neg (by omega)]
        obtain ⟨b', o', e2, hb, hcc⟩ := H.out.below F6 (Nat.le_refl _) (by omega)
        cases e2
        refine ⟨b, o + 4, e1, hb, fun j hj => ?_⟩
        have h5 := hcc (4 + j) (by omega)
        have e3 : L[j] = l[4 + j]'(by omega) := by simp only [hL, List.getElem_drop]
        rw [e3, Nat.add_assoc]
        exact h5
    refine ⟨F6, hT.te, fun _ => hT, ?_, bk_keep b6 q2 KGM.out, by omega⟩
    exact bk_keep b6 (Nat.lt_of_lt_of_le (Nat.lt_of_lt_of_le q1 (by have := B5.out.size; exact this)) (Nat.le_refl _)) (bk_keep B5.out q1 KM4.out))
  have HLL : Hid (L.length < 2 ^ 32) := Lib.hid (by rw [hL, List.length_drop]; have := HL.out; omega)
  have HLE := Lib.hid hL
  have hres : ∀ e w', RGet 2 k1 L w e w' → RGet 2 (l.getD 1 0) (l.drop 4) w e w' := fun e w' h => by rw [HK1.out, ← hL]; exact h
  have HRES := Lib.hid hres
  have u0 : W6.cell? ⟨gm, 0, none⟩ = some (.int .u8 2) := by rw [bk_cell P0.out.km, mC_0]; rfl
  have lgm := bk_lt P0.out.km
  have LT : Hid (gt = W5.heap.size ∧ W6.heap.size = gt + 1) := Lib.hid ⟨hgt, by rw [← hW6, hgt]; simp⟩
  clear hA4 hgt hL hW6 hres H HA HL F4 F5 B3 B4 B5 KM KM4 KGM HGM HSM HKK HHD H4 HS HHL HA4 hcl hlc hln hbn LT W3 W5 w4
  have C := Lib.hid (tk_num gt w.heap.size 4 L _ W6 (P0.out.tu rfl) HLL.out (by omega))
  go_upto_region 15 with fail
  go_wp2_with fail
  refine C.out.mono ?_
  rintro e X1 ⟨rfl, hu1, t1⟩
  try simp only [GS.adv_adv, Nat.reduceAdd] at hu1
  have P1 := Lib.hid (P0.out.call hu1 t1)
  generalize gv1 : val (GS.got L 4 _) = v1
  have hv1 := (gv1).symm
  clear gv1
  have bv1 : v1 < 256 ^ 4 := by rw [hv1]; exact Nat.lt_of_lt_of_le (val_lt _) (Nat.pow_le_pow_right (by decide) (got_len _ _ _))
  have Hv1 := Lib.hid (And.intro hv1 bv1)
  simp only [Nat.reducePow] at bv1
  have ut := (bk_cell P1.out.km 2).trans (mC_2 _)
  have fz := bk_frozen P1.out.km 2
  have lt := bk_lt P1.out.km
  clear C P0 hu1 t1 hv1
  go_upto_region 16 with fail
  have Q1 := Lib.hid (P1.out.set (j := 2) (v := .int .u32 (v1 : Int)) (sM2 _ _))
  generalize World.setCell X1 _ _ = yX1 at *
  clear P1 ut fz lt bv1
  obtain ⟨AT, nT, cT, hbT, _, _, hqT⟩ := (Q1.out.tu rfl).box
  have c0 : yX1.cell? ⟨gt, 0, none⟩ = some (.slice AT nT cT) := (bk_cell hbT 0).trans rfl
  have lg0 := bk_lt hbT
  have HSZ : Hid (gt < yX1.heap.size) := Lib.hid lg0
  have C := Lib.hid (tk_bytesX gt w.heap.size nT L (GS.adv L 4 (.ok 0)) yX1 (Q1.out.tu rfl) HLL.out (fun q e => by have := (hqT q e).2.1; have := HLL.out; omega))
  have HRS : Hid (GS.adv L nT (GS.adv L 4 (.ok 0)) = GS.rst L (GS.adv L 4 (.ok 0)) ∧ ∀ q, GS.adv L 4 (.ok 0) = .ok q → GS.got L nT (GS.adv L 4 (.ok 0)) = L.drop q) := Lib.hid (rest_got fun q e => (hqT q e).1 |> fun h => ⟨h, (hqT q e).2.1⟩)
  clear hbT hqT
  go_upto_region 16 with fail
  go_wp2_with fail
  refine C.out.mono ?_
  rintro e X2 ⟨A2, c2, rfl, ho, hu1, t1⟩
  rw [HRS.out.1] at hu1
  have P1 := Lib.hid (Q1.out.call hu1 t1)
  obtain ⟨D, hD⟩ : ∃ D, D = GS.got L nT (GS.adv L 4 (.ok 0)) := ⟨_, rfl⟩
  rw [← hD] at ho ⊢
  have HD := Lib.hid hD
  have ut := (bk_cell P1.out.km 3).trans (mC_3 _)
  have fz := bk_frozen P1.out.km 3
  have lt := bk_lt P1.out.km
  have HOO : Hid (Own (X2.setCell ⟨gm, 3, none⟩ (.slice A2 D.length c2)) yX1.heap.size (.slice A2 D.length c2) D) := Lib.hid (ho.turn fun j hj => bk_setCell_other _ _ _ _ _ (by have := (ho.lt hj).1; have := HSZ.out; have := P1.out.lo; omega))
  clear C Q1 hu1 t1 ho hD c0 lg0
  go_upto_region 55 with fail
  have Q2 := Lib.hid (P1.out.set (j := 3) (v := .slice A2 D.length c2) (sM3 _ _ _ _))
  generalize World.setCell X2 _ _ = yX2 at *
  clear P1 ut fz lt
  have OKF : Hid (∀ c', Own (yX2.setRow (s0 + 1 + 1) c') yX1.heap.size (.slice A2 D.length c2) D) := Lib.hid fun c' => HOO.out.turn fun j hj => bk_setRow_other _ _ _ _ (by have := (HOO.out.lt hj).1; have := HSZ.out; have := Q2.out.lo; omega)
  clear HOO
  have HPG : Hid (PartG L (.ok 0) (mZ 2 k1).pl (Mv.pl { mZ 2 k1 with param := v1, DA := A2, dd := D, dc := c2 }) (GS.rst L (GS.adv L 4 (.ok 0)))) := Lib.hid (by
    unfold PartG
    rw [show (mZ 2 k1).pl.kind = 2 from rfl]
    repeat first | rw [if_pos rfl] | rw [if_neg (by decide)]
    exact ⟨_, _, rfl, num_ok' Hv1.out.1, Hv1.out.2, (fun q e => by show D = _; rw [HD.out]; exact HRS.out.2 q e), rfl⟩)
  have HST : Hid ((GS.rst L (GS.adv L 4 (.ok 0))) = getS 2 L) := Lib.hid (partG_fun HPG.out).1
  have HPL : Hid (∀ q, (GS.rst L (GS.adv L 4 (.ok 0))) = .ok q → (Mv.pl { mZ 2 k1 with param := v1, DA := A2, dd := D, dc := c2 }) = getV 2 k1 L) := Lib.hid (partG_fun HPG.out).2
  clear HPG
  obtain ⟨st, hst⟩ : ∃ st, st = GS.rst L (GS.adv L 4 (.ok 0)) := ⟨_, rfl⟩
  have PF : Hid (RM true w yX2 (s0 + 1 + 1) gm gt L { mZ 2 k1 with param := v1, DA := A2, dd := D, dc := c2 } st) := Lib.hid (by rw [hst]; exact (Q2).out)
  have HM : Hid (∀ c', MvOk (World.setRow yX2 (s0 + 1 + 1) c') (World.setRow yX2 (s0 + 1 + 1) c').heap.size { mZ 2 k1 with param := v1, DA := A2, dd := D, dc := c2 }) := Lib.hid (fun c' => mv_ok (by have h := ((OKF.out c').ov 0).1; exact ⟨h.rd, h.nil, h.le, h.lt⟩) (no_o _ _) (no_s _ _) (no_r _ _) ⟨Hv1.out.2, by show (0 : Nat) < _; decide, by show (0 : Nat) < _; decide, by show (0 : Nat) < _; decide, by show (0 : Nat) < _; decide⟩)
  rw [← hst] at HST HPL
  clear hst Q2
  have c1 := (PF.out.te.err).1
  have lgt := (PF.out.te.err).2
  have km8 := PF.out.km
  have kr8 := PF.out.kr
  have lm8 := bk_lt km8
  have lr8 := bk_lt kr8
  have sz := fun m => mC_size m
  have so := fun m => mC_ones m
  by_cases he : st.err = 0
  · have n1 : (((st.err : Nat) : Int) != 0) = false := by simp [he]
    obtain ⟨q, hq⟩ := GS.err0 he
    have FX := Lib.hid (HRES.out _ _ (PF.out.fin HST.out hq (HPL.out q hq) (HM.out _)))
    clear he hq
    go_wp2_with fail
    refine ret_two (cs := mC _) rfl rfl rfl rfl (by rw [bk_setRow_same, kr8]; rfl) Try.underlying33 rfl (by rw [mC_size]; kernel_rfl) ?_
    exact FX.out
  · have n1 : (((st.err : Nat) : Int) != 0) = true := by simp [he]
    have FX := Lib.hid (fun W' hb => HRES.out _ W' (rm_bad HST.out he hb))
    have hng : gt ≠ s0 + 1 + 1 := by have := PF.out.lo; omega
    have hng' : s0 + 1 + 1 ≠ gt := hng.symm
    have cR : ∀ c, (World.setRow yX2 (s0 + 1 + 1) c).cell? ⟨gt, 1, none⟩ = some (.int .i64 ((st.err : Nat) : Int)) := fun c => (cell_of_bk (bk_setRow_other _ _ _ _ hng) 1).trans c1
    clear he
    go_upto_region 56 with fail
    go_region
    go_wp2_with fail
    refine ret_two (cs := mC (mZ 0 0)) rfl rfl rfl rfl (by rw [bk_drew, bk_setRow_same, kr8]; kernel_rfl) Try.underlying33 rfl (by rw [mC_size]; kernel_rfl) ?_
    exact FX.out _ (below_row PF.out.bl PF.out.lo.1 _).drew
theorem rget3 (src dst : List UInt8) (h1 : src.length = 16) (h2 : dst.length = 16) (A : Option Addr) (l : List UInt8) (c : Nat) (w : World) (h : Rd w w.heap.size A l) (hA : A = none → l = [] ∧ c = 0) (hc : l.length ≤ c) (hl : l.length < 2 ^ 32) (h4 : ¬ l.length < 4) (hsm : sumOf (ovr src dst 58 l) = 0) (hk : l.headD 0 = 3) :
    Calls Try.prog 20 #[av src, av dst, .slice A l.length c] w fun e w' => RGet 3 (l.getD 1 0) (l.drop 4) w e w' := by
  have hd : ∃ k1 r, l = 3 :: k1 :: r := by
    match l, h4, hk with
    | x :: y :: r, _, hk => exact ⟨y, r, by rw [show x = 3 from hk]⟩
    | [x], h4, _ => exact absurd (by simp) h4
    | [], h4, _ => exact absurd (by simp) h4
  have HSM := Lib.hid hsm; have HKK := Lib.hid hk; have HHD := Lib.hid hd; have H4 := Lib.hid h4
  have H := Lib.hid h; have HA := Lib.hid hA; have HL := Lib.hid hl
  have z1 := h1; have z2 := h2
  clear h hA hl hsm hk hd
  go_enter Try.func20, Try.ntmps20
  go_upto_region 1 with fail
  generalize hW3 : World.alloc (World.alloc (World.alloc w _) _) _ = W3
  have b3 : Below w.heap.size w W3 := by rw [← hW3]; exact (by (repeat (first | exact Below.refl _ _ | assumption | refine Below.drew ?_ | refine bdrewN ?_ _ | refine Below.alloc ?_ (by first | omega | (simp <;> omega) | (simp only [World.size_alloc] <;> omega)) _ | refine below_setRow ?_ (by first | omega | (simp <;> omega)) _ | refine Below.setCell ?_ (by first | omega | (simp <;> omega)) _)))
  obtain ⟨s0, hs⟩ : ∃ s, s = w.heap.size := ⟨_, rfl⟩
  have ks : bk W3 s0 = some (.cells (src.map B).toArray 23 (0, 0)) := by rw [← hW3, hs, bk_alloc_past _ _ _ (by simp <;> omega), bk_alloc_past _ _ _ (by simp)]; exact bk_alloc_at _ _ _ rfl
  have kd : bk W3 (s0 + 1) = some (.cells (dst.map B).toArray 23 (0, 0)) := by rw [← hW3, hs, bk_alloc_past _ _ _ (by simp)]; exact bk_alloc_at _ _ _ (by simp)
  have km : bk W3 (s0 + 1 + 1) = some (.cells (mC (mZ 0 0)) 33 (0, 0)) := by rw [← hW3, hs]; exact (bk_alloc_at _ _ _ (by simp)).trans (by kernel_rfl)
  rw [← hs]
  have B3 := Lib.hid b3; have HS := Lib.hid hs
  clear b3 hs hW3
  have KM := Lib.hid km
  have l1 := bk_lt ks; have l2 := bk_lt kd; have l3 := bk_lt km
  have d1 : decide ((l.length : Int) < 4) = false := by simp; omega
  have CG : Hid (Calls Try.prog 35 #[av src, av dst, B 58, .slice A l.length c] W3 fun e w' => e = .returned (.int .u16 0) ∧ Below W3.heap.size W3 w') := Lib.hid (by
    refine (rover_any src dst 58 A l c W3 h1 h2 ((H.out.below B3.out (Nat.le_refl _)).mono B3.out.size) HA.out HL.out).mono ?_
    rintro e w' ⟨rfl, b⟩
    rw [HSM.out]
    exact ⟨rfl, b⟩)
  clear h4
  go_wp2_with fail
  refine CG.out.mono ?_
  rintro e w4 ⟨rfl, b4⟩
  have B4 := Lib.hid b4
  have km4 := bk_keep b4 l3 km
  have KM4 := Lib.hid km4
  have F4 := Lib.hid (B3.out.trans (b4.mono B3.out.size))
  clear ks kd km l1 l2 l3 b4 CG km4 d1 z1 z2
  obtain ⟨k1, rr, hlr⟩ := HHD.out
  have hln : 4 ≤ l.length := by have := H4.out; omega
  obtain ⟨b, o, rfl, hbn, hcell⟩ : ∃ b o, A = some ⟨b, o, none⟩ ∧ b < w.heap.size ∧ ∀ j (h : j < l.length), w4.cell? ⟨b, o + j, none⟩ = some (B l[j]) := by
    obtain ⟨b, o, e, hb, hc'⟩ := (H.out.below F4.out (Nat.le_refl _)) (by omega)
    exact ⟨b, o, e, hb, hc'⟩
  have g0 : w4.cell? ⟨b, o, none⟩ = some (.int .u8 ((3 : UInt8).toNat : Int)) := by have := hcell 0 (by omega); rw [show l[0] = 3 by simp [hlr]] at this; exact this
  have g1 : w4.cell? ⟨b, o + 1, none⟩ = some (.int .u8 (k1.toNat : Int)) := by have := hcell 1 (by omega); rw [show l[1] = k1 by simp [hlr]] at this; exact this
  have i0 : decide ((0 : Int) < (l.length : Int)) = true := by simp; omega
  have i1 : decide ((1 : Int) < (l.length : Int)) = true := by simp; omega
  have hb4 : b < w4.heap.size := Nat.lt_of_lt_of_le hbn F4.out.size
  have HK1 : Hid (l.getD 1 0 = k1) := Lib.hid (by rw [hlr]; rfl)
  have HHL := Lib.hid (And.intro hln hbn)
  clear hcell hlr
  go_upto_region 5 with fail
  go_region
  generalize hW5 : World.drew (World.alloc w4 _) = W5
  have b5 : Below w4.heap.size w4 W5 := by rw [← hW5]; exact (by (repeat (first | exact Below.refl _ _ | assumption | refine Below.drew ?_ | refine bdrewN ?_ _ | refine Below.alloc ?_ (by first | omega | (simp <;> omega) | (simp only [World.size_alloc] <;> omega)) _ | refine below_setRow ?_ (by first | omega | (simp <;> omega)) _ | refine Below.setCell ?_ (by first | omega | (simp <;> omega)) _)))
  have kgm : bk W5 w4.heap.size = some (.cells (mC (mZ 3 k1)) 33 (0, 0)) := by rw [← hW5, bk_drew]; exact (bk_alloc_at _ _ _ rfl).trans (by kernel_rfl)
  obtain ⟨gm, hgm⟩ : ∃ g, g = w4.heap.size := ⟨_, rfl⟩
  rw [← hgm] at kgm ⊢
  have KGM := Lib.hid kgm; have B5 := Lib.hid b5; have HGM := Lib.hid hgm
  have F5 := Lib.hid (F4.out.trans (b5.mono F4.out.size))
  have hcl : (4 : Int) ≤ (l.length : Int) := by omega
  have hlc : (l.length : Int) ≤ (c : Int) := by omega
  obtain ⟨A4, hA4⟩ : ∃ A4, (if c = 4 then some (⟨b, o, none⟩ : Addr) else some ⟨b, o + 4, none⟩) = A4 := ⟨_, rfl⟩
  have HA4 := Lib.hid hA4
  clear b5 kgm hW5 g0 g1 i0 i1 hgm hb4
  go_upto_region 7 with fail
  obtain ⟨gt, hgt⟩ : ∃ g, g = W5.heap.size := ⟨_, rfl⟩
  rw [← hgt]
  obtain ⟨L, hL⟩ : ∃ L, L = l.drop 4 := ⟨_, rfl⟩
  generalize hW6 : World.alloc W5 _ = W6
  have P0 : Hid (RM true w W6 (s0 + 1 + 1) gm gt L (mZ 3 k1) (.ok 0)) := Lib.hid (by
    have b6 : Below W5.heap.size W5 W6 := by rw [← hW6]; exact (by (repeat (first | exact Below.refl _ _ | assumption | refine Below.drew ?_ | refine bdrewN ?_ _ | refine Below.alloc ?_ (by first | omega | (simp <;> omega) | (simp only [World.size_alloc] <;> omega)) _ | refine below_setRow ?_ (by first | omega | (simp <;> omega)) _ | refine Below.setCell ?_ (by first | omega | (simp <;> omega)) _)))
    have kt : bk W6 gt = some (.cells #[.slice A4 (l.length - 4) (c - 4), .int .i64 0] 87 (0, 0)) := by rw [← hW6]; exact bk_alloc_at _ _ _ hgt
    have F6 := F5.out.trans (b6.mono F5.out.size)
    have q1 := bk_lt KM4.out; have q2 := bk_lt KGM.out; have q3 := HGM.out; have q4 := HS.out; have q5 := F4.out.size
    have hT : TU W6 gt w.heap.size L (.ok 0) := by
      refine ⟨⟨A4, l.length - 4, c - 4, kt, fun e => ?_, by omega, fun q e => ?_⟩, by omega⟩
      · rw [← HA4.out] at e
        split at e <;> cases e
      · cases e
        have e0 : L.length = l.length - 4 := by rw [hL, List.length_drop]
        refine ⟨by omega, by omega, fun h0 => ?_⟩
        rw [List.drop_zero] at h0 ⊢
        have e1 : A4 = some ⟨b, o + 4, none⟩ := by rw [← HA4.out, if_neg (by omega)]
        obtain ⟨b', o', e2, hb, hcc⟩ := H.out.below F6 (Nat.le_refl _) (by omega)
        cases e2
        refine ⟨b, o + 4, e1, hb, fun j hj => ?_⟩
        have h5 := hcc (4 + j) (by omega)
        have e3 : L[j] = l[4 + j]'(by omega) := by simp only [hL, List.getElem_drop]
        rw [e3, Nat.add_assoc]
        exact h5
    refine ⟨F6, hT.te, fun _ => hT, ?_, bk_keep b6 q2 KGM.out, by omega⟩
    exact bk_keep b6 (Nat.lt_of_lt_of_le (Nat.lt_of_lt_of_le q1 (by have := B5.out.size; exact this)) (Nat.le_refl _)) (bk_keep B5.out q1 KM4.out))
  have HLL : Hid (L.length < 2 ^ 32) := Lib.hid (by rw [hL, List.length_drop]; have := HL.out; omega)
  have HLE := Lib.hid hL
  have hres : ∀ e w', RGet 3 k1 L w e w' → RGet 3 (l.getD 1 0) (l.drop 4) w e w' := fun e w' h => by rw [HK1.out, ← hL]; exact h
  have HRES := Lib.hid hres
  have u0 : W6.cell? ⟨gm, 0, none⟩ = some (.int .u8 3) := by rw [bk_cell P0.out.km, mC_0]; rfl
  have lgm := bk_lt P0.out.km
  have LT : Hid (gt = W5.heap.size ∧ W6.heap.size = gt + 1) := Lib.hid ⟨hgt, by rw [← hW6, hgt]; simp⟩
  clear hA4 hgt hL hW6 hres H HA HL F4 F5 B3 B4 B5 KM KM4 KGM HGM HSM HKK HHD H4 HS HHL HA4 hcl hlc hln hbn LT W3 W5 w4
  have C := Lib.hid (tk_num gt w.heap.size 4 L _ W6 (P0.out.tu rfl) HLL.out (by omega))
  go_upto_region 15 with fail
  go_wp2_with fail
  refine C.out.mono ?_
  rintro e X1 ⟨rfl, hu1, t1⟩
  try simp only [GS.adv_adv, Nat.reduceAdd] at hu1
  have P1 := Lib.hid (P0.out.call hu1 t1)
  generalize gv1 : val (GS.got L 4 _) = v1
  have hv1 := (gv1).symm
  clear gv1
  have bv1 : v1 < 256 ^ 4 := by rw [hv1]; exact Nat.lt_of_lt_of_le (val_lt _) (Nat.pow_le_pow_right (by decide) (got_len _ _ _))
  have Hv1 := Lib.hid (And.intro hv1 bv1)
  simp only [Nat.reducePow] at bv1
  have ut := (bk_cell P1.out.km 2).trans (mC_2 _)
  have fz := bk_frozen P1.out.km 2
  have lt := bk_lt P1.out.km
  clear C P0 hu1 t1 hv1
  go_upto_region 16 with fail
  have Q1 := Lib.hid (P1.out.set (j := 2) (v := .int .u32 (v1 : Int)) (sM2 _ _))
  generalize World.setCell X1 _ _ = yX1 at *
  clear P1 ut fz lt bv1
  obtain ⟨AT, nT, cT, hbT, _, _, hqT⟩ := (Q1.out.tu rfl).box
  have c0 : yX1.cell? ⟨gt, 0, none⟩ = some (.slice AT nT cT) := (bk_cell hbT 0).trans rfl
  have lg0 := bk_lt hbT
  have HSZ : Hid (gt < yX1.heap.size) := Lib.hid lg0
  have C := Lib.hid (tk_bytesX gt w.heap.size nT L (GS.adv L 4 (.ok 0)) yX1 (Q1.out.tu rfl) HLL.out (fun q e => by have := (hqT q e).2.1; have := HLL.out; omega))
  have HRS : Hid (GS.adv L nT (GS.adv L 4 (.ok 0)) = GS.rst L (GS.adv L 4 (.ok 0)) ∧ ∀ q, GS.adv L 4 (.ok 0) = .ok q → GS.got L nT (GS.adv L 4 (.ok 0)) = L.drop q) := Lib.hid (rest_got fun q e => (hqT q e).1 |> fun h => ⟨h, (hqT q e).2.1⟩)
  clear hbT hqT
  go_upto_region 16 with fail
  go_wp2_with fail
  refine C.out.mono ?_
  rintro e X2 ⟨A2, c2, rfl, ho, hu1, t1⟩
  rw [HRS.out.1] at hu1
  have P1 := Lib.hid (Q1.out.call hu1 t1)
  obtain ⟨D, hD⟩ : ∃ D, D = GS.got L nT (GS.adv L 4 (.ok 0)) := ⟨_, rfl⟩
  rw [← hD] at ho ⊢
  have HD := Lib.hid hD
  have ut := (bk_cell P1.out.km 3).trans (mC_3 _)
  have fz := bk_frozen P1.out.km 3
  have lt := bk_lt P1.out.km
  have HOO : Hid (Own (X2.setCell ⟨gm, 3, none⟩ (.slice A2 D.length c2)) yX1.heap.size (.slice A2 D.length c2) D) := Lib.hid (ho.turn fun j hj => bk_setCell_other _ _ _ _ _ (by have := (ho.lt hj).1; have := HSZ.out; have := P1.out.lo; omega))
  clear C Q1 hu1 t1 ho hD c0 lg0
  go_upto_region 55 with fail
  have Q2 := Lib.hid (P1.out.set (j := 3) (v := .slice A2 D.length c2) (sM3 _ _ _ _))
  generalize World.setCell X2 _ _ = yX2 at *
  clear P1 ut fz lt
  have OKF : Hid (∀ c', Own (yX2.setRow (s0 + 1 + 1) c') yX1.heap.size (.slice A2 D.length c2) D) := Lib.hid fun c' => HOO.out.turn fun j hj => bk_setRow_other _ _ _ _ (by have := (HOO.out.lt hj).1; have := HSZ.out; have := Q2.out.lo; omega)
  clear HOO
  have HPG : Hid (PartG L (.ok 0) (mZ 3 k1).pl (Mv.pl { mZ 3 k1 with param := v1, DA := A2, dd := D, dc := c2 }) (GS.rst L (GS.adv L 4 (.ok 0)))) := Lib.hid (by
    unfold PartG
    rw [show (mZ 3 k1).pl.kind = 3 from rfl]
    repeat first | rw [if_pos rfl] | rw [if_neg (by decide)]
    exact ⟨_, _, rfl, num_ok' Hv1.out.1, Hv1.out.2, (fun q e => by show D = _; rw [HD.out]; exact HRS.out.2 q e), rfl⟩)
  have HST : Hid ((GS.rst L (GS.adv L 4 (.ok 0))) = getS 3 L) := Lib.hid (partG_fun HPG.out).1
  have HPL : Hid (∀ q, (GS.rst L (GS.adv L 4 (.ok 0))) = .ok q → (Mv.pl { mZ 3 k1 with param := v1, DA := A2, dd := D, dc := c2 }) = getV 3 k1 L) := Lib.hid (partG_fun HPG.out).2
  clear HPG
  obtain ⟨st, hst⟩ : ∃ st, st = GS.rst L (GS.adv L 4 (.ok 0)) := ⟨_, rfl⟩
  have PF : Hid (RM true w yX2 (s0 + 1 + 1) gm gt L { mZ 3 k1 with param := v1, DA := A2, dd := D, dc := c2 } st) := Lib.hid (by rw [hst]; exact (Q2).out)
  have HM : Hid (∀ c', MvOk (World.setRow yX2 (s0 + 1 + 1) c') (World.setRow yX2 (s0 + 1 + 1) c').heap.size { mZ 3 k1 with param := v1, DA := A2, dd := D, dc := c2 }) := Lib.hid (fun c' => mv_ok (by have h := ((OKF.out c').ov 0).1; exact ⟨h.rd, h.nil, h.le, h.lt⟩) (no_o _ _) (no_s _ _) (no_r _ _) ⟨Hv1.out.2, by show (0 : Nat) < _; decide, by show (0 : Nat) < _; decide, by show (0 : Nat) < _; decide, by show (0 : Nat) < _; decide⟩)
  rw [← hst] at HST HPL
  clear hst Q2
  have c1 := (PF.out.te.err).1
  have lgt := (PF.out.te.err).2
  have km8 := PF.out.km
  have kr8 := PF.out.kr
  have lm8 := bk_lt km8
  have lr8 := bk_lt kr8
  have sz := fun m => mC_size m
  have so := fun m => mC_ones m
  by_cases he : st.err = 0
  · have n1 : (((st.err : Nat) : Int) != 0) = false := by simp [he]
    obtain ⟨q, hq⟩ := GS.err0 he
    have FX := Lib.hid (HRES.out _ _ (PF.out.fin HST.out hq (HPL.out q hq) (HM.out _)))
    clear he hq
    go_wp2_with fail
    refine ret_two (cs := mC _) rfl rfl rfl rfl (by rw [bk_setRow_same, kr8]; rfl) Try.underlying33 rfl (by rw [mC_size]; kernel_rfl) ?_
    exact FX.out
  · have n1 : (((st.err : Nat) : Int) != 0) = true := by simp [he]
    have FX := Lib.hid (fun W' hb => HRES.out _ W' (rm_bad HST.out he hb))
    have hng : gt ≠ s0 + 1 + 1 := by have := PF.out.lo; omega
    have hng' : s0 + 1 + 1 ≠ gt := hng.symm
    have cR : ∀ c, (World.setRow yX2 (s0 + 1 + 1) c).cell? ⟨gt, 1, none⟩ = some (.int .i64 ((st.err : Nat) : Int)) := fun c => (cell_of_bk (bk_setRow_other _ _ _ _ hng) 1).trans c1
    clear he
    go_upto_region 56 with fail
    go_region
    go_wp2_with fail
    refine ret_two (cs := mC (mZ 0 0)) rfl rfl rfl rfl (by rw [bk_drew, bk_setRow_same, kr8]; kernel_rfl) Try.underlying33 rfl (by rw [mC_size]; kernel_rfl) ?_
    exact FX.out _ (below_row PF.out.bl PF.out.lo.1 _).drew
theorem rget4 (src dst : List UInt8) (h1 : src.length = 16) (h2 : dst.length = 16) (A : Option Addr) (l : List UInt8) (c : Nat) (w : World) (h : Rd w w.heap.size A l) (hA : A = none → l = [] ∧ c = 0) (hc : l.length ≤ c) (hl : l.length < 2 ^ 32) (h4 : ¬ l.length < 4) (hsm : sumOf (ovr src dst 58 l) = 0) (hk : l.headD 0 = 4) :
    Calls Try.prog 20 #[av src, av dst, .slice A l.length c] w fun e w' => RGet 4 (l.getD 1 0) (l.drop 4) w e w' := by
  have hd : ∃ k1 r, l = 4 :: k1 :: r := by
    match l, h4, hk with
    | x :: y :: r, _, hk => exact ⟨y, r, by rw [show x = 4 from hk]⟩
    | [x], h4, _ => exact absurd (by simp) h4
    | [], h4, _ => exact absurd (by simp) h4
  have HSM := Lib.hid hsm; have HKK := Lib.hid hk; have HHD := Lib.hid hd; have H4 := Lib.hid h4
  have H := Lib.hid h; have HA := Lib.hid hA; have HL := Lib.hid hl
  have z1 := h1; have z2 := h2
  clear h hA hl hsm hk hd
  go_enter Try.func20, Try.ntmps20
  go_upto_region 1 with fail
  generalize hW3 : World.alloc (World.alloc (World.alloc w _) _) _ = W3
  have b3 : Below w.heap.size w W3 := by rw [← hW3]; exact (by (repeat (first | exact Below.refl _ _ | assumption | refine Below.drew ?_ | refine bdrewN ?_ _ | refine Below.alloc ?_ (by first | omega | (simp <;> omega) | (simp only [World.size_alloc] <;> omega)) _ | refine below_setRow ?_ (by first | omega | (simp <;> omega)) _ | refine Below.setCell ?_ (by first | omega | (simp <;> omega)) _)))
  obtain ⟨s0, hs⟩ : ∃ s, s = w.heap.size := ⟨_, rfl⟩
  have ks : bk W3 s0 = some (.cells (src.map B).toArray 23 (0, 0)) := by rw [← hW3, hs, bk_alloc_past _ _ _ (by simp <;> omega), bk_alloc_past _ _ _ (by simp)]; exact bk_alloc_at _ _ _ rfl
  have kd : bk W3 (s0 + 1) = some (.cells (dst.map B).toArray 23 (0, 0)) := by rw [← hW3, hs, bk_alloc_past _ _ _ (by simp)]; exact bk_alloc_at _ _ _ (by simp)
  have km : bk W3 (s0 + 1 + 1) = some (.cells (mC (mZ 0 0)) 33 (0, 0)) := by rw [← hW3, hs]; exact (bk_alloc_at _ _ _ (by simp)).trans (by kernel_rfl)
  rw [← hs]
  have B3 := Lib.hid b3; have HS := Lib.hid hs
  clear b3 hs hW3
  have KM := Lib.hid km
  have l1 := bk_lt ks; have l2 := bk_lt kd; have l3 := bk_lt km
  have d1 : decide ((l.length : Int) < 4) = false := by simp; omega
  have CG : Hid (Calls Try.prog 35 #[av src, av dst, B 58, .slice A l.length c] W3 fun e w' => e = .returned (.int .u16 0) ∧ Below W3.heap.size W3 w') := Lib.hid (by
    refine (rover_any src dst 58 A l c W3 h1 h2 ((H.out.below B3.out (Nat.le_refl _)).mono B3.out.size) HA.out HL.out).mono ?_
    rintro e w' ⟨rfl, b⟩
    rw [HSM.out]
    exact ⟨rfl, b⟩)
  clear h4
  go_wp2_with fail
  refine CG.out.mono ?_
  rintro e w4 ⟨rfl, b4⟩
  have B4 := Lib.hid b4
  have km4 := bk_keep b4 l3 km
  have KM4 := Lib.hid km4
  have F4 := Lib.hid (B3.out.trans (b4.mono B3.out.size))
  clear ks kd km l1 l2 l3 b4 CG km4 d1 z1 z2
  obtain ⟨k1, rr, hlr⟩ := HHD.out
  have hln : 4 ≤ l.length := by have := H4.out; omega
  obtain ⟨b, o, rfl, hbn, hcell⟩ : ∃ b o, A = some ⟨b, o, none⟩ ∧ b < w.heap.size ∧ ∀ j (h : j < l.length), w4.cell? ⟨b, o + j, none⟩ = some (B l[j]) := by
    obtain ⟨b, o, e, hb, hc'⟩ := (H.out.below F4.out (Nat.le_refl _)) (by omega)
    exact ⟨b, o, e, hb, hc'⟩
  have g0 : w4.cell? ⟨b, o, none⟩ = some (.int .u8 ((4 : UInt8).toNat : Int)) := by have := hcell 0 (by omega); rw [show l[0] = 4 by simp [hlr]] at this; exact this
  have g1 : w4.cell? ⟨b, o + 1, none⟩ = some (.int .u8 (k1.toNat : Int)) := by have := hcell 1 (by omega); rw [show l[1] = k1 by simp [hlr]] at this; exact this
  have i0 : decide ((0 : Int) < (l.length : Int)) = true := by simp; omega
  have i1 : decide ((1 : Int) < (l.length : Int)) = true := by simp; omega
  have hb4 : b < w4.heap.size := Nat.lt_of_lt_of_le hbn F4.out.size
  have HK1 : Hid (l.getD 1 0 = k1) := Lib.hid (by rw [hlr]; rfl)
  have HHL := Lib.hid (And.intro hln hbn)
  clear hcell hlr
  go_upto_region 5 with fail
  go_region
  generalize hW5 : World.drew (World.alloc w4 _) = W5
  have b5 : Below w4.heap.size w4 W5 := by rw [← hW5]; exact (by (repeat (first | exact Below.refl _ _ | assumption | refine Below.drew ?_ | refine bdrewN ?_ _ | refine Below.alloc ?_ (by first | omega | (simp <;> omega) | (simp only [World.size_alloc] <;> omega)) _ | refine below_setRow ?_ (by first | omega | (simp <;> omega)) _ | refine Below.setCell ?_ (by first | omega | (simp <;> omega)) _)))
  have kgm : bk W5 w4.heap.size = some (.cells (mC (mZ 4 k1)) 33 (0, 0)) := by rw [← hW5, bk_drew]; exact (bk_alloc_at _ _ _ rfl).trans (by kernel_rfl)
  obtain ⟨gm, hgm⟩ : ∃ g, g = w4.heap.size := ⟨_, rfl⟩
  rw [← hgm] at kgm ⊢
  have KGM := Lib.hid kgm; have B5 := Lib.hid b5; have HGM := Lib.hid hgm
  have F5 := Lib.hid (F4.out.trans (b5.mono F4.out.size))
  have hcl : (4 : Int) ≤ (l.length : Int) := by omega
  have hlc : (l.length : Int) ≤ (c : Int) := by omega
  obtain ⟨A4, hA4⟩ : ∃ A4, (if c = 4 then some (⟨b, o, none⟩ : Addr) else some ⟨b, o + 4, none⟩) = A4 := ⟨_, rfl⟩
  have HA4 := Lib.hid hA4
  clear b5 kgm hW5 g0 g1 i0 i1 hgm hb4
  go_upto_region 7 with fail
  obtain ⟨gt, hgt⟩ : ∃ g, g = W5.heap.size := ⟨_, rfl⟩
  rw [← hgt]
  obtain ⟨L, hL⟩ : ∃ L, L = l.drop 4 := ⟨_, rfl⟩
  generalize hW6 : World.alloc W5 _ = W6
  have P0 : Hid (RM true w W6 (s0 + 1 + 1) gm gt L (mZ 4 k1) (.ok 0)) := Lib.hid (by
    have b6 : Below W5.heap.size W5 W6 := by rw [← hW6]; exact (by (repeat (first | exact Below.refl _ _ | assumption | refine Below.drew ?_ | refine bdrewN ?_ _ | refine Below.alloc ?_ (by first | omega | (simp <;> omega) | (simp only [World.size_alloc] <;> omega)) _ | refine below_setRow ?_ (by first | omega | (simp <;> omega)) _ | refine Below.setCell ?_ (by first | omega | (simp <;> omega)) _)))
    have kt : bk W6 gt = some (.cells #[.slice A4 (l.length - 4) (c - 4), .int .i64 0] 87 (0, 0)) := by rw [← hW6]; exact bk_alloc_at _ _ _ hgt
    have F6 := F5.out.trans (b6.mono F5.out.size)
    have q1 := bk_lt KM4.out; have q2 := bk_lt KGM.out; have q3 := HGM.out; have q4 := HS.out; have q5 := F4.out.size
    have hT : TU W6 gt w.heap.size L (.ok 0) := by
      refine ⟨⟨A4, l.length - 4, c - 4, kt, fun e => ?_, by omega, fun q e => ?_⟩, by omega⟩
      · rw [← HA4.out] at e
        split at e <;> cases e
      · cases e
        have e0 : L.length = l.length - 4 := by rw [hL, List.length_drop]
        refine ⟨by omega, by omega, fun h0 => ?_⟩
        rw [List.drop_zero] at h0 ⊢
        have e1 : A4 = some ⟨b, o + 4, none⟩ := by rw [← HA4.out, if_neg (by omega)]
        obtain ⟨b', o', e2, hb, hcc⟩ := H.out.below F6 (Nat.le_refl _) (by omega)
        cases e2
        refine ⟨b, o + 4, e1, hb, fun j hj => ?_⟩
        have h5 := hcc (4 + j) (by omega)
        have e3 : L[j] = l[4 + j]'(by omega) := by simp only [hL, List.getElem_drop]
        rw [e3, Nat.add_assoc]
        exact h5
    refine ⟨F6, hT.te, fun _ => hT, ?_, bk_keep b6 q2 KGM.out, by omega⟩
    exact bk_keep b6 (Nat.lt_of_lt_of_le (Nat.lt_of_lt_of_le q1 (by have := B5.out.size; exact this)) (Nat.le_refl _)) (bk_keep B5.out q1 KM4.out))
  have HLL : Hid (L.length < 2 ^ 32) := Lib.hid (by rw [hL, List.length_drop]; have := HL.out; omega)
  have HLE := Lib.hid hL
  have hres : ∀ e w', RGet 4 k1 L w e w' → RGet 4 (l.getD 1 0) (l.drop 4) w e w' := fun e w' h => by rw [HK1.out, ← hL]; exact h
  have HRES := Lib.hid hres
  have u0 : W6.cell? ⟨gm, 0, none⟩ = some (.int .u8 4) := by rw [bk_cell P0.out.km, mC_0]; rfl
  have lgm := bk_lt P0.out.km
  have LT : Hid (gt = W5.heap.size ∧ W6.heap.size = gt + 1) := Lib.hid ⟨hgt, by rw [← hW6, hgt]; simp⟩
  clear hA4 hgt hL hW6 hres H HA HL F4 F5 B3 B4 B5 KM KM4 KGM HGM HSM HKK HHD H4 HS HHL HA4 hcl hlc hln hbn LT W3 W5 w4
  have C := Lib.hid (tk_num gt w.heap.size 4 L _ W6 (P0.out.tu rfl) HLL.out (by omega))
  go_upto_region 15 with fail
  go_wp2_with fail
  refine C.out.mono ?_
  rintro e X1 ⟨rfl, hu1, t1⟩
  try simp only [GS.adv_adv, Nat.reduceAdd] at hu1
  have P1 := Lib.hid (P0.out.call hu1 t1)
  generalize gv1 : val (GS.got L 4 _) = v1
  have hv1 := (gv1).symm
  clear gv1
  have bv1 : v1 < 256 ^ 4 := by rw [hv1]; exact Nat.lt_of_lt_of_le (val_lt _) (Nat.pow_le_pow_right (by decide) (got_len _ _ _))
  have Hv1 := Lib.hid (And.intro hv1 bv1)
  simp only [Nat.reducePow] at bv1
  have ut := (bk_cell P1.out.km 2).trans (mC_2 _)
  have fz := bk_frozen P1.out.km 2
  have lt := bk_lt P1.out.km
  clear C P0 hu1 t1 hv1
  go_upto_region 16 with fail
  have Q1 := Lib.hid (P1.out.set (j := 2) (v := .int .u32 (v1 : Int)) (sM2 _ _))
  generalize World.setCell X1 _ _ = yX1 at *
  clear P1 ut fz lt bv1
  obtain ⟨AT, nT, cT, hbT, _, _, hqT⟩ := (Q1.out.tu rfl).box
  have c0 : yX1.cell? ⟨gt, 0, none⟩ = some (.slice AT nT cT) := (bk_cell hbT 0).trans rfl
  have lg0 := bk_lt hbT
  have HSZ : Hid (gt < yX1.heap.size) := Lib.hid lg0
  have C := Lib.hid (tk_bytesX gt w.heap.size nT L (GS.adv L 4 (.ok 0)) yX1 (Q1.out.tu rfl) HLL.out (fun q e => by have := (hqT q e).2.1; have := HLL.out; omega))
  have HRS : Hid (GS.adv L nT (GS.adv L 4 (.ok 0)) = GS.rst L (GS.adv L 4 (.ok 0)) ∧ ∀ q, GS.adv L 4 (.ok 0) = .ok q → GS.got L nT (GS.adv L 4 (.ok 0)) = L.drop q) := Lib.hid (rest_got fun q e => (hqT q e).1 |> fun h => ⟨h, (hqT q e).2.1⟩)
  clear hbT hqT
  go_upto_region 16 with fail
  go_wp2_with fail
  refine C.out.mono ?_
  rintro e X2 ⟨A2, c2, rfl, ho, hu1, t1⟩
  rw [HRS.out.1] at hu1
  have P1 := Lib.hid (Q1.out.call hu1 t1)
  obtain ⟨D, hD⟩ : ∃ D, D = GS.got L nT (GS.adv L 4 (.ok 0)) := ⟨_, rfl⟩
  rw [← hD] at ho ⊢
  have HD := Lib.hid hD
  have ut := (bk_cell P1.out.km 3).trans (mC_3 _)
  have fz := bk_frozen P1.out.km 3
  have lt := bk_lt P1.out.km
  have HOO : Hid (Own (X2.setCell ⟨gm, 3, none⟩ (.slice A2 D.length c2)) yX1.heap.size (.slice A2 D.length c2) D) := Lib.hid (ho.turn fun j hj => bk_setCell_other _ _ _ _ _ (by have := (ho.lt hj).1; have := HSZ.out; have := P1.out.lo; omega))
  clear C Q1 hu1 t1 ho hD c0 lg0
  go_upto_region 55 with fail
  have Q2 := Lib.hid (P1.out.set (j := 3) (v := .slice A2 D.length c2) (sM3 _ _ _ _))
  generalize World.setCell X2 _ _ = yX2 at *
  clear P1 ut fz lt
  have OKF : Hid (∀ c', Own (yX2.setRow (s0 + 1 + 1) c') yX1.heap.size (.slice A2 D.length c2) D) := Lib.hid fun c' => HOO.out.turn fun j hj => bk_setRow_other _ _ _ _ (by have := (HOO.out.lt hj).1; have := HSZ.out; have := Q2.out.lo; omega)
  clear HOO
  have HPG : Hid (PartG L (.ok 0) (mZ 4 k1).pl (Mv.pl { mZ 4 k1 with param := v1, DA := A2, dd := D, dc := c2 }) (GS.rst L (GS.adv L 4 (.ok 0)))) := Lib.hid (by
    unfold PartG
    rw [show (mZ 4 k1).pl.kind = 4 from rfl]
    repeat first | rw [if_pos rfl] | rw [if_neg (by decide)]
    exact ⟨_, _, rfl, num_ok' Hv1.out.1, Hv1.out.2, (fun q e => by show D = _; rw [HD.out]; exact HRS.out.2 q e), rfl⟩)
  have HST : Hid ((GS.rst L (GS.adv L 4 (.ok 0))) = getS 4 L) := Lib.hid (partG_fun HPG.out).1
  have HPL : Hid (∀ q, (GS.rst L (GS.adv L 4 (.ok 0))) = .ok q → (Mv.pl { mZ 4 k1 with param := v1, DA := A2, dd := D, dc := c2 }) = getV 4 k1 L) := Lib.hid (partG_fun HPG.out).2
  clear HPG
  obtain ⟨st, hst⟩ : ∃ st, st = GS.rst L (GS.adv L 4 (.ok 0)) := ⟨_, rfl⟩
  have PF : Hid (RM true w yX2 (s0 + 1 + 1) gm gt L { mZ 4 k1 with param := v1, DA := A2, dd := D, dc := c2 } st) := Lib.hid (by rw [hst]; exact (Q2).out)
  have HM : Hid (∀ c', MvOk (World.setRow yX2 (s0 + 1 + 1) c') (World.setRow yX2 (s0 + 1 + 1) c').heap.size { mZ 4 k1 with param := v1, DA := A2, dd := D, dc := c2 }) := Lib.hid (fun c' => mv_ok (by have h := ((OKF.out c').ov 0).1; exact ⟨h.rd, h.nil, h.le, h.lt⟩) (no_o _ _) (no_s _ _) (no_r _ _) ⟨Hv1.out.2, by show (0 : Nat) < _; decide, by show (0 : Nat) < _; decide, by show (0 : Nat) < _; decide, by show (0 : Nat) < _; decide⟩)
  rw [← hst] at HST HPL
  clear hst Q2
  have c1 := (PF.out.te.err).1
  have lgt := (PF.out.te.err).2
  have km8 := PF.out.km
  have kr8 := PF.out.kr
  have lm8 := bk_lt km8
  have lr8 := bk_lt kr8
  have sz := fun m => mC_size m
  have so := fun m => mC_ones m
  by_cases he : st.err = 0
  · have n1 : (((st.err : Nat) : Int) != 0) = false := by simp [he]
    obtain ⟨q, hq⟩ := GS.err0 he
    have FX := Lib.hid (HRES.out _ _ (PF.out.fin HST.out hq (HPL.out q hq) (HM.out _)))
    clear he hq
    go_wp2_with fail
    refine ret_two (cs := mC _) rfl rfl rfl rfl (by rw [bk_setRow_same, kr8]; rfl) Try.underlying33 rfl (by rw [mC_size]; kernel_rfl) ?_
    exact FX.out
  · have n1 : (((st.err : Nat) : Int) != 0) = true := by simp [he]
    have FX := Lib.hid (fun W' hb => HRES.out _ W' (rm_bad HST.out he hb))
    have hng : gt ≠ s0 + 1 + 1 := by have := PF.out.lo; omega
    have hng' : s0 + 1 + 1 ≠ gt := hng.symm
    have cR : ∀ c, (World.setRow yX2 (s0 + 1 + 1) c).cell? ⟨gt, 1, none⟩ = some (.int .i64 ((st.err : Nat) : Int)) := fun c => (cell_of_bk (bk_setRow_other _ _ _ _ hng) 1).trans c1
    clear he
    go_upto_region 56 with fail
    go_region
    go_wp2_with fail
    refine ret_two (cs := mC (mZ 0 0)) rfl rfl rfl rfl (by rw [bk_drew, bk_setRow_same, kr8]; kernel_rfl) Try.underlying33 rfl (by rw [mC_size]; kernel_rfl) ?_
    exact FX.out _ (below_row PF.out.bl PF.out.lo.1 _).drew
theorem rget128 (src dst : List UInt8) (h1 : src.length = 16) (h2 : dst.length = 16) (A : Option Addr) (l : List UInt8) (c : Nat) (w : World) (h : Rd w w.heap.size A l) (hA : A = none → l = [] ∧ c = 0) (hc : l.length ≤ c) (hl : l.length < 2 ^ 32) (h4 : ¬ l.length < 4) (hsm : sumOf (ovr src dst 58 l) = 0) (hk : l.headD 0 = 128) :
    Calls Try.prog 20 #[av src, av dst, .slice A l.length c] w fun e w' => RGet 128 (l.getD 1 0) (l.drop 4) w e w' := by
  have hd : ∃ k1 r, l = 128 :: k1 :: r := by
    match l, h4, hk with
    | x :: y :: r, _, hk => exact ⟨y, r, by rw [show x = 128 from hk]⟩
    | [x], h4, _ => exact absurd (by simp) h4
    | [], h4, _ => exact absurd (by simp) h4
  have HSM := Lib.hid hsm; have HKK := Lib.hid hk; have HHD := Lib.hid hd; have H4 := Lib.hid h4
  have H := Lib.hid h; have HA := Lib.hid hA; have HL := Lib.hid hl
  have z1 := h1; have z2 := h2
  clear h hA hl hsm hk hd
  go_enter Try.func20, Try.ntmps20
  go_upto_region 1 with fail
  generalize hW3 : World.alloc (World.alloc (World.alloc w _) _) _ = W3
  have b3 : Below w.heap.size w W3 := by rw [← hW3]; exact (by (repeat (first | exact Below.refl _ _ | assumption | refine Below.drew ?_ | refine bdrewN ?_ _ | refine Below.alloc ?_ (by first | omega | (simp <;> omega) | (simp only [World.size_alloc] <;> omega)) _ | refine below_setRow ?_ (by first | omega | (simp <;> omega)) _ | refine Below.setCell ?_ (by first | omega | (simp <;> omega)) _)))
  obtain ⟨s0, hs⟩ : ∃ s, s = w.heap.size := ⟨_, rfl⟩
  have ks : bk W3 s0 = some (.cells (src.map B).toArray 23 (0, 0)) := by rw [← hW3, hs, bk_alloc_past _ _ _ (by simp <;> omega), bk_alloc_past _ _ _ (by simp)]; exact bk_alloc_at _ _ _ rfl
  have kd : bk W3 (s0 + 1) = some (.cells (dst.map B).toArray 23 (0, 0)) := by rw [← hW3, hs, bk_alloc_past _ _ _ (by simp)]; exact bk_alloc_at _ _ _ (by simp)
  have km : bk W3 (s0 + 1 + 1) = some (.cells (mC (mZ 0 0)) 33 (0, 0)) := by rw [← hW3, hs]; exact (bk_alloc_at _ _ _ (by simp)).trans (by kernel_rfl)
  rw [← hs]
  have B3 := Lib.hid b3; have HS := Lib.hid hs
  clear b3 hs hW3
  have KM := Lib.hid km
  have l1 := bk_lt ks; have l2 := bk_lt kd; have l3 := bk_lt km
  have d1 : decide ((l.length : Int) < 4) = false := by simp; omega
  have CG : Hid (Calls Try.prog 35 #[av src, av dst, B 58, .slice A l.length c] W3 fun e w' => e = .returned (.int .u16 0) ∧ Below W3.heap.size W3 w') := Lib.hid (by
    refine (rover_any src dst 58 A l c W3 h1 h2 ((H.out.below B3.out (Nat.le_refl _)).mono B3.out.size) HA.out HL.out).mono ?_
    rintro e w' ⟨rfl, b⟩
    rw [HSM.out]
    exact ⟨rfl, b⟩)
  clear h4
  go_wp2_with fail
  refine CG.out.mono ?_
  rintro e w4 ⟨rfl, b4⟩
  have B4 := Lib.hid b4
  have km4 := bk_keep b4 l3 km
  have KM4 := Lib.hid km4
  have F4 := Lib.hid (B3.out.trans (b4.mono B3.out.size))
  clear ks kd km l1 l2 l3 b4 CG km4 d1 z1 z2
  obtain ⟨k1, rr, hlr⟩ := HHD.out
  have hln : 4 ≤ l.length := by have := H4.out; omega
  obtain ⟨b, o, rfl, hbn, hcell⟩ : ∃ b o, A = some ⟨b, o, none⟩ ∧ b < w.heap.size ∧ ∀ j (h : j < l.length), w4.cell? ⟨b, o + j, none⟩ = some (B l[j]) := by
    obtain ⟨b, o, e, hb, hc'⟩ := (H.out.below F4.out (Nat.le_refl _)) (by omega)
    exact ⟨b, o, e, hb, hc'⟩
  have g0 : w4.cell? ⟨b, o, none⟩ = some (.int .u8 ((128 : UInt8).toNat : Int)) := by have := hcell 0 (by omega); rw [show l[0] = 128 by simp [hlr]] at this; exact this
  have g1 : w4.cell? ⟨b, o + 1, none⟩ = some (.int .u8 (k1.toNat : Int)) := by have := hcell 1 (by omega); rw [show l[1] = k1 by simp [hlr]] at this; exact this
  have i0 : decide ((0 : Int) < (l.length : Int)) = true := by simp; omega
  have i1 : decide ((1 : Int) < (l.length : Int)) = true := by simp; omega
  have hb4 : b < w4.heap.size := Nat.lt_of_lt_of_le hbn F4.out.size
  have HK1 : Hid (l.getD 1 0 = k1) := Lib.hid (by rw [hlr]; rfl)
  have HHL := Lib.hid (And.intro hln hbn)
  clear hcell hlr
  go_upto_region 5 with fail
  go_region
  generalize hW5 : World.drew (World.alloc w4 _) = W5
  have b5 : Below w4.heap.size w4 W5 := by rw [← hW5]; exact (by (repeat (first | exact Below.refl _ _ | assumption | refine Below.drew ?_ | refine bdrewN ?_ _ | refine Below.alloc ?_ (by first | omega | (simp <;> omega) | (simp only [World.size_alloc] <;> omega)) _ | refine below_setRow ?_ (by first | omega | (simp <;> omega)) _ | refine Below.setCell ?_ (by first | omega | (simp <;> omega)) _)))
  have kgm : bk W5 w4.heap.size = some (.cells (mC (mZ 128 k1)) 33 (0, 0)) := by rw [← hW5, bk_drew]; exact (bk_alloc_at _ _ _ rfl).trans (by kernel_rfl)
  obtain ⟨gm, hgm⟩ : ∃ g, g = w4.heap.size := ⟨_, rfl⟩
  rw [← hgm] at kgm ⊢
  have KGM := Lib.hid kgm; have B5 := Lib.hid b5; have HGM := Lib.hid hgm
  have F5 := Lib.hid (F4.out.trans (b5.mono F4.out.size))
  have hcl : (4 : Int) ≤ (l.length : Int) := by omega
  have hlc : (l.length : Int) ≤ (c : Int) := by omega
  obtain ⟨A4, hA4⟩ : ∃ A4, (if c = 4 then some (⟨b, o, none⟩ : Addr) else some ⟨b, o + 4, none⟩) = A4 := ⟨_, rfl⟩
  have HA4 := Lib.hid hA4
  clear b5 kgm hW5 g0 g1 i0 i1 hgm hb4
  go_upto_region 7 with fail
  obtain ⟨gt, hgt⟩ : ∃ g, g = W5.heap.size := ⟨_, rfl⟩
  rw [← hgt]
  obtain ⟨L, hL⟩ : ∃ L, L = l.drop 4 := ⟨_, rfl⟩
  generalize hW6 : World.alloc W5 _ = W6
  have P0 : Hid (RM true w W6 (s0 + 1 + 1) gm gt L (mZ 128 k1) (.ok 0)) := Lib.hid (by
    have b6 : Below W5.heap.size W5 W6 := by rw [← hW6]; exact (by (repeat (first | exact Below.refl _ _ | assumption | refine Below.drew ?_ | refine bdrewN ?_ _ | refine Below.alloc ?_ (by first | omega | (simp <;> omega) | (simp only [World.size_alloc] <;> omega)) _ | refine below_setRow ?_ (by first | omega | (simp <;> omega)) _ | refine Below.setCell ?_ (by first | omega | (simp <;> omega)) _)))
    have kt : bk W6 gt = some (.cells #[.slice A4 (l.length - 4) (c - 4), .int .i64 0] 87 (0, 0)) := by rw [← hW6]; exact bk_alloc_at _ _ _ hgt
    have F6 := F5.out.trans (b6.mono F5.out.size)
    have q1 := bk_lt KM4.out; have q2 := bk_lt KGM.out; have q3 := HGM.out; have q4 := HS.out; have q5 := F4.out.size
    have hT : TU W6 gt w.heap.size L (.ok 0) := by
      refine ⟨⟨A4, l.length - 4, c - 4, kt, fun e => ?_, by omega, fun q e => ?_⟩, by omega⟩
      · rw [← HA4.out] at e
        split at e <;> cases e
      · cases e
        have e0 : L.length = l.length - 4 := by rw [hL, List.length_drop]
        refine ⟨by omega, by omega, fun h0 => ?_⟩
        rw [List.drop_zero] at h0 ⊢
        have e1 : A4 = some ⟨b, o + 4, none⟩ := by rw [← HA4.out, if_neg (by omega)]
        obtain ⟨b', o', e2, hb, hcc⟩ := H.out.below F6 (Nat.le_refl _) (by omega)
        cases e2
        refine ⟨b, o + 4, e1, hb, fun j hj => ?_⟩
        have h5 := hcc (4 + j) (by omega)
        have e3 : L[j] = l[4 + j]'(by omega) := by simp only [hL, List.getElem_drop]
        rw [e3, Nat.add_assoc]
        exact h5
    refine ⟨F6, hT.te, fun _ => hT, ?_, bk_keep b6 q2 KGM.out, by omega⟩
    exact bk_keep b6 (Nat.lt_of_lt_of_le (Nat.lt_of_lt_of_le q1 (by have := B5.out.size; exact this)) (Nat.le_refl _)) (bk_keep B5.out q1 KM4.out))
  have HLL : Hid (L.length < 2 ^ 32) := Lib.hid (by rw [hL, List.length_drop]; have := HL.out; omega)
  have HLE := Lib.hid hL
  have hres : ∀ e w', RGet 128 k1 L w e w' → RGet 128 (l.getD 1 0) (l.drop 4) w e w' := fun e w' h => by rw [HK1.out, ← hL]; exact h
  have HRES := Lib.hid hres
  have u0 : W6.cell? ⟨gm, 0, none⟩ = some (.int .u8 128) := by rw [bk_cell P0.out.km, mC_0]; rfl
  have lgm := bk_lt P0.out.km
  have LT : Hid (gt = W5.heap.size ∧ W6.heap.size = gt + 1) := Lib.hid ⟨hgt, by rw [← hW6, hgt]; simp⟩
  clear hA4 hgt hL hW6 hres H HA HL F4 F5 B3 B4 B5 KM KM4 KGM HGM HSM HKK HHD H4 HS HHL HA4 hcl hlc hln hbn LT W3 W5 w4
  have C := Lib.hid (tk_num gt w.heap.size 4 L _ W6 (P0.out.tu rfl) HLL.out (by omega))
  go_upto_region 15 with fail
  go_wp2_with fail
  refine C.out.mono ?_
  rintro e X1 ⟨rfl, hu1, t1⟩
  try simp only [GS.adv_adv, Nat.reduceAdd] at hu1
  have P1 := Lib.hid (P0.out.call hu1 t1)
  generalize gv1 : val (GS.got L 4 _) = v1
  have hv1 := (gv1).symm
  clear gv1
  have bv1 : v1 < 256 ^ 4 := by rw [hv1]; exact Nat.lt_of_lt_of_le (val_lt _) (Nat.pow_le_pow_right (by decide) (got_len _ _ _))
  have Hv1 := Lib.hid (And.intro hv1 bv1)
  simp only [Nat.reducePow] at bv1
  have ut := (bk_cell P1.out.km 2).trans (mC_2 _)
  have fz := bk_frozen P1.out.km 2
  have lt := bk_lt P1.out.km
  clear C P0 hu1 t1 hv1
  go_upto_region 16 with fail
  have Q1 := Lib.hid (P1.out.set (j := 2) (v := .int .u32 (v1 : Int)) (sM2 _ _))
  generalize World.setCell X1 _ _ = yX1 at *
  clear P1 ut fz lt bv1
  obtain ⟨AT, nT, cT, hbT, _, _, hqT⟩ := (Q1.out.tu rfl).box
  have c0 : yX1.cell? ⟨gt, 0, none⟩ = some (.slice AT nT cT) := (bk_cell hbT 0).trans rfl
  have lg0 := bk_lt hbT
  have HSZ : Hid (gt < yX1.heap.size) := Lib.hid lg0
  have C := Lib.hid (tk_bytesX gt w.heap.size nT L (GS.adv L 4 (.ok 0)) yX1 (Q1.out.tu rfl) HLL.out (fun q e => by have := (hqT q e).2.1; have := HLL.out; omega))
  have HRS : Hid (GS.adv L nT (GS.adv L 4 (.ok 0)) = GS.rst L (GS.adv L 4 (.ok 0)) ∧ ∀ q, GS.adv L 4 (.ok 0) = .ok q → GS.got L nT (GS.adv L 4 (.ok 0)) = L.drop q) := Lib.hid (rest_got fun q e => (hqT q e).1 |> fun h => ⟨h, (hqT q e).2.1⟩)
  clear hbT hqT
  go_upto_region 16 with fail
  go_wp2_with fail
  refine C.out.mono ?_
  rintro e X2 ⟨A2, c2, rfl, ho, hu1, t1⟩
  rw [HRS.out.1] at hu1
  have P1 := Lib.hid (Q1.out.call hu1 t1)
  obtain ⟨D, hD⟩ : ∃ D, D = GS.got L nT (GS.adv L 4 (.ok 0)) := ⟨_, rfl⟩
  rw [← hD] at ho ⊢
  have HD := Lib.hid hD
  have ut := (bk_cell P1.out.km 3).trans (mC_3 _)
  have fz := bk_frozen P1.out.km 3
  have lt := bk_lt P1.out.km
  have HOO : Hid (Own (X2.setCell ⟨gm, 3, none⟩ (.slice A2 D.length c2)) yX1.heap.size (.slice A2 D.length c2) D) := Lib.hid (ho.turn fun j hj => bk_setCell_other _ _ _ _ _ (by have := (ho.lt hj).1; have := HSZ.out; have := P1.out.lo; omega))
  clear C Q1 hu1 t1 ho hD c0 lg0
  go_upto_region 55 with fail
  have Q2 := Lib.hid (P1.out.set (j := 3) (v := .slice A2 D.length c2) (sM3 _ _ _ _))
  generalize World.setCell X2 _ _ = yX2 at *
  clear P1 ut fz lt
  have OKF : Hid (∀ c', Own (yX2.setRow (s0 + 1 + 1) c') yX1.heap.size (.slice A2 D.length c2) D) := Lib.hid fun c' => HOO.out.turn fun j hj => bk_setRow_other _ _ _ _ (by have := (HOO.out.lt hj).1; have := HSZ.out; have := Q2.out.lo; omega)
  clear HOO
  have HPG : Hid (PartG L (.ok 0) (mZ 128 k1).pl (Mv.pl { mZ 128 k1 with param := v1, DA := A2, dd := D, dc := c2 }) (GS.rst L (GS.adv L 4 (.ok 0)))) := Lib.hid (by
    unfold PartG
    rw [show (mZ 128 k1).pl.kind = 128 from rfl]
    repeat first | rw [if_pos rfl] | rw [if_neg (by decide)]
    exact ⟨_, _, rfl, num_ok' Hv1.out.1, Hv1.out.2, (fun q e => by show D = _; rw [HD.out]; exact HRS.out.2 q e), rfl⟩)
  have HST : Hid ((GS.rst L (GS.adv L 4 (.ok 0))) = getS 128 L) := Lib.hid (partG_fun HPG.out).1
  have HPL : Hid (∀ q, (GS.rst L (GS.adv L 4 (.ok 0))) = .ok q → (Mv.pl { mZ 128 k1 with param := v1, DA := A2, dd := D, dc := c2 }) = getV 128 k1 L) := Lib.hid (partG_fun HPG.out).2
  clear HPG
  obtain ⟨st, hst⟩ : ∃ st, st = GS.rst L (GS.adv L 4 (.ok 0)) := ⟨_, rfl⟩
  have PF : Hid (RM true w yX2 (s0 + 1 + 1) gm gt L { mZ 128 k1 with param := v1, DA := A2, dd := D, dc := c2 } st) := Lib.hid (by rw [hst]; exact (Q2).out)
  have HM : Hid (∀ c', MvOk (World.setRow yX2 (s0 + 1 + 1) c') (World.setRow yX2 (s0 + 1 + 1) c').heap.size { mZ 128 k1 with param := v1, DA := A2, dd := D, dc := c2 }) := Lib.hid (fun c' => mv_ok (by have h := ((OKF.out c').ov 0).1; exact ⟨h.rd, h.nil, h.le, h.lt⟩) (no_o _ _) (no_s _ _) (no_r _ _) ⟨Hv1.out.2, by show (0 : Nat) < _; decide, by show (0 : Nat) < _; decide, by show (0 : Nat) < _; decide, by show (0 : Nat) < _; decide⟩)
  rw [← hst] at HST HPL
  clear hst Q2
  have c1 := (PF.out.te.err).1
  have lgt := (PF.out.te.err).2
  have km8 := PF.out.km
  have kr8 := PF.out.kr
  have lm8 := bk_lt km8
  have lr8 := bk_lt kr8
  have sz := fun m => mC_size m
  have so := fun m => mC_ones m
  by_cases he : st.err = 0
  · have n1 : (((st.err : Nat) : Int) != 0) = false := by simp [he]
    obtain ⟨q, hq⟩ := GS.err0 he
    have FX := Lib.hid (HRES.out _ _ (PF.out.fin HST.out hq (HPL.out q hq) (HM.out _)))
    clear he hq
    go_wp2_with fail
    refine ret_two (cs := mC _) rfl rfl rfl rfl (by rw [bk_setRow_same, kr8]; rfl) Try.underlying33 rfl (by rw [mC_size]; kernel_rfl) ?_
    exact FX.out
  · have n1 : (((st.err : Nat) : Int) != 0) = true := by simp [he]
    have FX := Lib.hid (fun W' hb => HRES.out _ W' (rm_bad HST.out he hb))
    have hng : gt ≠ s0 + 1 + 1 := by have := PF.out.lo; omega
    have hng' : s0 + 1 + 1 ≠ gt := hng.symm
    have cR : ∀ c, (World.setRow yX2 (s0 + 1 + 1) c).cell? ⟨gt, 1, none⟩ = some (.int .i64 ((st.err : Nat) : Int)) := fun c => (cell_of_bk (bk_setRow_other _ _ _ _ hng) 1).trans c1
    clear he
    go_upto_region 56 with fail
    go_region
    go_wp2_with fail
    refine ret_two (cs := mC (mZ 0 0)) rfl rfl rfl rfl (by rw [bk_drew, bk_setRow_same, kr8]; kernel_rfl) Try.underlying33 rfl (by rw [mC_size]; kernel_rfl) ?_
    exact FX.out _ (below_row PF.out.bl PF.out.lo.1 _).drew
theorem rget129 (src dst : List UInt8) (h1 : src.length = 16) (h2 : dst.length = 16) (A : Option Addr) (l : List UInt8) (c : Nat) (w : World) (h : Rd w w.heap.size A l) (hA : A = none → l = [] ∧ c = 0) (hc : l.length ≤ c) (hl : l.length < 2 ^ 32) (h4 : ¬ l.length < 4) (hsm : sumOf (ovr src dst 58 l) = 0) (hk : l.headD 0 = 129) :
    Calls Try.prog 20 #[av src, av dst, .slice A l.length c] w fun e w' => RGet 129 (l.getD 1 0) (l.drop 4) w e w' := by
  have hd : ∃ k1 r, l = 129 :: k1 :: r := by
    match l, h4, hk with
    | x :: y :: r, _, hk => exact ⟨y, r, by rw [show x = 129 from hk]⟩
    | [x], h4, _ => exact absurd (by simp) h4
    | [], h4, _ => exact absurd (by simp) h4
  have HSM := Lib.hid hsm; have HKK := Lib.hid hk; have HHD := Lib.hid hd; have H4 := Lib.hid h4
  have H := Lib.hid h; have HA := Lib.hid hA; have HL := Lib.hid hl
  have z1 := h1; have z2 := h2
  clear h hA hl hsm hk hd
  go_enter Try.func20, Try.ntmps20
  go_upto_region 1 with fail
  generalize hW3 : World.alloc (World.alloc (World.alloc w _) _) _ = W3
  have b3 : Below w.heap.size w W3 := by rw [← hW3]; exact (by (repeat (first | exact Below.refl _ _ | assumption | refine Below.drew ?_ | refine bdrewN ?_ _ | refine Below.alloc ?_ (by first | omega | (simp <;> omega) | (simp only [World.size_alloc] <;> omega)) _ | refine below_setRow ?_ (by first | omega | (simp <;> omega)) _ | refine Below.setCell ?_ (by first | omega | (simp <;> omega)) _)))
  obtain ⟨s0, hs⟩ : ∃ s, s = w.heap.size := ⟨_, rfl⟩
  have ks : bk W3 s0 = some (.cells (src.map B).toArray 23 (0, 0)) := by rw [← hW3, hs, bk_alloc_past _ _ _ (by simp <;> omega), bk_alloc_past _ _ _ (by simp)]; exact bk_alloc_at _ _ _ rfl
  have kd : bk W3 (s0 + 1) = some (.cells (dst.map B).toArray 23 (0, 0)) := by rw [← hW3, hs, bk_alloc_past _ _ _ (by simp)]; exact bk_alloc_at _ _ _ (by simp)
  have km : bk W3 (s0 + 1 + 1) = some (.cells (mC (mZ 0 0)) 33 (0, 0)) := by rw [← hW3, hs]; exact (bk_alloc_at _ _ _ (by simp)).trans (by kernel_rfl)
  rw [← hs]
  have B3 := Lib.hid b3; have HS := Lib.hid hs
  clear b3 hs hW3
  have KM := Lib.hid km
  have l1 := bk_lt ks; have l2 := bk_lt kd; have l3 := bk_lt km
  have d1 : decide ((l.length : Int) < 4) = false := by simp; omega
  have CG : Hid (Calls Try.prog 35 #[av src, av dst, B 58, .slice A l.length c] W3 fun e w' => e = .returned (.int .u16 0) ∧ Below W3.heap.size W3 w') := Lib.hid (by
    refine (rover_any src dst 58 A l c W3 h1 h2 ((H.out.below B3.out (Nat.le_refl _)).mono B3.out.size) HA.out HL.out).mono ?_
    rintro e w' ⟨rfl, b⟩
    rw [HSM.out]
    exact ⟨rfl, b⟩)
  clear h4
  go_wp2_with fail
  refine CG.out.mono ?_
  rintro e w4 ⟨rfl, b4⟩
  have B4 := Lib.hid b4
  have km4 := bk_keep b4 l3 km
  have KM4 := Lib.hid km4
  have F4 := Lib.hid (B3.out.trans (b4.mono B3.out.size))
  clear ks kd km l1 l2 l3 b4 CG km4 d1 z1 z2
  obtain ⟨k1, rr, hlr⟩ := HHD.out
  have hln : 4 ≤ l.length := by have := H4.out; omega
  obtain ⟨b, o, rfl, hbn, hcell⟩ : ∃ b o, A = some ⟨b, o, none⟩ ∧ b < w.heap.size ∧ ∀ j (h : j < l.length), w4.cell? ⟨b, o + j, none⟩ = some (B l[j]) := by
    obtain ⟨b, o, e, hb, hc'⟩ := (H.out.below F4.out (Nat.le_refl _)) (by omega)
    exact ⟨b, o, e, hb, hc'⟩
  have g0 : w4.cell? ⟨b, o, none⟩ = some (.int .u8 ((129 : UInt8).toNat : Int)) := by have := hcell 0 (by omega); rw [show l[0] = 129 by simp [hlr]] at this; exact this
  have g1 : w4.cell? ⟨b, o + 1, none⟩ = some (.int .u8 (k1.toNat : Int)) := by have := hcell 1 (by omega); rw [show l[1] = k1 by simp [hlr]] at this; exact this
  have i0 : decide ((0 : Int) < (l.length : Int)) = true := by simp; omega
  have i1 : decide ((1 : Int) < (l.length : Int)) = true := by simp; omega
  have hb4 : b < w4.heap.size := Nat.lt_of_lt_of_le hbn F4.out.size
  have HK1 : Hid (l.getD 1 0 = k1) := Lib.hid (by rw [hlr]; rfl)
  have HHL := Lib.hid (And.intro hln hbn)
  clear hcell hlr
  go_upto_region 5 with fail
  go_region
  generalize hW5 : World.drew (World.alloc w4 _) = W5
  have b5 : Below w4.heap.size w4 W5 := by rw [← hW5]; exact (by (repeat (first | exact Below.refl _ _ | assumption | refine Below.drew ?_ | refine bdrewN ?_ _ | refine Below.alloc ?_ (by first | omega | (simp <;> omega) | (simp only [World.size_alloc] <;> omega)) _ | refine below_setRow ?_ (by first | omega | (simp <;> omega)) _ | refine Below.setCell ?_ (by first | omega | (simp <;> omega)) _)))
  have kgm : bk W5 w4.heap.size = some (.cells (mC (mZ 129 k1)) 33 (0, 0)) := by rw [← hW5, bk_drew]; exact (bk_alloc_at _ _ _ rfl).trans (by kernel_rfl)
  obtain ⟨gm, hgm⟩ : ∃ g, g = w4.heap.size := ⟨_, rfl⟩
  rw [← hgm] at kgm ⊢
  have KGM := Lib.hid kgm; have B5 := Lib.hid b5; have HGM := Lib.hid hgm
  have F5 := Lib.hid (F4.out.trans (b5.mono F4.out.size))
  have hcl : (4 : Int) ≤ (l.length : Int) := by omega
  have hlc : (l.length : Int) ≤ (c : Int) := by omega
  obtain ⟨A4, hA4⟩ : ∃ A4, (if c = 4 then some (⟨b, o, none⟩ : Addr) else some ⟨b, o + 4, none⟩) = A4 := ⟨_, rfl⟩
  have HA4 := Lib.hid hA4
  clear b5 kgm hW5 g0 g1 i0 i1 hgm hb4
  go_upto_region 7 with fail
  obtain ⟨gt, hgt⟩ : ∃ g, g = W5.heap.size := ⟨_, rfl⟩
  rw [← hgt]
  obtain ⟨L, hL⟩ : ∃ L, L = l.drop 4 := ⟨_, rfl⟩
  generalize hW6 : World.alloc W5 _ = W6
  have P0 : Hid (RM true w W6 (s0 + 1 + 1) gm gt L (mZ 129 k1) (.ok 0)) := Lib.hid (by
    have b6 : Below W5.heap.size W5 W6 := by rw [← hW6]; exact (by (repeat (first | exact Below.refl _ _ | assumption | refine Below.drew ?_ | refine bdrewN ?_ _ | refine Below.alloc ?_ (by first | omega | (simp <;> omega) | (simp only [World.size_alloc] <;> omega)) _ | refine below_setRow ?_ (by first | omega | (simp <;> omega)) _ | refine Below.setCell ?_ (by first | omega | (simp <;> omega)) _)))
    have kt : bk W6 gt = some (.cells #[.slice A4 (l.length - 4) (c - 4), .int .i64 0] 87 (0, 0)) := by rw [← hW6]; exact bk_alloc_at _ _ _ hgt
    have F6 := F5.out.trans (b6.mono F5.out.size)
    have q1 := bk_lt KM4.out; have q2 := bk_lt KGM.out; have q3 := HGM.out; have q4 := HS.out; have q5 := F4.out.size
    have hT : TU W6 gt w.heap.size L (.ok 0) := by
      refine ⟨⟨A4, l.length - 4, c - 4, kt, fun e => ?_, by omega, fun q e => ?_⟩, by omega⟩
      · rw [← HA4.out] at e
        split at e <;> cases e
      · cases e
        have e0 : L.length = l.length - 4 := by rw [hL, List.length_drop]
        refine ⟨by omega, by omega, fun h0 => ?_⟩
        rw [List.drop_zero] at h0 ⊢
        have e1 : A4 = some ⟨b, o + 4, none⟩ := by rw [← HA4.out, if_neg (by omega)]
        obtain ⟨b', o', e2, hb, hcc⟩ := H.out.below F6 (Nat.le_refl _) (by omega)
        cases e2
        refine ⟨b, o + 4, e1, hb, fun j hj => ?_⟩
        have h5 := hcc (4 + j) (by omega)
        have e3 : L[j] = l[4 + j]'(by omega) := by simp only [hL, List.getElem_drop]
        rw [e3, Nat.add_assoc]
        exact h5
    refine ⟨F6, hT.te, fun _ => hT, ?_, bk_keep b6 q2 KGM.out, by omega⟩
    exact bk_keep b6 (Nat.lt_of_lt_of_le (Nat.lt_of_lt_of_le q1 (by have := B5.out.size; exact this)) (Nat.le_refl _)) (bk_keep B5.out q1 KM4.out))
  have HLL : Hid (L.length < 2 ^ 32) := Lib.hid (by rw [hL, List.length_drop]; have := HL.out; omega)
  have HLE := Lib.hid hL
  have hres : ∀ e w', RGet 129 k1 L w e w' → RGet 129 (l.getD 1 0) (l.drop 4) w e w' := fun e w' h => by rw [HK1.out, ← hL]; exact h
  have HRES := Lib.hid hres
  have u0 : W6.cell? ⟨gm, 0, none⟩ = some (.int .u8 129) := by rw [bk_cell P0.out.km, mC_0]; rfl
  have lgm := bk_lt P0.out.km
  have LT : Hid (gt = W5.heap.size ∧ W6.heap.size = gt + 1) := Lib.hid ⟨hgt, by rw [← hW6, hgt]; simp⟩
  clear hA4 hgt hL hW6 hres H HA HL F4 F5 B3 B4 B5 KM KM4 KGM HGM HSM HKK HHD H4 HS HHL HA4 hcl hlc hln hbn LT W3 W5 w4
  have C := Lib.hid (tk_num gt w.heap.size 4 L _ W6 (P0.out.tu rfl) HLL.out (by omega))
  go_upto_region 15 with fail
  go_wp2_with fail
  refine C.out.mono ?_
  rintro e X1 ⟨rfl, hu1, t1⟩
  try simp only [GS.adv_adv, Nat.reduceAdd] at hu1
  have P1 := Lib.hid (P0.out.call hu1 t1)
  generalize gv1 : val (GS.got L 4 _) = v1
  have hv1 := (gv1).symm
  clear gv1
  have bv1 : v1 < 256 ^ 4 := by rw [hv1]; exact Nat.lt_of_lt_of_le (val_lt _) (Nat.pow_le_pow_right (by decide) (got_len _ _ _))
  have Hv1 := Lib.hid (And.intro hv1 bv1)
  simp only [Nat.reducePow] at bv1
  have ut := (bk_cell P1.out.km 2).trans (mC_2 _)
  have fz := bk_frozen P1.out.km 2
  have lt := bk_lt P1.out.km
  clear C P0 hu1 t1 hv1
  go_upto_region 16 with fail
  have Q1 := Lib.hid (P1.out.set (j := 2) (v := .int .u32 (v1 : Int)) (sM2 _ _))
  generalize World.setCell X1 _ _ = yX1 at *
  clear P1 ut fz lt bv1
  obtain ⟨AT, nT, cT, hbT, _, _, hqT⟩ := (Q1.out.tu rfl).box
  have c0 : yX1.cell? ⟨gt, 0, none⟩ = some (.slice AT nT cT) := (bk_cell hbT 0).trans rfl
  have lg0 := bk_lt hbT
  have HSZ : Hid (gt < yX1.heap.size) := Lib.hid lg0
  have C := Lib.hid (tk_bytesX gt w.heap.size nT L (GS.adv L 4 (.ok 0)) yX1 (Q1.out.tu rfl) HLL.out (fun q e => by have := (hqT q e).2.1; have := HLL.out; omega))
  have HRS : Hid (GS.adv L nT (GS.adv L 4 (.ok 0)) = GS.rst L (GS.adv L 4 (.ok 0)) ∧ ∀ q, GS.adv L 4 (.ok 0) = .ok q → GS.got L nT (GS.adv L 4 (.ok 0)) = L.drop q) := Lib.hid (rest_got fun q e => (hqT q e).1 |> fun h => ⟨h, (hqT q e).2.1⟩)
  clear hbT hqT
  go_upto_region 16 with fail
  go_wp2_with fail
  refine C.out.mono ?_
  rintro e X2 ⟨A2, c2, rfl, ho, hu1, t1⟩
  rw [HRS.out.1] at hu1
  have P1 := Lib.hid (Q1.out.call hu1 t1)
  obtain ⟨D, hD⟩ : ∃ D, D = GS.got L nT (GS.adv L 4 (.ok 0)) := ⟨_, rfl⟩
  rw [← hD] at ho ⊢
  have HD := Lib.hid hD
  have ut := (bk_cell P1.out.km 3).trans (mC_3 _)
  have fz := bk_frozen P1.out.km 3
  have lt := bk_lt P1.out.km
  have HOO : Hid (Own (X2.setCell ⟨gm, 3, none⟩ (.slice A2 D.length c2)) yX1.heap.size (.slice A2 D.length c2) D) := Lib.hid (ho.turn fun j hj => bk_setCell_other _ _ _ _ _ (by have := (ho.lt hj).1; have := HSZ.out; have := P1.out.lo; omega))
  clear C Q1 hu1 t1 ho hD c0 lg0
  go_upto_region 55 with fail
  have Q2 := Lib.hid (P1.out.set (j := 3) (v := .slice A2 D.length c2) (sM3 _ _ _ _))
  generalize World.setCell X2 _ _ = yX2 at *
  clear P1 ut fz lt
  have OKF : Hid (∀ c', Own (yX2.setRow (s0 + 1 + 1) c') yX1.heap.size (.slice A2 D.length c2) D) := Lib.hid fun c' => HOO.out.turn fun j hj => bk_setRow_other _ _ _ _ (by have := (HOO.out.lt hj).1; have := HSZ.out; have := Q2.out.lo; omega)
  clear HOO
  have HPG : Hid (PartG L (.ok 0) (mZ 129 k1).pl (Mv.pl { mZ 129 k1 with param := v1, DA := A2, dd := D, dc := c2 }) (GS.rst L (GS.adv L 4 (.ok 0)))) := Lib.hid (by
    unfold PartG
    rw [show (mZ 129 k1).pl.kind = 129 from rfl]
    repeat first | rw [if_pos rfl] | rw [if_neg (by decide)]
    exact ⟨_, _, rfl, num_ok' Hv1.out.1, Hv1.out.2, (fun q e => by show D = _; rw [HD.out]; exact HRS.out.2 q e), rfl⟩)
  have HST : Hid ((GS.rst L (GS.adv L 4 (.ok 0))) = getS 129 L) := Lib.hid (partG_fun HPG.out).1
  have HPL : Hid (∀ q, (GS.rst L (GS.adv L 4 (.ok 0))) = .ok q → (Mv.pl { mZ 129 k1 with param := v1, DA := A2, dd := D, dc := c2 }) = getV 129 k1 L) := Lib.hid (partG_fun HPG.out).2
  clear HPG
  obtain ⟨st, hst⟩ : ∃ st, st = GS.rst L (GS.adv L 4 (.ok 0)) := ⟨_, rfl⟩
  have PF : Hid (RM true w yX2 (s0 + 1 + 1) gm gt L { mZ 129 k1 with param := v1, DA := A2, dd := D, dc := c2 } st) := Lib.hid (by rw [hst]; exact (Q2).out)
  have HM : Hid (∀ c', MvOk (World.setRow yX2 (s0 + 1 + 1) c') (World.setRow yX2 (s0 + 1 + 1) c').heap.size { mZ 129 k1 with param := v1, DA := A2, dd := D, dc := c2 }) := Lib.hid (fun c' => mv_ok (by have h := ((OKF.out c').ov 0).1; exact ⟨h.rd, h.nil, h.le, h.lt⟩) (no_o _ _) (no_s _ _) (no_r _ _) ⟨Hv1.out.2, by show (0 : Nat) < _; decide, by show (0 : Nat) < _; decide, by show (0 : Nat) < _; decide, by show (0 : Nat) < _; decide⟩)
  rw [← hst] at HST HPL
  clear hst Q2
  have c1 := (PF.out.te.err).1
  have lgt := (PF.out.te.err).2
  have km8 := PF.out.km
  have kr8 := PF.out.kr
  have lm8 := bk_lt km8
  have lr8 := bk_lt kr8
  have sz := fun m => mC_size m
  have so := fun m => mC_ones m
  by_cases he : st.err = 0
  · have n1 : (((st.err : Nat) : Int) != 0) = false := by simp [he]
    obtain ⟨q, hq⟩ := GS.err0 he
    have FX := Lib.hid (HRES.out _ _ (PF.out.fin HST.out hq (HPL.out q hq) (HM.out _)))
    clear he hq
    go_wp2_with fail
    refine ret_two (cs := mC _) rfl rfl rfl rfl (by rw [bk_setRow_same, kr8]; rfl) Try.underlying33 rfl (by rw [mC_size]; kernel_rfl) ?_
    exact FX.out
  · have n1 : (((st.err : Nat) : Int) != 0) = true := by simp [he]
    have FX := Lib.hid (fun W' hb => HRES.out _ W' (rm_bad HST.out he hb))
    have hng : gt ≠ s0 + 1 + 1 := by have := PF.out.lo; omega
    have hng' : s0 + 1 + 1 ≠ gt := hng.symm
    have cR : ∀ c, (World.setRow yX2 (s0 + 1 + 1) c).cell? ⟨gt, 1, none⟩ = some (.int .i64 ((st.err : Nat) : Int)) := fun c => (cell_of_bk (bk_setRow_other _ _ _ _ hng) 1).trans c1
    clear he
    go_upto_region 56 with fail
    go_region
    go_wp2_with fail
    refine ret_two (cs := mC (mZ 0 0)) rfl rfl rfl rfl (by rw [bk_drew, bk_setRow_same, kr8]; kernel_rfl) Try.underlying33 rfl (by rw [mC_size]; kernel_rfl) ?_
    exact FX.out _ (below_row PF.out.bl PF.out.lo.1 _).drew
end Go.Proofs.Ytjimmfbjhkoekaa
