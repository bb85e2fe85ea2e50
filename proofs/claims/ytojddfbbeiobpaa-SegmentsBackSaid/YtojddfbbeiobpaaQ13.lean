/- SegmentsBack, walked. -/
import Derived.Test.YtojddfbbeiobpaaQ10
import Derived.Test.YtojddfbbeiobpaaMgB
import Derived.Deep.DeepCutAuto
namespace Go.Proofs.Ytojddfbbeiobpaa
open Go.RowKit
set_option maxRecDepth 100000
theorem segmentsBack_long (src dst : List UInt8) (s : Sg) (A : Option Addr) (n c at' : Nat) (w : World) (h1 : src.length = 16) (h2 : dst.length = 16) (hl : 3000 < n) :
    Calls Try.prog 5 #[av (src ++ dst), .agg (sgc s A n c), .int .u16 (at' : Int)] w fun e w' => e = .returned (.bool true) ∧ Below w.heap.size w w' := by
  have d1 : decide (3000 < (n : Int)) = true := by simp; omega
  have d2 : decide (3000 < n) = true := by simp; omega
  obtain ⟨E, hE⟩ : ∃ E, E = src ++ dst := ⟨_, rfl⟩
  have q0 : sl E 0 16 = src := by rw [hE]; exact sl_src h1
  have q1 : sl E 16 16 = dst := by rw [hE]; exact sl_dst h1 h2
  have qn : E.length = 32 := by rw [hE, List.length_append]; omega
  rw [← hE]
  clear hE
  go_enter Try.func5, Try.ntmps5
  have a0 : Below w.heap.size w ((w.alloc (.cells (List.map B E).toArray 25)).alloc (.cells (sgc s A n c) 30)) := (by (repeat (first | exact Below.refl _ _ | assumption | refine Below.drew ?_ | refine bdrewN ?_ _ | refine Below.alloc ?_ (by first | omega | (simp <;> omega) | (simp only [World.size_alloc] <;> omega)) _ | refine below_setRow ?_ (by first | omega | (simp <;> omega)) _ | refine Below.setCell ?_ (by first | omega | (simp <;> omega)) _)))
  have KD := bk_alloc_at (w.alloc (.cells (List.map B E).toArray 25)) (.cells (sgc s A n c) 30 (0, 0)) (w.heap.size + 1) (by simp)
  have cd7 := (bk_cell KD 7).trans sgc_7
  clear KD
  go_wp2_with fail
  refine (lives17_any _).mono ?_
  rintro e w1 ⟨rfl, b1⟩
  go_wp2_with fail
  go_ret
  exact ⟨rfl, a0.trans (b1.mono a0.size)⟩
set_option maxHeartbeats 2000000 in
theorem segmentsBack_walk (src dst : List UInt8) (s : Sg) (A : Option Addr) (l : List UInt8) (c at' : Nat) (w : World) (h1 : src.length = 16) (h2 : dst.length = 16) (hs : s.Ok) (h : Rd w w.heap.size A l) (hA : A = none → l = [] ∧ c = 0) (hl : l.length ≤ 3000) (hat : at' < 65536) :
    Calls Try.prog 5 #[av (src ++ dst), .agg (sgc s A l.length c), .int .u16 (at' : Int)] w fun e w' => e = .returned (.bool true) ∧ Below w.heap.size w w' := by
  have RI := Lib.hid h; have HA := Lib.hid hA; have R0 := Lib.hid h
  clear h hA
  have d1 : decide (3000 < (l.length : Int)) = false := by simp; omega
  have d2 : decide (3000 < l.length) = false := by simp; omega
  have hah := sahd_or s
  have hdl := sgb_length src dst s l
  obtain ⟨s1, hs1⟩ : ∃ s1 : Sg, s1 = { s with fl := s.fl &&& 63 } := ⟨_, rfl⟩
  have hq0 := zE_back (l := l) h1 h2 hs
  have hq1 := zS_back (l := l) h1 h2 hs
  have hq2 := zD_back (l := l) h1 h2 hs
  have hgd := sgb_good (s := s) (l := l) h1 h2
  rw [← hs1] at hq1
  obtain ⟨D, hD⟩ : ∃ D, D = sgb src dst s l := ⟨_, rfl⟩
  rw [← hD] at hdl hq0 hq1 hq2 hgd
  have hDm : D.length ≤ 3024 := by omega
  have hD20 : 20 ≤ D.length := by omega
  have HD := Lib.hid hD; have EQ := Lib.hid (And.intro hq0 (And.intro hq1 hq2)); have GOOD := Lib.hid hgd
  have HS1 := Lib.hid hs1
  clear hD hdl hq0 hq1 hq2 hgd hs1
  obtain ⟨E, hE⟩ : ∃ E, E = src ++ dst := ⟨_, rfl⟩
  have q0 : sl E 0 16 = src := by rw [hE]; exact sl_src h1
  have q1 : sl E 16 16 = dst := by rw [hE]; exact sl_dst h1 h2
  have qn : E.length = 32 := by rw [hE, List.length_append]; omega
  rw [← hE]
  clear hE
  go_enter Try.func5, Try.ntmps5
  have a0 : Below w.heap.size w ((w.alloc (.cells (List.map B E).toArray 25)).alloc (.cells (sgc s A l.length c) 30)) := (by (repeat (first | exact Below.refl _ _ | assumption | refine Below.drew ?_ | refine bdrewN ?_ _ | refine Below.alloc ?_ (by first | omega | (simp <;> omega) | (simp only [World.size_alloc] <;> omega)) _ | refine below_setRow ?_ (by first | omega | (simp <;> omega)) _ | refine Below.setCell ?_ (by first | omega | (simp <;> omega)) _)))
  have KE : Hid (bk ((w.alloc (.cells (List.map B E).toArray 25)).alloc (.cells (sgc s A l.length c) 30)) w.heap.size = some (.cells (List.map B E).toArray 25 (0, 0))) := Lib.hid (by rw [bk_alloc_past _ _ _ (by simp)]; exact bk_alloc_at _ _ _ rfl)
  have KD : Hid (bk ((w.alloc (.cells (List.map B E).toArray 25)).alloc (.cells (sgc s A l.length c) 30)) (w.heap.size + 1) = some (.cells (sgc s A l.length c) 30 (0, 0))) := Lib.hid (bk_alloc_at _ _ _ (by simp))
  have F := Lib.hid a0
  replace RI := Lib.hid ((RI.out.below a0 (Nat.le_refl _)).mono a0.size)
  clear a0
  have cd7 := (bk_cell KD.out 7).trans sgc_7
  go_wp2_with fail
  clear cd7
  generalize (w.alloc (.cells (List.map B E).toArray 25)).alloc (.cells (sgc s A l.length c) 30) = w0 at *
  have n0 := bk_lt KD.out
  refine (sput_any src dst s hs A l c w0 h1 h2 RI.out HA.out (by omega)).mono ?_
  rintro e w1 ⟨v, rfl, ho, b1⟩
  rw [← HD.out] at ho
  obtain ⟨A1, c1, rfl, _⟩ := Rd.of_own ho rfl
  obtain ⟨g, cur, rfl, hg, hgs, hcu, hlc, htk⟩ := own_parts ho (by omega)
  have KG := Lib.hid hg
  have HTK := Lib.hid htk
  replace KE := Lib.hid (bk_keep b1 (bk_lt KE.out) KE.out)
  replace KD := Lib.hid (bk_keep b1 (bk_lt KD.out) KD.out)
  replace F := Lib.hid (F.out.trans (b1.mono F.out.size))
  replace RI := Lib.hid ((RI.out.below b1 (Nat.le_refl _)).mono b1.size)
  have s1' := b1.size
  clear b1 ho hg htk
  have RB : Rd w1 w1.heap.size (some ⟨g, 0, none⟩) D := Rd.of_take KG.out HTK.out (bk_lt KG.out)
  have C := sget_any src dst (some ⟨g, 0, none⟩) D c1 w1 h1 h2 RB (fun h => by cases h) (by omega)
  have HC := Lib.hid C
  clear C RB
  have vKE := KE.out; have wKE := bk_lt vKE
  have lE := bk_lt KE
  go_wp2_with fail
  refine HC.out.mono ?_
  rintro e w2 ⟨A2, rfl, hG2, b2⟩
  rw [EQ.out.1, EQ.out.2.1, EQ.out.2.2] at *
  clear vKE wKE
  have GD := Lib.hid hG2
  replace KE := Lib.hid (bk_keep b2 (bk_lt KE.out) KE.out)
  replace KD := Lib.hid (bk_keep b2 (bk_lt KD.out) KD.out)
  replace KG := Lib.hid (bk_keep b2 (bk_lt KG.out) KG.out)
  replace F := Lib.hid (F.out.trans (b2.mono F.out.size))
  replace RI := Lib.hid ((RI.out.below b2 (Nat.le_refl _)).mono b2.size)
  have s2 := b2.size
  clear hG2 b2 HC lE
  have cd4 := (bk_cell KD.out 4).trans sgc_4
  have fd4 := bk_frozen KD.out 4
  have ld4 := bk_lt KD.out
  obtain ⟨y, hy⟩ : ∃ y, y = s.fl &&& 63 := ⟨_, rfl⟩
  have eFl : bits BinOp.and IntKind.u8 (s.fl.toNat : Int) 63 = (y.toNat : Int) := by rw [hy]; exact bits_and63 s.fl
  have HY := Lib.hid hy
  clear hy
  go_upto_region 6 with fail
  have ne1 : ¬ w.heap.size = w.heap.size + 1 := by omega
  have hgn1 : ¬ g = w.heap.size + 1 := by omega
  have KD3 : Hid (bk (w2.setCell ⟨w.heap.size + 1, 4, none⟩ (B y)) (w.heap.size + 1) = some (.cells (sgc s1 A l.length c) 30 (0, 0))) := Lib.hid (by rw [bk_setCell_same, KD.out, HS1.out, ← HY.out]; rfl)
  have KE3 := Lib.hid ((bk_setCell_other w2 (w.heap.size + 1) 4 w.heap.size (B y) ne1).trans KE.out)
  have KG3 := Lib.hid ((bk_setCell_other w2 (w.heap.size + 1) 4 g (B y) hgn1).trans KG.out)
  have F3 := Lib.hid (F.out.setCell (p := ⟨w.heap.size + 1, 4, none⟩) (Nat.le_succ _) (B y))
  have RG3 : Hid (Rd (w2.setCell ⟨w.heap.size + 1, 4, none⟩ (B y)) (w2.setCell ⟨w.heap.size + 1, 4, none⟩ (B y)).heap.size A2 l) := Lib.hid (fun h0 => by
    obtain ⟨b, o, e, hlt, hj⟩ := GD.out.rd h0
    have hlo := GD.out.lo b o ⟨o, e, by omega, by omega⟩
    refine ⟨b, o, e, by simp [World.setCell]; exact hlt, fun j hj' => ?_⟩
    rw [← hj j hj']
    exact cell_of_bk (bk_setCell_other _ _ _ _ _ (by omega)) _)
  have RI3 := Lib.hid ((R0.out.below F3.out (Nat.le_refl _)).mono F3.out.size)
  clear cd4 fd4 ld4 KD KE KG F GD RI eFl
  have h32 : w2.heap.size = (w2.setCell ⟨w.heap.size + 1, 4, none⟩ (B y)).heap.size := by simp [World.setCell]
  have H32 := Lib.hid h32
  clear h32
  generalize w2.setCell ⟨w.heap.size + 1, 4, none⟩ (B y) = w3 at *
  have a4 := (Below.refl w3.heap.size w3).alloc (Nat.le_refl _) (.cells (sgc s1 A2 l.length l.length) 30 (0, 0))
  have KX4 := Lib.hid (bk_alloc_at w3 (.cells (sgc s1 A2 l.length l.length) 30 (0, 0)) w2.heap.size H32.out)
  have KE4 := Lib.hid (bk_keep a4 (bk_lt KE3.out) KE3.out); have KG4 := Lib.hid (bk_keep a4 (bk_lt KG3.out) KG3.out); have KD4 := Lib.hid (bk_keep a4 (bk_lt KD3.out) KD3.out)
  have F4 := Lib.hid (F3.out.trans (a4.mono F3.out.size))
  have RG4 := Lib.hid ((RG3.out.below a4 (Nat.le_refl _)).mono a4.size); have RI4 := Lib.hid ((RI3.out.below a4 (Nat.le_refl _)).mono a4.size)
  clear a4 KE3 KG3 KD3 F3 RG3 RI3
  generalize w3.alloc (.cells (sgc s1 A2 l.length l.length) 30 (0, 0)) = w4 at *
  have iD20 : decide ((D.length : Int) < 20) = false := by simp; omega
  have kd := KD4.out
  have kx := KX4.out
  have ld := bk_lt kd
  have lx := bk_lt kx
  have CS := Lib.hid (sameSegment_any s1 A A2 l c l.length w4 RI4.out RG4.out (by omega))
  go_wp2_with fail
  refine CS.out.mono ?_
  rintro e w5 ⟨rfl, b5⟩
  clear CS kd kx ld lx RG4 RI4 KX4 KD4
  have KE5 := Lib.hid (bk_keep b5 (bk_lt KE4.out) KE4.out); have KG5 := Lib.hid (bk_keep b5 (bk_lt KG4.out) KG4.out)
  have F5 := Lib.hid (F4.out.trans (b5.mono F4.out.size))
  clear b5 KE4 KG4 F4
  have ke := KE5.out
  have le := bk_lt ke
  have CG := good_any src dst 6 (some ⟨g, 0, none⟩) D c1 w5 h1 h2 (Rd.of_take KG5.out HTK.out (bk_lt KG5.out)) (by omega)
  rw [GOOD.out, show decide ((0 : Nat) = 0) = true from rfl] at CG
  have HCG := Lib.hid CG
  clear CG
  go_wp2_with fail
  refine HCG.out.mono ?_
  rintro e w6 ⟨rfl, b6⟩
  have KE := Lib.hid (bk_keep b6 le ke); have KG := Lib.hid (bk_keep b6 (bk_lt KG5.out) KG5.out)
  have F := Lib.hid (F5.out.trans (b6.mono F5.out.size))
  clear b6 KE5 KG5 F5 ke le HCG
  obtain ⟨q, hq⟩ : ∃ q, q = at' % (8 * D.length) := ⟨_, rfl⟩
  have hql : q < 8 * D.length := by rw [hq]; exact Nat.mod_lt _ (by omega)
  have e8 : IntKind.i64.wrap (8 * (D.length : Int)) = 8 * (D.length : Int) := by rw [IntKind.wrap_i64]; omega
  have mq1 : (at' : Int).tmod (8 * (D.length : Int)) = (q : Int) := by rw [hq, Int.tmod_eq_emod_of_nonneg (by omega)]; simp
  have mq2 : (at' : Int) % (8 * (D.length : Int)) = (q : Int) := by rw [hq]; simp
  have nz8 : ((8 * (D.length : Int)) == 0) = false := by rw [beq_eq_false_iff_ne]; omega
  obtain ⟨i, hi⟩ : ∃ i, i = q / 8 := ⟨_, rfl⟩
  obtain ⟨r, hr⟩ : ∃ r, r = q % 8 := ⟨_, rfl⟩
  have hil : i < D.length := by omega
  have hr8 : r < 8 := by omega
  have mi1 : (q : Int).tdiv 8 = (i : Int) := by rw [hi, Int.tdiv_eq_ediv_of_nonneg (by omega)]; simp
  have mi2 : (q : Int) / 8 = (i : Int) := by rw [hi]; simp
  have mr1 : (q : Int).tmod 8 = (r : Int) := by rw [hr, Int.tmod_eq_emod_of_nonneg (by omega)]; simp
  have mr2 : (q : Int) % 8 = (r : Int) := by rw [hr]; simp
  have HQR := Lib.hid (show q = 8 * i + r by omega)
  clear hq hi hr
  obtain ⟨x, hx⟩ : ∃ x, x = D[i] := ⟨_, rfl⟩
  have HXI := Lib.hid hx
  have ui : w6.cell? ⟨g, i, none⟩ = some (B x) := own_cell KG.out HTK.out (by rw [List.getElem?_eq_getElem hil, hx])
  have hil' : (i : Int) < (D.length : Int) := by omega
  have lgc := bk_lt KG.out
  clear hx
  obtain ⟨y, hy⟩ : ∃ y, y = flipB x r := ⟨_, rfl⟩
  have hbx : bits BinOp.xor IntKind.u8 (x.toNat : Int) (2 ^ r % 256) = (y.toNat : Int) := by rw [hy]; exact bits_flip x r hr8
  have hby : bits BinOp.xor IntKind.u8 (y.toNat : Int) (2 ^ r % 256) = (x.toNat : Int) := by rw [bits_flip y r hr8, hy, flipB_flipB]
  have hyx : y ≠ x := by rw [hy]; exact flipB_ne x r hr8
  obtain ⟨D', hD'⟩ : ∃ D', D' = D.set i y := ⟨_, rfl⟩
  have hDl' : D'.length = D.length := by rw [hD', List.length_set]
  have hge2 : zE src dst D' = 6 := by
    rw [hD']
    exact zE_turn h1 h2 hD20 GOOD.out i hil y (by rw [← HXI.out]; exact hyx)
  have hDD : D'.set i x = D := by rw [hD', List.set_set, HXI.out, List.set_getElem_self]
  have HDl' := Lib.hid hDl'; have HGE2 := Lib.hid hge2; have HDD := Lib.hid hDD; have HD' := Lib.hid hD'
  clear hy hyx hD' hDl' hge2 hDD
  have hneg : ¬ w.heap.size = g := by omega
  go_upto_region 9 with fail
  refine wp_region_later_tail (w6.heap.size) 13 (by kernel_rfl) (by kernel_rfl) ?_
  simp only [List.take_succ_cons, List.take_zero, List.drop_succ_cons, List.drop_zero]
  repeat (go_big_quiet_step ((fail)))
  (first | refine wpQuiet_nil ?_ | (go_big_quiet_want; (try go_big_quiet_op); trace_state; fail))
  intro w7 hw'
  have q7 := later_elim hw'
  clear hw'
  replace F := Lib.hid (F.out.trans (q7.mono F.out.size))
  replace KE := Lib.hid (bk_keep q7 (bk_lt KE.out) KE.out); replace KG := Lib.hid (bk_keep q7 lgc KG.out)
  have ui5 : w7.cell? ⟨g, i, none⟩ = some (B x) := (q7.cell (p := ⟨g, i, none⟩) lgc).trans ui
  have fz5 := bk_frozen KG.out i
  have hwg : w.heap.size + 1 < g := by omega
  clear q7 ui
  go_upto_region 10 with fail
  have F6 : Hid (Below w.heap.size w (w7.setCell ⟨g, i, none⟩ (B y))) := Lib.hid (F.out.setCell (p := ⟨g, i, none⟩) (show w.heap.size ≤ g by omega) _)
  have KG6 : Hid (bk (w7.setCell ⟨g, i, none⟩ (B y)) g = some (.cells (cur.setIfInBounds i (B y)) 5 (0, 0))) := Lib.hid (by rw [bk_setCell_same, KG.out]; rfl)
  have KE6 := Lib.hid ((bk_setCell_other w7 g i w.heap.size (B y) hneg).trans KE.out)
  have HTK6 := Lib.hid (take_put (i := i) HTK.out y)
  rw [← HD'.out] at HTK6
  clear KE KG F ui5 fz5
  generalize w7.setCell ⟨g, i, none⟩ (B y) = w8 at *
  have RD6 : Rd w8 w8.heap.size (some ⟨g, 0, none⟩) D' := Rd.of_take KG6.out HTK6.out (bk_lt KG6.out)
  have C := sget_any src dst (some ⟨g, 0, none⟩) D' c1 w8 h1 h2 RD6 (fun h => by cases h) (by rw [HDl'.out]; omega)
  rw [HDl'.out] at C
  have HC := Lib.hid C
  have ke := KE6.out
  have le := bk_lt ke
  clear C RD6
  go_wp2_with fail
  refine HC.out.mono ?_
  rintro e w9 ⟨A7, rfl, _, b7⟩
  have lg7 := bk_lt KG6.out
  rw [HGE2.out]
  replace KG6 := Lib.hid (bk_keep b7 (bk_lt KG6.out) KG6.out)
  replace KE6 := Lib.hid (bk_keep b7 (bk_lt KE6.out) KE6.out)
  replace F6 := Lib.hid (F6.out.trans (b7.mono F6.out.size))
  have s7 := b7.size
  clear b7 lg7 HC ke le
  generalize zS src dst D' = pf
  generalize zD src dst D' = pd
  go_upto_region 11 with fail
  have a10 := (Below.refl w9.heap.size w9).alloc (Nat.le_refl _) (.cells (sgc pf A7 pd.length pd.length) 30 (0, 0))
  have lg7 := bk_lt KG6.out
  replace KG6 := Lib.hid (bk_keep a10 (bk_lt KG6.out) KG6.out)
  replace KE6 := Lib.hid (bk_keep a10 (bk_lt KE6.out) KE6.out)
  replace F6 := Lib.hid (F6.out.trans (a10.mono F6.out.size))
  clear a10 lg7
  generalize w9.alloc (.cells (sgc pf A7 pd.length pd.length) 30 (0, 0)) = wc at *
  have lgc := bk_lt KG6.out
  have hD'i : D'[i]? = some y := by rw [HD'.out, List.getElem?_set_self hil]
  have ui : wc.cell? ⟨g, i, none⟩ = some (B y) := own_cell KG6.out HTK6.out hD'i
  clear hD'i
  refine wp_region_later_tail (wc.heap.size) 13 (by kernel_rfl) (by kernel_rfl) ?_
  simp only [List.take_succ_cons, List.take_zero, List.drop_succ_cons, List.drop_zero]
  repeat (go_big_quiet_step ((fail)))
  (first | refine wpQuiet_nil ?_ | (go_big_quiet_want; (try go_big_quiet_op); trace_state; fail))
  intro w11 hw'
  have q9 := later_elim hw'
  clear hw'
  replace F6 := Lib.hid (F6.out.trans (q9.mono F6.out.size))
  replace KE6 := Lib.hid (bk_keep q9 (bk_lt KE6.out) KE6.out); replace KG6 := Lib.hid (bk_keep q9 lgc KG6.out)
  have ui5 : w11.cell? ⟨g, i, none⟩ = some (B y) := (q9.cell (p := ⟨g, i, none⟩) lgc).trans ui
  have fz5 := bk_frozen KG6.out i
  clear q9 ui lgc
  go_upto_region 12 with fail
  have F12 : Hid (Below w.heap.size w (w11.setCell ⟨g, i, none⟩ (B x))) := Lib.hid (F6.out.setCell (p := ⟨g, i, none⟩) (show w.heap.size ≤ g by omega) _)
  have KG12 : Hid (bk (w11.setCell ⟨g, i, none⟩ (B x)) g = some (.cells ((cur.setIfInBounds i (B y)).setIfInBounds i (B x)) 5 (0, 0))) := Lib.hid (by rw [bk_setCell_same, KG6.out]; rfl)
  have KE12 := Lib.hid ((bk_setCell_other w11 g i w.heap.size (B x) hneg).trans KE6.out)
  have HTK12 := Lib.hid (take_put (i := i) HTK6.out x)
  rw [HDD.out] at HTK12
  clear KE6 KG6 F6 ui5 fz5
  generalize w11.setCell ⟨g, i, none⟩ (B x) = w12 at *
  -- cut ahead of its twentieth byte
  obtain ⟨k, hk⟩ : ∃ k, k = q % 20 := ⟨_, rfl⟩
  have hk20 : k < 20 := by omega
  have mk1 : (q : Int).tmod 20 = (k : Int) := by rw [hk, Int.tmod_eq_emod_of_nonneg (by omega)]; simp
  have mk2 : (q : Int) % 20 = (k : Int) := by rw [hk]; simp
  have hkc : k ≤ c1 := by omega
  have ekc : decide (k ≤ c1) = true := by simp; omega
  clear hk
  have ke := KE12.out
  have le := bk_lt ke
  obtain ⟨M12, hM12⟩ : ∃ M : MadeW w12.heap.size, M = MadeW.row _ (fun b => .pointer (some ⟨b, 0, none⟩)) (sgc Sg.zero none 0 0) 30 := ⟨_, rfl⟩
  have H12 := Lib.hid hM12
  clear hM12
  refine wp_region_e (w12.heap.size) ([.val w12.heap.size 8 (.tuple #[zsg, .int .i64 5]), .row 12 H12, .store w12.heap.size 13 30 [14, 122]]) (fun k => (([(13, [12])] : List (Nat × List Nat)).lookup k).getD []) (Fs.nil) (by first | omega | (simp <;> omega)) (by kernel_rfl) (by kernel_rfl) (by kernel_rfl) (by kernel_rfl) EnvW.Ini.nil ?_
  refine walkW_segn 8 [] facts0 noneHx (by kernel_rfl) (by kernel_rfl) ?_
  simp only [List.take_succ_cons, List.take_zero, List.drop_succ_cons, List.drop_zero, Nat.reduceAdd]
  repeat (go_big_quiet_step (fail))
  (first | refine wpQuiet_nil ?_ | (go_big_quiet_want; (try go_big_quiet_op); trace_state; fail))
  refine walkW_val (.tuple #[zsg, .int .i64 5]) (fun _ => .val (.tuple #[zsg, .int .i64 5])) [] ([]) facts0 (by kernel_rfl) (by kernel_rfl) (by kernel_rfl) rfl rfl (fun w' hb' hg' => ?_) ?_
  · unfold madeAtW
    go_simp
    ((refine (sget_short src dst _ k c1 w' h1 h2 hk20).mono ?_; rintro e w2 ⟨rfl, hb⟩; exact valW hb hb'.size))
  simp only [Act.put, List.setIfInBounds_toArray, List.set_cons_succ, List.set_cons_zero, Nat.reduceAdd]
  refine walkW_segn 3 [] facts0 noneHx (by kernel_rfl) (by kernel_rfl) ?_
  simp only [List.take_succ_cons, List.take_zero, List.drop_succ_cons, List.drop_zero, Nat.reduceAdd]
  repeat (go_big_quiet_step (fail))
  (first | refine wpQuiet_nil ?_ | (go_big_quiet_want; (try go_big_quiet_op); trace_state; fail))
  refine walkW_mk (fun _ => M12) [] M12 ([]) facts0 (by kernel_rfl) (by kernel_rfl) (by kernel_rfl) rfl rfl (fun w' hb' hg' => ?_) (fun v12 h12 => ?_)
  · unfold madeAtW
    go_simp
    ((exact (row_mk (b := w'.heap.size) H12 ((Below.refl _ _).alloc (Nat.le_refl _) _) hb'.size hb'.size (bk_alloc_at _ _ _ rfl) :)))
  obtain ⟨b12, m12, rfl⟩ := row_T H12 h12
  simp only [Act.put, List.setIfInBounds_toArray, List.set_cons_succ, List.set_cons_zero, Nat.reduceAdd]
  refine walkW_mk (MadeW.storeAt _ 30) [.pointer (some ⟨b12, 0, none⟩), .agg (sgc Sg.zero none 0 0)] (MadeW.store _ b12 (sgc Sg.zero none 0 0) 30) ([(12, M12.R (.pointer (some ⟨b12, 0, none⟩)))]) (facts1 fun w h => h.1 rfl) (by kernel_rfl) (by kernel_rfl) (by kernel_rfl) rfl rfl (fun w' hb' hg' => ?_) (fun v hT => ?_)
  · exact storeRow_mk (n := 8) (by kernel_rfl) (Lib.hid rfl) (row_R H12 ptr_inj (hg' _ (.head _))) m12 rfl rfl sgc_size sgc_size sgc_ones
  clear hT
  simp only [Act.put]
  refine walkW_segn 1 [] facts0 noneHx (by kernel_rfl) (by kernel_rfl) ?_
  simp only [List.take_succ_cons, List.take_zero, List.drop_succ_cons, List.drop_zero, Nat.reduceAdd]
  repeat (go_big_quiet_step (fail))
  (first | refine wpQuiet_nil ?_ | (go_big_quiet_want; (try go_big_quiet_op); trace_state; fail))
  refine walkW_nil ?_
  intro w13 b13 hf
  replace F12 := Lib.hid (F12.out.trans (b13.mono F12.out.size))
  have KG13 := Lib.hid (bk_keep b13 (bk_lt KG12.out) KG12.out); have KE13 := Lib.hid (bk_keep b13 le ke)
  clear b13 KG12 KE12 ke le hf H12 h12 M12
  obtain ⟨j, hj⟩ : ∃ j, j = q % 16 := ⟨_, rfl⟩
  have hj16 : j < 16 := by omega
  have mj1 : (q : Int).tmod 16 = (j : Int) := by rw [hj, Int.tmod_eq_emod_of_nonneg (by omega)]; simp
  have mj2 : (q : Int) % 16 = (j : Int) := by rw [hj]; simp
  have hj16' : (j : Int) < 16 := by omega
  clear hj
  obtain ⟨z, hz⟩ : ∃ z, z = dst[j] := ⟨_, rfl⟩
  obtain ⟨z', hz'⟩ : ∃ z', z' = flipB z 0 := ⟨_, rfl⟩
  have hbs : bits BinOp.xor IntKind.u8 (z.toNat : Int) 1 = (z'.toNat : Int) := by rw [hz']; exact bits_one z
  have hEj : E[16 + j]? = some z := by
    have e := congrArg (fun l => l[j]?) q1
    simp only [sl, List.extract_eq_take_drop] at e
    rw [List.getElem?_take_of_lt (by omega), List.getElem?_drop, List.getElem?_eq_getElem (show j < dst.length by omega)] at e
    rw [e, hz]
  have hss : z' ≠ dst[j] := by rw [hz', ← hz]; exact flipB_ne z 0 (by omega)
  have us : w13.cell? ⟨w.heap.size, 16 + j, none⟩ = some (B z) := by rw [bk_cell KE13.out]; simp [hEj]
  have fzs := bk_frozen KE13.out (16 + j)
  have hgn : ¬ g = w.heap.size := by omega
  have HSS := Lib.hid hss
  clear hz hz' hEj hss
  go_upto_region 14 with fail
  have F14 : Hid (Below w.heap.size w (w13.setCell ⟨w.heap.size, 16 + j, none⟩ (B z'))) := Lib.hid (F12.out.setCell (p := ⟨w.heap.size, 16 + j, none⟩) (Nat.le_refl _) _)
  have KG14 : Hid (bk (w13.setCell ⟨w.heap.size, 16 + j, none⟩ (B z')) g = some (.cells ((cur.setIfInBounds i (B y)).setIfInBounds i (B x)) 5 (0, 0))) := Lib.hid (by rw [bk_setCell_other _ _ _ _ _ hgn, KG13.out])
  obtain ⟨E', hE'⟩ : ∃ E', E' = E.set (16 + j) z' := ⟨_, rfl⟩
  have KE14 : Hid (bk (w13.setCell ⟨w.heap.size, 16 + j, none⟩ (B z')) w.heap.size = some (.cells (List.map B E').toArray 25 (0, 0))) := Lib.hid (by rw [bk_setCell_same, KE13.out, hE', List.map_set]; simp [putObj])
  have q0' : sl E' 0 16 = src := by rw [hE', ← q0]; simp only [sl, List.extract_eq_take_drop, List.drop_zero]; rw [List.take_set_of_le (by omega)]
  have q1' : sl E' 16 16 = dst.set j z' := by
    rw [hE', ← q1]; simp only [sl, List.extract_eq_take_drop]
    rw [List.drop_set, if_neg (by omega), List.take_set]
    congr 1
    omega
  have qn' : E'.length = 32 := by rw [hE', List.length_set]; exact qn
  clear hE' us fzs KE13 KG13 F12
  generalize w13.setCell ⟨w.heap.size, 16 + j, none⟩ (B z') = w14 at *
  have ke := KE14.out
  have le := bk_lt ke
  obtain ⟨sr, hsr⟩ : ∃ sr, sr = dst.set j z' := ⟨_, rfl⟩
  rw [← hsr] at q1'
  have hsrl : sr.length = 16 := by rw [hsr, List.length_set]; exact h2
  have hE6 : zE src sr D = 6 := by rw [hsr]; exact zE_ends h1 h2 hD20 GOOD.out j hj16 z' HSS.out
  have HE6 := Lib.hid hE6
  have RD10 : Rd w14 w14.heap.size (some ⟨g, 0, none⟩) D := Rd.of_take KG14.out HTK12.out (bk_lt KG14.out)
  clear hsr hE6
  have C := sget_any src sr (some ⟨g, 0, none⟩) D c1 w14 h1 hsrl RD10 (fun h => by cases h) (by omega)
  have HC := Lib.hid C
  clear C RD10
  go_wp2_with fail
  refine HC.out.mono ?_
  rintro e w15 ⟨A11, rfl, _, b11⟩
  replace F14 := Lib.hid (F14.out.trans (b11.mono F14.out.size))
  rw [HE6.out]
  clear b11 HC ke le KE14 KG14
  go_wp2_with fail
  have b12 := (Below.refl w15.heap.size w15).alloc (Nat.le_refl _) (.cells (sgc (zS src sr D) A11 (zD src sr D).length (zD src sr D).length) 30 (0, 0))
  refine (lives17_any _).mono ?_
  rintro e w16 ⟨rfl, b13⟩
  replace F14 := Lib.hid (F14.out.trans ((b12.trans (b13.mono b12.size)).mono F14.out.size))
  clear b12 b13
  go_wp2_with fail
  go_ret
  exact ⟨rfl, F14.out⟩
end Go.Proofs.Ytojddfbbeiobpaa
