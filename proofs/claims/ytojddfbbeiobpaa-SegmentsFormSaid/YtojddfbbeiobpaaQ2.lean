/- Segments put: the document's. -/
import Derived.Test.YtojddfbbeiobpaaQ1
import Derived.Test.YtojddfbbeiobpaaS6R
namespace Go.Proofs.Ytojddfbbeiobpaa
open Go.RowKit
set_option maxRecDepth 100000
theorem rput_row (A : Option Addr) (l : List UInt8) (c n : Nat) (m : Int) (k : Nat) (D : List UInt8) (w : World) (h : Rd w w.heap.size A l) (hA : A = none → l = [] ∧ c = 0) (hl : l.length < 2 ^ 45) (hn : n < 2 ^ 64) (hm : -2 ^ 63 ≤ m ∧ m < 2 ^ 63) (hk : wid m = k) (hD : D = l ++ nb k n) :
    Calls Try.prog 26 #[.slice A l.length c, .int .u64 n, .int .i64 m] w fun e w' => ∃ v, e = .returned v ∧ w'.ownsRow w.heap.size 5 1 v D.length (D.map B) ∧ Below w.heap.size w w' := by
  refine (rput_own A l c n m w h hA hl hn hm).mono ?_
  rintro e w' ⟨v, rfl, ho, hb⟩
  rw [hk] at ho
  refine ⟨v, rfl, ?_, hb⟩
  rw [hD, List.length_append, nb_length]
  exact ho
theorem and63_mod (x : UInt8) : (x.toNat : Int) % 64 = ((x &&& 63).toNat : Int) := by
  have : ∀ a : Fin 256, (a.1 : Int) % 64 = ((UInt8.ofNat a.1 &&& 63).toNat : Int) := by decide +kernel
  have h := this ⟨x.toNat, x.toNat_lt⟩
  simpa using h
set_option maxHeartbeats 1000000 in
theorem rsput_any (src dst : List UInt8) (s : Sg) (hs : s.Ok) (A : Option Addr) (l : List UInt8) (c : Nat) (w : World) (h1 : src.length = 16) (h2 : dst.length = 16) (h : Rd w w.heap.size A l) (hA : A = none → l = [] ∧ c = 0) (hl : sahd s + l.length ≤ 65535) :
    Calls Try.prog 11 #[av src, av dst, .agg (sgc s A l.length c)] w fun e w' => ∃ v, e = .returned (.tuple #[v, .int .i64 0]) ∧ w'.ownsRow w.heap.size 5 1 v (sgb src dst s l).length ((sgb src dst s l).map B) ∧ Below w.heap.size w w' := by
  have RI := Lib.hid h; have HA := Lib.hid hA
  clear h hA
  go_enter Try.func11, Try.ntmps11
  have a0 : Below w.heap.size w (((w.alloc (.cells (src.map B).toArray 23)).alloc (.cells (dst.map B).toArray 23)).alloc (.cells (sgc s A l.length c) 30)) := (by (repeat (first | exact Below.refl _ _ | assumption | refine Below.drew ?_ | refine bdrewN ?_ _ | refine Below.alloc ?_ (by first | omega | (simp <;> omega) | (simp only [World.size_alloc] <;> omega)) _ | refine below_setRow ?_ (by first | omega | (simp <;> omega)) _ | refine Below.setCell ?_ (by first | omega | (simp <;> omega)) _)))
  have KS : Hid (bk (((w.alloc (.cells (src.map B).toArray 23)).alloc (.cells (dst.map B).toArray 23)).alloc (.cells (sgc s A l.length c) 30)) w.heap.size = some (.cells (src.map B).toArray 23 (0, 0))) := Lib.hid (by rw [bk_alloc_past _ _ _ (by simp <;> omega), bk_alloc_past _ _ _ (by simp)]; exact bk_alloc_at _ _ _ rfl)
  have KT : Hid (bk (((w.alloc (.cells (src.map B).toArray 23)).alloc (.cells (dst.map B).toArray 23)).alloc (.cells (sgc s A l.length c) 30)) (w.heap.size + 1) = some (.cells (dst.map B).toArray 23 (0, 0))) := Lib.hid (by rw [bk_alloc_past _ _ _ (by simp)]; exact bk_alloc_at _ _ _ (by simp))
  have KG : Hid (bk (((w.alloc (.cells (src.map B).toArray 23)).alloc (.cells (dst.map B).toArray 23)).alloc (.cells (sgc s A l.length c) 30)) (w.heap.size + 1 + 1) = some (.cells (sgc s A l.length c) 30 (0, 0))) := Lib.hid (bk_alloc_at _ _ _ (by simp))
  have F := Lib.hid a0
  have P0 := Lib.hid (RI.out.below a0 (Nat.le_refl _))
  clear a0 RI
  obtain ⟨ah, hah⟩ : ∃ ah, ah = sahd s := ⟨_, rfl⟩
  have h204 : ah = 20 ∨ ah = 24 := by rw [hah]; unfold sahd; split <;> simp
  rw [← hah] at hl
  have HAH := Lib.hid hah
  clear hah
  have c6 := (bk_cell KG.out 6).trans sgc_6
  have hms := hs.ms
  go_upto_if 13 with fail
  generalize ((w.alloc (.cells (src.map B).toArray 23)).alloc (.cells (dst.map B).toArray 23)).alloc (.cells (sgc s A l.length c) 30) = w0 at *
  go_cut [8] (fun s8 wx => s8 = .int .i64 (ah : Int) ∧ wx = w0)
  case first =>
    by_cases hm : s.ms = 0
    · have y1 : ((s.ms : Int) != 0) = false := by simp; omega
      have y2 : ((s.ms : Int) == 0) = true := by simp; omega
      have e20 : ah = 20 := by rw [HAH.out]; unfold sahd; rw [if_pos hm]
      have E20 := Lib.hid e20
      clear e20 h204
      go_wp2_with fail
      go_meet
      exact ⟨by rw [E20.out]; rfl, rfl⟩
    · have y1 : ((s.ms : Int) != 0) = true := by simp; omega
      have y2 : ((s.ms : Int) == 0) = false := by simp; omega
      have e20 : ah = 24 := by rw [HAH.out]; unfold sahd; rw [if_neg hm]
      have E20 := Lib.hid e20
      clear e20 h204
      go_wp2_with fail
      go_meet
      exact ⟨by rw [E20.out]; rfl, rfl⟩
  case rest =>
    obtain ⟨rfl, hwc⟩ := hcut
    obtain rfl : w0 = wc := hwc.symm
    have c7 := (bk_cell KG.out 7).trans sgc_7
    have c0 := (bk_cell KG.out 0).trans sgc_0
    have w2 : IntKind.i64.wrap ((ah : Int) + (l.length : Int)) = (ah : Int) + (l.length : Int) := by rw [IntKind.wrap_i64]; omega
    have d2 : decide (65535 < (ah : Int) + (l.length : Int)) = false := by simp; omega
    have bf := hs.f; have bt := hs.t; have bq := hs.sq; have bk' := hs.ak; have bw := hs.wi
    obtain ⟨D1, hD1⟩ : ∃ D1, D1 = [] ++ nb 2 s.f := ⟨_, rfl⟩
    obtain ⟨D2, hD2⟩ : ∃ D2, D2 = D1 ++ nb 2 s.t := ⟨_, rfl⟩
    obtain ⟨D3, hD3⟩ : ∃ D3, D3 = D2 ++ nb 4 s.sq := ⟨_, rfl⟩
    obtain ⟨D4, hD4⟩ : ∃ D4, D4 = D3 ++ nb 4 s.ak := ⟨_, rfl⟩
    have l1 : D1.length = 2 := by rw [hD1]; simp [nb_length]
    have l2 : D2.length = 4 := by rw [hD2, List.length_append, l1, nb_length]
    have l3 : D3.length = 8 := by rw [hD3, List.length_append, l2, nb_length]
    have l4 : D4.length = 12 := by rw [hD4, List.length_append, l3, nb_length]
    have HD1 := Lib.hid hD1; have HD2 := Lib.hid hD2; have HD3 := Lib.hid hD3; have HD4 := Lib.hid hD4
    have LD1 := Lib.hid l1; have LD2 := Lib.hid l2; have LD3 := Lib.hid l3; have LD4 := Lib.hid l4
    clear hD1 hD2 hD3 hD4 l1 l2 l3 l4 c6
    have nwc := bk_lt KG.out
    go_wp2_with fail
    refine (rput_row none [] 0 s.f 2 2 D1 w0 Rd.nil (fun _ => ⟨rfl, rfl⟩) (by simp) (by omega) (by decide) rfl (HD1).out).mono ?_
    rintro e w1 ⟨v0, rfl, ho, hb⟩
    have HO1 := Lib.hid (World.ownsRow.mono ho (show w0.heap.size ≤ (w0).heap.size by omega))
    obtain ⟨A1, c1, rfl, hR0, hN0, _⟩ := Rd.of_own ho rfl
    have R1 := Lib.hid hR0; have N1 := Lib.hid hN0
    replace KS := Lib.hid (bk_keep hb (bk_lt KS.out) KS.out)
    replace KT := Lib.hid (bk_keep hb (bk_lt KT.out) KT.out)
    replace KG := Lib.hid (bk_keep hb (bk_lt KG.out) KG.out)
    replace F := Lib.hid (F.out.trans (hb.mono F.out.size))
    replace P0 := Lib.hid (P0.out.below hb (by omega))
    have nn1 := hb.size
    clear ho hR0 hN0 hb c0 c7
    have cx1 := (bk_cell KG.out 1).trans sgc_1
    go_wp2_with fail
    refine (rput_row A1 D1 c1 s.t 2 2 D2 w1 R1.out N1.out (by rw [LD1.out]; omega) (by omega) (by decide) rfl (HD2).out).mono ?_
    rintro e w2 ⟨v0, rfl, ho, hb⟩
    have HO2 := Lib.hid (World.ownsRow.mono ho (show w0.heap.size ≤ (w1).heap.size by omega))
    obtain ⟨A2, c2, rfl, hR0, hN0, _⟩ := Rd.of_own ho rfl
    have R2 := Lib.hid hR0; have N2 := Lib.hid hN0
    replace KS := Lib.hid (bk_keep hb (bk_lt KS.out) KS.out)
    replace KT := Lib.hid (bk_keep hb (bk_lt KT.out) KT.out)
    replace KG := Lib.hid (bk_keep hb (bk_lt KG.out) KG.out)
    replace F := Lib.hid (F.out.trans (hb.mono F.out.size))
    replace P0 := Lib.hid (P0.out.below hb (by omega))
    have nn2 := hb.size
    clear ho hR0 hN0 hb cx1
    have cx2 := (bk_cell KG.out 2).trans sgc_2
    go_wp2_with fail
    refine (rput_row A2 D2 c2 s.sq 4 4 D3 w2 R2.out N2.out (by rw [LD2.out]; omega) (by omega) (by decide) rfl (HD3).out).mono ?_
    rintro e w3 ⟨v0, rfl, ho, hb⟩
    have HO3 := Lib.hid (World.ownsRow.mono ho (show w0.heap.size ≤ (w2).heap.size by omega))
    obtain ⟨A3, c3, rfl, hR0, hN0, _⟩ := Rd.of_own ho rfl
    have R3 := Lib.hid hR0; have N3 := Lib.hid hN0
    replace KS := Lib.hid (bk_keep hb (bk_lt KS.out) KS.out)
    replace KT := Lib.hid (bk_keep hb (bk_lt KT.out) KT.out)
    replace KG := Lib.hid (bk_keep hb (bk_lt KG.out) KG.out)
    replace F := Lib.hid (F.out.trans (hb.mono F.out.size))
    replace P0 := Lib.hid (P0.out.below hb (by omega))
    have nn3 := hb.size
    clear ho hR0 hN0 hb cx2
    have cx3 := (bk_cell KG.out 3).trans sgc_3
    go_wp2_with fail
    refine (rput_row A3 D3 c3 s.ak 4 4 D4 w3 R3.out N3.out (by rw [LD3.out]; omega) (by omega) (by decide) rfl (HD4).out).mono ?_
    rintro e w4 ⟨v0, rfl, ho, hb⟩
    have HO4 := Lib.hid (World.ownsRow.mono ho (show w0.heap.size ≤ (w3).heap.size by omega))
    obtain ⟨A4, c4, rfl, hR0, hN0, _⟩ := Rd.of_own ho rfl
    have R4 := Lib.hid hR0; have N4 := Lib.hid hN0
    replace KS := Lib.hid (bk_keep hb (bk_lt KS.out) KS.out)
    replace KT := Lib.hid (bk_keep hb (bk_lt KT.out) KT.out)
    replace KG := Lib.hid (bk_keep hb (bk_lt KG.out) KG.out)
    replace F := Lib.hid (F.out.trans (hb.mono F.out.size))
    replace P0 := Lib.hid (P0.out.below hb (by omega))
    have nn4 := hb.size
    clear ho hR0 hN0 hb cx3
    have cx4 := (bk_cell KG.out 4).trans sgc_4
    obtain ⟨x12, hx12⟩ : ∃ x, x = UInt8.ofNat (4 * ah) := ⟨_, rfl⟩
    obtain ⟨x13, hx13⟩ : ∃ x, x = s.fl &&& 63 := ⟨_, rfl⟩
    have e12 : 4 * (ah : Int) = (x12.toNat : Int) := by rw [hx12, UInt8.toNat_ofNat']; omega
    have e12b : IntKind.i64.wrap (4 * (ah : Int)) = (x12.toNat : Int) := by rw [IntKind.wrap_i64]; omega
    have e12c : IntKind.u8.wrap (x12.toNat : Int) = (x12.toNat : Int) := by have := x12.toNat_lt; rw [IntKind.wrap_u8]; omega
    have e13 : (s.fl.toNat : Int) % 64 = (x13.toNat : Int) := by rw [hx13]; exact and63_mod s.fl
    have e13b : (s.fl.toNat : Int).tmod 64 = (x13.toNat : Int) := by rw [Int.tmod_eq_emod_of_nonneg (by omega)]; exact e13
    obtain ⟨D5, hD5⟩ : ∃ D5, D5 = D4 ++ [x12, x13] := ⟨_, rfl⟩
    have l5 : D5.length = 14 := by rw [hD5, List.length_append, LD4.out]; rfl
    have HD5 := Lib.hid hD5; have LD5 := Lib.hid l5; have HX12 := Lib.hid hx12; have HX13 := Lib.hid hx13
    clear hD5 l5 hx12 hx13
    go_wp2_with (at_builtin; refine append_rd rfl _ _ rfl w0.heap.size (.slice A4 D4.length c4) D4.length (D4.map B) rfl (HO4.out.alloc _) (some ⟨w4.heap.size, 0, none⟩) [x12, x13] 2 rfl (fun h => by cases h) (Rd.lit w4 [x12, x13] 5) (by rw [LD4.out]; simp) (by simp; omega) ?_)
    intro v5 w5 hown hgrow
    have ba : Below w0.heap.size (w4) ((w4).alloc (.cells (List.map B [x12, x13]).toArray 5)) := (Below.refl _ _).alloc (by omega) _
    have bb : Below w0.heap.size (w4) w5 := ba.trans ((Below.refl _ _).grown hgrow (by simp; omega) (fun k hk => ((HO4).out.lt k hk).1))
    have nwb := bb.size
    have hoE : (w5).ownsRow w0.heap.size 5 1 v5 (D5).length ((D5).map B) := by rw [(HD5).out, List.length_append, List.map_append]; exact hown
    obtain ⟨A5, c5, rfl, hR0, hN0, _⟩ := Rd.of_own hoE rfl
    have HO5 := Lib.hid hoE
    have R5 := Lib.hid hR0; have N5 := Lib.hid hN0
    replace KS := Lib.hid (bk_keep bb (by omega) KS.out); replace KT := Lib.hid (bk_keep bb (by omega) KT.out); replace KG := Lib.hid (bk_keep bb (by omega) KG.out)
    replace P0 := Lib.hid (P0.out.below bb (by omega)); replace F := Lib.hid (F.out.trans (bb.mono (by omega)))
    clear ba bb hoE hR0 hN0 hown hgrow cx4
    have cx5 := (bk_cell KG.out 5).trans sgc_5
    obtain ⟨D6, hD6⟩ : ∃ D6, D6 = D5 ++ nb 2 s.wi := ⟨_, rfl⟩
    obtain ⟨D7, hD7⟩ : ∃ D7, D7 = D6 ++ [0, 0, 0, 0] := ⟨_, rfl⟩
    have l6 : D6.length = 16 := by rw [hD6, List.length_append, LD5.out, nb_length]
    have l7 : D7.length = 20 := by rw [hD7, List.length_append, l6]; rfl
    have HD6 := Lib.hid hD6; have HD7 := Lib.hid hD7; have LD6 := Lib.hid l6; have LD7 := Lib.hid l7
    clear hD6 hD7 l6 l7 e12 e12b e12c e13 e13b
    go_wp2_with fail
    refine (rput_row A5 D5 c5 s.wi 2 2 D6 w5 R5.out N5.out (by rw [LD5.out]; omega) (by omega) (by decide) rfl (HD6).out).mono ?_
    rintro e w6 ⟨v0, rfl, ho, hb⟩
    have HO6 := Lib.hid (World.ownsRow.mono ho (show w0.heap.size ≤ (w5).heap.size by omega))
    obtain ⟨A6, c6, rfl, hR0, hN0, _⟩ := Rd.of_own ho rfl
    have R6 := Lib.hid hR0; have N6 := Lib.hid hN0
    replace KS := Lib.hid (bk_keep hb (bk_lt KS.out) KS.out)
    replace KT := Lib.hid (bk_keep hb (bk_lt KT.out) KT.out)
    replace KG := Lib.hid (bk_keep hb (bk_lt KG.out) KG.out)
    replace F := Lib.hid (F.out.trans (hb.mono F.out.size))
    replace P0 := Lib.hid (P0.out.below hb (by omega))
    have nn6 := hb.size
    clear ho hR0 hN0 hb cx5
    have cx6 := (bk_cell KG.out 6).trans sgc_6
    go_wp2_with (at_builtin; refine append_rd rfl _ _ rfl w0.heap.size (.slice A6 D6.length c6) D6.length (D6.map B) rfl (HO6.out.alloc _) (some ⟨w6.heap.size, 0, none⟩) [0, 0, 0, 0] 4 rfl (fun h => by cases h) (Rd.lit w6 [0, 0, 0, 0] 5) (by rw [LD6.out]; simp) (by simp; omega) ?_)
    intro v5 w7 hown hgrow
    have ba : Below w0.heap.size (w6) ((w6).alloc (.cells (List.map B [0, 0, 0, 0]).toArray 5)) := (Below.refl _ _).alloc (by omega) _
    have bb : Below w0.heap.size (w6) w7 := ba.trans ((Below.refl _ _).grown hgrow (by simp; omega) (fun k hk => ((HO6).out.lt k hk).1))
    have nwb := bb.size
    have hoE : (w7).ownsRow w0.heap.size 5 1 v5 (D7).length ((D7).map B) := by rw [(HD7).out, List.length_append, List.map_append]; exact hown
    obtain ⟨A7, c7, rfl, hR0, hN0, _⟩ := Rd.of_own hoE rfl
    have HO7 := Lib.hid hoE
    have R7 := Lib.hid hR0; have N7 := Lib.hid hN0
    replace KS := Lib.hid (bk_keep bb (by omega) KS.out); replace KT := Lib.hid (bk_keep bb (by omega) KT.out); replace KG := Lib.hid (bk_keep bb (by omega) KG.out)
    replace P0 := Lib.hid (P0.out.below bb (by omega)); replace F := Lib.hid (F.out.trans (bb.mono (by omega)))
    clear ba bb hoE hR0 hN0 hown hgrow cx6
    have cx6 := (bk_cell KG.out 6).trans sgc_6
    have lG7 := bk_lt KG.out
    go_upto_if 58 with fail
    go_cut [9] (fun s9 wx => ∃ A9 c9, s9 = .slice A9 (D7 ++ sopt s).length c9 ∧ Hid (wx.ownsRow w0.heap.size 5 1 (.slice A9 (D7 ++ sopt s).length c9) (D7 ++ sopt s).length ((D7 ++ sopt s).map B)) ∧ Hid (Below w0.heap.size w7 wx))
    case first =>
      by_cases hm : s.ms = 0
      · have y1 : ((s.ms : Int) != 0) = false := by simp; omega
        have y2 : ((s.ms : Int) == 0) = true := by simp; omega
        have e0 : sopt s = [] := by unfold sopt; rw [if_pos hm]
        have E0 := Lib.hid e0
        clear e0
        go_wp2_with fail
        go_meet
        exact ⟨A7, c7, by rw [E0.out, List.append_nil], by rw [E0.out, List.append_nil]; exact HO7, Lib.hid (Below.refl _ _)⟩
      · have y1 : ((s.ms : Int) != 0) = true := by simp; omega
        have y2 : ((s.ms : Int) == 0) = false := by simp; omega
        have e0 : sopt s = [2, 4] ++ nb 2 s.ms := by unfold sopt; rw [if_neg hm]
        have E0 := Lib.hid e0
        clear e0
        obtain ⟨x, hx⟩ : ∃ x, x = UInt8.ofNat (s.ms / 256) := ⟨_, rfl⟩
        obtain ⟨y, hy⟩ : ∃ y, y = UInt8.ofNat s.ms := ⟨_, rfl⟩
        have ex : (s.ms : Int) / 256 = (x.toNat : Int) := by rw [hx, UInt8.toNat_ofNat']; omega
        have ey : (s.ms : Int) % 256 = (y.toNat : Int) := by rw [hy, UInt8.toNat_ofNat']; omega
        have E1 : Hid (sopt s = [2, 4, x, y]) := Lib.hid (by rw [E0.out, nb2', hx, hy]; rfl)
        clear hx hy E0
        go_wp2_with (at_builtin; refine append_rd rfl _ _ rfl w0.heap.size (.slice A7 D7.length c7) D7.length (D7.map B) rfl (HO7.out.alloc _) (some ⟨w7.heap.size, 0, none⟩) [2, 4, x, y] 4 rfl (fun h => by cases h) (Rd.lit w7 [2, 4, x, y] 5) (by rw [LD7.out]; simp) (by simp; omega) ?_)
        intro v8 w8 hown hgrow
        have ba : Below w0.heap.size w7 (w7.alloc (.cells (List.map B [2, 4, x, y]).toArray 5)) := (Below.refl _ _).alloc (by omega) _
        have bb : Hid (Below w0.heap.size w7 w8) := Lib.hid (ba.trans ((Below.refl _ _).grown hgrow (by simp; omega) (fun k hk => (HO7.out.lt k hk).1)))
        have hoE : w8.ownsRow w0.heap.size 5 1 v8 (D7 ++ sopt s).length ((D7 ++ sopt s).map B) := by rw [E1.out, List.length_append, List.map_append]; exact hown
        obtain ⟨A8, c8, rfl, _, _, _⟩ := Rd.of_own hoE rfl
        have HOE := Lib.hid hoE
        have LL : Hid ((D7 ++ sopt s).length = D7.length + 4) := Lib.hid (by rw [E1.out, List.length_append]; rfl)
        clear ba hoE hown hgrow
        go_wp2_with fail
        go_meet
        exact ⟨A8, c8, by rw [LL.out], HOE, bb⟩
    case rest =>
      obtain ⟨A9, c9, rfl, HO9, B9⟩ := hcut
      obtain ⟨D8, hD8⟩ : ∃ D8, D8 = D7 ++ sopt s := ⟨_, rfl⟩
      rw [← hD8] at HO9 ⊢
      have l8 : D8.length = ah := by
        have := sopt_length s
        have h7 := LD7.out
        have h8 := HAH.out
        rw [hD8, List.length_append]; omega
      have HD8 := Lib.hid hD8; have LD8 := Lib.hid l8
      clear hD8 l8 cx6 lG7
      have bb := B9.out
      have nwb := bb.size
      replace KS := Lib.hid (bk_keep bb (by omega) KS.out); replace KT := Lib.hid (bk_keep bb (by omega) KT.out); replace KG := Lib.hid (bk_keep bb (by omega) KG.out)
      replace P0 := Lib.hid (P0.out.below bb (by omega)); replace F := Lib.hid (F.out.trans (bb.mono (by omega)))
      clear bb B9
      have cx7 := (bk_cell KG.out 7).trans sgc_7
      have RI : Hid (Rd wc wc.heap.size A l) := Lib.hid (P0.out.mono (by omega))
      obtain ⟨L, hL⟩ : ∃ L, L = D8 ++ l := ⟨_, rfl⟩
      have hLl : L.length = ah + l.length := by rw [hL, List.length_append, LD8.out]
      have HL := Lib.hid hL; have HLL := Lib.hid hLl
      clear hL hLl
      go_wp2_with (at_builtin; refine append_rd rfl _ _ rfl w0.heap.size (.slice A9 D8.length c9) D8.length (D8.map B) rfl HO9.out A l c rfl HA.out RI.out (by rw [LD8.out]; omega) (by omega) ?_)
      intro v10 w10 hown hgrow
      have bb : Below w0.heap.size wc w10 := (Below.refl _ _).grown hgrow (by omega) (fun k hk => (HO9.out.lt k hk).1)
      have nwd := bb.size
      have hoE : w10.ownsRow w0.heap.size 5 1 v10 L.length (L.map B) := by rw [HL.out, List.length_append]; exact hown
      have s12 := F.out.size
      replace KS := Lib.hid (bk_keep bb (by omega) KS.out); replace KT := Lib.hid (bk_keep bb (by omega) KT.out)
      replace F := Lib.hid (F.out.trans (bb.mono (by omega)))
      have hoF := World.ownsRow.mono hoE (show w.heap.size ≤ w0.heap.size by omega)
      obtain ⟨A14, c14, rfl, hR14, hN14, _⟩ := Rd.of_own hoF rfl
      have HO := Lib.hid hoF; have R14 := Lib.hid hR14; have N14 := Lib.hid hN14
      clear bb hoE hoF hR14 hN14 hown hgrow cx7 RI KG P0 d2
      have vKS := KS.out; have wKS := bk_lt vKS
      have vKT := KT.out; have wKT := bk_lt vKT
      go_wp2_with fail
      refine (rover_any src dst 6 A14 L c14 w10 h1 h2 R14.out N14.out (by rw [HLL.out]; omega)).mono ?_
      rintro e w15 ⟨rfl, b15⟩
      clear vKS wKS
      clear vKT wKT
      replace F := Lib.hid (F.out.trans (b15.mono F.out.size))
      have HO8 := own_below HO.out b15
      obtain ⟨g, cur, rfl, hgb, hgs, hgl⟩ := own_some HO8 (by rw [HLL.out]; omega)
      have u6 := bk_cell hgb 16
      have u7 := bk_cell hgb 17
      rw [Array.getElem?_eq_getElem (by have := HLL.out; omega)] at u6 u7
      have z6 := bk_frozen hgb 16
      have z7 := bk_frozen hgb 17
      generalize cur[16]'(by have := HLL.out; omega) = cu6 at u6
      generalize cur[17]'(by have := HLL.out; omega) = cu7 at u7
      have HO9 := Lib.hid HO8
      have i6 : 16 < L.length := by rw [HLL.out]; omega
      have i7 : 17 < L.length := by rw [HLL.out]; omega
      have hS := sumOf_le (ovr src dst 6 L)
      have hLs : L = shead s 0 ++ (sopt s ++ l) := by
        rw [HL.out, HD8.out, HD7.out, HD6.out, HD5.out, HD4.out, HD3.out, HD2.out, HD1.out, HX12.out, HX13.out, HAH.out]
        simp only [shead, List.nil_append, List.append_assoc]
        rfl
      have hcs : ssum src dst s l = sumOf (ovr src dst 6 L) := by
        unfold ssum
        rw [hLs]
      have HCS := Lib.hid hcs
      have HLS := Lib.hid hLs
      clear hcs hLs
      generalize hSe : sumOf (ovr src dst 6 L) = S at *
      clear HO8 hgb hgs hSe b15 HO R14
      go_wp2_with fail
      refine bodyPost_ret (results_tmp2 rfl _ _ _) rfl ?_
      refine ⟨_, rfl, sput_end HO9.out HLS.out (by rw [HCS.out, B_ofNat']; congr 1; omega) (by rw [HCS.out, B_ofNat']), (F.out.setCell (p := ⟨g, 16, none⟩) hgl _).setCell (p := ⟨g, 17, none⟩) hgl _⟩
end Go.Proofs.Ytojddfbbeiobpaa
