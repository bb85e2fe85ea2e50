/- Headers: the document's Put. -/
import Derived.Test.YtbfiakikhkiefaaH7
import Derived.Test.YtbfiakikhkiefaaS31
namespace Go.Proofs.Ytbfiakikhkiefaa
open Go.RowKit
set_option maxRecDepth 100000
set_option maxHeartbeats 2000000
theorem nb4' (k : Nat) : nb 4 k = [UInt8.ofNat (k / 16777216), UInt8.ofNat (k / 65536), UInt8.ofNat (k / 256), UInt8.ofNat k] := by simp [nb, List.range_succ]
theorem more_length (p : Pk) : (moreB p).length = (if p.al then 8 else 0) + (if p.fi then 8 else 0) := by
  unfold moreB alertB fragB
  cases p.al <;> cases p.fi <;> simp [nb_length]
theorem rput9_any (p : Pk) (A : Option Addr) (l : List UInt8) (c : Nat) (w : World) (h : Rd w w.heap.size A l) (hA : A = none → l = [] ∧ c = 0) (hl : l.length < 2 ^ 36) :
    Calls Try.prog 12 #[.agg (pkC p A l.length c)] w fun e w' => PutGot p l w.heap.size e w' ∧ Below w.heap.size w w' := by
  have ba : Below w.heap.size w (w.alloc (.cells (pkC p A l.length c) 30 (0, 0))) := (by (repeat (first | exact Below.refl _ _ | assumption | refine Below.drew ?_ | refine bdrewN ?_ _ | refine Below.alloc ?_ (by first | omega | (simp <;> omega) | (simp only [World.size_alloc] <;> omega)) _ | refine below_setRow ?_ (by first | omega | (simp <;> omega)) _ | refine Below.setCell ?_ (by first | omega | (simp <;> omega)) _)))
  have k0 : bk (w.alloc (.cells (pkC p A l.length c) 30 (0, 0))) w.heap.size = some (.cells (pkC p A l.length c) 30 (0, 0)) := bk_alloc_at _ _ _ rfl
  obtain ⟨n0, hn⟩ : ∃ n, n = (w.alloc (.cells (pkC p A l.length c) 30 (0, 0))).heap.size := ⟨_, rfl⟩
  have hx0 : w.heap.size < n0 := by rw [hn]; simp
  have hn0 : w.heap.size ≤ n0 := Nat.le_of_lt hx0
  have HR := Lib.hid ((h.below ba (Nat.le_refl _)).mono hn0); have HA := Lib.hid hA; have F := Lib.hid ba
  have sW : n0 ≤ (w.alloc (.cells (pkC p A l.length c) 30 (0, 0))).heap.size := Nat.le_of_eq hn
  clear h hA ba hn
  go_enter Try.func12, Try.ntmps12
  go_upto_region 1 with fail
  generalize w.alloc (.cells (pkC p A l.length c) 30 (0, 0)) = w1 at *
  obtain ⟨x, hx⟩ : ∃ x, x = w.heap.size := ⟨_, rfl⟩
  rw [← hx] at k0 hx0 ⊢
  have HX := Lib.hid hx
  have K0 := Lib.hid k0
  clear hx k0
  have ML := Lib.hid (more_length p)
  have ho := p.ho; have hid := p.hid
  cases hfi : p.fi with
  | true =>
    have HFI := Lib.hid hfi
    obtain ⟨S1, hS1⟩ : ∃ S, S = l.length + 8 := ⟨_, rfl⟩
    have e1 : IntKind.i64.wrap ((l.length : Int) + 8) = (S1 : Int) := by rw [IntKind.wrap_i64]; omega
    have HF0 : Hid (first0 p = 44) := Lib.hid (by unfold first0; rw [hfi]; rfl)
    cases hal : p.al with
    | true =>
      have HAL := Lib.hid hal
      obtain ⟨S, hS⟩ : ∃ S, S = S1 + 8 := ⟨_, rfl⟩
      have e2 : IntKind.i64.wrap ((S1 : Int) + 8) = (S : Int) := by rw [IntKind.wrap_i64]; omega
      have HSS : Hid (S = (moreB p).length + l.length) := Lib.hid (by rw [ML.out, hfi, hal, hS, hS1]; simp; omega)
      have HSS' : Hid (S = (alertB p ++ fragB p).length + l.length) := HSS
      have HFB : Hid (firstB p = 0) := Lib.hid (by unfold firstB; rw [hal]; rfl)
      clear hfi hal hS hS1 ML
      have c32 := (bk_cell K0.out 32).trans (pkC_hops p A l.length c); have c33 := (bk_cell K0.out 33).trans (pkC_al p A l.length c); have c34 := (bk_cell K0.out 34).trans (pkC_fi p A l.length c); have c35 := (bk_cell K0.out 35).trans (pkC_fid p A l.length c)
      have c36 := (bk_cell K0.out 36).trans (pkC_fo p A l.length c); have c37 := (bk_cell K0.out 37).trans (pkC_fm p A l.length c); have c38 := (bk_cell K0.out 38).trans (pkC_nx p A l.length c); have c39 := (bk_cell K0.out 39).trans (pkC_body p A l.length c)
      rw [HFI.out] at c34; rw [HAL.out] at c33
      go_upto_region 10 with fail
      by_cases hbig : 65535 < S
      · have d1 : decide ((65535 : Int) < (S : Int)) = true := by simp; omega
        have d2 : decide (65535 < S) = true := by simp; omega
        have hbd : Hid (pkBad p l = true) := Lib.hid (by unfold pkBad; rw [← HSS.out, d2]; rfl)
        go_wp2_with fail
        go_ret2
        exact ⟨by unfold PutGot; rw [if_pos hbd.out]; rfl, F.out⟩
      · have d1 : decide ((65535 : Int) < (S : Int)) = false := by simp; omega
        have d2 : decide (65535 < S) = false := by simp; omega
        by_cases hfo : 8191 < p.fo
        · have d3 : decide ((8191 : Int) < (p.fo : Int)) = true := by simp; omega
          have d4 : decide (8191 < p.fo) = true := by simp; omega
          have hbd : Hid (pkBad p l = true) := Lib.hid (by unfold pkBad; rw [HFI.out, d4]; simp)
          go_wp2_with fail
          go_ret2
          exact ⟨by unfold PutGot; rw [if_pos hbd.out]; rfl, F.out⟩
        · have d3 : decide ((8191 : Int) < (p.fo : Int)) = false := by simp; omega
          have d4 : decide (8191 < p.fo) = false := by simp; omega
          have hbd : Hid (pkBad p l = false) := Lib.hid (by unfold pkBad; rw [← HSS.out, d2, d4]; simp)
          obtain ⟨xa, hxa⟩ : ∃ x, x = UInt8.ofNat (S / 256) := ⟨_, rfl⟩
          obtain ⟨xb, hxb⟩ : ∃ x, x = UInt8.ofNat (S) := ⟨_, rfl⟩
          have ea : (S : Int) / 256 = (xa.toNat : Int) := by rw [hxa, UInt8.toNat_ofNat']; omega
          have ea' : (S : Int).tdiv 256 = (xa.toNat : Int) := by rw [Int.tdiv_eq_ediv_of_nonneg (by omega)]; exact ea
          have eb : (S : Int) % 256 = (xb.toNat : Int) := by rw [hxb, UInt8.toNat_ofNat']; omega
          have eb' : (S : Int).tmod 256 = (xb.toNat : Int) := by rw [Int.tmod_eq_emod_of_nonneg (by omega)]; exact eb
          have wa : IntKind.i64.wrap (xa.toNat : Int) = (xa.toNat : Int) := by have := xa.toNat_lt; rw [IntKind.wrap_i64]; omega
          have wb' : IntKind.i64.wrap (xb.toNat : Int) = (xb.toNat : Int) := by have := xb.toNat_lt; rw [IntKind.wrap_i64]; omega
          have wa' : IntKind.u8.wrap (xa.toNat : Int) = (xa.toNat : Int) := by have := xa.toNat_lt; rw [IntKind.wrap_u8]; omega
          have wb'' : IntKind.u8.wrap (xb.toNat : Int) = (xb.toNat : Int) := by have := xb.toNat_lt; rw [IntKind.wrap_u8]; omega
          have HXX : Hid ([xa, xb] = nb 2 S) := Lib.hid (by rw [nb2', hxa, hxb])
          clear hxa hxb
          obtain ⟨hp, hhp⟩ : ∃ h, h = p.hops := ⟨_, rfl⟩
          rw [← hhp] at c32
          have HHP := Lib.hid hhp
          clear hhp
          obtain ⟨w2, hw2⟩ : ∃ w2, w2 = w1.alloc (.cells (List.map B [96, 0, 0, 0, xa, xb, 0, hp]).toArray 5 (0, 0)) := ⟨_, rfl⟩
          have HO : Hid (w2.ownsRow n0 5 1 (.slice (some ⟨w1.heap.size, 0, none⟩) 8 8) 8 (List.map B [96, 0, 0, 0, xa, xb, 0, hp])) := Lib.hid (by rw [hw2]; exact (own_lit (w := w1) [96, 0, 0, 0, xa, xb, 0, hp] (by simp)).mono sW)
          have HLD : Hid (([96, 0, 0, 0, xa, xb, 0, hp] : List UInt8).length = 8) := Lib.hid rfl
          have b8 : Below n0 w1 w2 := by
            rw [hw2]
            (repeat (first | exact Below.refl _ _ | assumption | refine Below.drew ?_ | refine bdrewN ?_ _ | refine Below.alloc ?_ (by first | omega | (simp <;> omega) | (simp only [World.size_alloc] <;> omega)) _ | refine below_setRow ?_ (by first | omega | (simp <;> omega)) _ | refine Below.setCell ?_ (by first | omega | (simp <;> omega)) _))
          have K2 := Lib.hid (bk_keep b8 hx0 K0.out)
          have HR2 := Lib.hid (HR.out.below b8 (Nat.le_refl _))
          have F2 := Lib.hid (F.out.trans (b8.mono hn0))
          have sW2 := Nat.le_trans sW b8.size
          go_upto_region 13 with fail
          clear c32 c33 c34 c35 c36 c37 c38 c39 ea ea' eb eb' wa wb' wa' wb'' b8 K0 HR F sW
          generalize hg : w1.alloc _ = w2'
          obtain rfl : w2 = w2' := hw2.trans hg
          clear hg hw2
          have K0 := K2; have HR := HR2; have F := F2; have sW := sW2
          clear K2 HR2 F2 sW2
          go_wp2_with (at_builtin; refine append_rd rfl _ _ rfl n0 (.slice (some ⟨w1.heap.size, 0, none⟩) 8 8) 8 _ rfl HO.out (some ⟨x, 0, none⟩) p.src 16 (by rw [p.hs]; rfl) (fun h => by cases h) (Rd.src K0.out (bk_lt K0.out)) (by rw [p.hs]; omega) sW ?_)
          intro v9 w3 hown hgrow
          have ba : Below n0 (w2) (w2) := by
            (repeat (first | exact Below.refl _ _ | assumption | refine Below.drew ?_ | refine bdrewN ?_ _ | refine Below.alloc ?_ (by first | omega | (simp <;> omega) | (simp only [World.size_alloc] <;> omega)) _ | refine below_setRow ?_ (by first | omega | (simp <;> omega)) _ | refine Below.setCell ?_ (by first | omega | (simp <;> omega)) _))
          have bb : Below n0 (w2) w3 := ba.trans ((Below.refl _ _).grown hgrow (by first | exact sW | (simp; omega)) (fun k hk => (HO.out.lt k hk).1))
          obtain ⟨E1, hE0⟩ : ∃ E : List UInt8, E = [96, 0, 0, 0, xa, xb, 0, hp] ++ p.src := ⟨_, rfl⟩
          have hoE : (w3).ownsRow n0 5 1 v9 (E1).length ((E1).map B) := by rw [hE0, List.length_append]; first | exact hown | (rw [List.map_append]; exact hown)
          have hl0 : (E1).length = 24 := by rw [hE0, List.length_append]; have h1 := HLD.out; have h2 := p.hs; have h3 := p.hd; first | omega | (simp only [List.length_cons, List.length_nil] at h1 ⊢; omega)
          obtain ⟨A1, c1, rfl, _, _, _⟩ := Rd.of_own hoE rfl
          replace K0 := Lib.hid (bk_keep bb hx0 K0.out)
          replace HR := Lib.hid (HR.out.below bb (Nat.le_refl _))
          replace F := Lib.hid (F.out.trans (bb.mono hn0))
          replace sW := Nat.le_trans sW bb.size
          replace HO := Lib.hid hoE
          replace HLD := Lib.hid hl0
          have HE1 := Lib.hid hE0
          clear ba bb hE0 hoE hl0 hown hgrow
          try clear c32 c33 c34 c35 c36 c37 c38 c39
          go_wp2_with (at_builtin; refine append_rd rfl _ _ rfl n0 (.slice A1 E1.length c1) E1.length (E1.map B) rfl HO.out (some ⟨x, 16, none⟩) p.dst 16 (by rw [p.hd]; rfl) (fun h => by cases h) (Rd.dst K0.out (bk_lt K0.out)) (by rw [p.hd, HLD.out]; omega) sW ?_)
          intro v9 w4 hown hgrow
          have ba : Below n0 (w3) (w3) := by
            (repeat (first | exact Below.refl _ _ | assumption | refine Below.drew ?_ | refine bdrewN ?_ _ | refine Below.alloc ?_ (by first | omega | (simp <;> omega) | (simp only [World.size_alloc] <;> omega)) _ | refine below_setRow ?_ (by first | omega | (simp <;> omega)) _ | refine Below.setCell ?_ (by first | omega | (simp <;> omega)) _))
          have bb : Below n0 (w3) w4 := ba.trans ((Below.refl _ _).grown hgrow (by first | exact sW | (simp; omega)) (fun k hk => (HO.out.lt k hk).1))
          obtain ⟨E2, hE0⟩ : ∃ E : List UInt8, E = E1 ++ p.dst := ⟨_, rfl⟩
          have hoE : (w4).ownsRow n0 5 1 v9 (E2).length ((E2).map B) := by rw [hE0, List.length_append]; first | exact hown | (rw [List.map_append]; exact hown)
          have hl0 : (E2).length = 40 := by rw [hE0, List.length_append]; have h1 := HLD.out; have h2 := p.hs; have h3 := p.hd; first | omega | (simp only [List.length_cons, List.length_nil] at h1 ⊢; omega)
          obtain ⟨A2, c2, rfl, _, _, _⟩ := Rd.of_own hoE rfl
          replace K0 := Lib.hid (bk_keep bb hx0 K0.out)
          replace HR := Lib.hid (HR.out.below bb (Nat.le_refl _))
          replace F := Lib.hid (F.out.trans (bb.mono hn0))
          replace sW := Nat.le_trans sW bb.size
          replace HO := Lib.hid hoE
          replace HLD := Lib.hid hl0
          have HE2 := Lib.hid hE0
          clear ba bb hE0 hoE hl0 hown hgrow
          try clear c32 c33 c34 c35 c36 c37 c38 c39
          have c32 := (bk_cell K0.out 32).trans (pkC_hops p A l.length c); have c33 := (bk_cell K0.out 33).trans (pkC_al p A l.length c); have c34 := (bk_cell K0.out 34).trans (pkC_fi p A l.length c); have c35 := (bk_cell K0.out 35).trans (pkC_fid p A l.length c)
          have c36 := (bk_cell K0.out 36).trans (pkC_fo p A l.length c); have c37 := (bk_cell K0.out 37).trans (pkC_fm p A l.length c); have c38 := (bk_cell K0.out 38).trans (pkC_nx p A l.length c); have c39 := (bk_cell K0.out 39).trans (pkC_body p A l.length c)
          rw [HFI.out] at c34; rw [HAL.out] at c33
          go_wp2_with (at_builtin; refine append_rd rfl _ _ rfl n0 (.slice A2 E2.length c2) E2.length (E2.map B) rfl (HO.out.alloc _) (some ⟨w4.heap.size, 0, none⟩) [44, 0, 5, 2, 0, 0, 1, 0] 8 rfl (fun h => by cases h) (Rd.lit w4 [44, 0, 5, 2, 0, 0, 1, 0] 5) (by rw [HLD.out]; simp) (by simp; omega) ?_)
          intro v9 w5 hown hgrow
          have ba : Below n0 (w4) ((w4.alloc (.cells (List.map B [44, 0, 5, 2, 0, 0, 1, 0]).toArray 5 (0, 0)))) := by
            (repeat (first | exact Below.refl _ _ | assumption | refine Below.drew ?_ | refine bdrewN ?_ _ | refine Below.alloc ?_ (by first | omega | (simp <;> omega) | (simp only [World.size_alloc] <;> omega)) _ | refine below_setRow ?_ (by first | omega | (simp <;> omega)) _ | refine Below.setCell ?_ (by first | omega | (simp <;> omega)) _))
          have bb : Below n0 (w4) w5 := ba.trans ((Below.refl _ _).grown hgrow (by first | exact sW | (simp; omega)) (fun k hk => (HO.out.lt k hk).1))
          obtain ⟨E3, hE0⟩ : ∃ E : List UInt8, E = E2 ++ [44, 0, 5, 2, 0, 0, 1, 0] := ⟨_, rfl⟩
          have hoE : (w5).ownsRow n0 5 1 v9 (E3).length ((E3).map B) := by rw [hE0, List.length_append]; first | exact hown | (rw [List.map_append]; exact hown)
          have hl0 : (E3).length = 48 := by rw [hE0, List.length_append]; have h1 := HLD.out; have h2 := p.hs; have h3 := p.hd; first | omega | (simp only [List.length_cons, List.length_nil] at h1 ⊢; omega)
          obtain ⟨A3, c3, rfl, _, _, _⟩ := Rd.of_own hoE rfl
          replace K0 := Lib.hid (bk_keep bb hx0 K0.out)
          replace HR := Lib.hid (HR.out.below bb (Nat.le_refl _))
          replace F := Lib.hid (F.out.trans (bb.mono hn0))
          replace sW := Nat.le_trans sW bb.size
          replace HO := Lib.hid hoE
          replace HLD := Lib.hid hl0
          have HE3 := Lib.hid hE0
          clear ba bb hE0 hoE hl0 hown hgrow
          try clear c32 c33 c34 c35 c36 c37 c38 c39
          have HEE : Hid (E3 = [96, 0, 0, 0] ++ nb 2 S ++ [0, p.hops] ++ p.src ++ p.dst ++ alertB p) := Lib.hid (by rw [HE3.out, HE2.out, HE1.out, ← HXX.out, ← HHP.out]; unfold alertB; rw [HAL.out, HF0.out]; simp)
          clear HE1 HE2 HE3 HXX HHP
          have c32 := (bk_cell K0.out 32).trans (pkC_hops p A l.length c); have c33 := (bk_cell K0.out 33).trans (pkC_al p A l.length c); have c34 := (bk_cell K0.out 34).trans (pkC_fi p A l.length c); have c35 := (bk_cell K0.out 35).trans (pkC_fid p A l.length c)
          have c36 := (bk_cell K0.out 36).trans (pkC_fo p A l.length c); have c37 := (bk_cell K0.out 37).trans (pkC_fm p A l.length c); have c38 := (bk_cell K0.out 38).trans (pkC_nx p A l.length c); have c39 := (bk_cell K0.out 39).trans (pkC_body p A l.length c)
          rw [HFI.out] at c34; rw [HAL.out] at c33
          obtain ⟨y, hy⟩ : ∃ y, y = 8 * p.fo := ⟨_, rfl⟩
          have g1 : IntKind.i64.wrap (p.fo : Int) = (p.fo : Int) := by rw [IntKind.wrap_i64]; omega
          have g2 : IntKind.i64.wrap (8 * (p.fo : Int)) = (y : Int) := by rw [IntKind.wrap_i64]; omega
          have hy16 : y ≤ 65528 := by omega
          cases hfm : p.fm with
          | true =>
            obtain ⟨W, hW⟩ : ∃ W, W = y + 1 := ⟨_, rfl⟩
            have g3 : IntKind.i64.wrap ((y : Int) + 1) = (W : Int) := by rw [IntKind.wrap_i64]; omega
            have HW : Hid (W = pword p) := Lib.hid (by unfold pword; rw [hfm, hW, hy]; simp [Nat.mul_comm])
            rw [hfm] at c37
            have hW16 : W ≤ 65535 := by omega
            clear hW hy hfm
            obtain ⟨x0, hx0'⟩ : ∃ x, x = UInt8.ofNat (W / 256) := ⟨_, rfl⟩
            obtain ⟨x1, hx1'⟩ : ∃ x, x = UInt8.ofNat W := ⟨_, rfl⟩
            obtain ⟨i0, hi0⟩ : ∃ x, x = UInt8.ofNat (p.fid / 16777216) := ⟨_, rfl⟩
            obtain ⟨i1, hi1⟩ : ∃ x, x = UInt8.ofNat (p.fid / 65536) := ⟨_, rfl⟩
            obtain ⟨i2, hi2⟩ : ∃ x, x = UInt8.ofNat (p.fid / 256) := ⟨_, rfl⟩
            obtain ⟨i3, hi3⟩ : ∃ x, x = UInt8.ofNat p.fid := ⟨_, rfl⟩
            have k0 : (W : Int) / 256 = (x0.toNat : Int) := by rw [hx0', UInt8.toNat_ofNat']; omega
            have k0' : (W : Int).tdiv 256 = (x0.toNat : Int) := by rw [Int.tdiv_eq_ediv_of_nonneg (by omega)]; exact k0
            have k1 : (W : Int) % 256 = (x1.toNat : Int) := by rw [hx1', UInt8.toNat_ofNat']; omega
            have k1' : (W : Int).tmod 256 = (x1.toNat : Int) := by rw [Int.tmod_eq_emod_of_nonneg (by omega)]; exact k1
            have z0 : IntKind.i64.wrap (x0.toNat : Int) = (x0.toNat : Int) := by have := x0.toNat_lt; rw [IntKind.wrap_i64]; omega
            have z1 : IntKind.i64.wrap (x1.toNat : Int) = (x1.toNat : Int) := by have := x1.toNat_lt; rw [IntKind.wrap_i64]; omega
            have z2 : IntKind.u8.wrap (x0.toNat : Int) = (x0.toNat : Int) := by have := x0.toNat_lt; rw [IntKind.wrap_u8]; omega
            have z3 : IntKind.u8.wrap (x1.toNat : Int) = (x1.toNat : Int) := by have := x1.toNat_lt; rw [IntKind.wrap_u8]; omega
            have j0 : (p.fid : Int) / 16777216 = (i0.toNat : Int) := by rw [hi0, UInt8.toNat_ofNat']; omega
            have j1 : (p.fid : Int) / 65536 % 256 = (i1.toNat : Int) := by rw [hi1, UInt8.toNat_ofNat']; omega
            have j2 : (p.fid : Int) / 256 % 256 = (i2.toNat : Int) := by rw [hi2, UInt8.toNat_ofNat']; omega
            have j3 : (p.fid : Int) % 256 = (i3.toNat : Int) := by rw [hi3, UInt8.toNat_ofNat']; omega
            obtain ⟨nx, hnx⟩ : ∃ x, x = p.nx := ⟨_, rfl⟩
            rw [← hnx] at c38
            have HFG : Hid (fragB p = [nx, 0, x0, x1, i0, i1, i2, i3]) := Lib.hid (by unfold fragB; rw [HFI.out, if_pos rfl, ← HW.out, nb2', nb4', hx0', hx1', hi0, hi1, hi2, hi3, hnx]; rfl)
            clear hx0' hx1' hi0 hi1 hi2 hi3 hnx HW
            go_wp2_with (at_builtin; refine append_rd rfl _ _ rfl n0 (.slice A3 (E3).length c3) (E3).length ((E3).map B) rfl (HO.out.alloc _) (some ⟨(w5).heap.size, 0, none⟩) [nx, 0, x0, x1, i0, i1, i2, i3] 8 rfl (fun h => by cases h) (Rd.lit w5 [nx, 0, x0, x1, i0, i1, i2, i3] 5) (by rw [HLD.out]; simp) (by simp; omega) ?_)
            intro v9 w6 hown hgrow
            have ba : Below n0 (w5) (((w5).alloc (.cells (List.map B [nx, 0, x0, x1, i0, i1, i2, i3]).toArray 5 (0, 0)))) := by
              (repeat (first | exact Below.refl _ _ | assumption | refine Below.drew ?_ | refine bdrewN ?_ _ | refine Below.alloc ?_ (by first | omega | (simp <;> omega) | (simp only [World.size_alloc] <;> omega)) _ | refine below_setRow ?_ (by first | omega | (simp <;> omega)) _ | refine Below.setCell ?_ (by first | omega | (simp <;> omega)) _))
            have bb : Below n0 (w5) w6 := ba.trans ((Below.refl _ _).grown hgrow (by first | exact sW | (simp; omega)) (fun k hk => (HO.out.lt k hk).1))
            obtain ⟨E4, hE0⟩ : ∃ E : List UInt8, E = E3 ++ [nx, 0, x0, x1, i0, i1, i2, i3] := ⟨_, rfl⟩
            have hoE : (w6).ownsRow n0 5 1 v9 (E4).length ((E4).map B) := by rw [hE0, List.length_append]; first | exact hown | (rw [List.map_append]; exact hown)
            have hl0 : (E4).length = 56 := by rw [hE0, List.length_append]; have h1 := HLD.out; have h2 := p.hs; have h3 := p.hd; first | omega | (simp only [List.length_cons, List.length_nil] at h1 ⊢; omega)
            obtain ⟨A4, c4, rfl, _, _, _⟩ := Rd.of_own hoE rfl
            replace K0 := Lib.hid (bk_keep bb hx0 K0.out)
            replace HR := Lib.hid (HR.out.below bb (Nat.le_refl _))
            replace F := Lib.hid (F.out.trans (bb.mono hn0))
            replace sW := Nat.le_trans sW bb.size
            replace HO := Lib.hid hoE
            replace HLD := Lib.hid hl0
            have HE4 := Lib.hid hE0
            clear ba bb hE0 hoE hl0 hown hgrow
            try clear c32 c33 c34 c35 c36 c37 c38 c39
            have HEF : Hid (E4 ++ l = pkB p l) := Lib.hid (by rw [HE4.out, HEE.out]; unfold pkB moreB; rw [← HSS'.out, HFB.out, HFG.out]; simp)
            clear HEE HFG HE4
            have c32 := (bk_cell K0.out 32).trans (pkC_hops p A l.length c); have c33 := (bk_cell K0.out 33).trans (pkC_al p A l.length c); have c34 := (bk_cell K0.out 34).trans (pkC_fi p A l.length c); have c35 := (bk_cell K0.out 35).trans (pkC_fid p A l.length c)
            have c36 := (bk_cell K0.out 36).trans (pkC_fo p A l.length c); have c37 := (bk_cell K0.out 37).trans (pkC_fm p A l.length c); have c38 := (bk_cell K0.out 38).trans (pkC_nx p A l.length c); have c39 := (bk_cell K0.out 39).trans (pkC_body p A l.length c)
            rw [HFI.out] at c34; rw [HAL.out] at c33
            go_wp2_with (at_builtin; refine append_rd rfl _ _ rfl n0 (.slice A4 (E4).length c4) (E4).length ((E4).map B) rfl HO.out A l c rfl HA.out (HR.out.mono sW) (by rw [HLD.out]; omega) sW ?_)
            intro v9 w7 hown hgrow
            have bb : Below n0 (w6) w7 := (Below.refl _ _).grown hgrow sW (fun k hk => (HO.out.lt k hk).1)
            have hoE : w7.ownsRow n0 5 1 v9 (pkB p l).length ((pkB p l).map B) := by rw [← HEF.out, List.length_append]; first | exact hown | (rw [List.map_append]; exact hown)
            obtain ⟨A7, c7, rfl, _, _, hle⟩ := Rd.of_own hoE rfl
            have F7 := Lib.hid (F.out.trans (bb.mono hn0))
            have HG := Lib.hid (World.ownsRow.mono hoE hn0)
            clear bb hoE hown hgrow hle K0 HR F HO HLD HEF c32 c33 c34 c35 c36 c37 c38 c39
            go_wp2_with fail
            go_ret2
            rw [← HX.out]
            exact ⟨by unfold PutGot; rw [hbd.out]; exact ⟨A7, c7, rfl, HX.out ▸ HG.out⟩, HX.out ▸ F7.out⟩
          | false =>
            obtain ⟨W, hW⟩ : ∃ W, W = y := ⟨_, rfl⟩
            have HW : Hid (W = pword p) := Lib.hid (by unfold pword; rw [hfm, hW, hy]; simp [Nat.mul_comm])
            rw [hfm] at c37
            have hW16 : W ≤ 65535 := by omega
            rw [← hW] at g2
            clear hW hy hfm hy16 y
            obtain ⟨x0, hx0'⟩ : ∃ x, x = UInt8.ofNat (W / 256) := ⟨_, rfl⟩
            obtain ⟨x1, hx1'⟩ : ∃ x, x = UInt8.ofNat W := ⟨_, rfl⟩
            obtain ⟨i0, hi0⟩ : ∃ x, x = UInt8.ofNat (p.fid / 16777216) := ⟨_, rfl⟩
            obtain ⟨i1, hi1⟩ : ∃ x, x = UInt8.ofNat (p.fid / 65536) := ⟨_, rfl⟩
            obtain ⟨i2, hi2⟩ : ∃ x, x = UInt8.ofNat (p.fid / 256) := ⟨_, rfl⟩
            obtain ⟨i3, hi3⟩ : ∃ x, x = UInt8.ofNat p.fid := ⟨_, rfl⟩
            have k0 : (W : Int) / 256 = (x0.toNat : Int) := by rw [hx0', UInt8.toNat_ofNat']; omega
            have k0' : (W : Int).tdiv 256 = (x0.toNat : Int) := by rw [Int.tdiv_eq_ediv_of_nonneg (by omega)]; exact k0
            have k1 : (W : Int) % 256 = (x1.toNat : Int) := by rw [hx1', UInt8.toNat_ofNat']; omega
            have k1' : (W : Int).tmod 256 = (x1.toNat : Int) := by rw [Int.tmod_eq_emod_of_nonneg (by omega)]; exact k1
            have z0 : IntKind.i64.wrap (x0.toNat : Int) = (x0.toNat : Int) := by have := x0.toNat_lt; rw [IntKind.wrap_i64]; omega
            have z1 : IntKind.i64.wrap (x1.toNat : Int) = (x1.toNat : Int) := by have := x1.toNat_lt; rw [IntKind.wrap_i64]; omega
            have z2 : IntKind.u8.wrap (x0.toNat : Int) = (x0.toNat : Int) := by have := x0.toNat_lt; rw [IntKind.wrap_u8]; omega
            have z3 : IntKind.u8.wrap (x1.toNat : Int) = (x1.toNat : Int) := by have := x1.toNat_lt; rw [IntKind.wrap_u8]; omega
            have j0 : (p.fid : Int) / 16777216 = (i0.toNat : Int) := by rw [hi0, UInt8.toNat_ofNat']; omega
            have j1 : (p.fid : Int) / 65536 % 256 = (i1.toNat : Int) := by rw [hi1, UInt8.toNat_ofNat']; omega
            have j2 : (p.fid : Int) / 256 % 256 = (i2.toNat : Int) := by rw [hi2, UInt8.toNat_ofNat']; omega
            have j3 : (p.fid : Int) % 256 = (i3.toNat : Int) := by rw [hi3, UInt8.toNat_ofNat']; omega
            obtain ⟨nx, hnx⟩ : ∃ x, x = p.nx := ⟨_, rfl⟩
            rw [← hnx] at c38
            have HFG : Hid (fragB p = [nx, 0, x0, x1, i0, i1, i2, i3]) := Lib.hid (by unfold fragB; rw [HFI.out, if_pos rfl, ← HW.out, nb2', nb4', hx0', hx1', hi0, hi1, hi2, hi3, hnx]; rfl)
            clear hx0' hx1' hi0 hi1 hi2 hi3 hnx HW
            go_wp2_with (at_builtin; refine append_rd rfl _ _ rfl n0 (.slice A3 (E3).length c3) (E3).length ((E3).map B) rfl (HO.out.alloc _) (some ⟨(w5).heap.size, 0, none⟩) [nx, 0, x0, x1, i0, i1, i2, i3] 8 rfl (fun h => by cases h) (Rd.lit w5 [nx, 0, x0, x1, i0, i1, i2, i3] 5) (by rw [HLD.out]; simp) (by simp; omega) ?_)
            intro v9 w6 hown hgrow
            have ba : Below n0 (w5) (((w5).alloc (.cells (List.map B [nx, 0, x0, x1, i0, i1, i2, i3]).toArray 5 (0, 0)))) := by
              (repeat (first | exact Below.refl _ _ | assumption | refine Below.drew ?_ | refine bdrewN ?_ _ | refine Below.alloc ?_ (by first | omega | (simp <;> omega) | (simp only [World.size_alloc] <;> omega)) _ | refine below_setRow ?_ (by first | omega | (simp <;> omega)) _ | refine Below.setCell ?_ (by first | omega | (simp <;> omega)) _))
            have bb : Below n0 (w5) w6 := ba.trans ((Below.refl _ _).grown hgrow (by first | exact sW | (simp; omega)) (fun k hk => (HO.out.lt k hk).1))
            obtain ⟨E4, hE0⟩ : ∃ E : List UInt8, E = E3 ++ [nx, 0, x0, x1, i0, i1, i2, i3] := ⟨_, rfl⟩
            have hoE : (w6).ownsRow n0 5 1 v9 (E4).length ((E4).map B) := by rw [hE0, List.length_append]; first | exact hown | (rw [List.map_append]; exact hown)
            have hl0 : (E4).length = 56 := by rw [hE0, List.length_append]; have h1 := HLD.out; have h2 := p.hs; have h3 := p.hd; first | omega | (simp only [List.length_cons, List.length_nil] at h1 ⊢; omega)
            obtain ⟨A4, c4, rfl, _, _, _⟩ := Rd.of_own hoE rfl
            replace K0 := Lib.hid (bk_keep bb hx0 K0.out)
            replace HR := Lib.hid (HR.out.below bb (Nat.le_refl _))
            replace F := Lib.hid (F.out.trans (bb.mono hn0))
            replace sW := Nat.le_trans sW bb.size
            replace HO := Lib.hid hoE
            replace HLD := Lib.hid hl0
            have HE4 := Lib.hid hE0
            clear ba bb hE0 hoE hl0 hown hgrow
            try clear c32 c33 c34 c35 c36 c37 c38 c39
            have HEF : Hid (E4 ++ l = pkB p l) := Lib.hid (by rw [HE4.out, HEE.out]; unfold pkB moreB; rw [← HSS'.out, HFB.out, HFG.out]; simp)
            clear HEE HFG HE4
            have c32 := (bk_cell K0.out 32).trans (pkC_hops p A l.length c); have c33 := (bk_cell K0.out 33).trans (pkC_al p A l.length c); have c34 := (bk_cell K0.out 34).trans (pkC_fi p A l.length c); have c35 := (bk_cell K0.out 35).trans (pkC_fid p A l.length c)
            have c36 := (bk_cell K0.out 36).trans (pkC_fo p A l.length c); have c37 := (bk_cell K0.out 37).trans (pkC_fm p A l.length c); have c38 := (bk_cell K0.out 38).trans (pkC_nx p A l.length c); have c39 := (bk_cell K0.out 39).trans (pkC_body p A l.length c)
            rw [HFI.out] at c34; rw [HAL.out] at c33
            go_wp2_with (at_builtin; refine append_rd rfl _ _ rfl n0 (.slice A4 (E4).length c4) (E4).length ((E4).map B) rfl HO.out A l c rfl HA.out (HR.out.mono sW) (by rw [HLD.out]; omega) sW ?_)
            intro v9 w7 hown hgrow
            have bb : Below n0 (w6) w7 := (Below.refl _ _).grown hgrow sW (fun k hk => (HO.out.lt k hk).1)
            have hoE : w7.ownsRow n0 5 1 v9 (pkB p l).length ((pkB p l).map B) := by rw [← HEF.out, List.length_append]; first | exact hown | (rw [List.map_append]; exact hown)
            obtain ⟨A7, c7, rfl, _, _, hle⟩ := Rd.of_own hoE rfl
            have F7 := Lib.hid (F.out.trans (bb.mono hn0))
            have HG := Lib.hid (World.ownsRow.mono hoE hn0)
            clear bb hoE hown hgrow hle K0 HR F HO HLD HEF c32 c33 c34 c35 c36 c37 c38 c39
            go_wp2_with fail
            go_ret2
            rw [← HX.out]
            exact ⟨by unfold PutGot; rw [hbd.out]; exact ⟨A7, c7, rfl, HX.out ▸ HG.out⟩, HX.out ▸ F7.out⟩
    | false =>
      have HAL := Lib.hid hal
      have HSS : Hid (S1 = (moreB p).length + l.length) := Lib.hid (by rw [ML.out, hfi, hal, hS1]; simp; omega)
      have HSS' : Hid (S1 = (alertB p ++ fragB p).length + l.length) := HSS
      have HFB : Hid (firstB p = 44) := Lib.hid (by unfold firstB; rw [hal]; exact HF0.out)
      clear hfi hal hS1 ML
      have c32 := (bk_cell K0.out 32).trans (pkC_hops p A l.length c); have c33 := (bk_cell K0.out 33).trans (pkC_al p A l.length c); have c34 := (bk_cell K0.out 34).trans (pkC_fi p A l.length c); have c35 := (bk_cell K0.out 35).trans (pkC_fid p A l.length c)
      have c36 := (bk_cell K0.out 36).trans (pkC_fo p A l.length c); have c37 := (bk_cell K0.out 37).trans (pkC_fm p A l.length c); have c38 := (bk_cell K0.out 38).trans (pkC_nx p A l.length c); have c39 := (bk_cell K0.out 39).trans (pkC_body p A l.length c)
      rw [HFI.out] at c34; rw [HAL.out] at c33
      go_upto_region 10 with fail
      by_cases hbig : 65535 < S1
      · have d1 : decide ((65535 : Int) < (S1 : Int)) = true := by simp; omega
        have d2 : decide (65535 < S1) = true := by simp; omega
        have hbd : Hid (pkBad p l = true) := Lib.hid (by unfold pkBad; rw [← HSS.out, d2]; rfl)
        go_wp2_with fail
        go_ret2
        exact ⟨by unfold PutGot; rw [if_pos hbd.out]; rfl, F.out⟩
      · have d1 : decide ((65535 : Int) < (S1 : Int)) = false := by simp; omega
        have d2 : decide (65535 < S1) = false := by simp; omega
        by_cases hfo : 8191 < p.fo
        · have d3 : decide ((8191 : Int) < (p.fo : Int)) = true := by simp; omega
          have d4 : decide (8191 < p.fo) = true := by simp; omega
          have hbd : Hid (pkBad p l = true) := Lib.hid (by unfold pkBad; rw [HFI.out, d4]; simp)
          go_wp2_with fail
          go_ret2
          exact ⟨by unfold PutGot; rw [if_pos hbd.out]; rfl, F.out⟩
        · have d3 : decide ((8191 : Int) < (p.fo : Int)) = false := by simp; omega
          have d4 : decide (8191 < p.fo) = false := by simp; omega
          have hbd : Hid (pkBad p l = false) := Lib.hid (by unfold pkBad; rw [← HSS.out, d2, d4]; simp)
          obtain ⟨xa, hxa⟩ : ∃ x, x = UInt8.ofNat (S1 / 256) := ⟨_, rfl⟩
          obtain ⟨xb, hxb⟩ : ∃ x, x = UInt8.ofNat (S1) := ⟨_, rfl⟩
          have ea : (S1 : Int) / 256 = (xa.toNat : Int) := by rw [hxa, UInt8.toNat_ofNat']; omega
          have ea' : (S1 : Int).tdiv 256 = (xa.toNat : Int) := by rw [Int.tdiv_eq_ediv_of_nonneg (by omega)]; exact ea
          have eb : (S1 : Int) % 256 = (xb.toNat : Int) := by rw [hxb, UInt8.toNat_ofNat']; omega
          have eb' : (S1 : Int).tmod 256 = (xb.toNat : Int) := by rw [Int.tmod_eq_emod_of_nonneg (by omega)]; exact eb
          have wa : IntKind.i64.wrap (xa.toNat : Int) = (xa.toNat : Int) := by have := xa.toNat_lt; rw [IntKind.wrap_i64]; omega
          have wb' : IntKind.i64.wrap (xb.toNat : Int) = (xb.toNat : Int) := by have := xb.toNat_lt; rw [IntKind.wrap_i64]; omega
          have wa' : IntKind.u8.wrap (xa.toNat : Int) = (xa.toNat : Int) := by have := xa.toNat_lt; rw [IntKind.wrap_u8]; omega
          have wb'' : IntKind.u8.wrap (xb.toNat : Int) = (xb.toNat : Int) := by have := xb.toNat_lt; rw [IntKind.wrap_u8]; omega
          have HXX : Hid ([xa, xb] = nb 2 S1) := Lib.hid (by rw [nb2', hxa, hxb])
          clear hxa hxb
          obtain ⟨hp, hhp⟩ : ∃ h, h = p.hops := ⟨_, rfl⟩
          rw [← hhp] at c32
          have HHP := Lib.hid hhp
          clear hhp
          obtain ⟨w2, hw2⟩ : ∃ w2, w2 = w1.alloc (.cells (List.map B [96, 0, 0, 0, xa, xb, 44, hp]).toArray 5 (0, 0)) := ⟨_, rfl⟩
          have HO : Hid (w2.ownsRow n0 5 1 (.slice (some ⟨w1.heap.size, 0, none⟩) 8 8) 8 (List.map B [96, 0, 0, 0, xa, xb, 44, hp])) := Lib.hid (by rw [hw2]; exact (own_lit (w := w1) [96, 0, 0, 0, xa, xb, 44, hp] (by simp)).mono sW)
          have HLD : Hid (([96, 0, 0, 0, xa, xb, 44, hp] : List UInt8).length = 8) := Lib.hid rfl
          have b8 : Below n0 w1 w2 := by
            rw [hw2]
            (repeat (first | exact Below.refl _ _ | assumption | refine Below.drew ?_ | refine bdrewN ?_ _ | refine Below.alloc ?_ (by first | omega | (simp <;> omega) | (simp only [World.size_alloc] <;> omega)) _ | refine below_setRow ?_ (by first | omega | (simp <;> omega)) _ | refine Below.setCell ?_ (by first | omega | (simp <;> omega)) _))
          have K2 := Lib.hid (bk_keep b8 hx0 K0.out)
          have HR2 := Lib.hid (HR.out.below b8 (Nat.le_refl _))
          have F2 := Lib.hid (F.out.trans (b8.mono hn0))
          have sW2 := Nat.le_trans sW b8.size
          go_upto_region 13 with fail
          clear c32 c33 c34 c35 c36 c37 c38 c39 ea ea' eb eb' wa wb' wa' wb'' b8 K0 HR F sW
          generalize hg : w1.alloc _ = w2'
          obtain rfl : w2 = w2' := hw2.trans hg
          clear hg hw2
          have K0 := K2; have HR := HR2; have F := F2; have sW := sW2
          clear K2 HR2 F2 sW2
          go_wp2_with (at_builtin; refine append_rd rfl _ _ rfl n0 (.slice (some ⟨w1.heap.size, 0, none⟩) 8 8) 8 _ rfl HO.out (some ⟨x, 0, none⟩) p.src 16 (by rw [p.hs]; rfl) (fun h => by cases h) (Rd.src K0.out (bk_lt K0.out)) (by rw [p.hs]; omega) sW ?_)
          intro v9 w3 hown hgrow
          have ba : Below n0 (w2) (w2) := by
            (repeat (first | exact Below.refl _ _ | assumption | refine Below.drew ?_ | refine bdrewN ?_ _ | refine Below.alloc ?_ (by first | omega | (simp <;> omega) | (simp only [World.size_alloc] <;> omega)) _ | refine below_setRow ?_ (by first | omega | (simp <;> omega)) _ | refine Below.setCell ?_ (by first | omega | (simp <;> omega)) _))
          have bb : Below n0 (w2) w3 := ba.trans ((Below.refl _ _).grown hgrow (by first | exact sW | (simp; omega)) (fun k hk => (HO.out.lt k hk).1))
          obtain ⟨E1, hE0⟩ : ∃ E : List UInt8, E = [96, 0, 0, 0, xa, xb, 44, hp] ++ p.src := ⟨_, rfl⟩
          have hoE : (w3).ownsRow n0 5 1 v9 (E1).length ((E1).map B) := by rw [hE0, List.length_append]; first | exact hown | (rw [List.map_append]; exact hown)
          have hl0 : (E1).length = 24 := by rw [hE0, List.length_append]; have h1 := HLD.out; have h2 := p.hs; have h3 := p.hd; first | omega | (simp only [List.length_cons, List.length_nil] at h1 ⊢; omega)
          obtain ⟨A1, c1, rfl, _, _, _⟩ := Rd.of_own hoE rfl
          replace K0 := Lib.hid (bk_keep bb hx0 K0.out)
          replace HR := Lib.hid (HR.out.below bb (Nat.le_refl _))
          replace F := Lib.hid (F.out.trans (bb.mono hn0))
          replace sW := Nat.le_trans sW bb.size
          replace HO := Lib.hid hoE
          replace HLD := Lib.hid hl0
          have HE1 := Lib.hid hE0
          clear ba bb hE0 hoE hl0 hown hgrow
          try clear c32 c33 c34 c35 c36 c37 c38 c39
          go_wp2_with (at_builtin; refine append_rd rfl _ _ rfl n0 (.slice A1 E1.length c1) E1.length (E1.map B) rfl HO.out (some ⟨x, 16, none⟩) p.dst 16 (by rw [p.hd]; rfl) (fun h => by cases h) (Rd.dst K0.out (bk_lt K0.out)) (by rw [p.hd, HLD.out]; omega) sW ?_)
          intro v9 w4 hown hgrow
          have ba : Below n0 (w3) (w3) := by
            (repeat (first | exact Below.refl _ _ | assumption | refine Below.drew ?_ | refine bdrewN ?_ _ | refine Below.alloc ?_ (by first | omega | (simp <;> omega) | (simp only [World.size_alloc] <;> omega)) _ | refine below_setRow ?_ (by first | omega | (simp <;> omega)) _ | refine Below.setCell ?_ (by first | omega | (simp <;> omega)) _))
          have bb : Below n0 (w3) w4 := ba.trans ((Below.refl _ _).grown hgrow (by first | exact sW | (simp; omega)) (fun k hk => (HO.out.lt k hk).1))
          obtain ⟨E2, hE0⟩ : ∃ E : List UInt8, E = E1 ++ p.dst := ⟨_, rfl⟩
          have hoE : (w4).ownsRow n0 5 1 v9 (E2).length ((E2).map B) := by rw [hE0, List.length_append]; first | exact hown | (rw [List.map_append]; exact hown)
          have hl0 : (E2).length = 40 := by rw [hE0, List.length_append]; have h1 := HLD.out; have h2 := p.hs; have h3 := p.hd; first | omega | (simp only [List.length_cons, List.length_nil] at h1 ⊢; omega)
          obtain ⟨A2, c2, rfl, _, _, _⟩ := Rd.of_own hoE rfl
          replace K0 := Lib.hid (bk_keep bb hx0 K0.out)
          replace HR := Lib.hid (HR.out.below bb (Nat.le_refl _))
          replace F := Lib.hid (F.out.trans (bb.mono hn0))
          replace sW := Nat.le_trans sW bb.size
          replace HO := Lib.hid hoE
          replace HLD := Lib.hid hl0
          have HE2 := Lib.hid hE0
          clear ba bb hE0 hoE hl0 hown hgrow
          try clear c32 c33 c34 c35 c36 c37 c38 c39
          have HEE : Hid (E2 = [96, 0, 0, 0] ++ nb 2 S1 ++ [44, p.hops] ++ p.src ++ p.dst ++ alertB p) := Lib.hid (by rw [HE2.out, HE1.out, ← HXX.out, ← HHP.out]; unfold alertB; rw [HAL.out]; simp)
          clear HE1 HE2 HXX HHP
          have c32 := (bk_cell K0.out 32).trans (pkC_hops p A l.length c); have c33 := (bk_cell K0.out 33).trans (pkC_al p A l.length c); have c34 := (bk_cell K0.out 34).trans (pkC_fi p A l.length c); have c35 := (bk_cell K0.out 35).trans (pkC_fid p A l.length c)
          have c36 := (bk_cell K0.out 36).trans (pkC_fo p A l.length c); have c37 := (bk_cell K0.out 37).trans (pkC_fm p A l.length c); have c38 := (bk_cell K0.out 38).trans (pkC_nx p A l.length c); have c39 := (bk_cell K0.out 39).trans (pkC_body p A l.length c)
          rw [HFI.out] at c34; rw [HAL.out] at c33
          obtain ⟨y, hy⟩ : ∃ y, y = 8 * p.fo := ⟨_, rfl⟩
          have g1 : IntKind.i64.wrap (p.fo : Int) = (p.fo : Int) := by rw [IntKind.wrap_i64]; omega
          have g2 : IntKind.i64.wrap (8 * (p.fo : Int)) = (y : Int) := by rw [IntKind.wrap_i64]; omega
          have hy16 : y ≤ 65528 := by omega
          cases hfm : p.fm with
          | true =>
            obtain ⟨W, hW⟩ : ∃ W, W = y + 1 := ⟨_, rfl⟩
            have g3 : IntKind.i64.wrap ((y : Int) + 1) = (W : Int) := by rw [IntKind.wrap_i64]; omega
            have HW : Hid (W = pword p) := Lib.hid (by unfold pword; rw [hfm, hW, hy]; simp [Nat.mul_comm])
            rw [hfm] at c37
            have hW16 : W ≤ 65535 := by omega
            clear hW hy hfm
            obtain ⟨x0, hx0'⟩ : ∃ x, x = UInt8.ofNat (W / 256) := ⟨_, rfl⟩
            obtain ⟨x1, hx1'⟩ : ∃ x, x = UInt8.ofNat W := ⟨_, rfl⟩
            obtain ⟨i0, hi0⟩ : ∃ x, x = UInt8.ofNat (p.fid / 16777216) := ⟨_, rfl⟩
            obtain ⟨i1, hi1⟩ : ∃ x, x = UInt8.ofNat (p.fid / 65536) := ⟨_, rfl⟩
            obtain ⟨i2, hi2⟩ : ∃ x, x = UInt8.ofNat (p.fid / 256) := ⟨_, rfl⟩
            obtain ⟨i3, hi3⟩ : ∃ x, x = UInt8.ofNat p.fid := ⟨_, rfl⟩
            have k0 : (W : Int) / 256 = (x0.toNat : Int) := by rw [hx0', UInt8.toNat_ofNat']; omega
            have k0' : (W : Int).tdiv 256 = (x0.toNat : Int) := by rw [Int.tdiv_eq_ediv_of_nonneg (by omega)]; exact k0
            have k1 : (W : Int) % 256 = (x1.toNat : Int) := by rw [hx1', UInt8.toNat_ofNat']; omega
            have k1' : (W : Int).tmod 256 = (x1.toNat : Int) := by rw [Int.tmod_eq_emod_of_nonneg (by omega)]; exact k1
            have z0 : IntKind.i64.wrap (x0.toNat : Int) = (x0.toNat : Int) := by have := x0.toNat_lt; rw [IntKind.wrap_i64]; omega
            have z1 : IntKind.i64.wrap (x1.toNat : Int) = (x1.toNat : Int) := by have := x1.toNat_lt; rw [IntKind.wrap_i64]; omega
            have z2 : IntKind.u8.wrap (x0.toNat : Int) = (x0.toNat : Int) := by have := x0.toNat_lt; rw [IntKind.wrap_u8]; omega
            have z3 : IntKind.u8.wrap (x1.toNat : Int) = (x1.toNat : Int) := by have := x1.toNat_lt; rw [IntKind.wrap_u8]; omega
            have j0 : (p.fid : Int) / 16777216 = (i0.toNat : Int) := by rw [hi0, UInt8.toNat_ofNat']; omega
            have j1 : (p.fid : Int) / 65536 % 256 = (i1.toNat : Int) := by rw [hi1, UInt8.toNat_ofNat']; omega
            have j2 : (p.fid : Int) / 256 % 256 = (i2.toNat : Int) := by rw [hi2, UInt8.toNat_ofNat']; omega
            have j3 : (p.fid : Int) % 256 = (i3.toNat : Int) := by rw [hi3, UInt8.toNat_ofNat']; omega
            obtain ⟨nx, hnx⟩ : ∃ x, x = p.nx := ⟨_, rfl⟩
            rw [← hnx] at c38
            have HFG : Hid (fragB p = [nx, 0, x0, x1, i0, i1, i2, i3]) := Lib.hid (by unfold fragB; rw [HFI.out, if_pos rfl, ← HW.out, nb2', nb4', hx0', hx1', hi0, hi1, hi2, hi3, hnx]; rfl)
            clear hx0' hx1' hi0 hi1 hi2 hi3 hnx HW
            go_wp2_with (at_builtin; refine append_rd rfl _ _ rfl n0 (.slice A2 (E2).length c2) (E2).length ((E2).map B) rfl (HO.out.alloc _) (some ⟨(w4).heap.size, 0, none⟩) [nx, 0, x0, x1, i0, i1, i2, i3] 8 rfl (fun h => by cases h) (Rd.lit w4 [nx, 0, x0, x1, i0, i1, i2, i3] 5) (by rw [HLD.out]; simp) (by simp; omega) ?_)
            intro v9 w6 hown hgrow
            have ba : Below n0 (w4) (((w4).alloc (.cells (List.map B [nx, 0, x0, x1, i0, i1, i2, i3]).toArray 5 (0, 0)))) := by
              (repeat (first | exact Below.refl _ _ | assumption | refine Below.drew ?_ | refine bdrewN ?_ _ | refine Below.alloc ?_ (by first | omega | (simp <;> omega) | (simp only [World.size_alloc] <;> omega)) _ | refine below_setRow ?_ (by first | omega | (simp <;> omega)) _ | refine Below.setCell ?_ (by first | omega | (simp <;> omega)) _))
            have bb : Below n0 (w4) w6 := ba.trans ((Below.refl _ _).grown hgrow (by first | exact sW | (simp; omega)) (fun k hk => (HO.out.lt k hk).1))
            obtain ⟨E4, hE0⟩ : ∃ E : List UInt8, E = E2 ++ [nx, 0, x0, x1, i0, i1, i2, i3] := ⟨_, rfl⟩
            have hoE : (w6).ownsRow n0 5 1 v9 (E4).length ((E4).map B) := by rw [hE0, List.length_append]; first | exact hown | (rw [List.map_append]; exact hown)
            have hl0 : (E4).length = 48 := by rw [hE0, List.length_append]; have h1 := HLD.out; have h2 := p.hs; have h3 := p.hd; first | omega | (simp only [List.length_cons, List.length_nil] at h1 ⊢; omega)
            obtain ⟨A4, c4, rfl, _, _, _⟩ := Rd.of_own hoE rfl
            replace K0 := Lib.hid (bk_keep bb hx0 K0.out)
            replace HR := Lib.hid (HR.out.below bb (Nat.le_refl _))
            replace F := Lib.hid (F.out.trans (bb.mono hn0))
            replace sW := Nat.le_trans sW bb.size
            replace HO := Lib.hid hoE
            replace HLD := Lib.hid hl0
            have HE4 := Lib.hid hE0
            clear ba bb hE0 hoE hl0 hown hgrow
            try clear c32 c33 c34 c35 c36 c37 c38 c39
            have HEF : Hid (E4 ++ l = pkB p l) := Lib.hid (by rw [HE4.out, HEE.out]; unfold pkB moreB; rw [← HSS'.out, HFB.out, HFG.out]; simp)
            clear HEE HFG HE4
            have c32 := (bk_cell K0.out 32).trans (pkC_hops p A l.length c); have c33 := (bk_cell K0.out 33).trans (pkC_al p A l.length c); have c34 := (bk_cell K0.out 34).trans (pkC_fi p A l.length c); have c35 := (bk_cell K0.out 35).trans (pkC_fid p A l.length c)
            have c36 := (bk_cell K0.out 36).trans (pkC_fo p A l.length c); have c37 := (bk_cell K0.out 37).trans (pkC_fm p A l.length c); have c38 := (bk_cell K0.out 38).trans (pkC_nx p A l.length c); have c39 := (bk_cell K0.out 39).trans (pkC_body p A l.length c)
            rw [HFI.out] at c34; rw [HAL.out] at c33
            go_wp2_with (at_builtin; refine append_rd rfl _ _ rfl n0 (.slice A4 (E4).length c4) (E4).length ((E4).map B) rfl HO.out A l c rfl HA.out (HR.out.mono sW) (by rw [HLD.out]; omega) sW ?_)
            intro v9 w7 hown hgrow
            have bb : Below n0 (w6) w7 := (Below.refl _ _).grown hgrow sW (fun k hk => (HO.out.lt k hk).1)
            have hoE : w7.ownsRow n0 5 1 v9 (pkB p l).length ((pkB p l).map B) := by rw [← HEF.out, List.length_append]; first | exact hown | (rw [List.map_append]; exact hown)
            obtain ⟨A7, c7, rfl, _, _, hle⟩ := Rd.of_own hoE rfl
            have F7 := Lib.hid (F.out.trans (bb.mono hn0))
            have HG := Lib.hid (World.ownsRow.mono hoE hn0)
            clear bb hoE hown hgrow hle K0 HR F HO HLD HEF c32 c33 c34 c35 c36 c37 c38 c39
            go_wp2_with fail
            go_ret2
            rw [← HX.out]
            exact ⟨by unfold PutGot; rw [hbd.out]; exact ⟨A7, c7, rfl, HX.out ▸ HG.out⟩, HX.out ▸ F7.out⟩
          | false =>
            obtain ⟨W, hW⟩ : ∃ W, W = y := ⟨_, rfl⟩
            have HW : Hid (W = pword p) := Lib.hid (by unfold pword; rw [hfm, hW, hy]; simp [Nat.mul_comm])
            rw [hfm] at c37
            have hW16 : W ≤ 65535 := by omega
            rw [← hW] at g2
            clear hW hy hfm hy16 y
            obtain ⟨x0, hx0'⟩ : ∃ x, x = UInt8.ofNat (W / 256) := ⟨_, rfl⟩
            obtain ⟨x1, hx1'⟩ : ∃ x, x = UInt8.ofNat W := ⟨_, rfl⟩
            obtain ⟨i0, hi0⟩ : ∃ x, x = UInt8.ofNat (p.fid / 16777216) := ⟨_, rfl⟩
            obtain ⟨i1, hi1⟩ : ∃ x, x = UInt8.ofNat (p.fid / 65536) := ⟨_, rfl⟩
            obtain ⟨i2, hi2⟩ : ∃ x, x = UInt8.ofNat (p.fid / 256) := ⟨_, rfl⟩
            obtain ⟨i3, hi3⟩ : ∃ x, x = UInt8.ofNat p.fid := ⟨_, rfl⟩
            have k0 : (W : Int) / 256 = (x0.toNat : Int) := by rw [hx0', UInt8.toNat_ofNat']; omega
            have k0' : (W : Int).tdiv 256 = (x0.toNat : Int) := by rw [Int.tdiv_eq_ediv_of_nonneg (by omega)]; exact k0
            have k1 : (W : Int) % 256 = (x1.toNat : Int) := by rw [hx1', UInt8.toNat_ofNat']; omega
            have k1' : (W : Int).tmod 256 = (x1.toNat : Int) := by rw [Int.tmod_eq_emod_of_nonneg (by omega)]; exact k1
            have z0 : IntKind.i64.wrap (x0.toNat : Int) = (x0.toNat : Int) := by have := x0.toNat_lt; rw [IntKind.wrap_i64]; omega
            have z1 : IntKind.i64.wrap (x1.toNat : Int) = (x1.toNat : Int) := by have := x1.toNat_lt; rw [IntKind.wrap_i64]; omega
            have z2 : IntKind.u8.wrap (x0.toNat : Int) = (x0.toNat : Int) := by have := x0.toNat_lt; rw [IntKind.wrap_u8]; omega
            have z3 : IntKind.u8.wrap (x1.toNat : Int) = (x1.toNat : Int) := by have := x1.toNat_lt; rw [IntKind.wrap_u8]; omega
            have j0 : (p.fid : Int) / 16777216 = (i0.toNat : Int) := by rw [hi0, UInt8.toNat_ofNat']; omega
            have j1 : (p.fid : Int) / 65536 % 256 = (i1.toNat : Int) := by rw [hi1, UInt8.toNat_ofNat']; omega
            have j2 : (p.fid : Int) / 256 % 256 = (i2.toNat : Int) := by rw [hi2, UInt8.toNat_ofNat']; omega
            have j3 : (p.fid : Int) % 256 = (i3.toNat : Int) := by rw [hi3, UInt8.toNat_ofNat']; omega
            obtain ⟨nx, hnx⟩ : ∃ x, x = p.nx := ⟨_, rfl⟩
            rw [← hnx] at c38
            have HFG : Hid (fragB p = [nx, 0, x0, x1, i0, i1, i2, i3]) := Lib.hid (by unfold fragB; rw [HFI.out, if_pos rfl, ← HW.out, nb2', nb4', hx0', hx1', hi0, hi1, hi2, hi3, hnx]; rfl)
            clear hx0' hx1' hi0 hi1 hi2 hi3 hnx HW
            go_wp2_with (at_builtin; refine append_rd rfl _ _ rfl n0 (.slice A2 (E2).length c2) (E2).length ((E2).map B) rfl (HO.out.alloc _) (some ⟨(w4).heap.size, 0, none⟩) [nx, 0, x0, x1, i0, i1, i2, i3] 8 rfl (fun h => by cases h) (Rd.lit w4 [nx, 0, x0, x1, i0, i1, i2, i3] 5) (by rw [HLD.out]; simp) (by simp; omega) ?_)
            intro v9 w6 hown hgrow
            have ba : Below n0 (w4) (((w4).alloc (.cells (List.map B [nx, 0, x0, x1, i0, i1, i2, i3]).toArray 5 (0, 0)))) := by
              (repeat (first | exact Below.refl _ _ | assumption | refine Below.drew ?_ | refine bdrewN ?_ _ | refine Below.alloc ?_ (by first | omega | (simp <;> omega) | (simp only [World.size_alloc] <;> omega)) _ | refine below_setRow ?_ (by first | omega | (simp <;> omega)) _ | refine Below.setCell ?_ (by first | omega | (simp <;> omega)) _))
            have bb : Below n0 (w4) w6 := ba.trans ((Below.refl _ _).grown hgrow (by first | exact sW | (simp; omega)) (fun k hk => (HO.out.lt k hk).1))
            obtain ⟨E4, hE0⟩ : ∃ E : List UInt8, E = E2 ++ [nx, 0, x0, x1, i0, i1, i2, i3] := ⟨_, rfl⟩
            have hoE : (w6).ownsRow n0 5 1 v9 (E4).length ((E4).map B) := by rw [hE0, List.length_append]; first | exact hown | (rw [List.map_append]; exact hown)
            have hl0 : (E4).length = 48 := by rw [hE0, List.length_append]; have h1 := HLD.out; have h2 := p.hs; have h3 := p.hd; first | omega | (simp only [List.length_cons, List.length_nil] at h1 ⊢; omega)
            obtain ⟨A4, c4, rfl, _, _, _⟩ := Rd.of_own hoE rfl
            replace K0 := Lib.hid (bk_keep bb hx0 K0.out)
            replace HR := Lib.hid (HR.out.below bb (Nat.le_refl _))
            replace F := Lib.hid (F.out.trans (bb.mono hn0))
            replace sW := Nat.le_trans sW bb.size
            replace HO := Lib.hid hoE
            replace HLD := Lib.hid hl0
            have HE4 := Lib.hid hE0
            clear ba bb hE0 hoE hl0 hown hgrow
            try clear c32 c33 c34 c35 c36 c37 c38 c39
            have HEF : Hid (E4 ++ l = pkB p l) := Lib.hid (by rw [HE4.out, HEE.out]; unfold pkB moreB; rw [← HSS'.out, HFB.out, HFG.out]; simp)
            clear HEE HFG HE4
            have c32 := (bk_cell K0.out 32).trans (pkC_hops p A l.length c); have c33 := (bk_cell K0.out 33).trans (pkC_al p A l.length c); have c34 := (bk_cell K0.out 34).trans (pkC_fi p A l.length c); have c35 := (bk_cell K0.out 35).trans (pkC_fid p A l.length c)
            have c36 := (bk_cell K0.out 36).trans (pkC_fo p A l.length c); have c37 := (bk_cell K0.out 37).trans (pkC_fm p A l.length c); have c38 := (bk_cell K0.out 38).trans (pkC_nx p A l.length c); have c39 := (bk_cell K0.out 39).trans (pkC_body p A l.length c)
            rw [HFI.out] at c34; rw [HAL.out] at c33
            go_wp2_with (at_builtin; refine append_rd rfl _ _ rfl n0 (.slice A4 (E4).length c4) (E4).length ((E4).map B) rfl HO.out A l c rfl HA.out (HR.out.mono sW) (by rw [HLD.out]; omega) sW ?_)
            intro v9 w7 hown hgrow
            have bb : Below n0 (w6) w7 := (Below.refl _ _).grown hgrow sW (fun k hk => (HO.out.lt k hk).1)
            have hoE : w7.ownsRow n0 5 1 v9 (pkB p l).length ((pkB p l).map B) := by rw [← HEF.out, List.length_append]; first | exact hown | (rw [List.map_append]; exact hown)
            obtain ⟨A7, c7, rfl, _, _, hle⟩ := Rd.of_own hoE rfl
            have F7 := Lib.hid (F.out.trans (bb.mono hn0))
            have HG := Lib.hid (World.ownsRow.mono hoE hn0)
            clear bb hoE hown hgrow hle K0 HR F HO HLD HEF c32 c33 c34 c35 c36 c37 c38 c39
            go_wp2_with fail
            go_ret2
            rw [← HX.out]
            exact ⟨by unfold PutGot; rw [hbd.out]; exact ⟨A7, c7, rfl, HX.out ▸ HG.out⟩, HX.out ▸ F7.out⟩
  | false =>
    have HFI := Lib.hid hfi
    obtain ⟨pn, hpn⟩ : ∃ x, x = p.nx := ⟨_, rfl⟩
    have HF0 : Hid (first0 p = pn) := Lib.hid (by unfold first0; rw [hfi, hpn]; rfl)
    cases hal : p.al with
    | true =>
      have HAL := Lib.hid hal
      obtain ⟨S1, hS1⟩ : ∃ S, S = l.length + 8 := ⟨_, rfl⟩
      have e1 : IntKind.i64.wrap ((l.length : Int) + 8) = (S1 : Int) := by rw [IntKind.wrap_i64]; omega
      have HSS : Hid (S1 = (moreB p).length + l.length) := Lib.hid (by rw [ML.out, hfi, hal, hS1]; simp; omega)
      have HSS' : Hid (S1 = (alertB p ++ fragB p).length + l.length) := HSS
      have HFB : Hid (firstB p = 0) := Lib.hid (by unfold firstB; rw [hal]; rfl)
      clear hfi hal hS1 ML
      have c32 := (bk_cell K0.out 32).trans (pkC_hops p A l.length c); have c33 := (bk_cell K0.out 33).trans (pkC_al p A l.length c); have c34 := (bk_cell K0.out 34).trans (pkC_fi p A l.length c); have c35 := (bk_cell K0.out 35).trans (pkC_fid p A l.length c)
      have c36 := (bk_cell K0.out 36).trans (pkC_fo p A l.length c); have c37 := (bk_cell K0.out 37).trans (pkC_fm p A l.length c); have c38 := (bk_cell K0.out 38).trans (pkC_nx p A l.length c); have c39 := (bk_cell K0.out 39).trans (pkC_body p A l.length c)
      rw [HFI.out] at c34; rw [HAL.out] at c33
      rw [← hpn] at c38
      clear hpn
      go_upto_region 10 with fail
      by_cases hbig : 65535 < S1
      · have d1 : decide ((65535 : Int) < (S1 : Int)) = true := by simp; omega
        have d2 : decide (65535 < S1) = true := by simp; omega
        have hbd : Hid (pkBad p l = true) := Lib.hid (by unfold pkBad; rw [← HSS.out, d2]; rfl)
        go_wp2_with fail
        go_ret2
        exact ⟨by unfold PutGot; rw [if_pos hbd.out]; rfl, F.out⟩
      · have d1 : decide ((65535 : Int) < (S1 : Int)) = false := by simp; omega
        have d2 : decide (65535 < S1) = false := by simp; omega
        have hbd : Hid (pkBad p l = false) := Lib.hid (by unfold pkBad; rw [← HSS.out, d2, HFI.out]; rfl)
        obtain ⟨xa, hxa⟩ : ∃ x, x = UInt8.ofNat (S1 / 256) := ⟨_, rfl⟩
        obtain ⟨xb, hxb⟩ : ∃ x, x = UInt8.ofNat (S1) := ⟨_, rfl⟩
        have ea : (S1 : Int) / 256 = (xa.toNat : Int) := by rw [hxa, UInt8.toNat_ofNat']; omega
        have ea' : (S1 : Int).tdiv 256 = (xa.toNat : Int) := by rw [Int.tdiv_eq_ediv_of_nonneg (by omega)]; exact ea
        have eb : (S1 : Int) % 256 = (xb.toNat : Int) := by rw [hxb, UInt8.toNat_ofNat']; omega
        have eb' : (S1 : Int).tmod 256 = (xb.toNat : Int) := by rw [Int.tmod_eq_emod_of_nonneg (by omega)]; exact eb
        have wa : IntKind.i64.wrap (xa.toNat : Int) = (xa.toNat : Int) := by have := xa.toNat_lt; rw [IntKind.wrap_i64]; omega
        have wb' : IntKind.i64.wrap (xb.toNat : Int) = (xb.toNat : Int) := by have := xb.toNat_lt; rw [IntKind.wrap_i64]; omega
        have wa' : IntKind.u8.wrap (xa.toNat : Int) = (xa.toNat : Int) := by have := xa.toNat_lt; rw [IntKind.wrap_u8]; omega
        have wb'' : IntKind.u8.wrap (xb.toNat : Int) = (xb.toNat : Int) := by have := xb.toNat_lt; rw [IntKind.wrap_u8]; omega
        have HXX : Hid ([xa, xb] = nb 2 S1) := Lib.hid (by rw [nb2', hxa, hxb])
        clear hxa hxb
        obtain ⟨hp, hhp⟩ : ∃ h, h = p.hops := ⟨_, rfl⟩
        rw [← hhp] at c32
        have HHP := Lib.hid hhp
        clear hhp
        obtain ⟨w2, hw2⟩ : ∃ w2, w2 = w1.alloc (.cells (List.map B [96, 0, 0, 0, xa, xb, 0, hp]).toArray 5 (0, 0)) := ⟨_, rfl⟩
        have HO : Hid (w2.ownsRow n0 5 1 (.slice (some ⟨w1.heap.size, 0, none⟩) 8 8) 8 (List.map B [96, 0, 0, 0, xa, xb, 0, hp])) := Lib.hid (by rw [hw2]; exact (own_lit (w := w1) [96, 0, 0, 0, xa, xb, 0, hp] (by simp)).mono sW)
        have HLD : Hid (([96, 0, 0, 0, xa, xb, 0, hp] : List UInt8).length = 8) := Lib.hid rfl
        have b8 : Below n0 w1 w2 := by
          rw [hw2]
          (repeat (first | exact Below.refl _ _ | assumption | refine Below.drew ?_ | refine bdrewN ?_ _ | refine Below.alloc ?_ (by first | omega | (simp <;> omega) | (simp only [World.size_alloc] <;> omega)) _ | refine below_setRow ?_ (by first | omega | (simp <;> omega)) _ | refine Below.setCell ?_ (by first | omega | (simp <;> omega)) _))
        have K2 := Lib.hid (bk_keep b8 hx0 K0.out)
        have HR2 := Lib.hid (HR.out.below b8 (Nat.le_refl _))
        have F2 := Lib.hid (F.out.trans (b8.mono hn0))
        have sW2 := Nat.le_trans sW b8.size
        go_upto_region 13 with fail
        clear c32 c33 c34 c35 c36 c37 c38 c39 ea ea' eb eb' wa wb' wa' wb'' b8 K0 HR F sW
        generalize hg : w1.alloc _ = w2'
        obtain rfl : w2 = w2' := hw2.trans hg
        clear hg hw2
        have K0 := K2; have HR := HR2; have F := F2; have sW := sW2
        clear K2 HR2 F2 sW2
        go_wp2_with (at_builtin; refine append_rd rfl _ _ rfl n0 (.slice (some ⟨w1.heap.size, 0, none⟩) 8 8) 8 _ rfl HO.out (some ⟨x, 0, none⟩) p.src 16 (by rw [p.hs]; rfl) (fun h => by cases h) (Rd.src K0.out (bk_lt K0.out)) (by rw [p.hs]; omega) sW ?_)
        intro v9 w3 hown hgrow
        have ba : Below n0 (w2) (w2) := by
          (repeat (first | exact Below.refl _ _ | assumption | refine Below.drew ?_ | refine bdrewN ?_ _ | refine Below.alloc ?_ (by first | omega | (simp <;> omega) | (simp only [World.size_alloc] <;> omega)) _ | refine below_setRow ?_ (by first | omega | (simp <;> omega)) _ | refine Below.setCell ?_ (by first | omega | (simp <;> omega)) _))
        have bb : Below n0 (w2) w3 := ba.trans ((Below.refl _ _).grown hgrow (by first | exact sW | (simp; omega)) (fun k hk => (HO.out.lt k hk).1))
        obtain ⟨E1, hE0⟩ : ∃ E : List UInt8, E = [96, 0, 0, 0, xa, xb, 0, hp] ++ p.src := ⟨_, rfl⟩
        have hoE : (w3).ownsRow n0 5 1 v9 (E1).length ((E1).map B) := by rw [hE0, List.length_append]; first | exact hown | (rw [List.map_append]; exact hown)
        have hl0 : (E1).length = 24 := by rw [hE0, List.length_append]; have h1 := HLD.out; have h2 := p.hs; have h3 := p.hd; first | omega | (simp only [List.length_cons, List.length_nil] at h1 ⊢; omega)
        obtain ⟨A1, c1, rfl, _, _, _⟩ := Rd.of_own hoE rfl
        replace K0 := Lib.hid (bk_keep bb hx0 K0.out)
        replace HR := Lib.hid (HR.out.below bb (Nat.le_refl _))
        replace F := Lib.hid (F.out.trans (bb.mono hn0))
        replace sW := Nat.le_trans sW bb.size
        replace HO := Lib.hid hoE
        replace HLD := Lib.hid hl0
        have HE1 := Lib.hid hE0
        clear ba bb hE0 hoE hl0 hown hgrow
        try clear c32 c33 c34 c35 c36 c37 c38 c39
        go_wp2_with (at_builtin; refine append_rd rfl _ _ rfl n0 (.slice A1 E1.length c1) E1.length (E1.map B) rfl HO.out (some ⟨x, 16, none⟩) p.dst 16 (by rw [p.hd]; rfl) (fun h => by cases h) (Rd.dst K0.out (bk_lt K0.out)) (by rw [p.hd, HLD.out]; omega) sW ?_)
        intro v9 w4 hown hgrow
        have ba : Below n0 (w3) (w3) := by
          (repeat (first | exact Below.refl _ _ | assumption | refine Below.drew ?_ | refine bdrewN ?_ _ | refine Below.alloc ?_ (by first | omega | (simp <;> omega) | (simp only [World.size_alloc] <;> omega)) _ | refine below_setRow ?_ (by first | omega | (simp <;> omega)) _ | refine Below.setCell ?_ (by first | omega | (simp <;> omega)) _))
        have bb : Below n0 (w3) w4 := ba.trans ((Below.refl _ _).grown hgrow (by first | exact sW | (simp; omega)) (fun k hk => (HO.out.lt k hk).1))
        obtain ⟨E2, hE0⟩ : ∃ E : List UInt8, E = E1 ++ p.dst := ⟨_, rfl⟩
        have hoE : (w4).ownsRow n0 5 1 v9 (E2).length ((E2).map B) := by rw [hE0, List.length_append]; first | exact hown | (rw [List.map_append]; exact hown)
        have hl0 : (E2).length = 40 := by rw [hE0, List.length_append]; have h1 := HLD.out; have h2 := p.hs; have h3 := p.hd; first | omega | (simp only [List.length_cons, List.length_nil] at h1 ⊢; omega)
        obtain ⟨A2, c2, rfl, _, _, _⟩ := Rd.of_own hoE rfl
        replace K0 := Lib.hid (bk_keep bb hx0 K0.out)
        replace HR := Lib.hid (HR.out.below bb (Nat.le_refl _))
        replace F := Lib.hid (F.out.trans (bb.mono hn0))
        replace sW := Nat.le_trans sW bb.size
        replace HO := Lib.hid hoE
        replace HLD := Lib.hid hl0
        have HE2 := Lib.hid hE0
        clear ba bb hE0 hoE hl0 hown hgrow
        try clear c32 c33 c34 c35 c36 c37 c38 c39
        have c32 := (bk_cell K0.out 32).trans (pkC_hops p A l.length c); have c33 := (bk_cell K0.out 33).trans (pkC_al p A l.length c); have c34 := (bk_cell K0.out 34).trans (pkC_fi p A l.length c); have c35 := (bk_cell K0.out 35).trans (pkC_fid p A l.length c)
        have c36 := (bk_cell K0.out 36).trans (pkC_fo p A l.length c); have c37 := (bk_cell K0.out 37).trans (pkC_fm p A l.length c); have c38 := (bk_cell K0.out 38).trans (pkC_nx p A l.length c); have c39 := (bk_cell K0.out 39).trans (pkC_body p A l.length c)
        rw [HFI.out] at c34; rw [HAL.out] at c33
        go_wp2_with (at_builtin; refine append_rd rfl _ _ rfl n0 (.slice A2 E2.length c2) E2.length (E2.map B) rfl (HO.out.alloc _) (some ⟨w4.heap.size, 0, none⟩) [pn, 0, 5, 2, 0, 0, 1, 0] 8 rfl (fun h => by cases h) (Rd.lit w4 [pn, 0, 5, 2, 0, 0, 1, 0] 5) (by rw [HLD.out]; simp) (by simp; omega) ?_)
        intro v9 w5 hown hgrow
        have ba : Below n0 (w4) ((w4.alloc (.cells (List.map B [pn, 0, 5, 2, 0, 0, 1, 0]).toArray 5 (0, 0)))) := by
          (repeat (first | exact Below.refl _ _ | assumption | refine Below.drew ?_ | refine bdrewN ?_ _ | refine Below.alloc ?_ (by first | omega | (simp <;> omega) | (simp only [World.size_alloc] <;> omega)) _ | refine below_setRow ?_ (by first | omega | (simp <;> omega)) _ | refine Below.setCell ?_ (by first | omega | (simp <;> omega)) _))
        have bb : Below n0 (w4) w5 := ba.trans ((Below.refl _ _).grown hgrow (by first | exact sW | (simp; omega)) (fun k hk => (HO.out.lt k hk).1))
        obtain ⟨E3, hE0⟩ : ∃ E : List UInt8, E = E2 ++ [pn, 0, 5, 2, 0, 0, 1, 0] := ⟨_, rfl⟩
        have hoE : (w5).ownsRow n0 5 1 v9 (E3).length ((E3).map B) := by rw [hE0, List.length_append]; first | exact hown | (rw [List.map_append]; exact hown)
        have hl0 : (E3).length = 48 := by rw [hE0, List.length_append]; have h1 := HLD.out; have h2 := p.hs; have h3 := p.hd; first | omega | (simp only [List.length_cons, List.length_nil] at h1 ⊢; omega)
        obtain ⟨A3, c3, rfl, _, _, _⟩ := Rd.of_own hoE rfl
        replace K0 := Lib.hid (bk_keep bb hx0 K0.out)
        replace HR := Lib.hid (HR.out.below bb (Nat.le_refl _))
        replace F := Lib.hid (F.out.trans (bb.mono hn0))
        replace sW := Nat.le_trans sW bb.size
        replace HO := Lib.hid hoE
        replace HLD := Lib.hid hl0
        have HE3 := Lib.hid hE0
        clear ba bb hE0 hoE hl0 hown hgrow
        try clear c32 c33 c34 c35 c36 c37 c38 c39
        have HEE : Hid (E3 = [96, 0, 0, 0] ++ nb 2 S1 ++ [0, p.hops] ++ p.src ++ p.dst ++ alertB p) := Lib.hid (by rw [HE3.out, HE2.out, HE1.out, ← HXX.out, ← HHP.out]; unfold alertB; rw [HAL.out, HF0.out]; simp)
        clear HE1 HE2 HE3 HXX HHP
        have HEF : Hid (E3 ++ l = pkB p l) := Lib.hid (by rw [HEE.out]; unfold pkB moreB; rw [← HSS'.out, HFB.out]; unfold fragB; rw [HFI.out]; simp)
        clear HEE
        have c32 := (bk_cell K0.out 32).trans (pkC_hops p A l.length c); have c33 := (bk_cell K0.out 33).trans (pkC_al p A l.length c); have c34 := (bk_cell K0.out 34).trans (pkC_fi p A l.length c); have c35 := (bk_cell K0.out 35).trans (pkC_fid p A l.length c)
        have c36 := (bk_cell K0.out 36).trans (pkC_fo p A l.length c); have c37 := (bk_cell K0.out 37).trans (pkC_fm p A l.length c); have c38 := (bk_cell K0.out 38).trans (pkC_nx p A l.length c); have c39 := (bk_cell K0.out 39).trans (pkC_body p A l.length c)
        rw [HFI.out] at c34; rw [HAL.out] at c33
        go_wp2_with (at_builtin; refine append_rd rfl _ _ rfl n0 (.slice A3 (E3).length c3) (E3).length ((E3).map B) rfl HO.out A l c rfl HA.out (HR.out.mono sW) (by rw [HLD.out]; omega) sW ?_)
        intro v9 w7 hown hgrow
        have bb : Below n0 (w5) w7 := (Below.refl _ _).grown hgrow sW (fun k hk => (HO.out.lt k hk).1)
        have hoE : w7.ownsRow n0 5 1 v9 (pkB p l).length ((pkB p l).map B) := by rw [← HEF.out, List.length_append]; first | exact hown | (rw [List.map_append]; exact hown)
        obtain ⟨A7, c7, rfl, _, _, hle⟩ := Rd.of_own hoE rfl
        have F7 := Lib.hid (F.out.trans (bb.mono hn0))
        have HG := Lib.hid (World.ownsRow.mono hoE hn0)
        clear bb hoE hown hgrow hle K0 HR F HO HLD HEF c32 c33 c34 c35 c36 c37 c38 c39
        go_wp2_with fail
        go_ret2
        rw [← HX.out]
        exact ⟨by unfold PutGot; rw [hbd.out]; exact ⟨A7, c7, rfl, HX.out ▸ HG.out⟩, HX.out ▸ F7.out⟩
    | false =>
      have HAL := Lib.hid hal
      have HSS : Hid (l.length = (moreB p).length + l.length) := Lib.hid (by rw [ML.out, hfi, hal]; simp)
      have HSS' : Hid (l.length = (alertB p ++ fragB p).length + l.length) := HSS
      have HFB : Hid (firstB p = pn) := Lib.hid (by unfold firstB; rw [hal]; exact HF0.out)
      clear hfi hal ML
      have c32 := (bk_cell K0.out 32).trans (pkC_hops p A l.length c); have c33 := (bk_cell K0.out 33).trans (pkC_al p A l.length c); have c34 := (bk_cell K0.out 34).trans (pkC_fi p A l.length c); have c35 := (bk_cell K0.out 35).trans (pkC_fid p A l.length c)
      have c36 := (bk_cell K0.out 36).trans (pkC_fo p A l.length c); have c37 := (bk_cell K0.out 37).trans (pkC_fm p A l.length c); have c38 := (bk_cell K0.out 38).trans (pkC_nx p A l.length c); have c39 := (bk_cell K0.out 39).trans (pkC_body p A l.length c)
      rw [HFI.out] at c34; rw [HAL.out] at c33
      rw [← hpn] at c38
      clear hpn
      go_upto_region 10 with fail
      by_cases hbig : 65535 < l.length
      · have d1 : decide ((65535 : Int) < (l.length : Int)) = true := by simp; omega
        have d2 : decide (65535 < l.length) = true := by simp; omega
        have hbd : Hid (pkBad p l = true) := Lib.hid (by unfold pkBad; rw [← HSS.out, d2]; rfl)
        go_wp2_with fail
        go_ret2
        exact ⟨by unfold PutGot; rw [if_pos hbd.out]; rfl, F.out⟩
      · have d1 : decide ((65535 : Int) < (l.length : Int)) = false := by simp; omega
        have d2 : decide (65535 < l.length) = false := by simp; omega
        have hbd : Hid (pkBad p l = false) := Lib.hid (by unfold pkBad; rw [← HSS.out, d2, HFI.out]; rfl)
        obtain ⟨xa, hxa⟩ : ∃ x, x = UInt8.ofNat (l.length / 256) := ⟨_, rfl⟩
        obtain ⟨xb, hxb⟩ : ∃ x, x = UInt8.ofNat (l.length) := ⟨_, rfl⟩
        have ea : (l.length : Int) / 256 = (xa.toNat : Int) := by rw [hxa, UInt8.toNat_ofNat']; omega
        have ea' : (l.length : Int).tdiv 256 = (xa.toNat : Int) := by rw [Int.tdiv_eq_ediv_of_nonneg (by omega)]; exact ea
        have eb : (l.length : Int) % 256 = (xb.toNat : Int) := by rw [hxb, UInt8.toNat_ofNat']; omega
        have eb' : (l.length : Int).tmod 256 = (xb.toNat : Int) := by rw [Int.tmod_eq_emod_of_nonneg (by omega)]; exact eb
        have wa : IntKind.i64.wrap (xa.toNat : Int) = (xa.toNat : Int) := by have := xa.toNat_lt; rw [IntKind.wrap_i64]; omega
        have wb' : IntKind.i64.wrap (xb.toNat : Int) = (xb.toNat : Int) := by have := xb.toNat_lt; rw [IntKind.wrap_i64]; omega
        have wa' : IntKind.u8.wrap (xa.toNat : Int) = (xa.toNat : Int) := by have := xa.toNat_lt; rw [IntKind.wrap_u8]; omega
        have wb'' : IntKind.u8.wrap (xb.toNat : Int) = (xb.toNat : Int) := by have := xb.toNat_lt; rw [IntKind.wrap_u8]; omega
        have HXX : Hid ([xa, xb] = nb 2 l.length) := Lib.hid (by rw [nb2', hxa, hxb])
        clear hxa hxb
        obtain ⟨hp, hhp⟩ : ∃ h, h = p.hops := ⟨_, rfl⟩
        rw [← hhp] at c32
        have HHP := Lib.hid hhp
        clear hhp
        obtain ⟨w2, hw2⟩ : ∃ w2, w2 = w1.alloc (.cells (List.map B [96, 0, 0, 0, xa, xb, pn, hp]).toArray 5 (0, 0)) := ⟨_, rfl⟩
        have HO : Hid (w2.ownsRow n0 5 1 (.slice (some ⟨w1.heap.size, 0, none⟩) 8 8) 8 (List.map B [96, 0, 0, 0, xa, xb, pn, hp])) := Lib.hid (by rw [hw2]; exact (own_lit (w := w1) [96, 0, 0, 0, xa, xb, pn, hp] (by simp)).mono sW)
        have HLD : Hid (([96, 0, 0, 0, xa, xb, pn, hp] : List UInt8).length = 8) := Lib.hid rfl
        have b8 : Below n0 w1 w2 := by
          rw [hw2]
          (repeat (first | exact Below.refl _ _ | assumption | refine Below.drew ?_ | refine bdrewN ?_ _ | refine Below.alloc ?_ (by first | omega | (simp <;> omega) | (simp only [World.size_alloc] <;> omega)) _ | refine below_setRow ?_ (by first | omega | (simp <;> omega)) _ | refine Below.setCell ?_ (by first | omega | (simp <;> omega)) _))
        have K2 := Lib.hid (bk_keep b8 hx0 K0.out)
        have HR2 := Lib.hid (HR.out.below b8 (Nat.le_refl _))
        have F2 := Lib.hid (F.out.trans (b8.mono hn0))
        have sW2 := Nat.le_trans sW b8.size
        go_upto_region 13 with fail
        clear c32 c33 c34 c35 c36 c37 c38 c39 ea ea' eb eb' wa wb' wa' wb'' b8 K0 HR F sW
        generalize hg : w1.alloc _ = w2'
        obtain rfl : w2 = w2' := hw2.trans hg
        clear hg hw2
        have K0 := K2; have HR := HR2; have F := F2; have sW := sW2
        clear K2 HR2 F2 sW2
        go_wp2_with (at_builtin; refine append_rd rfl _ _ rfl n0 (.slice (some ⟨w1.heap.size, 0, none⟩) 8 8) 8 _ rfl HO.out (some ⟨x, 0, none⟩) p.src 16 (by rw [p.hs]; rfl) (fun h => by cases h) (Rd.src K0.out (bk_lt K0.out)) (by rw [p.hs]; omega) sW ?_)
        intro v9 w3 hown hgrow
        have ba : Below n0 (w2) (w2) := by
          (repeat (first | exact Below.refl _ _ | assumption | refine Below.drew ?_ | refine bdrewN ?_ _ | refine Below.alloc ?_ (by first | omega | (simp <;> omega) | (simp only [World.size_alloc] <;> omega)) _ | refine below_setRow ?_ (by first | omega | (simp <;> omega)) _ | refine Below.setCell ?_ (by first | omega | (simp <;> omega)) _))
        have bb : Below n0 (w2) w3 := ba.trans ((Below.refl _ _).grown hgrow (by first | exact sW | (simp; omega)) (fun k hk => (HO.out.lt k hk).1))
        obtain ⟨E1, hE0⟩ : ∃ E : List UInt8, E = [96, 0, 0, 0, xa, xb, pn, hp] ++ p.src := ⟨_, rfl⟩
        have hoE : (w3).ownsRow n0 5 1 v9 (E1).length ((E1).map B) := by rw [hE0, List.length_append]; first | exact hown | (rw [List.map_append]; exact hown)
        have hl0 : (E1).length = 24 := by rw [hE0, List.length_append]; have h1 := HLD.out; have h2 := p.hs; have h3 := p.hd; first | omega | (simp only [List.length_cons, List.length_nil] at h1 ⊢; omega)
        obtain ⟨A1, c1, rfl, _, _, _⟩ := Rd.of_own hoE rfl
        replace K0 := Lib.hid (bk_keep bb hx0 K0.out)
        replace HR := Lib.hid (HR.out.below bb (Nat.le_refl _))
        replace F := Lib.hid (F.out.trans (bb.mono hn0))
        replace sW := Nat.le_trans sW bb.size
        replace HO := Lib.hid hoE
        replace HLD := Lib.hid hl0
        have HE1 := Lib.hid hE0
        clear ba bb hE0 hoE hl0 hown hgrow
        try clear c32 c33 c34 c35 c36 c37 c38 c39
        go_wp2_with (at_builtin; refine append_rd rfl _ _ rfl n0 (.slice A1 E1.length c1) E1.length (E1.map B) rfl HO.out (some ⟨x, 16, none⟩) p.dst 16 (by rw [p.hd]; rfl) (fun h => by cases h) (Rd.dst K0.out (bk_lt K0.out)) (by rw [p.hd, HLD.out]; omega) sW ?_)
        intro v9 w4 hown hgrow
        have ba : Below n0 (w3) (w3) := by
          (repeat (first | exact Below.refl _ _ | assumption | refine Below.drew ?_ | refine bdrewN ?_ _ | refine Below.alloc ?_ (by first | omega | (simp <;> omega) | (simp only [World.size_alloc] <;> omega)) _ | refine below_setRow ?_ (by first | omega | (simp <;> omega)) _ | refine Below.setCell ?_ (by first | omega | (simp <;> omega)) _))
        have bb : Below n0 (w3) w4 := ba.trans ((Below.refl _ _).grown hgrow (by first | exact sW | (simp; omega)) (fun k hk => (HO.out.lt k hk).1))
        obtain ⟨E2, hE0⟩ : ∃ E : List UInt8, E = E1 ++ p.dst := ⟨_, rfl⟩
        have hoE : (w4).ownsRow n0 5 1 v9 (E2).length ((E2).map B) := by rw [hE0, List.length_append]; first | exact hown | (rw [List.map_append]; exact hown)
        have hl0 : (E2).length = 40 := by rw [hE0, List.length_append]; have h1 := HLD.out; have h2 := p.hs; have h3 := p.hd; first | omega | (simp only [List.length_cons, List.length_nil] at h1 ⊢; omega)
        obtain ⟨A2, c2, rfl, _, _, _⟩ := Rd.of_own hoE rfl
        replace K0 := Lib.hid (bk_keep bb hx0 K0.out)
        replace HR := Lib.hid (HR.out.below bb (Nat.le_refl _))
        replace F := Lib.hid (F.out.trans (bb.mono hn0))
        replace sW := Nat.le_trans sW bb.size
        replace HO := Lib.hid hoE
        replace HLD := Lib.hid hl0
        have HE2 := Lib.hid hE0
        clear ba bb hE0 hoE hl0 hown hgrow
        try clear c32 c33 c34 c35 c36 c37 c38 c39
        have HEE : Hid (E2 = [96, 0, 0, 0] ++ nb 2 l.length ++ [pn, p.hops] ++ p.src ++ p.dst ++ alertB p) := Lib.hid (by rw [HE2.out, HE1.out, ← HXX.out, ← HHP.out]; unfold alertB; rw [HAL.out]; simp)
        clear HE1 HE2 HXX HHP
        have HEF : Hid (E2 ++ l = pkB p l) := Lib.hid (by rw [HEE.out]; unfold pkB moreB; rw [← HSS'.out, HFB.out]; unfold fragB; rw [HFI.out]; simp)
        clear HEE
        have c32 := (bk_cell K0.out 32).trans (pkC_hops p A l.length c); have c33 := (bk_cell K0.out 33).trans (pkC_al p A l.length c); have c34 := (bk_cell K0.out 34).trans (pkC_fi p A l.length c); have c35 := (bk_cell K0.out 35).trans (pkC_fid p A l.length c)
        have c36 := (bk_cell K0.out 36).trans (pkC_fo p A l.length c); have c37 := (bk_cell K0.out 37).trans (pkC_fm p A l.length c); have c38 := (bk_cell K0.out 38).trans (pkC_nx p A l.length c); have c39 := (bk_cell K0.out 39).trans (pkC_body p A l.length c)
        rw [HFI.out] at c34; rw [HAL.out] at c33
        go_wp2_with (at_builtin; refine append_rd rfl _ _ rfl n0 (.slice A2 (E2).length c2) (E2).length ((E2).map B) rfl HO.out A l c rfl HA.out (HR.out.mono sW) (by rw [HLD.out]; omega) sW ?_)
        intro v9 w7 hown hgrow
        have bb : Below n0 (w4) w7 := (Below.refl _ _).grown hgrow sW (fun k hk => (HO.out.lt k hk).1)
        have hoE : w7.ownsRow n0 5 1 v9 (pkB p l).length ((pkB p l).map B) := by rw [← HEF.out, List.length_append]; first | exact hown | (rw [List.map_append]; exact hown)
        obtain ⟨A7, c7, rfl, _, _, hle⟩ := Rd.of_own hoE rfl
        have F7 := Lib.hid (F.out.trans (bb.mono hn0))
        have HG := Lib.hid (World.ownsRow.mono hoE hn0)
        clear bb hoE hown hgrow hle K0 HR F HO HLD HEF c32 c33 c34 c35 c36 c37 c38 c39
        go_wp2_with fail
        go_ret2
        rw [← HX.out]
        exact ⟨by unfold PutGot; rw [hbd.out]; exact ⟨A7, c7, rfl, HX.out ▸ HG.out⟩, HX.out ▸ F7.out⟩
end Go.Proofs.Ytbfiakikhkiefaa
