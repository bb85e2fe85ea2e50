import Derived.Test.YtjimmfbjhkoekaaMgU
import Derived.Deep.DeepCutAuto
/- IcmpsAgain, walked. -/
namespace Go.Proofs.Ytjimmfbjhkoekaa
open Go.RowKit
set_option maxRecDepth 100000
set_option maxHeartbeats 2000000
theorem mZ_ok (w : World) : MvOk w w.heap.size (mZ 0 0) := ⟨Rd.nil, fun _ => ⟨rfl, rfl⟩, Nat.le_refl _, by decide, ⟨Rws.nil, fun x hx => by simp [mZ] at hx⟩, Nat.le_refl _, by decide, Rws.nil, fun z hz => by simp [mZ] at hz, Nat.le_refl _, by decide, Rws.nil, fun r hr => by simp [mZ] at hr, Nat.le_refl _, by decide, by decide, by decide, by decide, by decide, by decide⟩
theorem mZ_big : Big (mZ 0 0) := ⟨by decide, by decide, by decide, fun r hr => by simp [mZ] at hr, by decide, fun x hx => by simp [mZ] at hx⟩
theorem icmpsAgain_out (src dst : List UInt8) (A : Option Addr) (n c : Nat) (w : World) (h1 : src.length = 16) (h2 : dst.length = 16) (hl : 6000 < n ∨ n < 4) :
    Calls Try.prog 6 #[av (src ++ dst), .slice A n c] w fun e w' => e = .returned (.bool true) ∧ Below w.heap.size w w' := by
  obtain ⟨E, hE⟩ : ∃ E, E = src ++ dst := ⟨_, rfl⟩
  have q0 : sl E 0 16 = src := by rw [hE]; exact sl_src h1
  have q1 : sl E 16 16 = dst := by rw [hE]; exact sl_dst h1 h2
  have qn : E.length = 32 := by rw [hE, List.length_append]; omega
  rw [← hE]
  clear hE
  have b0 : Below w.heap.size w (w.alloc (.cells (List.map B E).toArray 25)) := (by (repeat (first | exact Below.refl _ _ | assumption | refine Below.drew ?_ | refine bdrewN ?_ _ | refine Below.alloc ?_ (by first | omega | (simp <;> omega) | (simp only [World.size_alloc] <;> omega)) _ | refine below_setRow ?_ (by first | omega | (simp <;> omega)) _ | refine Below.setCell ?_ (by first | omega | (simp <;> omega)) _)))
  have F8 := Lib.hid b0
  clear b0
  by_cases h6 : 6000 < n
  · have d1 : decide ((n : Int) > 6000) = true := by simp; omega
    have d1' : decide (6000 < n) = true := by simp; omega
    clear hl
    go_enter Try.func6, Try.ntmps6
    go_wp2_with fail
    refine (lives11_any _).mono ?_
    rintro e w9 ⟨rfl, b9⟩
    go_wp2_with fail
    go_ret
    exact ⟨rfl, F8.out.trans (b9.mono F8.out.size)⟩
  · have d1 : decide ((n : Int) > 6000) = false := by simp; omega
    have d1' : decide (6000 < n) = false := by simp; omega
    have d2 : decide ((n : Int) < 4) = true := by simp; omega
    have d2' : decide (n < 4) = true := by simp; omega
    clear hl
    go_enter Try.func6, Try.ntmps6
    go_wp2_with fail
    refine (lives11_any _).mono ?_
    rintro e w9 ⟨rfl, b9⟩
    go_wp2_with fail
    go_ret
    exact ⟨rfl, F8.out.trans (b9.mono F8.out.size)⟩
theorem icmpsAgain_walk (src dst : List UInt8) (A : Option Addr) (l : List UInt8) (c : Nat) (w : World) (h1 : src.length = 16) (h2 : dst.length = 16) (h : Rd w w.heap.size A l) (hA : A = none → l = [] ∧ c = 0) (hl : l.length ≤ 6000) (h4 : 4 ≤ l.length) :
    Calls Try.prog 6 #[av (src ++ dst), .slice A l.length c] w fun e w' => e = .returned (.bool true) ∧ Below w.heap.size w w' := by
  have RI := Lib.hid h; have HA := Lib.hid hA
  clear h hA
  obtain ⟨E, hE⟩ : ∃ E, E = src ++ dst := ⟨_, rfl⟩
  have q0 : sl E 0 16 = src := by rw [hE]; exact sl_src h1
  have q1 : sl E 16 16 = dst := by rw [hE]; exact sl_dst h1 h2
  have qn : E.length = 32 := by rw [hE, List.length_append]; omega
  rw [← hE]
  clear hE
  obtain ⟨k, hk⟩ : ∃ k, k = l.length := ⟨_, rfl⟩
  have HLL : Hid (l.length = k) := Lib.hid hk.symm
  rw [← hk] at hl h4 ⊢
  clear hk
  have d1 : decide ((k : Int) > 6000) = false := by simp; omega
  have d1' : decide (6000 < k) = false := by simp; omega
  have d2 : decide ((k : Int) < 4) = false := by simp; omega
  have d2' : decide (k < 4) = false := by simp; omega
  go_enter Try.func6, Try.ntmps6
  go_upto_region 1 with fail
  have a0 : Below w.heap.size w (w.alloc (.cells (List.map B E).toArray 25)) := (by (repeat (first | exact Below.refl _ _ | assumption | refine Below.drew ?_ | refine bdrewN ?_ _ | refine Below.alloc ?_ (by first | omega | (simp <;> omega) | (simp only [World.size_alloc] <;> omega)) _ | refine below_setRow ?_ (by first | omega | (simp <;> omega)) _ | refine Below.setCell ?_ (by first | omega | (simp <;> omega)) _)))
  have KE : Hid (bk (w.alloc (.cells (List.map B E).toArray 25)) w.heap.size = some (.cells (List.map B E).toArray 25 (0, 0))) := Lib.hid (bk_alloc_at _ _ _ rfl)
  have F := Lib.hid a0
  have RL : Hid (Rd (w.alloc (.cells (List.map B E).toArray 25)) (w.alloc (.cells (List.map B E).toArray 25)).heap.size A l) := Lib.hid ((RI.out.below a0 (Nat.le_refl _)).mono a0.size)
  clear a0
  generalize w.alloc (.cells (List.map B E).toArray 25) = w0 at *
  have n0 := bk_lt KE.out
  go_upto_region 3 with fail
  go_wp2_with (at_builtin; refine append_rd rfl _ _ rfl (w0).heap.size (.slice none 0 0) 0 [] rfl (World.ownsRow_nil _ _ _ _) (A) l (c) (by rw [HLL.out]; rfl) (HA.out) RL.out (by rw [HLL.out]; omega) (Nat.le_refl _) ?_)
  intro v3 w3 hown hgrow
  have b3 : Below (w0).heap.size w0 w3 := (Below.refl _ _).grown hgrow (Nat.le_refl _) (fun k hk => by simp [Value.ownBlock] at hk)
  obtain ⟨g3, c3, rfl, hg3, hby3, hc3, _⟩ := (Own.of (L := l) hown (by omega)).by (by have := HLL.out; omega)
  rw [HLL.out] at hc3 ⊢
  have BP := Lib.hid hby3
  have F3 := Lib.hid (F.out.trans (b3.mono F.out.size))
  have KE3 := Lib.hid (bk_keep b3 (bk_lt KE.out) KE.out)
  skip
  have u2 : ∃ x, w3.cell? ⟨g3, 2, none⟩ = some (B x) := ⟨_, hby3.cell (List.getElem?_eq_getElem (by have := HLL.out; omega))⟩
  have u3 : ∃ x, w3.cell? ⟨g3, 3, none⟩ = some (B x) := ⟨_, hby3.cell (List.getElem?_eq_getElem (by have := HLL.out; omega))⟩
  obtain ⟨x2, u2⟩ := u2
  obtain ⟨x3, u3⟩ := u3
  have z2 := hby3.frozen 2; have z3 := hby3.frozen 3
  have i2 : 2 < k := by omega
  have i3 : 3 < k := by omega
  have i2' : (2 : Int) < (k : Int) := by omega
  have i3' : (3 : Int) < (k : Int) := by omega
  have l3 := hby3.lt
  have hwg3 : w.heap.size < g3 := by omega
  clear hown hgrow b3 hby3
  go_upto_region 6 with fail
  have hne : ¬ w.heap.size = g3 := by omega
  have BQ := Lib.hid (show By ((w3.setCell ⟨g3, 2, none⟩ (.int .u8 0)).setCell ⟨g3, 3, none⟩ (.int .u8 0)) g3 ((l.set 2 0).set 3 0) from (BP.out.set 2 0).set 3 0)
  replace KE3 := Lib.hid (show bk ((w3.setCell ⟨g3, 2, none⟩ (.int .u8 0)).setCell ⟨g3, 3, none⟩ (.int .u8 0)) w.heap.size = some (.cells (List.map B E).toArray 25 (0, 0)) by rw [bk_setCell_other _ _ _ _ _ hne, bk_setCell_other _ _ _ _ _ hne]; exact KE3.out)
  skip
  replace F3 := Lib.hid ((F3.out.setCell (p := ⟨g3, 2, none⟩) (show w.heap.size ≤ g3 by omega) (.int .u8 0)).setCell (p := ⟨g3, 3, none⟩) (show w.heap.size ≤ g3 by omega) (.int .u8 0))
  obtain ⟨M, hM⟩ : ∃ M, M = (l.set 2 0).set 3 0 := ⟨_, rfl⟩
  rw [← hM] at BQ
  have hMl : M.length = k := by rw [hM]; simp [HLL.out]
  have HM := Lib.hid hM; have HML := Lib.hid hMl
  clear hM hMl u2 u3 z2 z3 BP l3
  generalize (w3.setCell ⟨g3, 2, none⟩ (.int .u8 0)).setCell ⟨g3, 3, none⟩ (.int .u8 0) = w4 at *
  have l4 := BQ.out.lt
  have CO := over_any src dst 58 (some ⟨g3, 0, none⟩) M c3 w4 h1 h2 BQ.out.rd (by rw [HML.out]; omega)
  rw [HML.out] at CO
  have HCO := Lib.hid CO
  have ke := KE3.out
  have le := bk_lt ke
  clear CO
  go_wp2_with fail
  refine HCO.out.mono ?_
  rintro e w5 ⟨rfl, b5⟩
  replace F3 := Lib.hid (F3.out.trans (b5.mono F3.out.size))
  replace KE3 := Lib.hid (bk_keep b5 le ke)
  skip
  have BR := Lib.hid (BQ.out.keep b5)
  have u2 : ∃ x, w5.cell? ⟨g3, 2, none⟩ = some (B x) := ⟨_, BR.out.cell (List.getElem?_eq_getElem (by have := HML.out; omega))⟩
  have u3 : ∃ x, w5.cell? ⟨g3, 3, none⟩ = some (B x) := ⟨_, BR.out.cell (List.getElem?_eq_getElem (by have := HML.out; omega))⟩
  obtain ⟨x4, u2⟩ := u2
  obtain ⟨x5, u3⟩ := u3
  have z2 := BR.out.frozen 2; have z3 := BR.out.frozen 3
  have l5 := BR.out.lt
  have hS : sumOf (ovr src dst 58 M) ≤ 65535 := by unfold sumOf; omega
  obtain ⟨SM, hSM⟩ : ∃ S, S = sumOf (ovr src dst 58 M) := ⟨_, rfl⟩
  rw [← hSM] at hS
  rw [← hSM]
  have HS' := Lib.hid hSM
  clear hSM HCO b5 ke le BQ l4
  go_upto_region 9 with fail
  have BS : Hid (By ((w5.setCell ⟨g3, 2, none⟩ (.int .u8 ((SM : Int) / 256))).setCell ⟨g3, 3, none⟩ (.int .u8 ((SM : Int) % 256))) g3 (fixc src dst 58 2 l)) := Lib.hid (by
    have o := (BR.out.set 2 (UInt8.ofNat (SM / 256))).set 3 (UInt8.ofNat SM)
    have e : fixc src dst 58 2 l = (M.set 2 (UInt8.ofNat (SM / 256))).set 3 (UInt8.ofNat SM) := by unfold fixc; rw [HS'.out, HM.out]
    have e6 : B (UInt8.ofNat (SM / 256)) = .int .u8 ((SM : Int) / 256) := by unfold B; rw [UInt8.toNat_ofNat']; congr 1; omega
    have e7 : B (UInt8.ofNat SM) = .int .u8 ((SM : Int) % 256) := by unfold B; rw [UInt8.toNat_ofNat']; congr 1
    rw [e]
    rw [e6, e7] at o
    exact o)
  replace KE3 := Lib.hid (show bk ((w5.setCell ⟨g3, 2, none⟩ (.int .u8 ((SM : Int) / 256))).setCell ⟨g3, 3, none⟩ (.int .u8 ((SM : Int) % 256))) w.heap.size = some (.cells (List.map B E).toArray 25 (0, 0)) by rw [bk_setCell_other _ _ _ _ _ hne, bk_setCell_other _ _ _ _ _ hne]; exact KE3.out)
  skip
  replace F3 := Lib.hid ((F3.out.setCell (p := ⟨g3, 2, none⟩) (show w.heap.size ≤ g3 by omega) (.int .u8 ((SM : Int) / 256))).setCell (p := ⟨g3, 3, none⟩) (show w.heap.size ≤ g3 by omega) (.int .u8 ((SM : Int) % 256)))
  obtain ⟨P, hP⟩ : ∃ P, P = fixc src dst 58 2 l := ⟨_, rfl⟩
  rw [← hP] at BS
  have hPl : P.length = k := by rw [hP, fixc_length, HLL.out]
  have HP := Lib.hid hP; have HPL := Lib.hid hPl
  clear hP hPl u2 u3 z2 z3 BR l5 hS HS' HM HML
  generalize (w5.setCell ⟨g3, 2, none⟩ (.int .u8 ((SM : Int) / 256))).setCell ⟨g3, 3, none⟩ (.int .u8 ((SM : Int) % 256)) = w6 at *
  have CG := getm_any src dst h1 h2 (some ⟨g3, 0, none⟩) P c3 w6 BS.out.rd (fun e => by cases e) (by rw [HPL.out]; exact hc3) (by rw [HPL.out]; omega) (by have := BS.out.lt; omega)
  rw [HPL.out] at CG
  have HCG := Lib.hid CG
  have ke := KE3.out
  have le := bk_lt ke
  clear CG
  go_wp2_with fail
  refine HCG.out.mono ?_
  rintro e w7 ⟨hget, b7⟩
  replace F3 := Lib.hid (F3.out.trans (b7.mono F3.out.size))
  replace KE3 := Lib.hid (bk_keep b7 le ke)
  have BT := Lib.hid (BS.out.keep b7)
  skip
  clear HCG ke le b7
  have hP4 : 4 ≤ P.length := by rw [HPL.out]; exact h4
  have hsum : sumOf (ovr src dst 58 P) = 0 := by rw [HP.out]; exact fixc_good h1 h2 (by decide) (by decide) (by rw [HLL.out]; omega)
  have HG := Lib.hid (good_get hget hP4 hsum)
  clear hget d1 d1' d2 d2' hP4 hsum
  rcases HG.out with ⟨E', rfl, hE, _⟩ | ⟨m', q, rfl, hok, hpl, hkk, hgs⟩
  · clear HG BT BS
    go_upto_region 10 with fail
    generalize hW8 : World.alloc w7 _ = W8
    have b8 : Below w7.heap.size w7 W8 := by rw [← hW8]; exact (by (repeat (first | exact Below.refl _ _ | assumption | refine Below.drew ?_ | refine bdrewN ?_ _ | refine Below.alloc ?_ (by first | omega | (simp <;> omega) | (simp only [World.size_alloc] <;> omega)) _ | refine below_setRow ?_ (by first | omega | (simp <;> omega)) _ | refine Below.setCell ?_ (by first | omega | (simp <;> omega)) _)))
    have ko := (show bk W8 w7.heap.size = some (.cells (mC (mZ 0 0)) 33 (0, 0)) by rw [← hW8]; exact bk_alloc_at _ _ _ rfl)
    have F8 := Lib.hid (F3.out.trans (b8.mono F3.out.size))
    have lo := bk_lt ko
    have CS := Lib.hid (sameMessage_any (mZ 0 0) (mZ 0 0) W8 (mZ_ok W8) (mZ_ok W8) rfl mZ_big)
    clear hW8 b8 F3 KE3
    have fin : Hid (∀ W9, Below W8.heap.size W8 W9 → Below w.heap.size w W9) := Lib.hid fun W9 h => F8.out.trans (h.mono F8.out.size)
    clear F8
    rcases hE with rfl | rfl | rfl
    ·
      go_wp2_with fail
      refine CS.out.mono ?_
      rintro e w12 ⟨rfl, b12⟩
      clear CS
      go_wp2_with fail
      refine (lives11_any _).mono ?_
      rintro e w13 ⟨rfl, b13⟩
      go_wp2_with fail
      go_ret
      exact ⟨rfl, fin.out _ (b12.trans (b13.mono b12.size))⟩
    ·
      go_wp2_with fail
      refine CS.out.mono ?_
      rintro e w12 ⟨rfl, b12⟩
      clear CS
      go_wp2_with fail
      refine (lives11_any _).mono ?_
      rintro e w13 ⟨rfl, b13⟩
      go_wp2_with fail
      go_ret
      exact ⟨rfl, fin.out _ (b12.trans (b13.mono b12.size))⟩
    ·
      go_wp2_with fail
      refine CS.out.mono ?_
      rintro e w12 ⟨rfl, b12⟩
      clear CS
      go_wp2_with fail
      refine (lives11_any _).mono ?_
      rintro e w13 ⟨rfl, b13⟩
      go_wp2_with fail
      go_ret
      exact ⟨rfl, fin.out _ (b12.trans (b13.mono b12.size))⟩
  · have hL29 : (P.drop 4).length < 2 ^ 29 := by rw [List.length_drop, HPL.out]; omega
    obtain ⟨hsm, hbig⟩ := got_sizes hok hpl hgs hL29
    have hwf := hok.wf
    obtain ⟨ga1, ga2, ga3⟩ := get_again hkk (by rw [← hpl]; exact hwf) hgs
    rw [← hpl] at ga1 ga2 ga3
    have hlim := hok.lim
    have OK7 := Lib.hid hok; have SM7 := Lib.hid hsm; have BG7 := Lib.hid hbig; have WF7 := Lib.hid hwf; have LM7 := Lib.hid hlim; have OM7 := Lib.hid ga1; have OW7 := Lib.hid ga2
    have hDL : (putB src dst m'.pl).length ≤ k := by rw [putB_len]; rw [List.length_drop, HPL.out] at ga3; omega
    have hD4 : 4 ≤ (putB src dst m'.pl).length := by rw [putB_len]; omega
    obtain ⟨D, hD⟩ : ∃ D, D = putB src dst m'.pl := ⟨_, rfl⟩
    rw [← hD] at hDL hD4
    have HD := Lib.hid hD
    clear HG BT BS hL29 hsm hbig hwf ga1 ga2 ga3 hlim hD hok hpl hkk hgs
    go_upto_region 10 with fail
    generalize hW8 : World.alloc w7 _ = W8
    have b8 : Below w7.heap.size w7 W8 := by rw [← hW8]; exact (by (repeat (first | exact Below.refl _ _ | assumption | refine Below.drew ?_ | refine bdrewN ?_ _ | refine Below.alloc ?_ (by first | omega | (simp <;> omega) | (simp only [World.size_alloc] <;> omega)) _ | refine below_setRow ?_ (by first | omega | (simp <;> omega)) _ | refine Below.setCell ?_ (by first | omega | (simp <;> omega)) _)))
    have ko := (show bk W8 w7.heap.size = some (.cells (mC m') 33 (0, 0)) by rw [← hW8]; exact bk_alloc_at _ _ _ rfl)
    have OK8 := Lib.hid ((OK7.out.below b8 (Nat.le_refl _)).mono b8.size)
    have F8 := Lib.hid (F3.out.trans (b8.mono F3.out.size))
    have ke8 := bk_keep b8 (bk_lt KE3.out) KE3.out
    have lo := bk_lt ko; have le8 := bk_lt ke8
    have KO8 := Lib.hid ko; have KE8 := Lib.hid ke8
    clear hW8 b8 F3 KE3 OK7
    have CP := Lib.hid (putm_good src dst h1 h2 m' W8 OK8.out SM7.out OM7.out)
    go_wp2_with fail
    refine CP.out.mono ?_
    rintro e w9 ⟨hput, b9⟩
    clear CP ko ke8
    unfold PutM at hput
    rw [if_pos OM7.out, ← HD.out] at hput
    obtain ⟨A9, rfl, hown⟩ := hput
    obtain ⟨g9, c9, ev, hgn9, hby9, hle9, _⟩ := hown.by (by omega)
    cases ev
    have F9 := Lib.hid (F8.out.trans (b9.mono F8.out.size))
    have ko9 := bk_keep b9 lo KO8.out; have ke9 := bk_keep b9 le8 KE8.out
    have OK9 := Lib.hid ((OK8.out.below b9 (Nat.le_refl _)).mono b9.size)
    have lo9 := bk_lt ko9; have le9 := bk_lt ke9
    have KO9 := Lib.hid ko9; have KE9 := Lib.hid ke9
    have CG := Lib.hid (getm_any src dst h1 h2 (some ⟨g9, 0, none⟩) D D.length w9 hby9.rd (fun e => by cases e) (Nat.le_refl _) (by omega) (by omega))
    clear hown hby9 hle9 b9 F8 KO8 KE8 OK8 lo le8
    go_wp2_with fail
    refine CG.out.mono ?_
    rintro e w10 ⟨hget, b10⟩
    rw [HD.out] at hget
    obtain ⟨mo, rfl, hoko, hplo⟩ := back_get h1 h2 WF7.out LM7.out OM7.out hget
    rw [OW7.out] at hplo
    clear CG ke9 ko9
    have F10 := Lib.hid (F9.out.trans (b10.mono F9.out.size))
    have KO10 := Lib.hid (bk_keep b10 lo9 KO9.out)
    have OK10 := Lib.hid ((OK9.out.below b10 (Nat.le_refl _)).mono b10.size)
    have OKO10 := Lib.hid hoko; have HPO := Lib.hid hplo
    clear hget b10 F9 KO9 KE9 OK9 lo9 le9 hoko hplo
    go_upto_region 14 with fail
    generalize hW11 : World.alloc w10 _ = W11
    have b11 : Below w10.heap.size w10 W11 := by rw [← hW11]; exact (by (repeat (first | exact Below.refl _ _ | assumption | refine Below.drew ?_ | refine bdrewN ?_ _ | refine Below.alloc ?_ (by first | omega | (simp <;> omega) | (simp only [World.size_alloc] <;> omega)) _ | refine below_setRow ?_ (by first | omega | (simp <;> omega)) _ | refine Below.setCell ?_ (by first | omega | (simp <;> omega)) _)))
    have kp := (show bk W11 w10.heap.size = some (.cells (mC mo) 33 (0, 0)) by rw [← hW11]; exact bk_alloc_at _ _ _ rfl)
    have ko := bk_keep b11 (bk_lt KO10.out) KO10.out
    have F11 := Lib.hid (F10.out.trans (b11.mono F10.out.size))
    have lo := bk_lt ko; have lp := bk_lt kp
    have CS := Lib.hid (sameMessage_any m' mo W11 ((OK10.out.below b11 (Nat.le_refl _)).mono b11.size) ((OKO10.out.below b11 (Nat.le_refl _)).mono b11.size) HPO.out.symm BG7.out)
    have dl : decide ((D.length : Int) ≤ (k : Int)) = true := by simp; omega
    have dl' : decide (D.length ≤ k) = true := by simp; omega
    have fin : Hid (∀ W9, Below W11.heap.size W11 W9 → Below w.heap.size w W9) := Lib.hid fun W9 h => F11.out.trans (h.mono F11.out.size)
    clear hW11 b11 F10 KO10 OK10 OKO10 F11
    go_wp2_with fail
    refine CS.out.mono ?_
    rintro e w12 ⟨rfl, b12⟩
    clear CS
    go_wp2_with fail
    refine (lives11_any _).mono ?_
    rintro e w13 ⟨rfl, b13⟩
    go_wp2_with fail
    go_ret
    exact ⟨rfl, fin.out _ (b12.trans (b13.mono b12.size))⟩
end Go.Proofs.Ytjimmfbjhkoekaa
