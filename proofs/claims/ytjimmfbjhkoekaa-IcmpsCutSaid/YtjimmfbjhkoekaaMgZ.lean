import Derived.Test.YtjimmfbjhkoekaaMgT
import Derived.Deep.DeepCutAuto
/- IcmpsCut, walked. -/
namespace Go.Proofs.Ytjimmfbjhkoekaa
open Go.RowKit
set_option maxRecDepth 100000
set_option maxHeartbeats 2000000
theorem kind_ne {a b : UInt8} (h : a ≠ b) : ((a.toNat : Int) != (b.toNat : Int)) = true := by
  rw [bne_iff_ne]
  intro e
  exact h (UInt8.toNat_inj.1 (by omega))
theorem icmpsCut_walk (src dst : List UInt8) (m : Mv) (at' : Nat) (w : World) (h1 : src.length = 16) (h2 : dst.length = 16) (hok : MvOk w w.heap.size m) (hb : Big m) (hat : at' < 65536) :
    Calls Try.prog 7 #[av (src ++ dst), .agg (mC m), .int .u16 (at' : Int)] w fun e w' => e = .returned (.bool true) ∧ Below w.heap.size w w' := by
  have OK := Lib.hid hok; have HB := Lib.hid hb
  clear hok hb
  obtain ⟨E, hE⟩ : ∃ E, E = src ++ dst := ⟨_, rfl⟩
  have q0 : sl E 0 16 = src := by rw [hE]; exact sl_src h1
  have q1 : sl E 16 16 = dst := by rw [hE]; exact sl_dst h1 h2
  have qn : E.length = 32 := by rw [hE, List.length_append]; omega
  rw [← hE]
  clear hE
  go_enter Try.func7, Try.ntmps7
  have a0 : Below w.heap.size w ((w.alloc (.cells (List.map B E).toArray 25)).alloc (.cells (mC m) 33)) := (by (repeat (first | exact Below.refl _ _ | assumption | refine Below.drew ?_ | refine bdrewN ?_ _ | refine Below.alloc ?_ (by first | omega | (simp <;> omega) | (simp only [World.size_alloc] <;> omega)) _ | refine below_setRow ?_ (by first | omega | (simp <;> omega)) _ | refine Below.setCell ?_ (by first | omega | (simp <;> omega)) _)))
  have KE : Hid (bk ((w.alloc (.cells (List.map B E).toArray 25)).alloc (.cells (mC m) 33)) w.heap.size = some (.cells (List.map B E).toArray 25 (0, 0))) := Lib.hid (by rw [bk_alloc_past _ _ _ (by simp)]; exact bk_alloc_at _ _ _ rfl)
  have KM : Hid (bk ((w.alloc (.cells (List.map B E).toArray 25)).alloc (.cells (mC m) 33)) (w.heap.size + 1) = some (.cells (mC m) 33 (0, 0))) := Lib.hid (bk_alloc_at _ _ _ (by simp))
  have F := Lib.hid a0
  clear a0
  go_upto_region 1 with fail
  generalize (w.alloc (.cells (List.map B E).toArray 25)).alloc (.cells (mC m) 33) = w0 at *
  have n0 := bk_lt KM.out
  have km := KM.out
  have CG := Lib.hid (great11_any m w0 ((OK.out.below F.out (Nat.le_refl _)).mono F.out.size) HB.out)
  go_wp2_with fail
  refine CG.out.mono ?_
  rintro e w1 ⟨b, rfl, hgr, b1⟩
  clear CG km
  cases b
  · obtain ⟨g1, g2⟩ := hgr rfl
    have hs := small_of g1 g2
    have HS := Lib.hid hs
    clear hgr g1 g2 hs
    replace F := Lib.hid (F.out.trans (b1.mono F.out.size))
    replace KE := Lib.hid (bk_keep b1 (bk_lt KE.out) KE.out); replace KM := Lib.hid (bk_keep b1 n0 KM.out)
    clear b1
    have n1 := bk_lt KM.out
    have km := KM.out; have ke := KE.out
    have CP := Lib.hid (putm_any src dst h1 h2 m w1 ((OK.out.below F.out (Nat.le_refl _)).mono F.out.size) HS.out)
    go_wp2_with fail
    refine CP.out.mono ?_
    rintro e w2 ⟨hput, b2⟩
    clear CP km ke
    replace F := Lib.hid (F.out.trans (b2.mono F.out.size))
    replace KE := Lib.hid (bk_keep b2 (bk_lt KE.out) KE.out); replace KM := Lib.hid (bk_keep b2 n1 KM.out)
    have n2 := bk_lt KM.out
    unfold PutM at hput
    by_cases hk : okM m.pl = true
    · rw [if_pos hk] at hput
      obtain ⟨A, rfl, hown⟩ := hput
      have hkk := okM_kind hk
      have hD4 := putB_len src dst m.pl
      have hD5 := partB_ge hk
      have hD6 := partB_le m HS.out OK.out (okM_may hk)
      have hwf := OK.out.wf
      obtain ⟨D, hD⟩ : ∃ D, D = putB src dst m.pl := ⟨_, rfl⟩
      rw [← hD] at hD4 hown
      rw [← hD]
      obtain ⟨g, c, ev, hgn, hby, _, _⟩ := hown.by (by omega)
      cases ev
      have hD8 : 8 ≤ D.length := by omega
      have hDm : D.length < 2 ^ 32 := by omega
      have hng : w.heap.size + 1 < g := by have := b2.size; omega
      have BY := Lib.hid hby; have HWF := Lib.hid hwf; have HD := Lib.hid hD; have HK := Lib.hid hk
      clear hown hby hD4 hD5 hD6 hgn b2 hwf hD
      have l5 : decide ((D.length : Int) < 5) = false := by simp; omega
      obtain ⟨N, hN⟩ : ∃ N, N = D.length - 4 := ⟨_, rfl⟩
      have e4 : IntKind.i64.wrap ((D.length : Int) - 4) = (N : Int) := by rw [IntKind.wrap_i64]; omega
      have hN0 : 0 < N := by omega
      obtain ⟨q, hq⟩ : ∃ q, q = at' % N := ⟨_, rfl⟩
      have hqN : q < N := by rw [hq]; exact Nat.mod_lt _ hN0
      have mq1 : (at' : Int).tmod (N : Int) = (q : Int) := by rw [hq, Int.tmod_eq_emod_of_nonneg (by omega)]; simp
      have mq2 : (at' : Int) % (N : Int) = (q : Int) := by rw [hq]; simp
      have nz : ((N : Int) == 0) = false := by rw [beq_eq_false_iff_ne]; omega
      obtain ⟨k, hkq⟩ : ∃ k, k = 4 + q := ⟨_, rfl⟩
      have ek : IntKind.i64.wrap (4 + (q : Int)) = (k : Int) := by rw [IntKind.wrap_i64]; omega
      have hk4 : 4 ≤ k := by omega
      have hkl : k < D.length := by omega
      have hkc : k ≤ D.length := by omega
      have hkc' : decide (k ≤ D.length) = true := by simp; omega
      have HN := Lib.hid hN; have HQ := Lib.hid hkq
      clear hq hkq hN
      go_upto_region 7 with fail
      clear e4 mq1 mq2 nz ek l5
      obtain ⟨L, hL⟩ : ∃ L, L = D.take k := ⟨_, rfl⟩
      have hLl : L.length = k := by rw [hL, List.length_take]; omega
      have RL : Hid (Rd w2 w2.heap.size (some ⟨g, 0, none⟩) L) := Lib.hid (by rw [hL]; exact BY.out.rd.tk k)
      have HL := Lib.hid hL; have HLL := Lib.hid hLl
      clear hL hLl
      go_wp2_with (at_builtin; refine append_rd rfl _ _ rfl (w2).heap.size (.slice none 0 0) 0 [] rfl (World.ownsRow_nil _ _ _ _) (some ⟨g, 0, none⟩) L (D.length) (by rw [HLL.out]; rfl) (fun e => by cases e) RL.out (by rw [HLL.out]; omega) (Nat.le_refl _) ?_)
      intro v3 w3 hown hgrow
      have b3 : Below (w2).heap.size w2 w3 := (Below.refl _ _).grown hgrow (Nat.le_refl _) (fun k hk => by simp [Value.ownBlock] at hk)
      obtain ⟨g3, c3, rfl, hg3, hby3, hc3, _⟩ := (Own.of (L := L) hown (by omega)).by (by have := HLL.out; omega)
      rw [HLL.out] at hc3 ⊢
      have BP := Lib.hid hby3
      have F3 := Lib.hid (F.out.trans (b3.mono F.out.size))
      have KE3 := Lib.hid (bk_keep b3 (bk_lt KE.out) KE.out)
      (have KM3 := Lib.hid (bk_keep b3 (bk_lt KM.out) KM.out); have hne1 : ¬ w.heap.size + 1 = g3 := by omega)
      have u2 : ∃ x, w3.cell? ⟨g3, 2, none⟩ = some (B x) := ⟨_, hby3.cell (List.getElem?_eq_getElem (by have := HLL.out; omega))⟩
      have u3 : ∃ x, w3.cell? ⟨g3, 3, none⟩ = some (B x) := ⟨_, hby3.cell (List.getElem?_eq_getElem (by have := HLL.out; omega))⟩
      obtain ⟨x2, u2⟩ := u2
      obtain ⟨x3, u3⟩ := u3
      have z2 := hby3.frozen 2; have z3 := hby3.frozen 3
      have i2 : 2 < k := by omega
      have i3 : 3 < k := by omega
      have i2' : (2 : Int) < (k : Int) := by omega
      have i3' : (3 : Int) < (k : Int) := by omega
      have l3 := hby3.lt
      have hwg3 : w.heap.size < g3 := by omega
      clear hown hgrow b3 hby3
      go_upto_region 10 with fail
      have hne : ¬ w.heap.size = g3 := by omega
      have BQ := Lib.hid (show By ((w3.setCell ⟨g3, 2, none⟩ (.int .u8 0)).setCell ⟨g3, 3, none⟩ (.int .u8 0)) g3 ((L.set 2 0).set 3 0) from (BP.out.set 2 0).set 3 0)
      replace KE3 := Lib.hid (show bk ((w3.setCell ⟨g3, 2, none⟩ (.int .u8 0)).setCell ⟨g3, 3, none⟩ (.int .u8 0)) w.heap.size = some (.cells (List.map B E).toArray 25 (0, 0)) by rw [bk_setCell_other _ _ _ _ _ hne, bk_setCell_other _ _ _ _ _ hne]; exact KE3.out)
      replace KM3 := Lib.hid (show bk ((w3.setCell ⟨g3, 2, none⟩ (.int .u8 0)).setCell ⟨g3, 3, none⟩ (.int .u8 0)) (w.heap.size + 1) = some (.cells (mC m) 33 (0, 0)) by rw [bk_setCell_other _ _ _ _ _ hne1, bk_setCell_other _ _ _ _ _ hne1]; exact KM3.out)
      replace F3 := Lib.hid ((F3.out.setCell (p := ⟨g3, 2, none⟩) (show w.heap.size ≤ g3 by omega) (.int .u8 0)).setCell (p := ⟨g3, 3, none⟩) (show w.heap.size ≤ g3 by omega) (.int .u8 0))
      obtain ⟨M, hM⟩ : ∃ M, M = (L.set 2 0).set 3 0 := ⟨_, rfl⟩
      rw [← hM] at BQ
      have hMl : M.length = k := by rw [hM]; simp [HLL.out]
      have HM := Lib.hid hM; have HML := Lib.hid hMl
      clear hM hMl u2 u3 z2 z3 BP l3
      generalize (w3.setCell ⟨g3, 2, none⟩ (.int .u8 0)).setCell ⟨g3, 3, none⟩ (.int .u8 0) = w4 at *
      have l4 := BQ.out.lt
      have CO := over_any src dst 58 (some ⟨g3, 0, none⟩) M c3 w4 h1 h2 BQ.out.rd (by rw [HML.out]; omega)
      rw [HML.out] at CO
      have HCO := Lib.hid CO
      have ke := KE3.out
      have le := bk_lt ke
      clear CO
      go_wp2_with fail
      refine HCO.out.mono ?_
      rintro e w5 ⟨rfl, b5⟩
      replace F3 := Lib.hid (F3.out.trans (b5.mono F3.out.size))
      replace KE3 := Lib.hid (bk_keep b5 le ke)
      replace KM3 := Lib.hid (bk_keep b5 (bk_lt KM3.out) KM3.out)
      have BR := Lib.hid (BQ.out.keep b5)
      have u2 : ∃ x, w5.cell? ⟨g3, 2, none⟩ = some (B x) := ⟨_, BR.out.cell (List.getElem?_eq_getElem (by have := HML.out; omega))⟩
      have u3 : ∃ x, w5.cell? ⟨g3, 3, none⟩ = some (B x) := ⟨_, BR.out.cell (List.getElem?_eq_getElem (by have := HML.out; omega))⟩
      obtain ⟨x4, u2⟩ := u2
      obtain ⟨x5, u3⟩ := u3
      have z2 := BR.out.frozen 2; have z3 := BR.out.frozen 3
      have l5 := BR.out.lt
      have hS : sumOf (ovr src dst 58 M) ≤ 65535 := by unfold sumOf; omega
      obtain ⟨SM, hSM⟩ : ∃ S, S = sumOf (ovr src dst 58 M) := ⟨_, rfl⟩
      rw [← hSM] at hS
      rw [← hSM]
      have HS' := Lib.hid hSM
      clear hSM HCO b5 ke le BQ l4
      go_upto_region 13 with fail
      have BS : Hid (By ((w5.setCell ⟨g3, 2, none⟩ (.int .u8 ((SM : Int) / 256))).setCell ⟨g3, 3, none⟩ (.int .u8 ((SM : Int) % 256))) g3 (fixc src dst 58 2 L)) := Lib.hid (by
        have o := (BR.out.set 2 (UInt8.ofNat (SM / 256))).set 3 (UInt8.ofNat SM)
        have e : fixc src dst 58 2 L = (M.set 2 (UInt8.ofNat (SM / 256))).set 3 (UInt8.ofNat SM) := by unfold fixc; rw [HS'.out, HM.out]
        have e6 : B (UInt8.ofNat (SM / 256)) = .int .u8 ((SM : Int) / 256) := by unfold B; rw [UInt8.toNat_ofNat']; congr 1; omega
        have e7 : B (UInt8.ofNat SM) = .int .u8 ((SM : Int) % 256) := by unfold B; rw [UInt8.toNat_ofNat']; congr 1
        rw [e]
        rw [e6, e7] at o
        exact o)
      replace KE3 := Lib.hid (show bk ((w5.setCell ⟨g3, 2, none⟩ (.int .u8 ((SM : Int) / 256))).setCell ⟨g3, 3, none⟩ (.int .u8 ((SM : Int) % 256))) w.heap.size = some (.cells (List.map B E).toArray 25 (0, 0)) by rw [bk_setCell_other _ _ _ _ _ hne, bk_setCell_other _ _ _ _ _ hne]; exact KE3.out)
      replace KM3 := Lib.hid (show bk ((w5.setCell ⟨g3, 2, none⟩ (.int .u8 ((SM : Int) / 256))).setCell ⟨g3, 3, none⟩ (.int .u8 ((SM : Int) % 256))) (w.heap.size + 1) = some (.cells (mC m) 33 (0, 0)) by rw [bk_setCell_other _ _ _ _ _ hne1, bk_setCell_other _ _ _ _ _ hne1]; exact KM3.out)
      replace F3 := Lib.hid ((F3.out.setCell (p := ⟨g3, 2, none⟩) (show w.heap.size ≤ g3 by omega) (.int .u8 ((SM : Int) / 256))).setCell (p := ⟨g3, 3, none⟩) (show w.heap.size ≤ g3 by omega) (.int .u8 ((SM : Int) % 256)))
      obtain ⟨P, hP⟩ : ∃ P, P = fixc src dst 58 2 L := ⟨_, rfl⟩
      rw [← hP] at BS
      have hPl : P.length = k := by rw [hP, fixc_length, HLL.out]
      have HP := Lib.hid hP; have HPL := Lib.hid hPl
      clear hP hPl u2 u3 z2 z3 BR l5 hS HS' HM HML
      generalize (w5.setCell ⟨g3, 2, none⟩ (.int .u8 ((SM : Int) / 256))).setCell ⟨g3, 3, none⟩ (.int .u8 ((SM : Int) % 256)) = w6 at *
      have CG := getm_any src dst h1 h2 (some ⟨g3, 0, none⟩) P c3 w6 BS.out.rd (fun e => by cases e) (by rw [HPL.out]; exact hc3) (by rw [HPL.out]; omega) (by have := BS.out.lt; omega)
      rw [HPL.out] at CG
      have HCG := Lib.hid CG
      have ke := KE3.out
      have le := bk_lt ke
      clear CG
      go_wp2_with fail
      refine HCG.out.mono ?_
      rintro e w7 ⟨hget, b7⟩
      replace F3 := Lib.hid (F3.out.trans (b7.mono F3.out.size))
      replace KE3 := Lib.hid (bk_keep b7 le ke)
      have BT := Lib.hid (BS.out.keep b7)
      replace KM3 := Lib.hid (bk_keep b7 (bk_lt KM3.out) KM3.out)
      clear HCG ke le b7
      have HG := Lib.hid hget
      clear hget
      rw [HP.out, HL.out, HD.out] at HG
      obtain ⟨mo, E', rfl, hcut⟩ := cut_get h1 h2 HWF.out HK.out hk4 (by rw [← HD.out]; exact hkl) HG.out
      clear HG
      go_upto_region 14 with fail
      generalize hW8 : World.alloc w7 _ = W8
      have b8 : Below w7.heap.size w7 W8 := by rw [← hW8]; exact (by (repeat (first | exact Below.refl _ _ | assumption | refine Below.drew ?_ | refine bdrewN ?_ _ | refine Below.alloc ?_ (by first | omega | (simp <;> omega) | (simp only [World.size_alloc] <;> omega)) _ | refine below_setRow ?_ (by first | omega | (simp <;> omega)) _ | refine Below.setCell ?_ (by first | omega | (simp <;> omega)) _)))
      have ko := (show bk W8 w7.heap.size = some (.cells (mC mo) 33 (0, 0)) by rw [← hW8]; exact bk_alloc_at _ _ _ rfl)
      have km := bk_keep b8 (bk_lt KM3.out) KM3.out
      have F8 := Lib.hid (F3.out.trans (b8.mono F3.out.size))
      have lo := bk_lt ko; have lm := bk_lt km
      have c0 := (bk_cell km 0).trans (mC_0 m)
      have c41 := (bk_cell km 41).trans (mC_41 m)
      have o3 := (bk_cell ko 3).trans (mC_3 mo)
      have o41 := (bk_cell ko 41).trans (mC_41 mo)
      obtain ⟨hc1, hc2⟩ := hcut
      have HC1 := Lib.hid hc1; have HC2 := Lib.hid hc2
      clear hc1 hc2 hW8 b8 BT KM3 KE3 F3 BS hk hkk
      by_cases h130 : m.kind < 130
      · have h130' := UInt8.lt_iff_toNat_lt.1 h130
        have d1 : decide ((m.kind.toNat : Int) < 130) = true := by simp; exact Int.ofNat_lt.2 h130'
        by_cases h8 : k < 8
        · have d2 : decide ((k : Int) < 8) = true := by simp; omega
          obtain rfl : E' = 5 := (HC1.out h130).1 h8
          go_wp2_with fail
          refine (lives11_any _).mono ?_
          rintro e w9 ⟨rfl, b9⟩
          go_wp2_with fail
          go_ret
          exact ⟨rfl, F8.out.trans (b9.mono F8.out.size)⟩
        · have d2 : decide ((k : Int) < 8) = false := by simp; omega
          obtain ⟨rfl, hdd⟩ : E' = 0 ∧ mo.dd.length = k - 8 := (HC1.out h130).2 (by omega)
          obtain ⟨K8, hK8⟩ : ∃ K, K = k - 8 := ⟨_, rfl⟩
          have e8 : IntKind.i64.wrap ((k : Int) - 8) = (K8 : Int) := by rw [IntKind.wrap_i64]; omega
          rw [hdd, ← hK8] at o3
          clear hdd hK8
          have eK : ((K8 : Int) == (K8 : Int)) = true := by simp
          go_wp2_with fail
          refine (lives11_any _).mono ?_
          rintro e w9 ⟨rfl, b9⟩
          go_wp2_with fail
          go_ret
          exact ⟨rfl, F8.out.trans (b9.mono F8.out.size)⟩
      · have h130' : ¬ m.kind.toNat < 130 := fun e => h130 (UInt8.lt_iff_toNat_lt.2 e)
        have d1 : decide ((m.kind.toNat : Int) < 130) = false := by simp; omega
        rcases HC2.out h130 with ⟨rfl, hlt, hn0, hn1⟩ | rfl | ⟨rfl, hn0, hn1⟩
        · have hlt' : mo.os.length < m.os.length := by simpa [Mv.pl] using hlt
          have d3 : decide ((mo.os.length : Int) < (m.os.length : Int)) = true := by simp; omega
          have d4 : ((m.kind.toNat : Int) != 130) = true := kind_ne (b := 130) hn0
          have d5 : ((m.kind.toNat : Int) != 143) = true := kind_ne (b := 143) hn1
          go_wp2_with fail
          refine (lives11_any _).mono ?_
          rintro e w9 ⟨rfl, b9⟩
          go_wp2_with fail
          go_ret
          exact ⟨rfl, F8.out.trans (b9.mono F8.out.size)⟩
        ·
          go_wp2_with fail
          refine (lives11_any _).mono ?_
          rintro e w9 ⟨rfl, b9⟩
          go_wp2_with fail
          go_ret
          exact ⟨rfl, F8.out.trans (b9.mono F8.out.size)⟩
        · have d4 : ((m.kind.toNat : Int) != 130) = true := kind_ne (b := 130) hn0
          have d5 : ((m.kind.toNat : Int) != 143) = true := kind_ne (b := 143) hn1
          go_wp2_with fail
          refine (lives11_any _).mono ?_
          rintro e w9 ⟨rfl, b9⟩
          go_wp2_with fail
          go_ret
          exact ⟨rfl, F8.out.trans (b9.mono F8.out.size)⟩
    · rw [if_neg hk] at hput
      subst hput
      go_wp2_with fail
      refine (lives11_any _).mono ?_
      rintro e w9 ⟨rfl, b9⟩
      go_wp2_with fail
      go_ret
      exact ⟨rfl, F.out.trans (b9.mono F.out.size)⟩
  · replace F := Lib.hid (F.out.trans (b1.mono F.out.size))
    clear b1
    go_wp2_with fail
    refine (lives11_any _).mono ?_
    rintro e w2 ⟨rfl, b2⟩
    go_wp2_with fail
    go_ret
    exact ⟨rfl, F.out.trans (b2.mono F.out.size)⟩
end Go.Proofs.Ytjimmfbjhkoekaa
