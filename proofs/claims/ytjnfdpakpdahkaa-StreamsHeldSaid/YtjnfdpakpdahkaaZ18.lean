/- Streams: what was written is held. -/
import Derived.Test.YtjnfdpakpdahkaaZ16
import Derived.Test.YtjnfdpakpdahkaaZ14
import Derived.Deep.RegionHeld3
namespace Go.Proofs.Ytjnfdpakpdahkaa
open Go.RowKit
set_option maxRecDepth 100000
set_option maxHeartbeats 2000000
attribute [local irreducible] Ac.row
theorem Tn.cell {G : Nat → Prop} {w w' : World} (h : Tn G w w') {b : Nat} (hb : b < w.heap.size) (hG : ¬ G b) (o : Nat) : w'.cell? ⟨b, o, none⟩ = w.cell? ⟨b, o, none⟩ :=
  World.cell?_of_block (a := ⟨b, o, none⟩) (h.old b hb hG)
theorem streamsHeld_walk (p : Nat) (A A2 : Option Addr) (l : List UInt8) (acts : List Ac) (c c2 : Nat) (w : World) (hp : p < m32) (hr : Rd w w.heap.size A l) (hA : A = none → l = [] ∧ c = 0) (hc : l.length ≤ c) (hl : l.length < 2 ^ 63) (hs : As w w.heap.size A2 acts) (hal : acts.length < 2 ^ 63) :
    Calls Try.prog 5 #[.int .u32 (p : Int), .slice A l.length c, .slice A2 acts.length c2] w fun e w' => e = .returned (.bool true) ∧ Below w.heap.size w w' := by
  have HR := Lib.hid hr; have HA := Lib.hid hA; have HS := Lib.hid hs; have HP := Lib.hid hp
  obtain ⟨L, hL⟩ : ∃ L, L = l.length := ⟨_, rfl⟩
  rw [← hL] at hc hl ⊢
  have HL := Lib.hid hL.symm
  have CG := Lib.hid (great_any A2 acts c2 w hs hal)
  clear hr hA hs hp hL
  go_enter Try.func5, Try.ntmps5
  go_wp2_with fail
  refine CG.out.mono ?_
  rintro e w1 ⟨b, rfl, _, b1⟩
  have B1 := Lib.hid b1
  have LV := Lib.hid (lives27_any w1)
  clear CG b1
  by_cases hb : b = true ∨ 12000 < L
  · have d1 : decide ((L : Int) > 12000) = decide (12000 < L) := Bool.eq_iff_iff.2 (by simp; omega)
    cases b
    · have d2 : decide ((L : Int) > 12000) = true := by simp at hb ⊢; omega
      clear hb d1
      go_wp2_with fail
      refine LV.out.mono ?_
      rintro e w2 ⟨rfl, b2⟩
      go_wp2_with fail
      go_ret
      exact ⟨rfl, B1.out.trans (b2.mono B1.out.size)⟩
    · clear hb d1
      go_wp2_with fail
      refine LV.out.mono ?_
      rintro e w2 ⟨rfl, b2⟩
      go_wp2_with fail
      go_ret
      exact ⟨rfl, B1.out.trans (b2.mono B1.out.size)⟩
  · obtain rfl : b = false := by cases b <;> simp_all
    have hL12 : L ≤ 12000 := by omega
    have d2 : decide ((L : Int) > 12000) = false := by simp; omega
    clear hb LV hl
    go_wp2_with fail
    refine (newout_any p w1 HP.out).mono ?_
    rintro e w2 ⟨rfl, O2, b2⟩
    obtain ⟨x, hx⟩ : ∃ x, x = w1.heap.size := ⟨_, rfl⟩
    rw [← hx] at O2 b2 ⊢
    have HO2 := Lib.hid O2
    have W2 := Lib.hid (show x ≤ w2.heap.size from hx ▸ b2.size)
    have B2 := Lib.hid (B1.out.trans ((hx ▸ b2).mono B1.out.size))
    have HX := Lib.hid (show w.heap.size ≤ x from hx ▸ B1.out.size)
    clear O2 b2 hx B1
    go_wp2_with fail
    have C3 := owrite_any x x (.slice none 0 0) ⟨p, [], false, false⟩ w2 HO2.out (Nat.le_of_lt (bk_lt HO2.out.box)) rfl A l c ((HR.out.below B2.out (Nat.le_refl _)).mono B2.out.size) HA.out (by rw [HL.out]; exact hc) (by rw [HL.out]; omega)
    obtain ⟨M, hM⟩ : ∃ M, M = On.takes ⟨p, [], false, false⟩ l := ⟨_, rfl⟩
    rw [← hM, HL.out] at C3
    have hM2 : M = min L 8192 := by rw [hM, ← HL.out]; rfl
    have hML : M ≤ L ∧ M ≤ 8192 := by omega
    have hmin : (if (8192 : Int) < (L : Int) then (8192 : Int) else (L : Int)) = (M : Int) := by subst hM2; split <;> omega
    obtain ⟨T, hT⟩ : ∃ T : List UInt8, T = l.take M := ⟨_, rfl⟩
    have hTl : T.length = M := by rw [hT, List.length_take]; have := HL.out; omega
    rw [show ([] ++ List.take M l : List UInt8) = T from hT.symm] at C3
    have HT := Lib.hid hT; have HTL := Lib.hid hTl
    clear hM hM2 hT hTl
    refine C3.mono ?_
    rintro e w3 ⟨rfl, v3, O3, V3, T3⟩
    have HO3 : Hid (OutB w3 x x v3 ⟨p, T, false, false⟩) := Lib.hid O3
    have B3 := Lib.hid (B2.out.trans (T3.below (fun k hk => Nat.le_trans HX.out (HO2.out.lt k hk).1) B2.out.size))
    clear C3 O3 V3 T3 HO2 W2 B2
    have CH := oheld_any x x v3 _ w3 HO3.out
    rw [show (⟨p, T, false, false⟩ : On).b.length = M from HTL.out] at CH
    have HCH := Lib.hid CH
    clear CH
    go_wp2_with fail
    refine HCH.out.mono ?_
    rintro e w4 ⟨rfl, rfl⟩
    clear HCH hmin
    go_wp2_with fail
    go_loopw [10, 11] (fun gv kv wr => ∃ (k gone : Nat) (v : Value), k ≤ acts.length ∧ gone ≤ M ∧ kv = .int .i64 (k : Int) ∧ gv = .int .i64 (gone : Int) ∧ Hid (OutB wr x x v ⟨(p + gone) % m32, T.drop gone, false, false⟩) ∧ Hid (Below w.heap.size w wr)) (fun _ kv _ => acts.length - (intOf kv).toNat)
    case atStart => exact ⟨0, 0, v3, by omega, by omega, rfl, rfl, by rw [Nat.add_zero, Nat.mod_eq_of_lt HP.out, List.drop_zero]; exact HO3, B3⟩
    case round =>
      clear HO3 B3
      obtain ⟨k, gone, v, hk, hg, rfl, rfl, HO, HB⟩ := hrel
      by_cases hlt : k < acts.length
      · have d3 : decide ((k : Int) < (acts.length : Int)) = true := by simp; omega
        have HSr := HS.out.below HB.out (Nat.le_refl _)
        obtain ⟨g, o, cc, t, fr, rfl, hgl, kc, hsz, hxt, hcel⟩ := HSr.at hlt
        clear hcel
        have hok := HSr.2 _ (List.getElem_mem hlt)
        obtain ⟨y, hy⟩ : ∃ y, y = acts[k] := ⟨_, rfl⟩
        rw [← hy] at hxt hok
        have lg := bk_lt kc
        have HOK := Lib.hid hok
        clear hok hy HSr
        go_upto_region 12 with fail
        rw [stRow_some _ _ _ _ _ _ _ _ (by simp) (Ac.row_size _) (Ac.row_ones _)]
        go_upto_region 12 with fail
        have a4 : Below wr.heap.size wr ((wr.alloc (.cells #[.int .u8 0, .int .u32 0, .slice none 0 0, .bool false, .int .i64 0] 34)).setRow wr.heap.size y.row) := below_setRow ((Below.refl _ _).alloc (Nat.le_refl _) _) (by simp) _
        have K4 : bk ((wr.alloc (.cells #[.int .u8 0, .int .u32 0, .slice none 0 0, .bool false, .int .i64 0] 34)).setRow wr.heap.size y.row) wr.heap.size = some (.cells y.row 34 (0, 0)) := by rw [bk_setRow_same, bk_alloc_at _ _ _ rfl]; rfl
        generalize (wr.alloc (.cells #[.int .u8 0, .int .u32 0, .slice none 0 0, .bool false, .int .i64 0] 34)).setRow wr.heap.size y.row = w5 at *
        have HB5 := Lib.hid (HB.out.trans (a4.mono HB.out.size))
        have HO5 := Lib.hid (HO.out.below a4)
        obtain ⟨bx, hbx⟩ : ∃ bx, bx = wr.heap.size := ⟨_, rfl⟩
        rw [← hbx] at K4 ⊢
        obtain ⟨e0, e1, e2, e3, e4⟩ := act_box K4
        have l5 := bk_lt K4
        have KX := Lib.hid K4
        obtain ⟨kd, hkd⟩ : ∃ kd, kd = y.kind.toNat % 3 := ⟨_, rfl⟩
        have hk1 : (y.kind.toNat : Int) % 3 = (kd : Int) := by omega
        have hk2 : (y.kind.toNat : Int).tmod 3 = (kd : Int) := by rw [Int.tmod_eq_emod_of_nonneg (by omega)]; exact hk1
        obtain ⟨a, hae⟩ : ∃ a, a = y.at' := ⟨_, rfl⟩
        have ha32 : a < 4294967296 := hae ▸ HOK.out.a32
        obtain ⟨z, hze⟩ : ∃ z, z = y.n := ⟨_, rfl⟩
        have hzl : -9223372036854775808 ≤ z := hze ▸ HOK.out.nlo
        have hzh : z ≤ 9223372036854775807 := by have := HOK.out.nhi; rw [← hze] at this; omega
        rw [← hae] at e1
        rw [← hze] at e4
        have hxb : bx ≠ x := fun e => by
          have h1 := HO5.out.box
          rw [← e, KX.out] at h1
          injection h1 with h1
          injection h1 with _ h2
          exact absurd h2 (by decide)
        have HO5b := HO5.out.f32
        obtain ⟨F, hF⟩ : ∃ F, F = (p + gone) % m32 := ⟨_, rfl⟩
        have hF32 : F < 4294967296 := hF ▸ Nat.mod_lt _ (by decide)
        have HF := Lib.hid hF
        rw [← hF] at HO5
        have hMg : (T.drop gone).length = M - gone := by rw [List.length_drop]; have := HTL.out; omega
        have HMg := Lib.hid hMg
        clear a4 HB HO hbx hkd kc hsz hxt lg K4 hgl hae hze e2 e3 HOK HO5b hF hMg KX
        by_cases hk0 : kd = 0
        · subst hk0
          obtain ⟨a2, ha2⟩ : ∃ a2, a2 = a % 200 := ⟨_, rfl⟩
          have hr1 : (a : Int) % 200 = (a2 : Int) := by omega
          have hr2 : (a : Int).tmod 200 = (a2 : Int) := by rw [Int.tmod_eq_emod_of_nonneg (by omega)]; exact hr1
          have ha200 : a2 < 200 := by omega
          obtain ⟨q, hq⟩ : ∃ q, q = (F + a2) % m32 := ⟨_, rfl⟩
          have hqI : ((F : Int) + (a2 : Int)) % 4294967296 = (q : Int) := by subst hq; unfold m32; omega
          have hq32 : q < m32 := hq ▸ Nat.mod_lt _ (by decide)
          have hdq : dist q F = a2 := by rw [hq]; exact dist_plus hF32 (by unfold m32; omega)
          have hqW : IntKind.u32.wrap ((F : Int) + (a2 : Int)) = (q : Int) := by rw [IntKind.wrap_u32]; exact hqI
          have e1d : w5.drew.cell? ⟨bx, 1, none⟩ = some (.int .u32 (a : Int)) := e1
          have l5d : bx < w5.drew.heap.size := l5
          have HD : Hid (OutB w5.drew x x v ⟨F, T.drop gone, false, false⟩) := Lib.hid (HO5.out.below (Below.refl _ _).drew)
          have BD : Hid (Below w.heap.size w w5.drew) := Lib.hid HB5.out.drew
          have CF := Lib.hid (ofirst_any x x v _ w5.drew HD.out)
          have hxd : x ≤ w5.drew.heap.size := Nat.le_of_lt (bk_lt HD.out.box)
          have lx5 := bk_lt HO5.out.box
          by_cases hle : a2 ≤ M - gone
          · obtain ⟨gone2, hg2⟩ : ∃ g2, g2 = gone + a2 := ⟨_, rfl⟩
            have hg2M : gone2 ≤ M := by omega
            have hgW : IntKind.i64.wrap ((gone : Int) + (a2 : Int)) = (gone2 : Int) := by rw [IntKind.wrap_i64]; omega
            have hqp : q = (p + gone2) % m32 := by rw [hq, HF.out, Nat.mod_add_mod, hg2, Nat.add_assoc]
            have hdd : (T.drop gone).drop a2 = T.drop gone2 := by rw [List.drop_drop, hg2]
            have CA := oack_yes x x v _ w5.drew HD.out hxd q hq32 (by show dist q F ≤ (T.drop gone).length; rw [hdq, HMg.out]; exact hle)
            simp only [hdq, hdd] at CA
            have HCA := Lib.hid CA
            have HQ := Lib.hid hq
            have hqI2 : ((p : Int) + (gone2 : Int)) % 4294967296 = (q : Int) := by rw [hqp]; unfold m32; omega
            have hcv : (gone2 : Int) % 4294967296 = (gone2 : Int) := by omega
            obtain ⟨H, hH⟩ : ∃ H, H = (T.drop gone2).length := ⟨_, rfl⟩
            have hHI : (M : Int) - (gone2 : Int) = (H : Int) := by rw [hH, List.length_drop]; have := HTL.out; omega
            have HHH := Lib.hid hH.symm
            have HQP := Lib.hid hqp
            clear hH
            clear ha2 hq hq32 hdq CA hxd hg2 hqp hdd HQ
            go_upto_region 13 with fail
            go_region_held3 (fun w' => w'.cell? ⟨bx, 1, none⟩ = some (.int .u32 (a : Int))) (first | assumption | go_keep)
              (first
                | (go_at_call 21; with_reducible refine CF.out.mono ?_; rintro e w6 ⟨rfl, rfl⟩)
                | (go_at_call 20; with_reducible refine HCA.out.mono ?_; rintro e w6 ⟨rfl, v6, O6, V6, T6⟩; have HO6 := Lib.hid O6; have B6 := Lib.hid (BD.out.trans (T6.below (fun k hk => hk ▸ HX.out) BD.out.size)); have k6 : w6.cell? ⟨bx, 1, none⟩ = some (.int .u32 (a : Int)) := (T6.cell l5d hxb 1).trans e1d; clear O6 V6 T6))
            all_goals
              clear CF HCA HD BD HO5 e1d l5d k6
              have c1 := ofirst_any x x v6 _ w6 HO6.out
              have c2 := oheld_any x x v6 _ w6 HO6.out
              simp only [HHH.out] at c2
              have C1 := Lib.hid c1
              have C2 := Lib.hid c2
              clear c1 c2
              go_wp2_with fail
              refine C1.out.mono ?_
              rintro e wa ⟨rfl, rfl⟩
              go_wp2_with fail
              refine C2.out.mono ?_
              rintro e wb ⟨rfl, rfl⟩
              go_wp2_with fail
              exact ⟨⟨k + 1, gone2, v6, by omega, by omega, by simp, rfl, by rw [← HQP.out]; exact HO6, B6⟩, by simp [intOf]; omega⟩
          · have hqp : F = (p + gone) % m32 := HF.out
            have CA := oack_no x x v _ w5.drew HD.out q hq32 (by rw [hdq]; unfold On.span; simp only [Bool.false_and, Bool.false_eq_true, if_false, Nat.add_zero]; rw [HMg.out]; omega)
            have HCA := Lib.hid CA
            have hgW : IntKind.i64.wrap (gone : Int) = (gone : Int) := by rw [IntKind.wrap_i64]; omega
            have hqI2 : ((p : Int) + (gone : Int)) % 4294967296 = (F : Int) := by rw [hqp]; unfold m32; omega
            have hcv : (gone : Int) % 4294967296 = (gone : Int) := by omega
            obtain ⟨H, hH⟩ : ∃ H, H = (T.drop gone).length := ⟨_, rfl⟩
            have hHI : (M : Int) - (gone : Int) = (H : Int) := by rw [hH, List.length_drop]; have := HTL.out; omega
            have HHH := Lib.hid hH.symm
            have HQP := Lib.hid hqp
            clear hH
            clear ha2 hq hq32 hdq CA hxd hqp
            go_upto_region 13 with fail
            go_region_held3 (fun w' => w'.cell? ⟨bx, 1, none⟩ = some (.int .u32 (a : Int))) (first | assumption | go_keep)
              (first
                | (go_at_call 21; with_reducible refine CF.out.mono ?_; rintro e w6 ⟨rfl, rfl⟩)
                | (go_at_call 20; with_reducible refine HCA.out.mono ?_; rintro e w6 ⟨rfl, b6⟩; have HO6 := Lib.hid (HD.out.below b6); have B6 := Lib.hid (BD.out.trans (b6.mono BD.out.size)); have k6 := (b6.cell (p := ⟨bx, 1, none⟩) l5d).trans e1d; clear b6))
            all_goals
              clear CF HCA HD BD HO5 e1d l5d k6
              have c1 := ofirst_any x x v _ w6 HO6.out
              have c2 := oheld_any x x v _ w6 HO6.out
              simp only [HHH.out] at c2
              have C1 := Lib.hid c1
              have C2 := Lib.hid c2
              clear c1 c2
              go_wp2_with fail
              refine C1.out.mono ?_
              rintro e wa ⟨rfl, rfl⟩
              go_wp2_with fail
              refine C2.out.mono ?_
              rintro e wb ⟨rfl, rfl⟩
              go_wp2_with fail
              exact ⟨⟨k + 1, gone, v, by omega, by omega, by simp, rfl, by rw [← HQP.out]; exact HO6, B6⟩, by simp [intOf]; omega⟩
        · have hkz : ((kd : Int) == 0) = false := by simp; omega
          obtain ⟨f0, hf0⟩ : ∃ f, f = a % (M - gone + 1) := ⟨_, rfl⟩
          have hf0l : f0 ≤ M - gone := by have := Nat.mod_lt a (show 0 < M - gone + 1 by omega); omega
          have hft : (a : Int).tmod ((M : Int) - (gone : Int) + 1) = (f0 : Int) := by
            rw [show ((M : Int) - (gone : Int) + 1) = ((M - gone + 1 : Nat) : Int) by omega, Int.tmod_eq_emod_of_nonneg (by omega), hf0]
            rfl
          have hnz : ¬ ((M : Int) - (gone : Int) + 1 = 0) := by omega
          obtain ⟨fr, hfr⟩ : ∃ fr, fr = gone + f0 := ⟨_, rfl⟩
          have hfrM : fr ≤ M := by omega
          have hfrI : (gone : Int) + (f0 : Int) = (fr : Int) := by omega
          have hfrc : (fr : Int) % 4294967296 = (fr : Int) := by omega
          obtain ⟨mx, hmxe⟩ : ∃ mx, mx = z.toNat := ⟨_, rfl⟩
          have hmx : (if (0 : Int) < z then z else 0) = (mx : Int) := by subst hmxe; split <;> omega
          obtain ⟨mr, hmr⟩ : ∃ mr, mr = mx % 700 := ⟨_, rfl⟩
          have hmr1 : (mx : Int) % 700 = (mr : Int) := by omega
          have hmr2 : (mx : Int).tmod 700 = (mr : Int) := by rw [Int.tmod_eq_emod_of_nonneg (by omega)]; exact hmr1
          have hmr7 : mr < 700 := by omega
          obtain ⟨qf, hqf⟩ : ∃ qf, qf = (p + fr) % m32 := ⟨_, rfl⟩
          have hqfI : ((p : Int) + (fr : Int)) % 4294967296 = (qf : Int) := by subst hqf; unfold m32; omega
          have hqf32 : qf < m32 := hqf ▸ Nat.mod_lt _ (by decide)
          have hdq : dist qf F = f0 := by
            rw [hqf, hfr, show (p + (gone + f0)) % m32 = (F + f0) % m32 by rw [HF.out, Nat.mod_add_mod, Nat.add_assoc]]
            exact dist_plus hF32 (by unfold m32; omega)
          have CC := ocut_any x x v _ w5 HO5.out qf hqf32 (by show dist qf F ≤ (T.drop gone).length; rw [hdq, HMg.out]; exact hf0l) (mr : Int)
          obtain ⟨N, hN⟩ : ∃ N, N = On.cuts ⟨F, T.drop gone, false, false⟩ f0 (mr : Int) := ⟨_, rfl⟩
          have hNe : N = min (M - gone - f0) mr := by rw [hN]; unfold On.cuts; simp only [HMg.out]; rfl
          simp only [hdq, ← hN, Bool.false_and] at CC
          obtain ⟨S, hS⟩ : ∃ S : List UInt8, S = (l.drop fr).take N := ⟨_, rfl⟩
          have hSl : S.length = N := by rw [hS, List.length_take, List.length_drop, HL.out]; omega
          have hSe : ((T.drop gone).drop f0).take N = S := by
            rw [List.drop_drop, ← hfr, HT.out, List.drop_take, List.take_take, Nat.min_eq_left (by omega), hS]
          rw [hSe] at CC
          obtain ⟨tq, hto⟩ : ∃ tq, tq = fr + N := ⟨_, rfl⟩
          have htoI : (if (fr : Int) + (mr : Int) < (M : Int) then (fr : Int) + (mr : Int) else (M : Int)) = (tq : Int) := by split <;> omega
          have hfl : (fr : Int) ≤ (tq : Int) := by omega
          have hfc : (tq : Int) ≤ (c : Int) := by omega
          have hsub : tq - fr = N := by omega
          have HCC := Lib.hid CC
          have HSS := Lib.hid hS; have HSL := Lib.hid hSl; have HFM := Lib.hid hfrM; have HCL := Lib.hid hc
          have HML := Lib.hid hML.1
          clear hf0 hf0l hfr hmxe hmr hqf hqf32 hdq CC hN hNe hS hSl hSe hto hk1
          go_wp2_with fail
          with_reducible refine HCC.out.mono ?_
          rintro e w6 ⟨A9, rfl, hr9, b6⟩
          have HR9 := Lib.hid hr9
          have HO6 := Lib.hid (HO5.out.below b6)
          have B6 := Lib.hid (HB5.out.trans (b6.mono HB5.out.size))
          have e4' := (b6.cell (p := ⟨bx, 4, none⟩) l5).trans e4
          have l6 := Nat.lt_of_lt_of_le l5 b6.size
          clear HCC hr9 b6 HO5 HB5 e4 e1 e0
          have CS : Hid (∀ (X : Option Addr) (cx : Nat), Rd w6 w6.heap.size X S → Calls Try.prog 14 #[.slice A9 N N, .slice X N cx] w6 fun e w' => e = .returned (.bool true) ∧ Below w6.heap.size w6 w') := Lib.hid fun X cx hX => by
            have := sameBytes_any A9 X S S N cx w6 HR9.out hX (by rw [HSL.out]; omega) (by rw [HSL.out]; omega)
            rwa [HSL.out, beq_self_eq_true] at this
          go_wp2_with fail
          · have hcf : c = fr := by assumption
            subst hcf
            refine (CS.out A 0 (fun h0 => ?_)).mono ?_
            · rw [HSL.out] at h0
              have := HML.out
              omega
            · skip
              rintro e w7 ⟨rfl, b7⟩
              have HO7 := Lib.hid (HO6.out.below b7)
              have B7 := Lib.hid (B6.out.trans (b7.mono B6.out.size))
              rw [HF.out] at HO7
              clear b7 CS HO6 B6 e4' l6
              go_wp2_with fail
              refine ⟨?_, ?_⟩
              rotate_left
              · simp [intOf]; omega
              · first
                  | exact ⟨k + 1, gone, v, by omega, hg, by simp, rfl, HO7, B7⟩
                  | (repeat' apply Exists.intro
                     exact ⟨⟨k + 1, gone, v, by omega, hg, by simp, rfl, HO7, B7⟩, rfl⟩)
          · refine (CS.out _ _ ?_).mono ?_
            · have h1 := HR.out.adv (c := c) (m := fr) (by rw [HL.out]; exact HCL.out)
              unfold adv at h1
              rw [if_neg (by assumption)] at h1
              rw [HSS.out]
              exact (h1.take.below B6.out (Nat.le_refl _)).mono B6.out.size
            · skip
              rintro e w7 ⟨rfl, b7⟩
              have HO7 := Lib.hid (HO6.out.below b7)
              have B7 := Lib.hid (B6.out.trans (b7.mono B6.out.size))
              rw [HF.out] at HO7
              clear b7 CS HO6 B6 e4' l6
              go_wp2_with fail
              refine ⟨?_, ?_⟩
              rotate_left
              · simp [intOf]; omega
              · first
                  | exact ⟨k + 1, gone, v, by omega, hg, by simp, rfl, HO7, B7⟩
                  | (repeat' apply Exists.intro
                     exact ⟨⟨k + 1, gone, v, by omega, hg, by simp, rfl, HO7, B7⟩, rfl⟩)
      · obtain rfl : k = acts.length := by omega
        have d3 : decide ((acts.length : Int) < (acts.length : Int)) = false := by simp
        have LV := Lib.hid (lives27_any wr)
        clear HO
        go_wp2_with fail
        refine LV.out.mono ?_
        rintro e w5 ⟨rfl, b5⟩
        go_wp2_with fail
        go_ret
        exact ⟨rfl, HB.out.trans (b5.mono HB.out.size)⟩
end Go.Proofs.Ytjnfdpakpdahkaa
