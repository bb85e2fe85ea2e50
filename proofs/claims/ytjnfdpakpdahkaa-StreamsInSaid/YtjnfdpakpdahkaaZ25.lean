/- Streams: the document's end of reading: bytes are read. -/
import Derived.Test.YtjnfdpakpdahkaaZ24
namespace Go.Proofs.Ytjnfdpakpdahkaa
open Go.RowKit
set_option maxRecDepth 100000
set_option maxHeartbeats 2000000
theorem app_below' {w w' : World} (hg : w.grownBy w' (Value.slice none 0 0).ownBlock) : Below w.heap.size w w' := app_below (World.ownsRow_nil w w.heap.size 5 1) hg (Nat.le_refl _)
theorem rread_any (n y lf : Nat) (vr vf : Value) (s : Sn) (w : World) (h : RB w n y vr vf lf s) (hn : n ≤ w.heap.size) (m : Int) (hm : -9223372036854775808 ≤ m ∧ m ≤ 9223372036854775807) :
    Calls Try.prog 24 #[.pointer (some ⟨y, 0, none⟩), .int .i64 m] w fun r w' => ∃ u vr', r = .returned u ∧ w'.ownsRow w.heap.size 5 1 u (s.reads m) ((s.ready.take (s.reads m)).map B) ∧ RB w' n y vr' vf lf (s.read m) ∧
      (∀ k, vr'.ownBlock = some k → vr.ownBlock = some k ∨ w.heap.size ≤ k) ∧ Tn (fun k => k = y) w w' := by
  have HI := Lib.hid h
  obtain ⟨Ar, cr, hvr, hrr, hrn, hrc⟩ := Rd.of_own h.row rfl
  have hrl := h.ok.room
  have c1 := bk_cell h.box 1
  simp [rinC] at c1
  have ly := bk_lt h.box
  by_cases h0 : m < 1 ∨ s.ready.length = 0
  · have hr0 : s.reads m = 0 := by unfold Sn.reads; omega
    have HF : Hid (RB w n y vr vf lf (s.read m)) := Lib.hid (by
      unfold Sn.read
      rw [hr0, List.drop_zero]
      exact h)
    rw [hr0]
    obtain ⟨L, hL⟩ : ∃ L, L = s.ready.length := ⟨_, rfl⟩
    rw [← hL] at h0 hvr hrl
    subst hvr
    clear h hr0 hrr hrn hrc hL
    go_enter Try.func24, Try.ntmps24
    by_cases hgt : (L : Int) < m
    · have hL0 : L = 0 := by omega
      go_wp2_with fail
      go_ret
      first
        | exact ⟨.slice none 0 0, _, rfl, World.ownsRow_nil _ _ _ _, HF.out, fun k hk => .inl hk, Tn.refl _ _⟩
        | exact ⟨.slice none 0 0, rfl, World.ownsRow_nil _ _ _ _, _, HF.out, fun k hk => .inl hk, Tn.refl _ _⟩
        | exact ⟨World.ownsRow_nil _ _ _ _, _, HF.out, fun k hk => .inl hk, Tn.refl _ _⟩
        | exact ⟨_, World.ownsRow_nil _ _ _ _, HF.out, fun k hk => .inl hk, Tn.refl _ _⟩
    · have hm1 : m < 1 := by omega
      go_wp2_with fail
      go_ret
      first
        | exact ⟨.slice none 0 0, _, rfl, World.ownsRow_nil _ _ _ _, HF.out, fun k hk => .inl hk, Tn.refl _ _⟩
        | exact ⟨.slice none 0 0, rfl, World.ownsRow_nil _ _ _ _, _, HF.out, fun k hk => .inl hk, Tn.refl _ _⟩
        | exact ⟨World.ownsRow_nil _ _ _ _, _, HF.out, fun k hk => .inl hk, Tn.refl _ _⟩
        | exact ⟨_, World.ownsRow_nil _ _ _ _, HF.out, fun k hk => .inl hk, Tn.refl _ _⟩
  · obtain ⟨N, hN⟩ : ∃ N, N = s.reads m := ⟨_, rfl⟩
    have hN1 : 1 ≤ N ∧ N ≤ s.ready.length := by subst hN; unfold Sn.reads; omega
    have hNm : m ≤ (s.ready.length : Int) → m = (N : Int) := by subst hN; unfold Sn.reads; omega
    have hNL : (s.ready.length : Int) < m → N = s.ready.length := by subst hN; unfold Sn.reads; omega
    rw [← hN]
    obtain ⟨sr, hsr⟩ : ∃ sr, sr = s.read m := ⟨_, rfl⟩
    have HRD0 := Lib.hid (show sr = { s with ready := s.ready.drop N } by rw [hsr]; unfold Sn.read; rw [hN])
    have HOK := Lib.hid (show sr.Ok from hsr ▸ read_ok h.ok m)
    rw [← hsr]
    have BX := Lib.hid h.box
    obtain ⟨R, hR⟩ : ∃ R, R = s.ready.length := ⟨_, rfl⟩
    have HR := Lib.hid hR.symm
    rw [← hR] at hN1 hNm hNL hvr hrl hrc
    subst hvr
    obtain ⟨DR, hDR⟩ : ∃ DR : List UInt8, DR = s.ready.drop N := ⟨_, rfl⟩
    obtain ⟨TK, hTK⟩ : ∃ TK : List UInt8, TK = s.ready.take N := ⟨_, rfl⟩
    have HDL : Hid (DR.length = R - N) := Lib.hid (by rw [hDR, List.length_drop, HR.out])
    have HTL : Hid (TK.length = N) := Lib.hid (by rw [hTK, List.length_take, HR.out]; omega)
    have HRT : Hid (Rd w w.heap.size Ar TK) := Lib.hid (hTK ▸ hrr.take)
    have HTN : Hid (Ar = none → TK = [] ∧ cr = 0) := Lib.hid fun e => by rw [hTK]; exact ⟨by rw [(hrn e).1]; simp, (hrn e).2⟩
    have HDRE := Lib.hid hDR
    rw [← hTK]
    have HRR := Lib.hid hrr; have HRN := Lib.hid hrn
    have HRD : Hid (sr = { s with ready := DR }) := Lib.hid (by rw [HRD0.out, hDR])
    clear h hN h0 hrr hrn hR hsr hDR hTK
    go_enter Try.func24, Try.ntmps24
    have hN1I : ¬ ((N : Int) < 1) := by omega
    have hNc : (N : Int) ≤ (cr : Int) := by omega
    have hNR : (N : Int) ≤ (R : Int) := by omega
    have hN1N : ¬ (N < 1) := by omega
    by_cases hgt : (R : Int) < m
    · have hNe := hNL hgt
      clear hNm hNL
      subst hNe
      have HDK : Hid (DR.length = 0) := Lib.hid (by rw [HDL.out]; omega)
      go_wp2_with (at_builtin; refine wpList_app rfl _ _ rfl w.heap.size (.slice none 0 0) [] TK N rfl (World.ownsRow_nil _ _ _ _) Ar cr rfl HTL.out.symm HRT.out HTN.out (Nat.le_refl _) (by rw [HTL.out]; simp; omega) ?_)
      intro A5 c5 w5 ho5 hg5 _
      have B5 := Lib.hid (app_below' hg5)
      have HO5 : Hid (w5.ownsRow w.heap.size 5 1 (.slice A5 N c5) N (TK.map B)) := Lib.hid (by rw [← HTL.out]; simpa [appB] using ho5)
      have k5 := bk_keep B5.out ly BX.out
      have e5 := bk_cell k5 1
      simp [rinC] at e5
      have l5 := bk_lt k5
      rw [HTL.out]
      have FF : Hid (∀ (w6 : World) (A6 : Option Addr) (N6 c6 : Nat), w6.ownsRow w.heap.size 5 1 (.slice A6 N6 c6) (0) (DR.map B) → Below w5.heap.size w5 w6 →
          (w6.setCell ⟨y, 1, none⟩ (.slice A6 N6 c6)).ownsRow w.heap.size 5 1 (.slice A5 N c5) N (TK.map B) ∧ RB (w6.setCell ⟨y, 1, none⟩ (.slice A6 N6 c6)) n y (.slice A6 N6 c6) vf lf sr ∧ (∀ k, (Value.slice A6 N6 c6).ownBlock = some k → (Value.slice Ar N cr).ownBlock = some k ∨ w.heap.size ≤ k) ∧ Tn (fun k => k = y) w (w6.setCell ⟨y, 1, none⟩ (.slice A6 N6 c6))) := Lib.hid fun w6 A6 N6 c6 o6 b6 => by
        have hne : ∀ k, w.heap.size ≤ k → k ≠ y := fun k hk => by omega
        have B6 := B5.out.trans (b6.mono B5.out.size)
        have H6 := HI.out.below B6
        refine ⟨own_turn (own_turn HO5.out fun k hk => b6.block k (HO5.out.lt k hk).2) fun k hk => bk_setCell_other _ _ _ _ _ (hne k (HO5.out.lt k hk).1), ?_, fun k hk => .inr (o6.lt k hk).1, (Tn.of B6).trans (G := fun k => k = y) ⟨rfl, rfl, rfl, by simp, fun k hk hx => bk_setCell_other _ _ _ _ _ hx⟩ fun j hj => .inl hj⟩
        have hok := HOK.out
        rw [HRD.out] at hok ⊢
        refine ⟨?_, ?_, far_turn H6.far fun k hk => bk_setCell_other _ _ _ _ _ (fun e => H6.fy (e ▸ hk)), H6.left, H6.l32, hok, fun e => hne y (o6.lt y e).1 rfl, H6.fy, fun k hk hk2 => ?_, H6.ny⟩
        · rw [bk_setCell_same, H6.box]
          rfl
        · show World.ownsRow _ n _ 1 _ DR.length _
          rw [HDK.out]
          exact own_mono (own_turn o6 fun k hk => bk_setCell_other _ _ _ _ _ (hne k (o6.lt k hk).1)) hn
        · have h1 := (o6.lt k hk).1
          have h2 := (HI.out.far.lt k hk2).2
          omega
      clear ho5 hg5 k5 HTL HOK HRT HTN
      by_cases hcn : cr = N
      · skip
        go_wp2_with (at_builtin; (refine wpList_app rfl _ _ rfl w.heap.size (.slice none 0 0) [] DR (0) rfl (World.ownsRow_nil _ _ _ _) (Ar) (0) rfl HDK.out.symm ((fun h0 => by rw [HDK.out] at h0; omega)) ((fun _ => ⟨List.eq_nil_of_length_eq_zero (by have := HDK.out; omega), rfl⟩)) B5.out.size (by rw [HDK.out]; simp <;> omega) ?_))
        intro A6 c6 w6 ho6 hg6 _
        have FIN := Lib.hid (FF.out w6 A6 (0) c6 (by rw [← HDK.out]; simpa [appB] using ho6) (app_below' hg6))
        have k6 : bk w6 y = some (.cells (rinC s (.slice Ar N cr) vf lf) 55 (0, 0)) := (hg6.block y (Nat.lt_of_lt_of_le ly B5.out.size) (by simp [Value.ownBlock])).trans (bk_keep B5.out ly BX.out)
        have f6 := bk_frozen k6 1
        have e6 := bk_cell k6 1
        simp [rinC] at e6
        have l6 := bk_lt k6
        rw [HDK.out]
        clear ho6 hg6 k6
        go_wp2_with fail
        go_ret
        obtain ⟨g1, g2, g3, g4⟩ := FIN.out
        first
          | exact ⟨_, _, rfl, g1, g2, g3, g4⟩
          | exact ⟨_, rfl, g1, _, g2, g3, g4⟩
          | exact ⟨g1, _, g2, g3, g4⟩
          | exact ⟨_, g1, g2, g3, g4⟩
      · have hX := HRR.out.adv (c := cr) (m := N) (by rw [HR.out]; exact hrc)
        unfold adv at hX
        rw [if_neg hcn] at hX
        rw [← HDRE.out] at hX
        have HX := Lib.hid ((hX.below B5.out (Nat.le_refl _)).mono B5.out.size)
        clear hX
        go_wp2_with (at_builtin; (refine wpList_app rfl _ _ rfl w.heap.size (.slice none 0 0) [] DR (0) rfl (World.ownsRow_nil _ _ _ _) ((Option.map (fun x => x.add N) Ar)) ((cr - N)) rfl HDK.out.symm (HX.out) ((fun e => by have h1 := HRN.out (by simpa using e); refine ⟨by rw [HDRE.out, h1.1]; simp, by omega⟩)) B5.out.size (by rw [HDK.out]; simp <;> omega) ?_))
        intro A6 c6 w6 ho6 hg6 _
        have FIN := Lib.hid (FF.out w6 A6 (0) c6 (by rw [← HDK.out]; simpa [appB] using ho6) (app_below' hg6))
        have k6 : bk w6 y = some (.cells (rinC s (.slice Ar N cr) vf lf) 55 (0, 0)) := (hg6.block y (Nat.lt_of_lt_of_le ly B5.out.size) (by simp [Value.ownBlock])).trans (bk_keep B5.out ly BX.out)
        have f6 := bk_frozen k6 1
        have e6 := bk_cell k6 1
        simp [rinC] at e6
        have l6 := bk_lt k6
        rw [HDK.out]
        clear ho6 hg6 k6
        go_wp2_with fail
        go_ret
        obtain ⟨g1, g2, g3, g4⟩ := FIN.out
        first
          | exact ⟨_, _, rfl, g1, g2, g3, g4⟩
          | exact ⟨_, rfl, g1, _, g2, g3, g4⟩
          | exact ⟨g1, _, g2, g3, g4⟩
          | exact ⟨_, g1, g2, g3, g4⟩
    · obtain rfl := hNm (by omega)
      clear hNm hNL
      have HDK := HDL
      go_wp2_with (at_builtin; refine wpList_app rfl _ _ rfl w.heap.size (.slice none 0 0) [] TK N rfl (World.ownsRow_nil _ _ _ _) Ar cr rfl HTL.out.symm HRT.out HTN.out (Nat.le_refl _) (by rw [HTL.out]; simp; omega) ?_)
      intro A5 c5 w5 ho5 hg5 _
      have B5 := Lib.hid (app_below' hg5)
      have HO5 : Hid (w5.ownsRow w.heap.size 5 1 (.slice A5 N c5) N (TK.map B)) := Lib.hid (by rw [← HTL.out]; simpa [appB] using ho5)
      have k5 := bk_keep B5.out ly BX.out
      have e5 := bk_cell k5 1
      simp [rinC] at e5
      have l5 := bk_lt k5
      rw [HTL.out]
      have FF : Hid (∀ (w6 : World) (A6 : Option Addr) (N6 c6 : Nat), w6.ownsRow w.heap.size 5 1 (.slice A6 N6 c6) (R - N) (DR.map B) → Below w5.heap.size w5 w6 →
          (w6.setCell ⟨y, 1, none⟩ (.slice A6 N6 c6)).ownsRow w.heap.size 5 1 (.slice A5 N c5) N (TK.map B) ∧ RB (w6.setCell ⟨y, 1, none⟩ (.slice A6 N6 c6)) n y (.slice A6 N6 c6) vf lf sr ∧ (∀ k, (Value.slice A6 N6 c6).ownBlock = some k → (Value.slice Ar R cr).ownBlock = some k ∨ w.heap.size ≤ k) ∧ Tn (fun k => k = y) w (w6.setCell ⟨y, 1, none⟩ (.slice A6 N6 c6))) := Lib.hid fun w6 A6 N6 c6 o6 b6 => by
        have hne : ∀ k, w.heap.size ≤ k → k ≠ y := fun k hk => by omega
        have B6 := B5.out.trans (b6.mono B5.out.size)
        have H6 := HI.out.below B6
        refine ⟨own_turn (own_turn HO5.out fun k hk => b6.block k (HO5.out.lt k hk).2) fun k hk => bk_setCell_other _ _ _ _ _ (hne k (HO5.out.lt k hk).1), ?_, fun k hk => .inr (o6.lt k hk).1, (Tn.of B6).trans (G := fun k => k = y) ⟨rfl, rfl, rfl, by simp, fun k hk hx => bk_setCell_other _ _ _ _ _ hx⟩ fun j hj => .inl hj⟩
        have hok := HOK.out
        rw [HRD.out] at hok ⊢
        refine ⟨?_, ?_, far_turn H6.far fun k hk => bk_setCell_other _ _ _ _ _ (fun e => H6.fy (e ▸ hk)), H6.left, H6.l32, hok, fun e => hne y (o6.lt y e).1 rfl, H6.fy, fun k hk hk2 => ?_, H6.ny⟩
        · rw [bk_setCell_same, H6.box]
          rfl
        · show World.ownsRow _ n _ 1 _ DR.length _
          rw [HDK.out]
          exact own_mono (own_turn o6 fun k hk => bk_setCell_other _ _ _ _ _ (hne k (o6.lt k hk).1)) hn
        · have h1 := (o6.lt k hk).1
          have h2 := (HI.out.far.lt k hk2).2
          omega
      clear ho5 hg5 k5 HTL HOK HRT HTN
      by_cases hcn : cr = N
      · skip
        go_wp2_with (at_builtin; (refine wpList_app rfl _ _ rfl w.heap.size (.slice none 0 0) [] DR (R - N) rfl (World.ownsRow_nil _ _ _ _) (Ar) (0) rfl HDK.out.symm ((fun h0 => by rw [HDK.out] at h0; omega)) ((fun _ => ⟨List.eq_nil_of_length_eq_zero (by have := HDK.out; omega), rfl⟩)) B5.out.size (by rw [HDK.out]; simp <;> omega) ?_))
        intro A6 c6 w6 ho6 hg6 _
        have FIN := Lib.hid (FF.out w6 A6 (R - N) c6 (by rw [← HDK.out]; simpa [appB] using ho6) (app_below' hg6))
        have k6 : bk w6 y = some (.cells (rinC s (.slice Ar R cr) vf lf) 55 (0, 0)) := (hg6.block y (Nat.lt_of_lt_of_le ly B5.out.size) (by simp [Value.ownBlock])).trans (bk_keep B5.out ly BX.out)
        have f6 := bk_frozen k6 1
        have e6 := bk_cell k6 1
        simp [rinC] at e6
        have l6 := bk_lt k6
        rw [HDK.out]
        clear ho6 hg6 k6
        go_wp2_with fail
        go_ret
        obtain ⟨g1, g2, g3, g4⟩ := FIN.out
        first
          | exact ⟨_, _, rfl, g1, g2, g3, g4⟩
          | exact ⟨_, rfl, g1, _, g2, g3, g4⟩
          | exact ⟨g1, _, g2, g3, g4⟩
          | exact ⟨_, g1, g2, g3, g4⟩
      · have hX := HRR.out.adv (c := cr) (m := N) (by rw [HR.out]; exact hrc)
        unfold adv at hX
        rw [if_neg hcn] at hX
        rw [← HDRE.out] at hX
        have HX := Lib.hid ((hX.below B5.out (Nat.le_refl _)).mono B5.out.size)
        clear hX
        go_wp2_with (at_builtin; (refine wpList_app rfl _ _ rfl w.heap.size (.slice none 0 0) [] DR (R - N) rfl (World.ownsRow_nil _ _ _ _) ((Option.map (fun x => x.add N) Ar)) ((cr - N)) rfl HDK.out.symm (HX.out) ((fun e => by have h1 := HRN.out (by simpa using e); refine ⟨by rw [HDRE.out, h1.1]; simp, by omega⟩)) B5.out.size (by rw [HDK.out]; simp <;> omega) ?_))
        intro A6 c6 w6 ho6 hg6 _
        have FIN := Lib.hid (FF.out w6 A6 (R - N) c6 (by rw [← HDK.out]; simpa [appB] using ho6) (app_below' hg6))
        have k6 : bk w6 y = some (.cells (rinC s (.slice Ar R cr) vf lf) 55 (0, 0)) := (hg6.block y (Nat.lt_of_lt_of_le ly B5.out.size) (by simp [Value.ownBlock])).trans (bk_keep B5.out ly BX.out)
        have f6 := bk_frozen k6 1
        have e6 := bk_cell k6 1
        simp [rinC] at e6
        have l6 := bk_lt k6
        rw [HDK.out]
        clear ho6 hg6 k6
        go_wp2_with fail
        go_ret
        obtain ⟨g1, g2, g3, g4⟩ := FIN.out
        first
          | exact ⟨_, _, rfl, g1, g2, g3, g4⟩
          | exact ⟨_, rfl, g1, _, g2, g3, g4⟩
          | exact ⟨g1, _, g2, g3, g4⟩
          | exact ⟨_, g1, g2, g3, g4⟩
end Go.Proofs.Ytjnfdpakpdahkaa
