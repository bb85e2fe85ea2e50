/- Streams: an end of reading: its end. -/
import Derived.Test.YtjnfdpakpdahkaaZ5
namespace Go.Proofs.Ytjnfdpakpdahkaa
open Go.RowKit
set_option maxRecDepth 100000
set_option maxHeartbeats 1000000
theorem end_box {n x g e q : Nat} {v : Value} {s : Sn} {w w1 : World} (h : InB w n x g e v s) (hb : Below w.heap.size w w1) (hq : q < m32) (hE : s.endsAt (dist q s.at') = true) :
    InB ((w1.setCell ⟨x, 3, none⟩ (.bool true)).setCell ⟨x, 4, none⟩ (.int .u32 (q : Int))) n x g q v (s.end' (dist q s.at')) ∧ Tn (fun k => k = x) w ((w1.setCell ⟨x, 3, none⟩ (.bool true)).setCell ⟨x, 4, none⟩ (.int .u32 (q : Int))) := by
  have h1 := h.below hb
  have ho := end_ok h.ok (dist q s.at')
  unfold Sn.end' at ho ⊢
  rw [hE] at ho ⊢
  refine ⟨⟨?_, ?_, ?_, fun _ => (ky_dist h.ok.at32 hq).symm, hq, ho, h.xg, h.vx, h.vg, h.nx, h.ng⟩, ?_⟩
  · rw [bk_setCell_same, bk_setCell_same, h1.box]
    rfl
  · exact map_turn h1.map (by rw [bk_setCell_other _ _ _ _ _ (fun e => h.xg e.symm), bk_setCell_other _ _ _ _ _ (fun e => h.xg e.symm)])
  · refine own_turn h1.row fun k hk => ?_
    have : k ≠ x := fun e => h.vx (e ▸ hk)
    rw [bk_setCell_other _ _ _ _ _ this, bk_setCell_other _ _ _ _ _ this]
  · refine Tn.trans (Tn.of hb) (G := fun k => k = x) ⟨rfl, rfl, rfl, by simp, fun k hk hx => ?_⟩ fun j hj => .inl hj
    rw [bk_setCell_other _ _ _ _ _ hx, bk_setCell_other _ _ _ _ _ hx]
theorem iends_any (n x g e : Nat) (v : Value) (s : Sn) (w : World) (h : InB w n x g e v s) (q : Nat) (hq : q < m32) :
    Calls Try.prog 39 #[.pointer (some ⟨x, 0, none⟩), .int .u32 (q : Int)] w fun r w' => r = .returned (.bool (s.endsAt (dist q s.at'))) ∧ ∃ e', InB w' n x g e' v (s.end' (dist q s.at')) ∧ Tn (fun k => k = x) w w' := by
  have HI := Lib.hid h
  have CC := Lib.hid (icame_any n x g e v s w h)
  obtain ⟨d, hd⟩ : ∃ d, d = dist q s.at' := ⟨_, rfl⟩
  have hd32 : d < m32 := hd ▸ dist_lt _ _
  have hD : ((q : Int) - (s.at' : Int)) % 4294967296 = (d : Int) := by
    have := h.ok.at32
    subst hd
    unfold dist m32 at *
    omega
  have FB := Lib.hid fun (w1 : World) (hb : Below w.heap.size w w1) (hE : s.endsAt (dist q s.at') = true) => end_box h hb hq hE
  rw [← hd] at FB ⊢
  have HW : s.win ≤ 8192 := Nat.sub_le _ _
  have hcv : ((s.win : Int)) % 4294967296 = (s.win : Int) := by omega
  obtain ⟨kn, hkn⟩ : ∃ kn, kn = s.known := ⟨_, rfl⟩
  obtain ⟨p, hp⟩ : ∃ p, p = s.at' := ⟨_, rfl⟩
  have c0 := bk_cell h.box 0
  simp only [inC, ← hp] at c0
  simp at c0
  rw [← hp] at hD
  have lb := bk_lt h.box
  have HPP := Lib.hid hp; have HKN := Lib.hid hkn
  clear h hd hp
  go_enter Try.func39, Try.ntmps39
  go_wp2_with fail
  refine (CC.out).mono ?_
  rintro r w1 ⟨last, so, rfl, h1, h2, h3, b1⟩
  have hI1 := HI.out.below b1
  have CW := win_later hI1
  have k1 := hI1.box
  have c3 := bk_cell k1 3
  have f3 := bk_frozen k1 3
  have f4 := bk_frozen k1 4
  have c4 := bk_cell k1 4
  simp only [inC, ← hkn] at c3 c4
  simp at c3 c4
  have l1 := bk_lt k1
  clear hkn
  have HE : Hid ((so && decide (d ≤ last)) = !(s.far.all fun e => decide (e.1 < d))) := Lib.hid (by
    cases so
    · have := h1.1 rfl
      rw [this]
      rfl
    · obtain ⟨y, hy, hy2⟩ := h3 rfl
      by_cases hl : d ≤ last
      · rw [show (s.far.all fun e => decide (e.1 < d)) = false from List.all_eq_false.2 ⟨y, hy, by simp; omega⟩]
        simp [hl]
      · rw [show (s.far.all fun e => decide (e.1 < d)) = true from List.all_eq_true.2 fun z hz => by have := h2 z hz; simp; omega]
        simp [hl])
  clear h1 h2 h3 CC k1
  have B1 := Lib.hid b1; have HI1 := Lib.hid hI1
  clear b1 hI1
  go_upto_region 3 with fail
  have HEnd : Hid (s.endsAt d = (!kn && decide (d ≤ s.win) && !(so && decide (d ≤ last)))) := Lib.hid (by rw [HE.out, HKN.out, Bool.not_not]; rfl)
  obtain ⟨W, hW⟩ : ∃ W, W = s.win := ⟨_, rfl⟩
  rw [← hW] at HEnd CW HW hcv
  clear hW HE
  cases kn
  · by_cases t1 : W < d
    · have t2 : decide ((d : Int) > (W : Int)) = true := by simp; omega
      have HF : s.endsAt d = false := by rw [HEnd.out, show decide (d ≤ W) = false by simp; omega]; rfl
      have HF' := Lib.hid HF
      clear HF
      go_wp2_with fail
      refine ((CW.out w1 (Below.refl _ _))).mono ?_
      rintro e w2 ⟨rfl, b2⟩
      go_wp2
      go_ret
      refine ⟨by rw [HF'.out]; rfl, e, ?_, Tn.of (B1.out.trans (b2.mono B1.out.size))⟩
      unfold Sn.end'
      rw [HF'.out]
      exact HI1.out.below b2
    · have t2 : decide ((d : Int) > (W : Int)) = false := by simp; omega
      cases so
      · have HF : s.endsAt d = true := by rw [HEnd.out, show decide (d ≤ W) = true by simp; omega]; rfl
        have HF' := Lib.hid HF
        clear HF
        go_wp2_with fail
        refine ((CW.out w1 (Below.refl _ _))).mono ?_
        rintro e w2 ⟨rfl, b2⟩
        have k2 := (HI1.out.below b2).box
        have g3 := bk_cell k2 3
        have g4 := bk_cell k2 4
        have fr3 := bk_frozen k2 3
        have fr4 := bk_frozen k2 4
        simp only [inC, ← HKN.out] at g3 g4
        simp at g3 g4
        have l2 := bk_lt k2
        have B2 := Lib.hid (B1.out.trans (b2.mono B1.out.size))
        clear k2 b2
        go_wp2
        go_ret
        obtain ⟨F1, F2⟩ := FB.out w2 B2.out HF'.out
        exact ⟨by rw [HF'.out]; rfl, q, F1, F2⟩
      · by_cases t3 : d ≤ last
        · have t4 : decide ((d : Int) ≤ (last : Int)) = true := by simp; omega
          have HF : s.endsAt d = false := by rw [HEnd.out, show decide (d ≤ last) = true by simp; omega]; simp
          have HF' := Lib.hid HF
          clear HF
          go_wp2_with fail
          refine ((CW.out w1 (Below.refl _ _))).mono ?_
          rintro e w2 ⟨rfl, b2⟩
          go_wp2
          go_ret
          refine ⟨by rw [HF'.out]; rfl, e, ?_, Tn.of (B1.out.trans (b2.mono B1.out.size))⟩
          unfold Sn.end'
          rw [HF'.out]
          exact HI1.out.below b2
        · have t4 : decide ((d : Int) ≤ (last : Int)) = false := by simp; omega
          have HF : s.endsAt d = true := by rw [HEnd.out, show decide (d ≤ last) = false by simp; omega, show decide (d ≤ W) = true by simp; omega]; rfl
          have HF' := Lib.hid HF
          clear HF
          go_wp2_with fail
          refine ((CW.out w1 (Below.refl _ _))).mono ?_
          rintro e w2 ⟨rfl, b2⟩
          have k2 := (HI1.out.below b2).box
          have g3 := bk_cell k2 3
          have g4 := bk_cell k2 4
          have fr3 := bk_frozen k2 3
          have fr4 := bk_frozen k2 4
          simp only [inC, ← HKN.out] at g3 g4
          simp at g3 g4
          have l2 := bk_lt k2
          have B2 := Lib.hid (B1.out.trans (b2.mono B1.out.size))
          clear k2 b2
          go_wp2
          go_ret
          obtain ⟨F1, F2⟩ := FB.out w2 B2.out HF'.out
          exact ⟨by rw [HF'.out]; rfl, q, F1, F2⟩
  · have HF : Hid (s.endsAt d = false) := Lib.hid (by rw [HEnd.out]; rfl)
    go_wp2
    go_ret
    refine ⟨by rw [HF.out]; rfl, e, ?_, Tn.of B1.out⟩
    unfold Sn.end'
    rw [HF.out]
    exact HI1.out
end Go.Proofs.Ytjnfdpakpdahkaa
