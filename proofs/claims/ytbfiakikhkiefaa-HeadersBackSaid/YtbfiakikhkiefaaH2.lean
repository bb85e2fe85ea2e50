/- Headers: options of a header. -/
import Derived.Test.YtbfiakikhkiefaaH1
namespace Go.Proofs.Ytbfiakikhkiefaa
open Go.RowKit
set_option maxRecDepth 100000
set_option maxHeartbeats 1000000
def Wk.pass (s : Wk) (size : Nat) : Wk := { s with nx := at8 s.b 0, b := s.b.drop size, p := s.p + size, told := s.p, fs := false }
/-- Where options leave a walk. -/
def Wk.opts (s : Wk) (size : Nat) (r : Nat × Nat × Bool) : Wk :=
  if r.1 = 0 then Wk.pass { s with al := r.2.2 || s.al } size else if r.1 = 7 then { s with al := r.2.2 || s.al, code := 2, fat := min (s.p + r.2.1) 4294967295 } else { s with al := r.2.2 || s.al }
theorem WB.cell {w : World} {n x : Nat} {s : Wk} {AA : Option Addr} {cc : Nat} (h : WB w n x s AA cc) (i : Nat) : w.cell? ⟨x, i, none⟩ = (wkC s (.slice AA s.b.length cc))[i]? := bk_cell h.1 i
theorem WB.byte {w : World} {n x : Nat} {s : Wk} {AA : Option Addr} {cc : Nat} (h : WB w n x s AA cc) {i : Nat} (hi : i < s.b.length) : ∃ bb o, AA = some ⟨bb, o, none⟩ ∧ bb < n ∧ w.cell? ⟨bb, o + i, none⟩ = some (B (at8 s.b i)) := by
  obtain ⟨bb, o, e, hb, hc⟩ := h.2.1 (by omega)
  refine ⟨bb, o, e, hb, ?_⟩
  rw [hc i hi]
  unfold at8
  rw [List.getD_eq_getElem?_getD, List.getElem?_eq_getElem hi]
  rfl
theorem WB.alert {w : World} {n x : Nat} {s : Wk} {AA : Option Addr} {cc : Nat} (h : WB w n x s AA cc) (hx : x < w.heap.size) (b : Bool) : WB (w.setCell ⟨x, 6, none⟩ (.bool b)) n x { s with al := b } AA cc := by
  obtain ⟨h1, h2, h3, h4, h5⟩ := h
  refine ⟨?_, ((Gb.refl x w).setCell 6 _).rd h2 h5 (Nat.le_of_lt hx), h3, h4, h5⟩
  rw [bk_setCell_same, h1]
  rfl
theorem opt_ok (h : List UInt8) (hop mc : Bool) : ∀ f i al, h.length ≤ i + f → (optS h hop mc f i al).1 = 0 ∨ (optS h hop mc f i al).1 = 4 ∨ (optS h hop mc f i al).1 = 7 ∨ (optS h hop mc f i al).1 = 8
  | 0, _, _, _ => .inl rfl
  | f + 1, i, al, hf => by
    unfold optS
    split
    · exact .inl rfl
    · split
      · exact opt_ok h hop mc f _ _ (by omega)
      · split
        · exact .inr (.inl rfl)
        · split
          · exact opt_ok h hop mc f _ _ (by unfold oend; omega)
          · rename_i hne
            unfold oc at hne ⊢
            split
            · exact .inl rfl
            · split
              · exact .inl rfl
              · unfold jc
                split
                · exact .inl rfl
                · split
                  · exact .inr (.inr (.inr rfl))
                  · split
                    · exact .inr (.inr (.inr rfl))
                    · exact .inr (.inr (.inl rfl))
theorem options_any (n x : Nat) (s : Wk) (AA : Option Addr) (cc size : Nat) (w : World) (h : WB w n x s AA cc) (h2 : 2 ≤ size) (hs : size ≤ s.b.length) (hp : s.p < 2 ^ 40) (hb40 : s.b.length < 2 ^ 40) :
    Calls Try.prog 55 #[.pointer (some ⟨x, 0, none⟩), .int .i64 (size : Int)] w fun e w' => ∃ A' c', e = .returned (.int .i64 ((opt (s.b.take size) (s.nx == 0) s.mc 2 false).1 : Int)) ∧
      WB w' n x (s.opts size (opt (s.b.take size) (s.nx == 0) s.mc 2 false)) A' c' ∧ Gb x w w' := by
  obtain ⟨r, hr⟩ : ∃ r, r = opt (s.b.take size) (s.nx == 0) s.mc 2 false := ⟨_, rfl⟩
  rw [← hr]
  have HX := Lib.hid h
  have lx := bk_lt h.1
  have HRR := Lib.hid hr
  have hl : (s.b.take size).length = size := by rw [List.length_take]; omega
  have HL := Lib.hid hl
  clear hr h hl
  have hs40 : size < 2 ^ 40 := by omega
  go_enter Try.func55, Try.ntmps55
  go_wp2_with fail
  go_loopw [5] (fun v wr => ∃ (i : Nat) (a : Bool), i ≤ size ∧ v = .int .i64 i ∧ Hid (r = opt (s.b.take size) (s.nx == 0) s.mc i a) ∧ Hid (WB wr n x { s with al := a || s.al } AA cc) ∧ Hid (Gb x w wr)) (fun v _ => size - (intOf v).toNat)
  case atStart => exact ⟨2, false, h2, rfl, HRR, Lib.hid (by simpa using HX.out), Lib.hid (Gb.refl _ _)⟩
  case round =>
    clear HX HRR
    obtain ⟨i, a, hi, rfl, HO, HX, GX⟩ := hrel
    have HE := Lib.hid (HO.out.trans (opt_eq _ _ _ i a))
    have lr := bk_lt HX.out.1
    by_cases hlt : i < size
    · have d1 : decide ((i : Int) < (size : Int)) = true := by simp; omega
      have d1' : decide (i < size) = true := by simp; omega
      have c1 := HX.out.cell 1
      simp [wkC] at c1
      obtain ⟨bb, o, rfl, hbn, u⟩ := HX.out.byte (i := i) (show i < s.b.length by omega)
      have hil : (i : Int) < (s.b.length : Int) := by omega
      have hil' : i < s.b.length := by omega
      obtain ⟨k, hk⟩ : ∃ k, k = at8 s.b i := ⟨_, rfl⟩
      have hkh : at8 (s.b.take size) i = k := by rw [at8_take _ _ _ hlt, hk]
      replace HE := Lib.hid (HE.out.trans (if_neg (by rw [HL.out]; omega)))
      rw [hkh] at HE
      simp only at u
      rw [← hk] at u
      have hk8 := k.toNat_lt
      obtain ⟨j1, hj1⟩ : ∃ j, j = i + 1 := ⟨_, rfl⟩
      have i1 : IntKind.i64.wrap ((i : Int) + 1) = (j1 : Int) := by rw [IntKind.wrap_i64]; omega
      have HK := Lib.hid hkh
      have HJ := Lib.hid hj1
      rw [← hj1] at HE
      clear hk hkh hj1
      by_cases hk0 : k.toNat = 0
      · have hk0' : (k.toNat : Int) = 0 := by omega
        have hke : k = 0 := UInt8.toNat_inj.1 hk0
        replace HE := Lib.hid (HE.out.trans (if_pos hke))
        clear hke
        go_wp2_with fail
        have := HJ.out
        refine ⟨⟨j1, a, by omega, rfl, HE, HX, GX⟩, by simp [intOf]; omega⟩
      · have hk0' : ¬ (k.toNat : Int) = 0 := by omega
        have hke : ¬ k = 0 := fun e => hk0 (by rw [e]; rfl)
        replace HE := Lib.hid (HE.out.trans (if_neg hke))
        clear hke
        have i2 : IntKind.i64.wrap ((i : Int) + 2) = (i : Int) + 2 := by rw [IntKind.wrap_i64]; omega
        by_cases h1e : j1 < size
        · have d2 : decide ((size : Int) ≤ (j1 : Int)) = false := by simp; omega
          have d2' : decide (size ≤ j1) = false := by simp; omega
          obtain ⟨_, _, e, _, u1⟩ := HX.out.byte (i := j1) (show j1 < s.b.length by omega)
          cases e
          have hjl : (j1 : Int) < (s.b.length : Int) := by omega
          have hjl' : j1 < s.b.length := by omega
          obtain ⟨m, hm⟩ : ∃ m, m = at8 s.b j1 := ⟨_, rfl⟩
          simp only at u1
          rw [← hm] at u1
          have hmh : at8 (s.b.take size) (i + 1) = m := by rw [at8_take _ _ _ (by have := HJ.out; omega), ← HJ.out, hm]
          obtain ⟨e2, he2⟩ : ∃ e, e = oend (s.b.take size) i := ⟨_, rfl⟩
          have he2m : e2 = i + 2 + m.toNat := by rw [he2, oend, hmh]
          rw [← he2] at HE
          have HM := Lib.hid hmh
          have hm8 := m.toNat_lt
          have m0 : IntKind.i64.wrap (m.toNat : Int) = (m.toNat : Int) := by rw [IntKind.wrap_i64]; omega
          have i3 : IntKind.i64.wrap ((i : Int) + 2 + (m.toNat : Int)) = (e2 : Int) := by rw [IntKind.wrap_i64]; omega
          have i4 : IntKind.i64.wrap (2 + (m.toNat : Int)) = 2 + (m.toNat : Int) := by rw [IntKind.wrap_i64]; omega
          have i5 : IntKind.i64.wrap ((i : Int) + (2 + (m.toNat : Int))) = (e2 : Int) := by rw [IntKind.wrap_i64]; omega
          have HE2 := Lib.hid he2m
          clear hm hmh he2 he2m
          by_cases h2e : e2 ≤ size
          · have d3 : decide ((size : Int) < (e2 : Int)) = false := by simp; omega
            have d3' : decide (size < e2) = false := by simp; omega
            replace HE := Lib.hid (HE.out.trans (if_neg (by rw [HL.out]; omega)))
            have hmea : size - e2 < size - i := by have := HE2.out; omega
            by_cases hk1 : k.toNat = 1
            · have hk1' : (k.toNat : Int) = 1 := by omega
              have hke : k = 1 := UInt8.toNat_inj.1 hk1
              have hoc : oc (s.b.take size) (s.nx == 0) s.mc i = 0 := by unfold oc; rw [HK.out, if_pos hke]
              have hoa : oal (s.b.take size) (s.nx == 0) i = false := by unfold oal; rw [HK.out, hke]; rfl
              replace HE := Lib.hid (HE.out.trans (if_pos hoc))
              rw [hoa, Bool.false_or] at HE
              clear hke hoc hoa
              go_wp2_with fail
              refine ⟨⟨e2, a, h2e, rfl, HE, HX, GX⟩, by simp only [intOf]; exact hmea⟩
            · have hk1' : ¬ (k.toNat : Int) = 1 := by omega
              have hke : ¬ k = 1 := fun e => hk1 (by rw [e]; rfl)
              obtain ⟨q, hq⟩ : ∃ q, q = s.p + i := ⟨_, rfl⟩
              have hpq : IntKind.i64.wrap ((s.p : Int) + (i : Int)) = (q : Int) := by rw [IntKind.wrap_i64]; omega
              have J := judge_any n x { s with al := a || s.al } (some ⟨bb, o, none⟩) cc q k wr HX.out (by omega)
              simp only at J
              obtain ⟨j, hj⟩ : ∃ j, j = jc k s.mc := ⟨_, rfl⟩
              rw [← hj] at J
              have HJC := Lib.hid hj; have HQ := Lib.hid hq; have HKE := Lib.hid hke
              have C := Lib.hid J
              have c0 := HX.out.cell 0; have c2 := HX.out.cell 2; have c6 := HX.out.cell 6
              simp [wkC] at c0 c2 c6
              have z6 := bk_frozen HX.out.1 6
              clear hj hq hke J
              by_cases hk5 : k.toNat = 5
              · have hk5' : (k.toNat : Int) = 5 := by omega
                by_cases hm2 : m.toNat = 2
                · have t2 : ((m.toNat : Int) == 2) = true := by rw [beq_iff_eq]; omega
                  have t3 : decide ((m.toNat : Int) = 2) = true := decide_eq_true (by omega)
                  have HM2 := Lib.hid hm2
                  clear hm2
                  by_cases hn0 : s.nx.toNat = 0
                  · have hn0' : (s.nx.toNat : Int) = 0 := by omega
                    have hoa : oal (s.b.take size) (s.nx == 0) i = true := by
                      unfold oal
                      rw [HK.out, HM.out, UInt8.toNat_inj.1 (show k.toNat = (5 : UInt8).toNat from hk5), UInt8.toNat_inj.1 (show m.toNat = (2 : UInt8).toNat from HM2.out), UInt8.toNat_inj.1 (show s.nx.toNat = (0 : UInt8).toNat from hn0)]
                      rfl
                    have hoc : oc (s.b.take size) (s.nx == 0) s.mc i = 0 := by unfold oc; rw [HK.out, if_neg HKE.out, if_pos hoa]
                    replace HE := Lib.hid (HE.out.trans (if_pos hoc))
                    rw [hoa, Bool.true_or] at HE
                    clear hoc hoa
                    have HX2 := Lib.hid (HX.out.alert lr true)
                    have GX2 := Lib.hid (GX.out.setCell 6 (.bool true))
                    clear C
                    go_wp2_with fail
                    refine ⟨⟨e2, true, h2e, rfl, HE, HX2, GX2⟩, by simp only [intOf]; exact hmea⟩
                  · have hn0' : ¬ (s.nx.toNat : Int) = 0 := by omega
                    have hoa : oal (s.b.take size) (s.nx == 0) i = false := by
                      unfold oal
                      rw [show (s.nx == 0) = false by rw [beq_eq_false_iff_ne]; intro e; exact hn0 (by rw [e]; rfl)]
                      simp
                    have hoc : oc (s.b.take size) (s.nx == 0) s.mc i = j := by unfold oc; rw [HK.out, if_neg HKE.out, if_neg (by rw [hoa]; decide), HJC.out]
                    rw [hoc, hoa, Bool.false_or] at HE
                    clear hoc hoa
                    by_cases hj0 : j = 0
                    · replace HE := Lib.hid (HE.out.trans (if_pos hj0))
                      go_wp2_with fail
                      refine C.out.mono ?_
                      rintro e w1 ⟨rfl, h1, g1⟩
                      subst hj0
                      have HX1 := Lib.hid h1; have GX1 := Lib.hid (GX.out.trans g1)
                      clear h1 g1 C c0 c2 c6 z6
                      go_wp2_with fail
                      refine ⟨⟨e2, a, h2e, rfl, HE, HX1, GX1⟩, by simp only [intOf]; exact hmea⟩
                    · replace HE := Lib.hid (HE.out.trans (if_neg hj0))
                      have hj0' : ¬ (j : Int) = 0 := by omega
                      go_wp2_with fail
                      refine C.out.mono ?_
                      rintro e w1 ⟨rfl, h1, g1⟩
                      have HX1 := Lib.hid h1; have GX1 := Lib.hid (GX.out.trans g1)
                      have HJ0 := Lib.hid hj0
                      clear h1 g1 C c0 c2 c6 z6 hj0
                      go_wp2_with fail
                      go_ret
                      refine ⟨some ⟨bb, o, none⟩, cc, by rw [HE.out]; rfl, ?_, GX1.out⟩
                      rw [HE.out]
                      unfold Wk.opts
                      rw [if_neg HJ0.out]
                      have h := HX1.out
                      by_cases h7 : j = 7
                      · rw [if_pos h7] at h ⊢
                        rw [HQ.out] at h
                        exact h
                      · rw [if_neg h7] at h ⊢
                        exact h
                · have hm2' : ¬ (m.toNat : Int) = 2 := by omega
                  have hoa : oal (s.b.take size) (s.nx == 0) i = false := by
                    unfold oal
                    rw [HM.out, show (m == 2) = false by rw [beq_eq_false_iff_ne]; intro e; exact hm2 (by rw [e]; rfl)]
                    simp
                  have hoc : oc (s.b.take size) (s.nx == 0) s.mc i = j := by unfold oc; rw [HK.out, if_neg HKE.out, if_neg (by rw [hoa]; decide), HJC.out]
                  rw [hoc, hoa, Bool.false_or] at HE
                  clear hoc hoa
                  by_cases hj0 : j = 0
                  · replace HE := Lib.hid (HE.out.trans (if_pos hj0))
                    go_wp2_with fail
                    refine C.out.mono ?_
                    rintro e w1 ⟨rfl, h1, g1⟩
                    subst hj0
                    have HX1 := Lib.hid h1; have GX1 := Lib.hid (GX.out.trans g1)
                    clear h1 g1 C c0 c2 c6 z6
                    go_wp2_with fail
                    refine ⟨⟨e2, a, h2e, rfl, HE, HX1, GX1⟩, by simp only [intOf]; exact hmea⟩
                  · replace HE := Lib.hid (HE.out.trans (if_neg hj0))
                    have hj0' : ¬ (j : Int) = 0 := by omega
                    go_wp2_with fail
                    refine C.out.mono ?_
                    rintro e w1 ⟨rfl, h1, g1⟩
                    have HX1 := Lib.hid h1; have GX1 := Lib.hid (GX.out.trans g1)
                    have HJ0 := Lib.hid hj0
                    clear h1 g1 C c0 c2 c6 z6 hj0
                    go_wp2_with fail
                    go_ret
                    refine ⟨some ⟨bb, o, none⟩, cc, by rw [HE.out]; rfl, ?_, GX1.out⟩
                    rw [HE.out]
                    unfold Wk.opts
                    rw [if_neg HJ0.out]
                    have h := HX1.out
                    by_cases h7 : j = 7
                    · rw [if_pos h7] at h ⊢
                      rw [HQ.out] at h
                      exact h
                    · rw [if_neg h7] at h ⊢
                      exact h
              · have hk5' : ¬ (k.toNat : Int) = 5 := by omega
                have hoa : oal (s.b.take size) (s.nx == 0) i = false := by
                  unfold oal
                  rw [HK.out, show (k == 5) = false by rw [beq_eq_false_iff_ne]; intro e; exact hk5 (by rw [e]; rfl)]
                  simp
                have hoc : oc (s.b.take size) (s.nx == 0) s.mc i = j := by unfold oc; rw [HK.out, if_neg HKE.out, if_neg (by rw [hoa]; decide), HJC.out]
                rw [hoc, hoa, Bool.false_or] at HE
                clear hoc hoa
                by_cases hj0 : j = 0
                · replace HE := Lib.hid (HE.out.trans (if_pos hj0))
                  go_wp2_with fail
                  refine C.out.mono ?_
                  rintro e w1 ⟨rfl, h1, g1⟩
                  subst hj0
                  have HX1 := Lib.hid h1; have GX1 := Lib.hid (GX.out.trans g1)
                  clear h1 g1 C c0 c2 c6 z6
                  go_wp2_with fail
                  refine ⟨⟨e2, a, h2e, rfl, HE, HX1, GX1⟩, by simp only [intOf]; exact hmea⟩
                · replace HE := Lib.hid (HE.out.trans (if_neg hj0))
                  have hj0' : ¬ (j : Int) = 0 := by omega
                  go_wp2_with fail
                  refine C.out.mono ?_
                  rintro e w1 ⟨rfl, h1, g1⟩
                  have HX1 := Lib.hid h1; have GX1 := Lib.hid (GX.out.trans g1)
                  have HJ0 := Lib.hid hj0
                  clear h1 g1 C c0 c2 c6 z6 hj0
                  go_wp2_with fail
                  go_ret
                  refine ⟨some ⟨bb, o, none⟩, cc, by rw [HE.out]; rfl, ?_, GX1.out⟩
                  rw [HE.out]
                  unfold Wk.opts
                  rw [if_neg HJ0.out]
                  have h := HX1.out
                  by_cases h7 : j = 7
                  · rw [if_pos h7] at h ⊢
                    rw [HQ.out] at h
                    exact h
                  · rw [if_neg h7] at h ⊢
                    exact h
          · have d3 : decide ((size : Int) < (e2 : Int)) = true := by simp; omega
            have d3' : decide (size < e2) = true := by simp; omega
            replace HE := Lib.hid (HE.out.trans (if_pos (.inr (by rw [HL.out]; omega))))
            go_wp2_with fail
            go_ret
            exact ⟨some ⟨bb, o, none⟩, cc, by rw [HE.out]; rfl, by rw [HE.out]; exact HX.out, GX.out⟩
        · have d2 : decide ((size : Int) ≤ (j1 : Int)) = true := by simp; omega
          have d2' : decide (size ≤ j1) = true := by simp; omega
          replace HE := Lib.hid (HE.out.trans (if_pos (.inl (by rw [HL.out]; omega))))
          go_wp2_with fail
          go_ret
          exact ⟨some ⟨bb, o, none⟩, cc, by rw [HE.out]; rfl, by rw [HE.out]; exact HX.out, GX.out⟩
    · obtain rfl : i = size := by omega
      have d1 : decide ((i : Int) < (i : Int)) = false := by simp
      replace HE := Lib.hid (HE.out.trans (if_pos (by rw [HL.out]; omega)))
      have P := pass_any n x { s with al := a || s.al } AA cc i wr HX.out (show 1 ≤ s.b.length by omega) hs hp hs40
      go_wp2_with fail
      refine P.mono ?_
      rintro e w1 ⟨A', c', rfl, h1, g1⟩
      have H1 := Lib.hid h1; have G1 := Lib.hid (GX.out.trans g1)
      clear h1 g1 P
      go_wp2_with fail
      go_ret
      exact ⟨A', c', by rw [HE.out]; rfl, by rw [HE.out]; exact H1.out, G1.out⟩
end Go.Proofs.Ytbfiakikhkiefaa
