/- Infos: what is due, done, where more than a day went by. -/
import Derived.Test.YtfldoihindbdmaaF7
namespace Go.Proofs.Ytfldoihindbdmaa
open Go.RowKit
set_option maxRecDepth 100000
set_option maxHeartbeats 1000000
theorem tick_far (x : Nat) (c : Cl) (now : Nat) (p : Option Addr) (l : List Nat) (w : World) (h : ClB w x c) (hw : WdB w p l) (hp : ¬ WF p x) (hn : now ≤ far) (hadv : c.due + 86400000 < max now c.tm) (d : Cl) (m : List Nat) (os : List (List UInt8)) (hrun : Run (max now c.tm) { c with next := max now c.tm - 86400000 } l d m os) (hos : os.length < 2 ^ 20) :
    Calls Try.prog 11 #[.pointer (some ⟨x, 0, none⟩), .int .u64 (now : Int), .pointer p] w fun e w' => ∃ A, e = .returned (.slice A os.length os.length) ∧ Got w' w.heap.size A os ∧ ClB w' x (d.goes (max now c.tm)) ∧ WdB w' p m ∧ Tn (XF x p) w w' := by
  have C := Lib.hid (there_any x c w h)
  have CN := Lib.hid (next_any x c w h)
  have HC := Lib.hid h
  have HW := Lib.hid hw
  have HP := Lib.hid hp
  have hxp : ∀ k, XF x p k → k < w.heap.size := fun k hk => by
    rcases hk with rfl | hk
    · exact bk_lt h.box
    · exact hw.lt k hk
  have HXP := Lib.hid hxp
  obtain ⟨NW, hNW⟩ : ∃ N, N = max now c.tm := ⟨_, rfl⟩
  rw [← hNW] at hadv hrun ⊢
  have HNW : Hid (NW ≤ far) := Lib.hid (by have := h.t64; omega)
  have HRUN := Lib.hid hrun
  have HOS := Lib.hid hos
  have c10 := bk_cell h.box 10
  simp [clC] at c10
  have lx := bk_lt h.box
  have HADV := Lib.hid hadv
  obtain ⟨D, hD⟩ : ∃ D, D = c.due := ⟨_, rfl⟩
  rw [← hD] at CN HADV
  have hNWm : max now c.tm = NW := hNW.symm
  clear h hw hp hxp hrun hn hadv hD hNW hos
  go_enter Try.func11, Try.ntmps11
  go_wp2_with fail
  refine (C.out).mono ?_
  rintro e w1 ⟨rfl, hw⟩
  subst hw
  go_upto_region 4 with fail
  have hmx : (if now < c.tm then (c.tm : Int) else (now : Int)) = (NW : Int) := by split <;> omega
  rw [hmx]
  clear hmx hNWm c10
  have hb : 86400000 < NW := by have := HADV.out; omega
  have d1 : decide ((86400000 : Int) < (NW : Int)) = true := by simp; omega
  have d2 : decide (86400000 < NW) = true := by simp; omega
  obtain ⟨K, hK⟩ : ∃ K, K = NW - 86400000 := ⟨_, rfl⟩
  have e1 : (NW : Int) - 86400000 = (K : Int) := by omega
  have hf := HNW.out
  unfold far at hf
  have e2 : (K : Int) % 18446744073709551616 = (K : Int) := by omega
  have hKD : D < K := by have := HADV.out; omega
  have d3 : decide ((D : Int) < (K : Int)) = true := by simp; omega
  have d4 : decide (D < K) = true := by simp; omega
  have hrun := HRUN.out
  rw [← hK] at hrun
  clear HRUN
  have HRUN := Lib.hid hrun
  have c9 := bk_cell HC.out.box 9
  simp [clC] at c9
  have f9 := bk_frozen HC.out.box 9
  have HC1 : Hid (ClB (w.setCell ⟨x, 9, none⟩ (.int .u64 (K : Int))) x { c with next := K }) := Lib.hid ⟨by rw [bk_setCell_same, HC.out.box]; rfl, by show K ≤ far; unfold far; omega, HC.out.t64, HC.out.i24, HC.out.s64, HC.out.w22⟩
  have t1 : Tn (fun k => k = x) w (w.setCell ⟨x, 9, none⟩ (.int .u64 (K : Int))) := (Tn.refl _ _).set (.inl rfl)
  have HW1 := Lib.hid (HW.out.keep t1 fun k hk e => HP.out (e ▸ hk))
  have TT1 := Lib.hid (t1.mono (G := XF x p) fun k hk => .inl hk)
  clear hrun hb hK hf hKD t1
  go_wp2_with fail
  refine CN.out.mono ?_
  rintro e w1 ⟨rfl, rfl⟩
  clear CN
  go_wp2_with fail
  clear d1 d2 d3 d4 e1 e2 lx c9 f9 HC HW C HADV
  change Code.wp _ _ _ _ (w.setCell ⟨x, 9, none⟩ (.int .u64 (K : Int)))
  generalize w.setCell ⟨x, 9, none⟩ (.int .u64 (K : Int)) = wk at *
  go_loopw [6, 7] (fun v _ wr => ∃ (c' : Cl) (l' : List Nat) (A : Option Addr) (k cc : Nat) (os1 os2 : List (List UInt8)), v = .slice A k cc ∧ Hid (ClB wr x c') ∧ Hid (WdB wr p l') ∧ Hid (Run NW c' l' d m os2) ∧ Hid (os = os1 ++ os2) ∧ Hid (OutL wr w.heap.size (.slice A k cc) os1) ∧ Hid (Tn (XF x p) w wr)) (fun _ _ wr => mTick NW x wr)
  case atStart => exact ⟨{ c with next := K }, l, none, 0, 0, [], os, rfl, HC1, HW1, HRUN, Lib.hid rfl, Lib.hid OutL.nil, TT1⟩
  case round =>
    obtain ⟨c', l', A, k, cc, os1, os2, rfl, H1, W1, R1, E1, O1, T1⟩ := hrel
    have CX := Lib.hid (next_any x c' wr H1.out)
    have c9 := bk_cell H1.out.box 9
    simp [clC] at c9
    have lx := bk_lt H1.out.box
    obtain ⟨D, hD⟩ : ∃ D, D = c'.due := ⟨_, rfl⟩
    rw [← hD] at CX
    obtain ⟨nx, hnx⟩ : ∃ nx, nx = c'.next := ⟨_, rfl⟩
    rw [← hnx] at c9
    have HNX := Lib.hid hnx
    have hxx := fun k (hk : XF x p k) => HXP.out k hk
    have HXX := Lib.hid hxx
    rcases R1.out.inv with ⟨hdone, hd, hm, hos⟩ | ⟨hdu, hle, hfr, hka, hrun⟩ | ⟨hdu, hle, hfr, hsi, os3, hos, hrun⟩
    · have CG := Lib.hid (goes_any x c' NW wr H1.out HNW.out)
      have HE : Hid (os1 = os) := Lib.hid (by rw [E1.out, hos, List.append_nil])
      subst hd hm
      have ht : ((!((D : Int) == 9223372036854775807)) && decide ((nx : Int) ≤ (NW : Int))) = false := by
        rcases hdone with h | h
        · have : D = 9223372036854775807 := hD.trans h
          rw [this]; rfl
        · have : decide ((nx : Int) ≤ (NW : Int)) = false := by simp; omega
          rw [this, Bool.and_false]
      clear hdone hD hnx hos hxx
      by_cases hDf : D = 9223372036854775807
      · have e1 : ((D : Int) == 9223372036854775807) = true := by rw [hDf]; rfl
        have e1' : ((D : Int) != 9223372036854775807) = false := by rw [bne, e1]; rfl
        clear hDf ht
        go_wp2_with fail
        refine CX.out.mono ?_
        rintro e w1 ⟨rfl, rfl⟩
        go_wp2_with fail
        refine CG.out.mono ?_
        rintro e w2 ⟨rfl, h2, t2⟩
        obtain ⟨hk, hcc, hgot⟩ := (O1.out.turn t2 fun k hk => HXX.out k (.inl hk)).got
        have W2 := W1.out.keep t2 fun k hk e => HP.out (e ▸ hk)
        have T2 := T1.out.trans t2 fun j hj => .inl (.inl hj)
        have CC := Lib.hid (clipS_any A k cc (by omega) w2)
        have FIN : Hid (∀ w3, Below w2.heap.size w2 w3 → Got w3 w.heap.size A os ∧ ClB w3 x (Cl.goes _ NW) ∧ WdB w3 p _ ∧ Tn (XF x p) w w3) := Lib.hid fun w3 b3 => ⟨HE.out ▸ hgot.below b3, h2.below b3, W2.keep (Tn.of b3) (F := fun _ => False) (fun k hk e => e), T2.trans (Tn.of b3) (G := fun _ => False) fun j hj => hj.elim⟩
        have HK : Hid (k = os.length) := Lib.hid (by rw [hk, HE.out])
        clear h2 t2 hk hcc hgot W2 T2 CG
        go_wp2_with fail
        refine CC.out.mono ?_
        rintro e w3 ⟨rfl, b3⟩
        have F3 := Lib.hid (FIN.out w3 b3)
        clear FIN b3 CC
        go_wp2_with fail
        go_ret
        exact ⟨A, by rw [HK.out]; rfl, F3.out⟩
      · have e1 : ((D : Int) == 9223372036854775807) = false := beq_eq_false_iff_ne.2 (by omega)
        have e1' : ((D : Int) != 9223372036854775807) = true := by rw [bne, e1]; rfl
        rw [e1] at ht
        have e2 : decide ((nx : Int) ≤ (NW : Int)) = false := by simpa using ht
        have e3 : decide (nx ≤ NW) = false := by simp at e2 ⊢; omega
        clear hDf ht
        go_wp2_with fail
        refine CX.out.mono ?_
        rintro e w1 ⟨rfl, rfl⟩
        go_wp2_with fail
        refine CG.out.mono ?_
        rintro e w2 ⟨rfl, h2, t2⟩
        obtain ⟨hk, hcc, hgot⟩ := (O1.out.turn t2 fun k hk => HXX.out k (.inl hk)).got
        have W2 := W1.out.keep t2 fun k hk e => HP.out (e ▸ hk)
        have T2 := T1.out.trans t2 fun j hj => .inl (.inl hj)
        have CC := Lib.hid (clipS_any A k cc (by omega) w2)
        have FIN : Hid (∀ w3, Below w2.heap.size w2 w3 → Got w3 w.heap.size A os ∧ ClB w3 x (Cl.goes _ NW) ∧ WdB w3 p _ ∧ Tn (XF x p) w w3) := Lib.hid fun w3 b3 => ⟨HE.out ▸ hgot.below b3, h2.below b3, W2.keep (Tn.of b3) (F := fun _ => False) (fun k hk e => e), T2.trans (Tn.of b3) (G := fun _ => False) fun j hj => hj.elim⟩
        have HK : Hid (k = os.length) := Lib.hid (by rw [hk, HE.out])
        clear h2 t2 hk hcc hgot W2 T2 CG
        go_wp2_with fail
        refine CC.out.mono ?_
        rintro e w3 ⟨rfl, b3⟩
        have F3 := Lib.hid (FIN.out w3 b3)
        clear FIN b3 CC
        go_wp2_with fail
        go_ret
        exact ⟨A, by rw [HK.out]; rfl, F3.out⟩
    · have e1 : ((D : Int) == 9223372036854775807) = false := beq_eq_false_iff_ne.2 (by have : D ≠ 9223372036854775807 := fun h => hdu (hD ▸ h); omega)
      have e1' : ((D : Int) != 9223372036854775807) = true := by rw [bne, e1]; rfl
      have e2 : decide ((nx : Int) ≤ (NW : Int)) = true := by simp; omega
      have e3 : decide (nx ≤ NW) = true := by simp; omega
      have CG := Lib.hid (goes_any x c' nx wr H1.out (hnx ▸ H1.out.n64))
      obtain ⟨T, hT⟩ : ∃ T, T = max c'.tm nx := ⟨_, rfl⟩
      have HT := Lib.hid hT
      have HTF : Hid (T ≤ far) := Lib.hid (by have h1 := H1.out.t64; have h2 := H1.out.n64; omega)
      rw [← hT] at CG
      have HRU := Lib.hid hrun
      have HFA := Lib.hid (And.intro hfr (And.intro hka hle))
      clear hdu hle hfr hka hrun hD hnx hxx hT
      go_wp2_with fail
      refine CX.out.mono ?_
      rintro e w1 ⟨rfl, rfl⟩
      go_wp2_with fail
      refine CG.out.mono ?_
      rintro e w2 ⟨rfl, h2, t2⟩
      have H2 := Lib.hid h2
      have T2 := Lib.hid t2
      have W2 := Lib.hid (W1.out.keep t2 fun k hk e => HP.out (e ▸ hk))
      have O2 := Lib.hid (O1.out.turn t2 fun k hk => HXX.out k (.inl hk))
      have c8 := bk_cell h2.box 8
      simp [clC] at c8
      rw [HFA.out.1] at c8
      have lx := bk_lt h2.box
      have CS := Lib.hid (start_any x { c' with tm := T } T p l' w2 h2 W2.out HP.out HTF.out HFA.out.2.1)
      clear h2 t2 CG CX c9 e1 e1' e2 e3
      go_wp2_with fail
      refine CS.out.mono ?_
      rintro e w3 ⟨rfl, h3, W3, t3⟩
      have O3 := Lib.hid (O2.out.turn t3 fun k hk => HXX.out k hk)
      have HM : Hid (mTick NW x w3 < mTick NW x wr) := Lib.hid (by
        rw [mTick_eq h3, mTick_eq H1.out, HFA.out.1]
        show 2 * (NW + 1 - addT (max T T) _) + 0 < 2 * (NW + 1 - c'.next) + 1
        have h5 : c'.next ≤ addT (max T T) (belT (l'.tail.headD 0) 1000) := by
          have h1 := H1.out.n64; have h6 := HT.out; have h7 := HNX.out
          unfold addT
          split <;> omega
        omega)
      have H3 := Lib.hid h3
      have W3' := Lib.hid W3
      have T3 := Lib.hid ((T1.out.trans (T2.out.mono (G := XF x p) fun k hk => .inl hk) fun j hj => .inl hj).trans t3 fun j hj => .inl hj)
      clear h3 W3 t3 CS
      go_wp2_with fail
      refine ⟨⟨_, l'.tail.tail, A, k, cc, os1, os2, rfl, H3, W3', Lib.hid ?_, E1, O3, T3⟩, HM.out⟩
      have hru := HRU.out
      rw [← HNX.out, ← HT.out] at hru
      have e5 : Cl.start { c' with tm := T } T l' = (c'.goes nx).start T l' := by
        rw [HT.out]; rfl
      rw [e5]
      exact hru
    · have e1 : ((D : Int) == 9223372036854775807) = false := beq_eq_false_iff_ne.2 (by have : D ≠ 9223372036854775807 := fun h => hdu (hD ▸ h); omega)
      have e1' : ((D : Int) != 9223372036854775807) = true := by rw [bne, e1]; rfl
      have e2 : decide ((nx : Int) ≤ (NW : Int)) = true := by simp; omega
      have e3 : decide (nx ≤ NW) = true := by simp; omega
      have HNF : Hid (c'.next ≠ far) := Lib.hid (Cl.due_next hdu).2
      have CG := Lib.hid (goes_any x c' nx wr H1.out (hnx ▸ H1.out.n64))
      obtain ⟨T, hT⟩ : ∃ T, T = max c'.tm nx := ⟨_, rfl⟩
      have HT := Lib.hid hT
      have HTF : Hid (T ≤ far) := Lib.hid (by have h1 := H1.out.t64; have h2 := H1.out.n64; omega)
      rw [← hT] at CG
      have HRU := Lib.hid hrun
      have HFA := Lib.hid (And.intro hfr (And.intro hsi hle))
      have hk := (O1.out.got).1
      subst hk
      have HO := Lib.hid hos
      have HLN : Hid (os1.length < 2 ^ 20) := Lib.hid (by have h1 := HOS.out; rw [E1.out, List.length_append] at h1; omega)
      clear hdu hle hfr hsi hrun hD hnx hxx hT hos
      go_wp2_with fail
      refine CX.out.mono ?_
      rintro e w1 ⟨rfl, rfl⟩
      go_wp2_with fail
      refine CG.out.mono ?_
      rintro e w2 ⟨rfl, h2, t2⟩
      have H2 := Lib.hid h2
      have T2 := Lib.hid (T1.out.trans t2 fun j hj => .inl (.inl hj))
      have W2 := Lib.hid (W1.out.keep t2 fun k hk e => HP.out (e ▸ hk))
      have O2 := Lib.hid (O1.out.turn t2 fun k hk => HXX.out k (.inl hk))
      have c8 := bk_cell h2.box 8
      have c13 := bk_cell h2.box 13
      simp [clC] at c8 c13
      rw [HFA.out.1] at c8
      have lx := bk_lt h2.box
      obtain ⟨c1, hc1⟩ : ∃ c1, c1 = c'.ask1 := ⟨_, rfl⟩
      have HC1 := Lib.hid hc1
      clear hc1
      by_cases hw0 : c'.wait = 0
      · rw [hw0] at c13
        have f12 := bk_frozen h2.box 12
        have c12 := bk_cell h2.box 12
        simp [clC] at c12
        have ec : c1 = { c' with tm := T, since := T } := by
          rw [HC1.out, HT.out, HNX.out]; unfold Cl.ask1; rw [if_pos hw0]
        have H3 : Hid (ClB (w2.setCell ⟨x, 12, none⟩ (.int .u64 (T : Int))) x c1) := Lib.hid (by
          rw [ec]; exact ⟨by rw [bk_setCell_same, h2.box]; rfl, h2.n64, h2.t64, h2.i24, HTF.out, h2.w22⟩)
        have t3 : Tn (fun k => k = x) w2 (w2.setCell ⟨x, 12, none⟩ (.int .u64 (T : Int))) := (Tn.refl _ _).set (.inl rfl)
        have T3 := Lib.hid (T2.out.trans t3 fun j hj => .inl (.inl hj))
        have W3 := Lib.hid (W2.out.keep t3 fun k hk e => HP.out (e ▸ hk))
        have O3 := Lib.hid (O2.out.turn t3 fun k hk => HXX.out k (.inl hk))
        have HS3 : Hid (c1.since ≤ T ∧ c1.tm = T) := Lib.hid (by rw [ec]; exact ⟨Nat.le_refl _, rfl⟩)
        clear h2 t2 CG CX c9 e1 e1' e2 e3 t3 ec hw0
        go_upto_region 12 with fail
        change Code.wp _ _ _ _ (w2.setCell ⟨x, 12, none⟩ (.int .u64 (T : Int)))
        clear c8 c12 c13 f12 lx H2 T2 W2 O2
        generalize w2.setCell ⟨x, 12, none⟩ (.int .u64 (T : Int)) = w3 at *
        have CR := Lib.hid (request_any x c1 T w3 H3.out HTF.out HS3.out.1)
        go_wp2_with fail
        refine CR.out.mono ?_
        rintro e w4 ⟨A1, rfl, r4, hb4, b4⟩
        have b5 : Below w4.heap.size w4 (w4.alloc (.cells #[.slice A1 34 34] 22)) := (by (repeat (first | exact Below.refl _ _ | assumption | refine Below.drew ?_ | refine bdrewN ?_ _ | refine Below.alloc ?_ (by first | omega | (simp <;> omega) | (simp only [World.size_alloc] <;> omega)) _ | refine below_setRow ?_ (by first | omega | (simp <;> omega)) _ | refine Below.setCell ?_ (by first | omega | (simp <;> omega)) _)))
        have b35 := b4.trans (b5.mono b4.size)
        have O5 := O3.out.turn (Tn.of (F := fun _ => False) b35) (fun k hk => hk.elim)
        obtain ⟨vs, hown, hall⟩ := O5
        have hvl : vs.length = os1.length := by have := hown.1; omega
        have hc5 : (w4.alloc (.cells #[.slice A1 34 34] 22)).cell? ⟨w4.heap.size, 0, none⟩ = some (.slice A1 34 34) := bk_cell (bk_alloc_at _ _ _ rfl) 0
        have hw5 : w.heap.size ≤ (w4.alloc (.cells #[.slice A1 34 34] 22)).heap.size := Nat.le_trans T3.out.size b35.size
        have r5 := (r4.below b5 (Nat.le_refl _)).mono b5.size
        have hA5 : Hid (∀ g o, A1 = some ⟨g, o, none⟩ → w.heap.size ≤ g ∧ (Value.slice A os1.length cc).ownBlock ≠ some g ∧ g < (w4.alloc (.cells #[.slice A1 34 34] 22)).heap.size) := Lib.hid fun g o e => by
          have h1 := hb4 g o e
          have h2 := T3.out.size
          obtain ⟨b9, o9, e9, hlt9, _⟩ := r4 (by rw [(reqB_len c1 T).2.2]; decide)
          rw [e9] at e
          cases e
          refine ⟨by omega, fun e2 => ?_, Nat.lt_of_lt_of_le hlt9 b5.size⟩
          obtain ⟨vs3, hown3, _⟩ := O3.out
          have h3 := (hown3.lt _ e2).2
          omega
        have HOWN := Lib.hid hown
        have HALL := Lib.hid hall
        have HVL := Lib.hid hvl
        have HC5 := Lib.hid hc5
        have HW5 := Lib.hid hw5
        have R5 := Lib.hid r5
        have T5 := Lib.hid (T3.out.trans (Tn.of (F := fun _ => False) b35) fun j hj => hj.elim)
        have H5 := Lib.hid (H3.out.below b35)
        have W5 := Lib.hid (W3.out.keep (Tn.of (F := fun _ => False) b35) fun k hk e => e)
        clear r4 hb4 b4 b5 b35 hown hall hvl hc5 hw5 r5 O3 H3 W3 T3 CR
        go_wp2_with (at_builtin; refine wpList_snoc rfl _ _ rfl w.heap.size (.slice A os1.length cc) os1.length vs rfl HOWN.out ⟨w4.heap.size, 0, none⟩ (.slice A1 34 34) rfl HC5.out rfl HW5.out (by have := HLN.out; omega) ?_)
        intro A6 c6 w6 hown6 hg6 hat6
        have hlen := (reqB_len c1 T).2.2
        have O6 : Hid (OutL w6 w.heap.size (.slice A6 (os1.length + 1) c6) (os1 ++ [reqB c1 T])) := Lib.hid (OutL.snoc (A := A1) (c := 34) HALL.out HVL.out (by rw [hlen]; exact hown6) hg6 (by rw [World.size_alloc]; exact hat6) R5.out hA5.out)
        have t6 : Tn (fun k => (Value.slice A os1.length cc).ownBlock = some k) (w4.alloc (.cells #[.slice A1 34 34] 22)) w6 := ⟨hg6.os, hg6.tape, hg6.output, hg6.size, fun k hk hn => hg6.block k hk (fun e => hn e.symm)⟩
        have hge : ∀ k, XF x p k → ¬ (Value.slice A os1.length cc).ownBlock = some k := fun k hk e => by
          have h1 := HXX.out k hk
          have h2 := (HOWN.out.lt k e).1
          omega
        have H6 := Lib.hid (H5.out.keep t6 (hge x (.inl rfl)))
        have W6 := Lib.hid (W5.out.keep t6 fun k hk => hge k (.inr hk))
        have T6 := Lib.hid (T5.out.trans t6 fun j hj => .inr (HOWN.out.lt j hj).1)
        have CL := Lib.hid (later_any x c1 p l' w6 H6.out W6.out HP.out)
        have hlp := Cl.lat_pos c1 W6.out.head
        obtain ⟨t, ht⟩ : ∃ t, t = c1.lat (l'.headD 0) := ⟨_, rfl⟩
        rw [← ht] at CL hlp
        have HTT := Lib.hid ht
        have HLP := Lib.hid hlp
        clear hown6 hg6 hat6 t6 hge HALL HOWN HVL HC5 HW5 R5 hA5 T5 H5 W5 hlen ht hlp
        go_wp2_with fail
        refine CL.out.mono ?_
        rintro e w7 ⟨rfl, h7, W7, t7⟩
        have CA := Lib.hid (cadd_any T t w7 (by have := HTF.out; unfold far at this; omega) (by have := HLP.out; omega))
        have hadd := addT_le T t
        obtain ⟨s, hs⟩ : ∃ s, s = addT T t := ⟨_, rfl⟩
        rw [← hs] at CA hadd
        have HSS := Lib.hid hs
        clear hs
        have lx := bk_lt h7.box
        have f9 := bk_frozen h7.box 9
        have c9 := bk_cell h7.box 9
        simp [clC] at c9
        have ec2 : { c1 with wait := t, next := s } = c'.ask2 (l'.headD 0) := by
          have h8 := HS3.out.2
          rw [HSS.out, HTT.out, ← h8, HC1.out]
          rfl
        have H8 : Hid (ClB (w7.setCell ⟨x, 9, none⟩ (.int .u64 (s : Int))) x (c'.ask2 (l'.headD 0))) := Lib.hid (by
          rw [← ec2]; exact ⟨by rw [bk_setCell_same, h7.box]; rfl, hadd, h7.t64, h7.i24, h7.s64, h7.w22⟩)
        have t8 : Tn (XF x p) w6 (w7.setCell ⟨x, 9, none⟩ (.int .u64 (s : Int))) := t7.set (.inl (.inl rfl))
        have T8 := Lib.hid (T6.out.trans t8 fun j hj => .inl hj)
        have W8 := Lib.hid (W7.keep ((Tn.refl (fun k => k = x) w7).set (i := 9) (v := .int .u64 (s : Int)) (.inl rfl)) fun k hk e => HP.out (e ▸ hk))
        have O8 := Lib.hid (O6.out.turn t8 fun k hk => HXX.out k hk)
        have HM : Hid (mTick NW x (w7.setCell ⟨x, 9, none⟩ (.int .u64 (s : Int))) < mTick NW x wr) := Lib.hid (by
          rw [mTick_eq H8.out, mTick_eq H1.out, HFA.out.1]
          have e7 : (c'.ask2 (l'.headD 0)).next = s := by rw [← ec2]
          have e8 : (c'.ask2 (l'.headD 0)).fresh = false := by show c'.fresh = false; exact HFA.out.1
          rw [e7, e8]
          show 2 * (NW + 1 - s) + 0 < 2 * (NW + 1 - c'.next) + 0
          have h5 : c'.next < s := by
            have h1 := H1.out.n64; have h6 := HT.out; have h9 := HNX.out; have h10 := HNF.out; have h11 := HLP.out; have h12 := HSS.out
            unfold addT at h12
            split at h12 <;> omega
          have h13 := HFA.out.2.2
          omega)
        have HR8 : Hid (os = (os1 ++ [reqB c1 T]) ++ os3) := Lib.hid (by
          rw [E1.out, HO.out, List.append_assoc, ← HC1.out, HS3.out.2]; rfl)
        clear h7 W7 t7 t8 ec2 hadd CL H6 W6 T6 O6
        go_wp2_with fail
        refine CA.out.mono ?_
        rintro e w9 ⟨rfl, rfl⟩
        go_wp2_with fail
        exact ⟨⟨_, l'.tail, A6, os1.length + 1, c6, os1 ++ [reqB c1 T], os3, rfl, H8, W8, HRU, HR8, O8, T8⟩, HM.out⟩
      · have e9 : ((c'.wait : Int) == 0) = false := beq_eq_false_iff_ne.2 (by omega)
        have ec : c1 = { c' with tm := T } := by
          rw [HC1.out, HT.out, HNX.out]; unfold Cl.ask1; rw [if_neg hw0]
        have H3 : Hid (ClB w2 x c1) := Lib.hid (by rw [ec]; exact h2)
        have T3 := T2
        have W3 := W2
        have O3 := O2
        have HS3 : Hid (c1.since ≤ T ∧ c1.tm = T) := Lib.hid (by
          have h1 := HT.out; have h3 := HFA.out.2.1
          rw [ec]; exact ⟨(by show c'.since ≤ T; omega), rfl⟩)
        clear h2 t2 CG CX c9 e1 e1' e2 e3 ec hw0
        go_upto_region 12 with fail
        clear c8 c13 lx H2 T2 W2 O2 e9
        generalize hw23 : w2 = w3 at *
        clear hw23
        have CR := Lib.hid (request_any x c1 T w3 H3.out HTF.out HS3.out.1)
        go_wp2_with fail
        refine CR.out.mono ?_
        rintro e w4 ⟨A1, rfl, r4, hb4, b4⟩
        have b5 : Below w4.heap.size w4 (w4.alloc (.cells #[.slice A1 34 34] 22)) := (by (repeat (first | exact Below.refl _ _ | assumption | refine Below.drew ?_ | refine bdrewN ?_ _ | refine Below.alloc ?_ (by first | omega | (simp <;> omega) | (simp only [World.size_alloc] <;> omega)) _ | refine below_setRow ?_ (by first | omega | (simp <;> omega)) _ | refine Below.setCell ?_ (by first | omega | (simp <;> omega)) _)))
        have b35 := b4.trans (b5.mono b4.size)
        have O5 := O3.out.turn (Tn.of (F := fun _ => False) b35) (fun k hk => hk.elim)
        obtain ⟨vs, hown, hall⟩ := O5
        have hvl : vs.length = os1.length := by have := hown.1; omega
        have hc5 : (w4.alloc (.cells #[.slice A1 34 34] 22)).cell? ⟨w4.heap.size, 0, none⟩ = some (.slice A1 34 34) := bk_cell (bk_alloc_at _ _ _ rfl) 0
        have hw5 : w.heap.size ≤ (w4.alloc (.cells #[.slice A1 34 34] 22)).heap.size := Nat.le_trans T3.out.size b35.size
        have r5 := (r4.below b5 (Nat.le_refl _)).mono b5.size
        have hA5 : Hid (∀ g o, A1 = some ⟨g, o, none⟩ → w.heap.size ≤ g ∧ (Value.slice A os1.length cc).ownBlock ≠ some g ∧ g < (w4.alloc (.cells #[.slice A1 34 34] 22)).heap.size) := Lib.hid fun g o e => by
          have h1 := hb4 g o e
          have h2 := T3.out.size
          obtain ⟨b9, o9, e9, hlt9, _⟩ := r4 (by rw [(reqB_len c1 T).2.2]; decide)
          rw [e9] at e
          cases e
          refine ⟨by omega, fun e2 => ?_, Nat.lt_of_lt_of_le hlt9 b5.size⟩
          obtain ⟨vs3, hown3, _⟩ := O3.out
          have h3 := (hown3.lt _ e2).2
          omega
        have HOWN := Lib.hid hown
        have HALL := Lib.hid hall
        have HVL := Lib.hid hvl
        have HC5 := Lib.hid hc5
        have HW5 := Lib.hid hw5
        have R5 := Lib.hid r5
        have T5 := Lib.hid (T3.out.trans (Tn.of (F := fun _ => False) b35) fun j hj => hj.elim)
        have H5 := Lib.hid (H3.out.below b35)
        have W5 := Lib.hid (W3.out.keep (Tn.of (F := fun _ => False) b35) fun k hk e => e)
        clear r4 hb4 b4 b5 b35 hown hall hvl hc5 hw5 r5 O3 H3 W3 T3 CR
        go_wp2_with (at_builtin; refine wpList_snoc rfl _ _ rfl w.heap.size (.slice A os1.length cc) os1.length vs rfl HOWN.out ⟨w4.heap.size, 0, none⟩ (.slice A1 34 34) rfl HC5.out rfl HW5.out (by have := HLN.out; omega) ?_)
        intro A6 c6 w6 hown6 hg6 hat6
        have hlen := (reqB_len c1 T).2.2
        have O6 : Hid (OutL w6 w.heap.size (.slice A6 (os1.length + 1) c6) (os1 ++ [reqB c1 T])) := Lib.hid (OutL.snoc (A := A1) (c := 34) HALL.out HVL.out (by rw [hlen]; exact hown6) hg6 (by rw [World.size_alloc]; exact hat6) R5.out hA5.out)
        have t6 : Tn (fun k => (Value.slice A os1.length cc).ownBlock = some k) (w4.alloc (.cells #[.slice A1 34 34] 22)) w6 := ⟨hg6.os, hg6.tape, hg6.output, hg6.size, fun k hk hn => hg6.block k hk (fun e => hn e.symm)⟩
        have hge : ∀ k, XF x p k → ¬ (Value.slice A os1.length cc).ownBlock = some k := fun k hk e => by
          have h1 := HXX.out k hk
          have h2 := (HOWN.out.lt k e).1
          omega
        have H6 := Lib.hid (H5.out.keep t6 (hge x (.inl rfl)))
        have W6 := Lib.hid (W5.out.keep t6 fun k hk => hge k (.inr hk))
        have T6 := Lib.hid (T5.out.trans t6 fun j hj => .inr (HOWN.out.lt j hj).1)
        have CL := Lib.hid (later_any x c1 p l' w6 H6.out W6.out HP.out)
        have hlp := Cl.lat_pos c1 W6.out.head
        obtain ⟨t, ht⟩ : ∃ t, t = c1.lat (l'.headD 0) := ⟨_, rfl⟩
        rw [← ht] at CL hlp
        have HTT := Lib.hid ht
        have HLP := Lib.hid hlp
        clear hown6 hg6 hat6 t6 hge HALL HOWN HVL HC5 HW5 R5 hA5 T5 H5 W5 hlen ht hlp
        go_wp2_with fail
        refine CL.out.mono ?_
        rintro e w7 ⟨rfl, h7, W7, t7⟩
        have CA := Lib.hid (cadd_any T t w7 (by have := HTF.out; unfold far at this; omega) (by have := HLP.out; omega))
        have hadd := addT_le T t
        obtain ⟨s, hs⟩ : ∃ s, s = addT T t := ⟨_, rfl⟩
        rw [← hs] at CA hadd
        have HSS := Lib.hid hs
        clear hs
        have lx := bk_lt h7.box
        have f9 := bk_frozen h7.box 9
        have c9 := bk_cell h7.box 9
        simp [clC] at c9
        have ec2 : { c1 with wait := t, next := s } = c'.ask2 (l'.headD 0) := by
          have h8 := HS3.out.2
          rw [HSS.out, HTT.out, ← h8, HC1.out]
          rfl
        have H8 : Hid (ClB (w7.setCell ⟨x, 9, none⟩ (.int .u64 (s : Int))) x (c'.ask2 (l'.headD 0))) := Lib.hid (by
          rw [← ec2]; exact ⟨by rw [bk_setCell_same, h7.box]; rfl, hadd, h7.t64, h7.i24, h7.s64, h7.w22⟩)
        have t8 : Tn (XF x p) w6 (w7.setCell ⟨x, 9, none⟩ (.int .u64 (s : Int))) := t7.set (.inl (.inl rfl))
        have T8 := Lib.hid (T6.out.trans t8 fun j hj => .inl hj)
        have W8 := Lib.hid (W7.keep ((Tn.refl (fun k => k = x) w7).set (i := 9) (v := .int .u64 (s : Int)) (.inl rfl)) fun k hk e => HP.out (e ▸ hk))
        have O8 := Lib.hid (O6.out.turn t8 fun k hk => HXX.out k hk)
        have HM : Hid (mTick NW x (w7.setCell ⟨x, 9, none⟩ (.int .u64 (s : Int))) < mTick NW x wr) := Lib.hid (by
          rw [mTick_eq H8.out, mTick_eq H1.out, HFA.out.1]
          have e7 : (c'.ask2 (l'.headD 0)).next = s := by rw [← ec2]
          have e8 : (c'.ask2 (l'.headD 0)).fresh = false := by show c'.fresh = false; exact HFA.out.1
          rw [e7, e8]
          show 2 * (NW + 1 - s) + 0 < 2 * (NW + 1 - c'.next) + 0
          have h5 : c'.next < s := by
            have h1 := H1.out.n64; have h6 := HT.out; have h9 := HNX.out; have h10 := HNF.out; have h11 := HLP.out; have h12 := HSS.out
            unfold addT at h12
            split at h12 <;> omega
          have h13 := HFA.out.2.2
          omega)
        have HR8 : Hid (os = (os1 ++ [reqB c1 T]) ++ os3) := Lib.hid (by
          rw [E1.out, HO.out, List.append_assoc, ← HC1.out, HS3.out.2]; rfl)
        clear h7 W7 t7 t8 ec2 hadd CL H6 W6 T6 O6
        go_wp2_with fail
        refine CA.out.mono ?_
        rintro e w9 ⟨rfl, rfl⟩
        go_wp2_with fail
        exact ⟨⟨_, l'.tail, A6, os1.length + 1, c6, os1 ++ [reqB c1 T], os3, rfl, H8, W8, HRU, HR8, O8, T8⟩, HM.out⟩
end Go.Proofs.Ytfldoihindbdmaa
