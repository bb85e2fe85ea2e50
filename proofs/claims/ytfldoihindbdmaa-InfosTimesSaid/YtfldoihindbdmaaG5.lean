/- Infos: the document's ticks. -/
import Derived.Test.YtfldoihindbdmaaG4
namespace Go.Proofs.Ytfldoihindbdmaa
open Go.RowKit
set_option maxRecDepth 100000
set_option maxHeartbeats 2000000
/-- Nobody goes through more than a day. -/
def Cl.clamp (c : Cl) (nw : Nat) : Cl := if 86400000 < nw ∧ c.due < nw - 86400000 then { c with next := nw - 86400000 } else c
/-- One more behind a row of byte slices, whatever its room. -/
theorem wpList_snocR {w : World} {ops : Array Oper} {rest : List Oper} {o : Oper} {a : Act} {Q : Exit → Act → World → Prop} (hgd : o.guard = none) (s x : Operand)
    (ho : o.op = .call { callee := .builtin .append, args := #[s, x], argTypes := #[40, 40] })
    (n : Nat) (v : Value) (k : Nat) (vs : List Value) (hs : a.eval s = v) (hown : w.ownsRow n 22 1 v k vs) (ad : Addr) (u : Value) (hx : a.eval x = .slice (some ad) 1 1) (hc : w.cell? ad = some u) (h1 : u.oneCell' = true) (hn : n ≤ w.heap.size) (hl : k < 2 ^ 30)
    (h : ∀ A' c' w', w'.ownsRow n 22 1 (.slice A' (k + 1) c') (k + 1) (vs ++ [u]) → w.grownBy w' v.ownBlock → ((Value.slice A' (k + 1) c').ownBlock = v.ownBlock ∨ (Value.slice A' (k + 1) c').ownBlock = some w.heap.size) → wpList Try.prog ops Q rest (a.put o.dst (.slice A' (k + 1) c')) w') :
    wpList Try.prog ops Q (o :: rest) a w := wpList_snoc hgd s x ho n v k vs hs hown ad u hx hc h1 hn hl h
theorem rtick_any (y q m : Nat) (c : Cl) (now : Nat) (l : List Nat) (w : World) (h : RClB w y c) (hw : RWd w m q l) (hy : y < m ∧ y ≠ q) (hn : now ≤ far) (d : Cl) (mm : List Nat) (os : List (List UInt8)) (hrun : Run (max now c.tm) (c.clamp (max now c.tm)) l d mm os) (hos : os.length < 2 ^ 20) :
    Calls Try.prog 45 #[.pointer (some ⟨y, 0, none⟩), .int .u64 (now : Int), .pointer (some ⟨q, 0, none⟩)] w fun e w' => ∃ A cc, e = .returned (.slice A os.length cc) ∧ os.length ≤ cc ∧ Got w' w.heap.size A os ∧ RClB w' y (d.goes (max now c.tm)) ∧ RWd w' m q mm ∧ Tn (YF y q) w w' := by
  have HC := Lib.hid h
  have HW := Lib.hid hw
  have HY := Lib.hid hy
  have HYL : Hid (y < w.heap.size) := Lib.hid (bk_lt h.box)
  have HQL : Hid (q < w.heap.size) := Lib.hid (by obtain ⟨_, _, hb, _⟩ := hw.row; exact bk_lt hb)
  obtain ⟨NW, hNW⟩ : ∃ N, N = max now c.tm := ⟨_, rfl⟩
  rw [← hNW] at hrun ⊢
  have HNW : Hid (NW ≤ far) := Lib.hid (by have := h.t64; omega)
  have HTM : Hid (c.tm ≤ NW) := Lib.hid (by omega)
  have HOS := Lib.hid hos
  have c9 := bk_cell h.box 9
  simp [rcC] at c9
  have ly := bk_lt h.box
  have hmx : max (now : Int) (c.tm : Int) = (NW : Int) := by omega
  have hmx1 : (if (now : Int) < (c.tm : Int) then (c.tm : Int) else (now : Int)) = (NW : Int) := by split <;> omega
  have hmx2 : (if now < c.tm then (c.tm : Int) else (now : Int)) = (NW : Int) := by split <;> omega
  have T0 : Hid (Tn (YF y q) w w) := Lib.hid (Tn.refl _ _)
  clear h hw hy hn hNW hos
  go_enter Try.func45, Try.ntmps45
  go_upto_region 2 with fail
  clear hmx hmx1 hmx2 c9
  by_cases hb : NW ≤ 86400000
  · have d1 : decide ((86400000 : Int) < (NW : Int)) = false := by simp; omega
    have d2 : decide (86400000 < NW) = false := by simp; omega
    have ec : c.clamp NW = c := by unfold Cl.clamp; rw [if_neg (by omega)]
    rw [ec] at hrun
    have HRUN := Lib.hid hrun
    clear hrun ec hb
    go_wp2_with fail
    clear d1 d2 ly
    go_loopw [7, 8, 9] (fun v _ _ wr => ∃ (c' : Cl) (l' : List Nat) (A : Option Addr) (k cc : Nat) (os1 os2 : List (List UInt8)), v = .slice A k cc ∧ Hid (RClB wr y c') ∧ Hid (RWd wr m q l') ∧ Hid (Run NW c' l' d mm os2) ∧ Hid (os = os1 ++ os2) ∧ Hid (OutL wr w.heap.size (.slice A k cc) os1) ∧ Hid (Tn (YF y q) w wr) ∧ Hid (c'.tm ≤ NW)) (fun _ _ _ wr => rTick NW y wr)
    case atStart => exact ⟨c, l, none, 0, 0, [], os, rfl, HC, HW, HRUN, Lib.hid rfl, Lib.hid OutL.nil, T0, HTM⟩
    case round =>
      clear HC HW HRUN T0 HTM
      obtain ⟨c', l', A, k, cc, os1, os2, rfl, H1, W1, R1, E1, O1, T1, M1⟩ := hrel
      have CX := Lib.hid (rdue_any y c' wr H1.out)
      obtain ⟨D, hD⟩ : ∃ D, D = c'.due := ⟨_, rfl⟩
      rw [← hD] at CX
      have c8 := bk_cell H1.out.box 8
      have c9 := bk_cell H1.out.box 9
      have f9 := bk_frozen H1.out.box 9
      simp [rcC] at c8 c9
      have ly := bk_lt H1.out.box
      obtain ⟨nx, hnx⟩ : ∃ nx, nx = c'.next := ⟨_, rfl⟩
      rw [← hnx] at c8
      have HNX := Lib.hid hnx
      rcases R1.out.inv with ⟨hdone, hd, hm, hos⟩ | ⟨hdu, hle, hfr, hka, hrun⟩ | ⟨hdu, hle, hfr, hsi, os3, hos, hrun⟩
      · have HE : Hid (os1 = os) := Lib.hid (by rw [E1.out, hos, List.append_nil])
        subst hd hm
        by_cases hDf : D = 9223372036854775807
        · have d1 : decide ((D : Int) < 9223372036854775807) = false := by simp; omega
          have d1' : decide (D < 9223372036854775807) = false := by simp; omega
          clear hdone hD hnx hos hDf c8 c9 f9
          go_wp2_with fail
          refine CX.out.mono ?_
          rintro e w1 ⟨rfl, rfl⟩
          clear CX
          go_upto_region 20 with fail
          have f9 := bk_frozen H1.out.box 9
          have c9 := bk_cell H1.out.box 9
          simp [rcC] at c9
          have ly := bk_lt H1.out.box
          obtain ⟨hk, hcc, _⟩ := O1.out.got
          have FIN : Hid (OutL (wr.setCell ⟨y, 9, none⟩ (.int .u64 (NW : Int))) w.heap.size (.slice A k cc) os ∧ k = os.length ∧ os.length ≤ cc ∧ RClB (wr.setCell ⟨y, 9, none⟩ (.int .u64 (NW : Int))) y (d.goes NW) ∧ RWd (wr.setCell ⟨y, 9, none⟩ (.int .u64 (NW : Int))) m q mm ∧ Tn (YF y q) w (wr.setCell ⟨y, 9, none⟩ (.int .u64 (NW : Int)))) := Lib.hid (by
            have t9 : Tn (fun k => k = y) wr (wr.setCell ⟨y, 9, none⟩ (.int .u64 (NW : Int))) := (Tn.refl _ _).set (.inl rfl)
            refine ⟨?_, by rw [hk, HE.out], by rw [← HE.out]; exact hcc, ?_, W1.out.keep t9 (fun k hk => by rw [hk]; exact HY.out), T1.out.set (.inl (.inl rfl))⟩
            · rw [← HE.out]
              exact O1.out.turn t9 (fun k hk => by rw [hk]; exact HYL.out)
            · have e : d.goes NW = { d with tm := NW } := by unfold Cl.goes; rw [Nat.max_eq_right M1.out]
              rw [e]
              exact ⟨by rw [bk_setCell_same, H1.out.box]; rfl, H1.out.n64, HNW.out, H1.out.i24, H1.out.s64, H1.out.w22⟩)
          clear hk hcc
          go_wp2_with fail
          go_ret
          obtain ⟨g1, g2, g3, g4, g5, g6⟩ := FIN.out
          exact ⟨A, cc, by rw [g2]; rfl, g3, (g2 ▸ g1).got.2.2, g4, g5, g6⟩
        · have d1 : decide ((D : Int) < 9223372036854775807) = true := by
            have : D ≤ 9223372036854775807 := by
              rw [hD]; unfold Cl.due; have := H1.out.n64; unfold far at *; split <;> omega
            simp; omega
          have d1' : decide (D < 9223372036854775807) = true := by simp at d1 ⊢; omega
          have d2 : decide ((D : Int) ≤ (NW : Int)) = false := by
            have h5 : d.due ≠ far := by rw [← hD]; exact hDf
            have h6 := (Cl.due_next h5).1
            rcases hdone with h | h
            · exact absurd h h5
            · simp; omega
          have d2' : decide (D ≤ NW) = false := by simp at d2 ⊢; omega
          have CX2 := CX
          clear hdone hD hnx hos hDf c8 c9 f9
          go_wp2_with fail
          refine CX.out.mono ?_
          rintro e w1 ⟨rfl, rfl⟩
          go_wp2_with fail
          refine CX2.out.mono ?_
          rintro e w1 ⟨rfl, rfl⟩
          clear CX CX2
          go_upto_region 20 with fail
          have f9 := bk_frozen H1.out.box 9
          have c9 := bk_cell H1.out.box 9
          simp [rcC] at c9
          have ly := bk_lt H1.out.box
          obtain ⟨hk, hcc, _⟩ := O1.out.got
          have FIN : Hid (OutL (wr.setCell ⟨y, 9, none⟩ (.int .u64 (NW : Int))) w.heap.size (.slice A k cc) os ∧ k = os.length ∧ os.length ≤ cc ∧ RClB (wr.setCell ⟨y, 9, none⟩ (.int .u64 (NW : Int))) y (d.goes NW) ∧ RWd (wr.setCell ⟨y, 9, none⟩ (.int .u64 (NW : Int))) m q mm ∧ Tn (YF y q) w (wr.setCell ⟨y, 9, none⟩ (.int .u64 (NW : Int)))) := Lib.hid (by
            have t9 : Tn (fun k => k = y) wr (wr.setCell ⟨y, 9, none⟩ (.int .u64 (NW : Int))) := (Tn.refl _ _).set (.inl rfl)
            refine ⟨?_, by rw [hk, HE.out], by rw [← HE.out]; exact hcc, ?_, W1.out.keep t9 (fun k hk => by rw [hk]; exact HY.out), T1.out.set (.inl (.inl rfl))⟩
            · rw [← HE.out]
              exact O1.out.turn t9 (fun k hk => by rw [hk]; exact HYL.out)
            · have e : d.goes NW = { d with tm := NW } := by unfold Cl.goes; rw [Nat.max_eq_right M1.out]
              rw [e]
              exact ⟨by rw [bk_setCell_same, H1.out.box]; rfl, H1.out.n64, HNW.out, H1.out.i24, H1.out.s64, H1.out.w22⟩)
          clear hk hcc
          go_wp2_with fail
          go_ret
          obtain ⟨g1, g2, g3, g4, g5, g6⟩ := FIN.out
          exact ⟨A, cc, by rw [g2]; rfl, g3, (g2 ▸ g1).got.2.2, g4, g5, g6⟩
      · have hDn : D = nx := by rw [hD, hnx]; exact (Cl.due_next hdu).1
        have hnf : nx ≠ 9223372036854775807 := by rw [hnx]; exact (Cl.due_next hdu).2
        have hn64 := H1.out.n64
        rw [← hnx] at hn64
        have d1 : decide ((D : Int) < 9223372036854775807) = true := by unfold far at hn64; simp; omega
        have d1' : decide (D < 9223372036854775807) = true := by unfold far at hn64; simp; omega
        have d2 : decide ((D : Int) ≤ (NW : Int)) = true := by simp; omega
        have d2' : decide (D ≤ NW) = true := by simp; omega
        have CX2 := CX
        obtain ⟨T, hT⟩ : ∃ T, T = max c'.tm nx := ⟨_, rfl⟩
        have HT := Lib.hid hT
        have HTF : Hid (T ≤ far ∧ T ≤ NW) := Lib.hid (by have h1 := H1.out.t64; have h2 := M1.out; omega)
        have hmx : max (c'.tm : Int) (nx : Int) = (T : Int) := by omega
        have hmx1 : (if (c'.tm : Int) < (nx : Int) then (nx : Int) else (c'.tm : Int)) = (T : Int) := by split <;> omega
        have hmx2 : (if c'.tm < nx then (nx : Int) else (c'.tm : Int)) = (T : Int) := by split <;> omega
        have HRU := Lib.hid hrun
        have HFA := Lib.hid (And.intro hfr (And.intro hka hle))
        clear hdu hle hfr hka hrun hD hnx hT hDn hnf hn64
        go_wp2_with fail
        refine CX.out.mono ?_
        rintro e w1 ⟨rfl, rfl⟩
        go_wp2_with fail
        refine CX2.out.mono ?_
        rintro e w1 ⟨rfl, rfl⟩
        clear CX CX2
        go_upto_region 6 with fail
        go_region
        have H2 : Hid (RClB (wr.setCell ⟨y, 9, none⟩ (.int .u64 (T : Int))).drew y { c' with tm := T }) := Lib.hid ⟨by show bk (wr.setCell ⟨y, 9, none⟩ (.int .u64 (T : Int))) y = _; rw [bk_setCell_same, H1.out.box]; rfl, H1.out.n64, HTF.out.1, H1.out.i24, H1.out.s64, H1.out.w22⟩
        have t2 : Tn (fun k => k = y) wr (wr.setCell ⟨y, 9, none⟩ (.int .u64 (T : Int))).drew := Tn.trans (F := fun k => k = y) (G := fun _ => False) ((Tn.refl (fun k => k = y) wr).set (.inl rfl)) (Tn.of (Below.refl _ _).drew) fun k hk => hk.elim
        have T2 := Lib.hid (T1.out.trans t2 fun k hk => .inl (.inl hk))
        have W2 := Lib.hid (W1.out.keep t2 fun k hk => by rw [hk]; exact HY.out)
        have O2 := Lib.hid (O1.out.turn t2 fun k hk => by rw [hk]; exact HYL.out)
        clear t2 c8 c9 f9 ly hmx hmx1 hmx2 O1 T1 W1
        generalize (wr.setCell ⟨y, 9, none⟩ (.int .u64 (T : Int))).drew = w2 at *
        have c7 := bk_cell H2.out.box 7
        have c9 := bk_cell H2.out.box 9
        simp [rcC] at c7 c9
        rw [HFA.out.1] at c7
        have ly := bk_lt H2.out.box
        have CS := Lib.hid (rstart_any y q m { c' with tm := T } T l' w2 H2.out W2.out HY.out HTF.out.1 HFA.out.2.1)
        clear d1 d1' d2 d2'
        go_wp2_with fail
        refine CS.out.mono ?_
        rintro e w3 ⟨rfl, h3, W3, t3⟩
        have O3 := Lib.hid (O2.out.turn t3 fun k hk => by rcases hk with hk | hk; (rw [hk]; exact HYL.out); (rw [hk]; exact HQL.out))
        have HM : Hid (rTick NW y w3 < rTick NW y wr) := Lib.hid (by
          rw [rTick_eq h3, rTick_eq H1.out, HFA.out.1]
          show 2 * (NW + 1 - addT (max T T) _) + 0 < 2 * (NW + 1 - c'.next) + 1
          have h5 : c'.next ≤ addT (max T T) (belT (l'.tail.headD 0) 1000) := by
            have h1 := H1.out.n64; have h6 := HT.out; have h7 := HNX.out
            unfold addT
            split <;> omega
          omega)
        have H3 := Lib.hid h3
        have W3' := Lib.hid W3
        have T3 := Lib.hid (T2.out.trans t3 fun j hj => .inl hj)
        have M3 : Hid ((Cl.start { c' with tm := T } T l').tm ≤ NW) := Lib.hid (by show max T T ≤ NW; have := HTF.out.2; omega)
        clear h3 W3 t3 CS H2 T2 W2 O2 c7 c9 ly
        go_wp2_with fail
        refine ⟨⟨_, l'.tail.tail, A, k, cc, os1, os2, rfl, H3, W3', Lib.hid ?_, E1, O3, T3, M3⟩, HM.out⟩
        have hru := HRU.out
        rw [← HNX.out, ← HT.out] at hru
        have e5 : Cl.start { c' with tm := T } T l' = (c'.goes nx).start T l' := by
          rw [HT.out]; rfl
        rw [e5]
        exact hru
      · have hDn : D = nx := by rw [hD, hnx]; exact (Cl.due_next hdu).1
        have hnf : nx ≠ 9223372036854775807 := by rw [hnx]; exact (Cl.due_next hdu).2
        have HNF : Hid (c'.next ≠ far) := Lib.hid (Cl.due_next hdu).2
        have hn64 := H1.out.n64
        rw [← hnx] at hn64
        have d1 : decide ((D : Int) < 9223372036854775807) = true := by unfold far at hn64; simp; omega
        have d1' : decide (D < 9223372036854775807) = true := by unfold far at hn64; simp; omega
        have d2 : decide ((D : Int) ≤ (NW : Int)) = true := by simp; omega
        have d2' : decide (D ≤ NW) = true := by simp; omega
        have CX2 := CX
        obtain ⟨T, hT⟩ : ∃ T, T = max c'.tm nx := ⟨_, rfl⟩
        have HT := Lib.hid hT
        have HTF : Hid (T ≤ far ∧ T ≤ NW) := Lib.hid (by have h1 := H1.out.t64; have h2 := M1.out; omega)
        have hmx : max (c'.tm : Int) (nx : Int) = (T : Int) := by omega
        have hmx1 : (if (c'.tm : Int) < (nx : Int) then (nx : Int) else (c'.tm : Int)) = (T : Int) := by split <;> omega
        have hmx2 : (if c'.tm < nx then (nx : Int) else (c'.tm : Int)) = (T : Int) := by split <;> omega
        have HRU := Lib.hid hrun
        have HFA := Lib.hid (And.intro hfr (And.intro hsi hle))
        have hk := (O1.out.got).1
        subst hk
        have HO := Lib.hid hos
        have HLN : Hid (os1.length < 2 ^ 20) := Lib.hid (by have h1 := HOS.out; rw [E1.out, List.length_append] at h1; omega)
        clear hdu hle hfr hsi hrun hD hnx hT hDn hnf hn64 hos
        go_wp2_with fail
        refine CX.out.mono ?_
        rintro e w1 ⟨rfl, rfl⟩
        go_wp2_with fail
        refine CX2.out.mono ?_
        rintro e w1 ⟨rfl, rfl⟩
        clear CX CX2
        go_upto_region 6 with fail
        go_region
        have H2 : Hid (RClB (wr.setCell ⟨y, 9, none⟩ (.int .u64 (T : Int))).drew y { c' with tm := T }) := Lib.hid ⟨by show bk (wr.setCell ⟨y, 9, none⟩ (.int .u64 (T : Int))) y = _; rw [bk_setCell_same, H1.out.box]; rfl, H1.out.n64, HTF.out.1, H1.out.i24, H1.out.s64, H1.out.w22⟩
        have t2 : Tn (fun k => k = y) wr (wr.setCell ⟨y, 9, none⟩ (.int .u64 (T : Int))).drew := Tn.trans (F := fun k => k = y) (G := fun _ => False) ((Tn.refl (fun k => k = y) wr).set (.inl rfl)) (Tn.of (Below.refl _ _).drew) fun k hk => hk.elim
        have T2 := Lib.hid (T1.out.trans t2 fun k hk => .inl (.inl hk))
        have W2 := Lib.hid (W1.out.keep t2 fun k hk => by rw [hk]; exact HY.out)
        have O2 := Lib.hid (O1.out.turn t2 fun k hk => by rw [hk]; exact HYL.out)
        clear t2 c8 c9 f9 ly hmx hmx1 hmx2 O1 T1 W1 d1 d1' d2 d2'
        generalize (wr.setCell ⟨y, 9, none⟩ (.int .u64 (T : Int))).drew = w2 at *
        have c7 := bk_cell H2.out.box 7
        have c12 := bk_cell H2.out.box 12
        have c9 := bk_cell H2.out.box 9
        simp [rcC] at c7 c12 c9
        rw [HFA.out.1] at c7
        have ly := bk_lt H2.out.box
        have hh := W2.out.head
        obtain ⟨bb, hbb⟩ : ∃ b, b = belT (l'.headD 0) 201 := ⟨_, rfl⟩
        have hbl : bb < 201 := by rw [hbb]; exact belT_lt hh (by decide)
        have HBB := Lib.hid hbb
        obtain ⟨R, hR⟩ : ∃ R : Int, R = (bb : Int) - 100 := ⟨_, rfl⟩
        have r0 : (bb : Int) - 100 = R := hR.symm
        have HRR : Hid (-100 ≤ R ∧ R ≤ 100) := Lib.hid (by omega)
        have r1 : wrap64 R = R := by unfold wrap64; omega
        have r2 : wrap64 (bb : Int) = (bb : Int) := by unfold wrap64; omega
        obtain ⟨W, hW⟩ : ∃ W, W = c'.wait := ⟨_, rfl⟩
        obtain ⟨f1, f2, f3, f4, f5, f6, f7⟩ := rlat_facts W R (by rw [hW]; exact H2.out.w22) HRR.out
        obtain ⟨y1, hy1⟩ : ∃ z : Int, z = (((1000 : Nat) : Int) * R).tdiv 1000 := ⟨_, rfl⟩
        obtain ⟨y2, hy2⟩ : ∃ z : Int, z = ((W : Int) * R).tdiv 1000 := ⟨_, rfl⟩
        obtain ⟨y3, hy3⟩ : ∃ z : Int, z = (((3600000 : Nat) : Int) * R).tdiv 1000 := ⟨_, rfl⟩
        rw [← hy1] at f1
        rw [← hy2] at f3
        rw [← hy3] at f4
        have HY1 := Lib.hid hy1
        have HY2 := Lib.hid hy2
        have HY3 := Lib.hid hy3
        obtain ⟨P1, hP1⟩ : ∃ P, P = partT 1000 R := ⟨_, rfl⟩
        obtain ⟨P2, hP2⟩ : ∃ P, P = W + partT W R := ⟨_, rfl⟩
        obtain ⟨P3, hP3⟩ : ∃ P, P = partT 3600000 R := ⟨_, rfl⟩
        rw [← hP1] at f1 f5
        rw [← hP2] at f3 f6
        rw [← hP3] at f4 f7
        have u1 : IntKind.u64.wrap (P1 : Int) = (P1 : Int) := by rw [IntKind.wrap_u64]; omega
        have u2 : IntKind.u64.wrap (P2 : Int) = (P2 : Int) := by rw [IntKind.wrap_u64]; omega
        have u3 : IntKind.u64.wrap (P3 : Int) = (P3 : Int) := by rw [IntKind.wrap_u64]; omega
        obtain ⟨c1, hc1⟩ : ∃ c1, c1 = c'.ask1 := ⟨_, rfl⟩
        have HC1 := Lib.hid hc1
        have hwc : c1.wait = W := by rw [hc1, hW]; rfl
        have hlt : c1.lat (l'.headD 0) = if (if W > 0 then P2 else P1) > 3600000 then P3 else if W > 0 then P2 else P1 := by
          unfold Cl.lat laterT
          rw [hwc, ← hbb, ← hR, hP1, hP2, hP3]
        have hlp := Cl.lat_pos c1 hh
        rw [← hW] at c12
        have HWC := Lib.hid (And.intro hwc hW)
        clear hc1 hy1 hy2 hy3 hP1 hP2 hP3 hwc hbb hR hh
        by_cases hw0 : W = 0
        · have HLAT : Hid (P1 = c1.lat (l'.headD 0) ∧ 0 < P1 ∧ P1 ≤ 3960000) := Lib.hid (by
            rw [hw0] at hlt
            simp only [gt_iff_lt, Nat.lt_irrefl, if_false] at hlt
            rw [if_neg (by omega)] at hlt
            exact ⟨hlt.symm, by omega, by omega⟩)
          clear hlt hlp hW f2 f3 f4 f6 f7 u2 u3
          rw [hw0] at c12
          have f11 := bk_frozen H2.out.box 11
          have c11 := bk_cell H2.out.box 11
          simp [rcC] at c11
          have d5 : decide ((3600000 : Int) < (P1 : Int)) = false := by simp; omega
          have d5' : decide (3600000 < P1) = false := by simp; omega
          have ec : c1 = { c' with tm := T, since := T } := by
            rw [HC1.out, HT.out, HNX.out]; unfold Cl.ask1; rw [if_pos (by rw [← HWC.out.2]; exact hw0)]
          have H3 : Hid (RClB (w2.setCell ⟨y, 11, none⟩ (.int .u64 (T : Int))) y c1) := Lib.hid (by
            rw [ec]; exact ⟨by rw [bk_setCell_same, H2.out.box]; rfl, H2.out.n64, H2.out.t64, H2.out.i24, HTF.out.1, H2.out.w22⟩)
          have t3 : Tn (fun k => k = y) w2 (w2.setCell ⟨y, 11, none⟩ (.int .u64 (T : Int))) := (Tn.refl _ _).set (.inl rfl)
          have T3 := Lib.hid (T2.out.trans t3 fun j hj => .inl (.inl hj))
          have W3 := Lib.hid (W2.out.keep t3 fun k hk => by rw [hk]; exact HY.out)
          have O3 := Lib.hid (O2.out.turn t3 fun k hk => by rw [hk]; exact HYL.out)
          have HS3 : Hid (c1.since ≤ T ∧ c1.tm = T) := Lib.hid (by rw [ec]; exact ⟨Nat.le_refl _, rfl⟩)
          have HC12 : Hid (c1.wait = 0) := Lib.hid (by rw [HWC.out.1, hw0])
          clear t3 ec hw0 hbl
          go_upto_region 11 with fail
          change Code.wp _ _ _ _ (w2.setCell ⟨y, 11, none⟩ (.int .u64 (T : Int)))
          clear c7 c12 c9 c11 f11 ly H2 T2 W2 O2
          generalize w2.setCell ⟨y, 11, none⟩ (.int .u64 (T : Int)) = w3 at *
          have CR := Lib.hid (rrequest_any y c1 w3 H3.out (by rw [HS3.out.2]; exact HS3.out.1))
          rw [HS3.out.2] at CR
          go_wp2_with fail
          refine CR.out.mono ?_
          rintro e w4 ⟨A1, ca, rfl, r4, hb4, b4⟩
          have b5 : Below w4.heap.size w4 (w4.alloc (.cells #[.slice A1 34 ca] 22)) := (by (repeat (first | exact Below.refl _ _ | assumption | refine Below.drew ?_ | refine bdrewN ?_ _ | refine Below.alloc ?_ (by first | omega | (simp <;> omega) | (simp only [World.size_alloc] <;> omega)) _ | refine below_setRow ?_ (by first | omega | (simp <;> omega)) _ | refine Below.setCell ?_ (by first | omega | (simp <;> omega)) _)))
          have b35 := b4.trans (b5.mono b4.size)
          have O5 := O3.out.turn (Tn.of (F := fun _ => False) b35) (fun k hk => hk.elim)
          obtain ⟨vs, hown, hall⟩ := O5
          have hvl : vs.length = os1.length := by have := hown.1; omega
          have hc5 : (w4.alloc (.cells #[.slice A1 34 ca] 22)).cell? ⟨w4.heap.size, 0, none⟩ = some (.slice A1 34 ca) := bk_cell (bk_alloc_at _ _ _ rfl) 0
          have hw5 : w.heap.size ≤ (w4.alloc (.cells #[.slice A1 34 ca] 22)).heap.size := Nat.le_trans T3.out.size b35.size
          have r5 := (r4.below b5 (Nat.le_refl _)).mono b5.size
          have hA5 : Hid (∀ g o, A1 = some ⟨g, o, none⟩ → w.heap.size ≤ g ∧ (Value.slice A os1.length cc).ownBlock ≠ some g ∧ g < (w4.alloc (.cells #[.slice A1 34 ca] 22)).heap.size) := Lib.hid fun g o e => by
            have h1 := hb4 g o e
            have h2 := T3.out.size
            obtain ⟨b9, o9, e9, hlt9, _⟩ := r4 (by rw [(reqB_len c1 T).2.2]; decide)
            rw [e9] at e
            cases e
            refine ⟨by omega, fun e2 => ?_, Nat.lt_of_lt_of_le hlt9 b5.size⟩
            obtain ⟨vs3, hown3, _⟩ := O3.out
            have h3 := (hown3.lt _ e2).2
            omega
          have HOWN := Lib.hid hown
          have HALL := Lib.hid hall
          have HVL := Lib.hid hvl
          have HC5 := Lib.hid hc5
          have HW5 := Lib.hid hw5
          have R5 := Lib.hid r5
          have T5 := Lib.hid (T3.out.trans (Tn.of (F := fun _ => False) b35) fun j hj => hj.elim)
          have H5 := Lib.hid (H3.out.below b35)
          have W5 := Lib.hid (W3.out.keep (Tn.of (F := fun _ => False) b35) fun k hk => hk.elim)
          clear r4 hb4 b4 b5 b35 hown hall hvl hc5 hw5 r5 O3 H3 W3 T3 CR
          go_wp2_with (at_builtin; refine wpList_snocR rfl _ _ rfl w.heap.size (.slice A os1.length cc) os1.length vs rfl HOWN.out ⟨w4.heap.size, 0, none⟩ (.slice A1 34 ca) rfl HC5.out rfl HW5.out (by have := HLN.out; omega) ?_)
          intro A6 c6 w6 hown6 hg6 hat6
          have hlen := (reqB_len c1 T).2.2
          have O6 : Hid (OutL w6 w.heap.size (.slice A6 (os1.length + 1) c6) (os1 ++ [reqB c1 T])) := Lib.hid (OutL.snoc (A := A1) (c := ca) HALL.out HVL.out (by rw [hlen]; exact hown6) hg6 (by rw [World.size_alloc]; exact hat6) R5.out hA5.out)
          have t6 : Tn (fun k => (Value.slice A os1.length cc).ownBlock = some k) (w4.alloc (.cells #[.slice A1 34 ca] 22)) w6 := Tn.grownG hg6
          have hge : ∀ k, k < w.heap.size → ¬ (Value.slice A os1.length cc).ownBlock = some k := fun k hk e => by
            have h2 := (HOWN.out.lt k e).1
            omega
          have H6 := Lib.hid (H5.out.keep t6 (hge y HYL.out))
          have W6 := Lib.hid (W5.out.grow HOWN.out (by decide) hg6 (fun e => hge q HQL.out e))
          have T6 := Lib.hid (T5.out.trans t6 fun j hj => .inr (HOWN.out.lt j hj).1)
          have CB : Hid (Calls Try.prog 66 #[.pointer (some ⟨q, 0, none⟩), .int .u32 201] w6 fun e w' => e = .returned (.int .u32 (bb : Int)) ∧ RWd w' m q l'.tail ∧ Tn (fun k => k = q) w6 w') := Lib.hid (by rw [HBB.out]; exact rwbelow_any m q l' 201 w6 W6.out (by decide))
          clear hown6 hg6 hat6 t6 hge HALL HOWN HVL HC5 HW5 R5 hA5 T5 H5 W5 hlen
          go_wp2_with fail
          refine CB.out.mono ?_
          rintro e w7 ⟨rfl, W7, t7⟩
          have H7 := Lib.hid (H6.out.keep t7 HY.out.2)
          have W7' := Lib.hid W7
          have T7 := Lib.hid (T6.out.trans t7 fun j hj => .inl (.inr hj))
          have O7 := Lib.hid (O6.out.turn t7 fun k hk => by rw [hk]; exact HQL.out)
          have c12 := bk_cell H7.out.box 12
          simp [rcC] at c12
          have ly := bk_lt H7.out.box
          have CS1 : Hid (Calls Try.prog 76 #[.int .u64 1000, .int .i64 R] w7 fun e w' => e = .returned (.int .i64 y1) ∧ w7 = w') := Lib.hid (by rw [HY1.out]; exact rshare_any 1000 R w7 (by decide) HRR.out)
          clear W7 t7 CB H6 W6 T6 O6
          go_wp2_with fail
          refine CS1.out.mono ?_
          rintro e w7' ⟨rfl, rfl⟩
          clear CS1
          rw [HC12.out] at c12
          go_upto_region 18 with fail
          have f12 := bk_frozen H7.out.box 12
          clear ly c12
          have c12 := bk_cell H7.out.box 12
          simp [rcC] at c12
          have ly := bk_lt H7.out.box
          go_upto_region 19 with fail
          have H8 : Hid (RClB (w7.setCell ⟨y, 12, none⟩ (.int .u64 (P1 : Int))) y { c1 with wait := P1 }) := Lib.hid ⟨by rw [bk_setCell_same, H7.out.box]; rfl, H7.out.n64, H7.out.t64, H7.out.i24, H7.out.s64, HLAT.out.2.2⟩
          have t8 : Tn (fun k => k = y) w7 (w7.setCell ⟨y, 12, none⟩ (.int .u64 (P1 : Int))) := (Tn.refl _ _).set (.inl rfl)
          have W8 := Lib.hid (W7'.out.keep t8 fun k hk => by rw [hk]; exact HY.out)
          have T8 := Lib.hid (T7.out.trans t8 fun j hj => .inl (.inl hj))
          have O8 := Lib.hid (O7.out.turn t8 fun k hk => by rw [hk]; exact HYL.out)
          clear t8 f12 c12 ly H7 W7' T7 O7
          change Code.wp _ _ _ _ (w7.setCell ⟨y, 12, none⟩ (.int .u64 (P1 : Int)))
          generalize w7.setCell ⟨y, 12, none⟩ (.int .u64 (P1 : Int)) = wq at *
          have c9 := bk_cell H8.out.box 9
          simp only [rcC] at c9
          have e9 : wq.cell? ⟨y, 9, none⟩ = some (.int .u64 (T : Int)) := by rw [c9, ← HS3.out.2]; rfl
          have f8 := bk_frozen H8.out.box 8
          have c8 := bk_cell H8.out.box 8
          simp [rcC] at c8
          have ly := bk_lt H8.out.box
          obtain ⟨s, hs⟩ : ∃ s, s = addT T P1 := ⟨_, rfl⟩
          have CA : Hid (Calls Try.prog 65 #[.int .u64 (T : Int), .int .u64 (P1 : Int)] wq fun e w' => e = .returned (.int .u64 (s : Int)) ∧ wq = w') := Lib.hid (by rw [hs]; exact radd_any T P1 wq (by have := HTF.out.1; unfold far at this; omega) (by have := HLAT.out.2.2; omega))
          have hadd : s ≤ far := by rw [hs]; exact addT_le T P1
          have ec2 : { c1 with wait := P1, next := s } = c'.ask2 (l'.headD 0) := by
            have h8 := HS3.out.2
            rw [hs, HLAT.out.1, ← h8, HC1.out]
            rfl
          have H9 : Hid (RClB (wq.setCell ⟨y, 8, none⟩ (.int .u64 (s : Int))) y (c'.ask2 (l'.headD 0))) := Lib.hid (by
            rw [← ec2]; exact ⟨by rw [bk_setCell_same, H8.out.box]; rfl, hadd, H8.out.t64, H8.out.i24, H8.out.s64, H8.out.w22⟩)
          have t9 : Tn (fun k => k = y) wq (wq.setCell ⟨y, 8, none⟩ (.int .u64 (s : Int))) := (Tn.refl _ _).set (.inl rfl)
          have T9 := Lib.hid (T8.out.trans t9 fun j hj => .inl (.inl hj))
          have W9 := Lib.hid (W8.out.keep t9 fun k hk => by rw [hk]; exact HY.out)
          have O9 := Lib.hid (O8.out.turn t9 fun k hk => by rw [hk]; exact HYL.out)
          have HM : Hid (rTick NW y (wq.setCell ⟨y, 8, none⟩ (.int .u64 (s : Int))) < rTick NW y wr) := Lib.hid (by
            rw [rTick_eq H9.out, rTick_eq H1.out, HFA.out.1]
            have e7 : (c'.ask2 (l'.headD 0)).next = s := by rw [← ec2]
            have e8 : (c'.ask2 (l'.headD 0)).fresh = false := by show c'.fresh = false; exact HFA.out.1
            rw [e7, e8]
            show 2 * (NW + 1 - s) + 0 < 2 * (NW + 1 - c'.next) + 0
            have h5 : c'.next < s := by
              have h1 := H1.out.n64; have h6 := HT.out; have h9 := HNX.out; have h10 := HNF.out; have h11 := HLAT.out.2.1; have h12 := hs
              unfold addT at h12
              unfold far at h1 h10 h12
              split at h12 <;> omega
            have h13 := HFA.out.2.2
            omega)
          have HR9 : Hid (os = (os1 ++ [reqB c1 T]) ++ os3) := Lib.hid (by
            rw [E1.out, HO.out, List.append_assoc, ← HC1.out, HS3.out.2]; rfl)
          have M9 : Hid ((c'.ask2 (l'.headD 0)).tm ≤ NW) := Lib.hid (by rw [← ec2]; show c1.tm ≤ NW; rw [HS3.out.2]; exact HTF.out.2)
          clear t9 ec2 hadd hs H8 W8 T8 O8 c9
          go_wp2_with fail
          refine CA.out.mono ?_
          rintro e w9 ⟨rfl, rfl⟩
          clear CA
          go_wp2_with fail
          exact ⟨⟨_, l'.tail, A6, os1.length + 1, c6, os1 ++ [reqB c1 T], os3, rfl, H9, W9, HRU, HR9, O9, T9, M9⟩, HM.out⟩
        · have hw1 : ((W : Int) == 0) = false := beq_eq_false_iff_ne.2 (by omega)
          have hw2 : ((W : Int) != 0) = true := by rw [bne, hw1]; rfl
          have hlt2 : c1.lat (l'.headD 0) = if P2 > 3600000 then P3 else P2 := by
            rw [hlt]; simp only [gt_iff_lt, show 0 < W by omega, if_true]
          have HLT := Lib.hid hlt2
          have HLP := Lib.hid hlp
          have ec : c1 = { c' with tm := T } := by
            rw [HC1.out, HT.out, HNX.out]; unfold Cl.ask1; rw [if_neg (by rw [← HWC.out.2]; exact hw0)]
          have H3 : Hid (RClB w2 y c1) := Lib.hid (by rw [ec]; exact H2.out)
          have HS3 : Hid (c1.since ≤ T ∧ c1.tm = T) := Lib.hid (by
            have h1 := HT.out; have h3 := HFA.out.2.1
            rw [ec]; exact ⟨(by show c'.since ≤ T; omega), rfl⟩)
          have T3 := T2
          have W3 := W2
          have O3 := O2
          have hw22 : W ≤ 3960000 := by rw [HWC.out.2]; exact H2.out.w22
          have v1 : wrap64 (W : Int) = (W : Int) := by unfold wrap64; omega
          have CS2 : Hid (∀ X, Calls Try.prog 76 #[.int .u64 (W : Int), .int .i64 R] X fun e w' => e = .returned (.int .i64 y2) ∧ Below X.heap.size X w') := Lib.hid fun X => (by
            rw [HY2.out]
            exact (rshare_any W R X hw22 HRR.out).mono fun e w' q => ⟨q.1, by rw [← q.2]; exact Below.refl _ _⟩)
          clear hlt hlt2 hlp hW ec hw0 hbl
          go_upto_region 11 with fail
          clear c7 c12 c9 ly H2 T2 W2 O2
          generalize hw23 : w2 = w3 at *
          clear hw23
          have CR := Lib.hid (rrequest_any y c1 w3 H3.out (by rw [HS3.out.2]; exact HS3.out.1))
          rw [HS3.out.2] at CR
          go_wp2_with fail
          refine CR.out.mono ?_
          rintro e w4 ⟨A1, ca, rfl, r4, hb4, b4⟩
          have b5 : Below w4.heap.size w4 (w4.alloc (.cells #[.slice A1 34 ca] 22)) := (by (repeat (first | exact Below.refl _ _ | assumption | refine Below.drew ?_ | refine bdrewN ?_ _ | refine Below.alloc ?_ (by first | omega | (simp <;> omega) | (simp only [World.size_alloc] <;> omega)) _ | refine below_setRow ?_ (by first | omega | (simp <;> omega)) _ | refine Below.setCell ?_ (by first | omega | (simp <;> omega)) _)))
          have b35 := b4.trans (b5.mono b4.size)
          have O5 := O3.out.turn (Tn.of (F := fun _ => False) b35) (fun k hk => hk.elim)
          obtain ⟨vs, hown, hall⟩ := O5
          have hvl : vs.length = os1.length := by have := hown.1; omega
          have hc5 : (w4.alloc (.cells #[.slice A1 34 ca] 22)).cell? ⟨w4.heap.size, 0, none⟩ = some (.slice A1 34 ca) := bk_cell (bk_alloc_at _ _ _ rfl) 0
          have hw5 : w.heap.size ≤ (w4.alloc (.cells #[.slice A1 34 ca] 22)).heap.size := Nat.le_trans T3.out.size b35.size
          have r5 := (r4.below b5 (Nat.le_refl _)).mono b5.size
          have hA5 : Hid (∀ g o, A1 = some ⟨g, o, none⟩ → w.heap.size ≤ g ∧ (Value.slice A os1.length cc).ownBlock ≠ some g ∧ g < (w4.alloc (.cells #[.slice A1 34 ca] 22)).heap.size) := Lib.hid fun g o e => by
            have h1 := hb4 g o e
            have h2 := T3.out.size
            obtain ⟨b9, o9, e9, hlt9, _⟩ := r4 (by rw [(reqB_len c1 T).2.2]; decide)
            rw [e9] at e
            cases e
            refine ⟨by omega, fun e2 => ?_, Nat.lt_of_lt_of_le hlt9 b5.size⟩
            obtain ⟨vs3, hown3, _⟩ := O3.out
            have h3 := (hown3.lt _ e2).2
            omega
          have HOWN := Lib.hid hown
          have HALL := Lib.hid hall
          have HVL := Lib.hid hvl
          have HC5 := Lib.hid hc5
          have HW5 := Lib.hid hw5
          have R5 := Lib.hid r5
          have T5 := Lib.hid (T3.out.trans (Tn.of (F := fun _ => False) b35) fun j hj => hj.elim)
          have H5 := Lib.hid (H3.out.below b35)
          have W5 := Lib.hid (W3.out.keep (Tn.of (F := fun _ => False) b35) fun k hk => hk.elim)
          clear r4 hb4 b4 b5 b35 hown hall hvl hc5 hw5 r5 O3 H3 W3 T3 CR
          go_wp2_with (at_builtin; refine wpList_snocR rfl _ _ rfl w.heap.size (.slice A os1.length cc) os1.length vs rfl HOWN.out ⟨w4.heap.size, 0, none⟩ (.slice A1 34 ca) rfl HC5.out rfl HW5.out (by have := HLN.out; omega) ?_)
          intro A6 c6 w6 hown6 hg6 hat6
          have hlen := (reqB_len c1 T).2.2
          have O6 : Hid (OutL w6 w.heap.size (.slice A6 (os1.length + 1) c6) (os1 ++ [reqB c1 T])) := Lib.hid (OutL.snoc (A := A1) (c := ca) HALL.out HVL.out (by rw [hlen]; exact hown6) hg6 (by rw [World.size_alloc]; exact hat6) R5.out hA5.out)
          have t6 : Tn (fun k => (Value.slice A os1.length cc).ownBlock = some k) (w4.alloc (.cells #[.slice A1 34 ca] 22)) w6 := Tn.grownG hg6
          have hge : ∀ k, k < w.heap.size → ¬ (Value.slice A os1.length cc).ownBlock = some k := fun k hk e => by
            have h2 := (HOWN.out.lt k e).1
            omega
          have H6 := Lib.hid (H5.out.keep t6 (hge y HYL.out))
          have W6 := Lib.hid (W5.out.grow HOWN.out (by decide) hg6 (fun e => hge q HQL.out e))
          have T6 := Lib.hid (T5.out.trans t6 fun j hj => .inr (HOWN.out.lt j hj).1)
          have CB : Hid (Calls Try.prog 66 #[.pointer (some ⟨q, 0, none⟩), .int .u32 201] w6 fun e w' => e = .returned (.int .u32 (bb : Int)) ∧ RWd w' m q l'.tail ∧ Tn (fun k => k = q) w6 w') := Lib.hid (by rw [HBB.out]; exact rwbelow_any m q l' 201 w6 W6.out (by decide))
          clear hown6 hg6 hat6 t6 hge HALL HOWN HVL HC5 HW5 R5 hA5 T5 H5 W5 hlen
          go_wp2_with fail
          refine CB.out.mono ?_
          rintro e w7 ⟨rfl, W7, t7⟩
          have H7 := Lib.hid (H6.out.keep t7 HY.out.2)
          have W7' := Lib.hid W7
          have T7 := Lib.hid (T6.out.trans t7 fun j hj => .inl (.inr hj))
          have O7 := Lib.hid (O6.out.turn t7 fun k hk => by rw [hk]; exact HQL.out)
          have c12 := bk_cell H7.out.box 12
          simp [rcC] at c12
          have ly := bk_lt H7.out.box
          have CS1 : Hid (Calls Try.prog 76 #[.int .u64 1000, .int .i64 R] w7 fun e w' => e = .returned (.int .i64 y1) ∧ w7 = w') := Lib.hid (by rw [HY1.out]; exact rshare_any 1000 R w7 (by decide) HRR.out)
          clear W7 t7 CB H6 W6 T6 O6
          go_wp2_with fail
          refine CS1.out.mono ?_
          rintro e w7' ⟨rfl, rfl⟩
          clear CS1
          rw [HWC.out.1] at c12
          go_upto_region 15 with fail
          have HFF := Lib.hid (And.intro f4 (And.intro f7 u3))
          clear f1 f4 f5 f7 u1 u3 r0 r1 r2
          refine wp_region_later (w7.heap.size) (by kernel_rfl) (by kernel_rfl) ?_
          repeat (go_big_quiet_step (((rename_i xq; with_reducible exact later_call xq (Nat.le_refl _) (CS2.out xq.w)))))
          (first | refine wpQuiet_nil ?_ | (go_big_quiet_want; (try go_big_quiet_op); trace_state; fail))
          intro w8 hw'
          have q8 := later_elim hw'
          clear hw'
          have H8 := Lib.hid (H7.out.below q8)
          have W8' := Lib.hid (W7'.out.keep (Tn.of (F := fun _ => False) q8) fun k hk => hk.elim)
          have T8 := Lib.hid (T7.out.trans (Tn.of (F := fun _ => False) q8) fun j hj => hj.elim)
          have O8 := Lib.hid (O7.out.turn (Tn.of (F := fun _ => False) q8) fun k hk => hk.elim)
          clear H7 W7' T7 O7 q8 CS2 v1 f2 f3 u2 c12 ly
          have H7 := H8
          have W7' := W8'
          have T7 := T8
          have O7 := O8
          clear H8 W8' T8 O8
          have ly := bk_lt H7.out.box
          have c12 := bk_cell H7.out.box 12
          simp [rcC] at c12
          by_cases hbig : 3600000 < P2
          · have d5 : decide ((3600000 : Int) < (P2 : Int)) = true := by simp; omega
            have d5' : decide (3600000 < P2) = true := by simp; omega
            have HLAT : Hid (P3 = c1.lat (l'.headD 0) ∧ 0 < P3 ∧ P3 ≤ 3960000) := Lib.hid (by
              have h1 := HLT.out
              rw [if_pos (by omega)] at h1
              rw [← h1]
              exact ⟨rfl, HLP.out.1, HLP.out.2⟩)
            obtain ⟨f4, f7, u3⟩ := HFF.out
            have CS3 : Hid (Calls Try.prog 76 #[.int .u64 3600000, .int .i64 R] w8 fun e w' => e = .returned (.int .i64 y3) ∧ w8 = w') := Lib.hid (by rw [HY3.out]; exact rshare_any 3600000 R w8 (by decide) HRR.out)
            clear hbig f6
            go_wp2_with fail
            refine CS3.out.mono ?_
            rintro e w8' ⟨rfl, rfl⟩
            clear CS3
            go_upto_region 18 with fail
            clear f4 f7 u3 d5 d5'
            have f12 := bk_frozen H7.out.box 12
            clear ly c12
            have c12 := bk_cell H7.out.box 12
            simp [rcC] at c12
            have ly := bk_lt H7.out.box
            go_upto_region 19 with fail
            have H8 : Hid (RClB (w8.setCell ⟨y, 12, none⟩ (.int .u64 (P3 : Int))) y { c1 with wait := P3 }) := Lib.hid ⟨by rw [bk_setCell_same, H7.out.box]; rfl, H7.out.n64, H7.out.t64, H7.out.i24, H7.out.s64, HLAT.out.2.2⟩
            have t8 : Tn (fun k => k = y) w8 (w8.setCell ⟨y, 12, none⟩ (.int .u64 (P3 : Int))) := (Tn.refl _ _).set (.inl rfl)
            have W8 := Lib.hid (W7'.out.keep t8 fun k hk => by rw [hk]; exact HY.out)
            have T8 := Lib.hid (T7.out.trans t8 fun j hj => .inl (.inl hj))
            have O8 := Lib.hid (O7.out.turn t8 fun k hk => by rw [hk]; exact HYL.out)
            clear t8 f12 c12 ly H7 W7' T7 O7
            change Code.wp _ _ _ _ (w8.setCell ⟨y, 12, none⟩ (.int .u64 (P3 : Int)))
            generalize w8.setCell ⟨y, 12, none⟩ (.int .u64 (P3 : Int)) = wq at *
            have c9 := bk_cell H8.out.box 9
            simp only [rcC] at c9
            have e9 : wq.cell? ⟨y, 9, none⟩ = some (.int .u64 (T : Int)) := by rw [c9, ← HS3.out.2]; rfl
            have f8 := bk_frozen H8.out.box 8
            have c8 := bk_cell H8.out.box 8
            simp [rcC] at c8
            have ly := bk_lt H8.out.box
            obtain ⟨s, hs⟩ : ∃ s, s = addT T P3 := ⟨_, rfl⟩
            have CA : Hid (Calls Try.prog 65 #[.int .u64 (T : Int), .int .u64 (P3 : Int)] wq fun e w' => e = .returned (.int .u64 (s : Int)) ∧ wq = w') := Lib.hid (by rw [hs]; exact radd_any T P3 wq (by have := HTF.out.1; unfold far at this; omega) (by have := HLAT.out.2.2; omega))
            have hadd : s ≤ far := by rw [hs]; exact addT_le T P3
            have ec2 : { c1 with wait := P3, next := s } = c'.ask2 (l'.headD 0) := by
              have h8 := HS3.out.2
              rw [hs, HLAT.out.1, ← h8, HC1.out]
              rfl
            have H9 : Hid (RClB (wq.setCell ⟨y, 8, none⟩ (.int .u64 (s : Int))) y (c'.ask2 (l'.headD 0))) := Lib.hid (by
              rw [← ec2]; exact ⟨by rw [bk_setCell_same, H8.out.box]; rfl, hadd, H8.out.t64, H8.out.i24, H8.out.s64, H8.out.w22⟩)
            have t9 : Tn (fun k => k = y) wq (wq.setCell ⟨y, 8, none⟩ (.int .u64 (s : Int))) := (Tn.refl _ _).set (.inl rfl)
            have T9 := Lib.hid (T8.out.trans t9 fun j hj => .inl (.inl hj))
            have W9 := Lib.hid (W8.out.keep t9 fun k hk => by rw [hk]; exact HY.out)
            have O9 := Lib.hid (O8.out.turn t9 fun k hk => by rw [hk]; exact HYL.out)
            have HM : Hid (rTick NW y (wq.setCell ⟨y, 8, none⟩ (.int .u64 (s : Int))) < rTick NW y wr) := Lib.hid (by
              rw [rTick_eq H9.out, rTick_eq H1.out, HFA.out.1]
              have e7 : (c'.ask2 (l'.headD 0)).next = s := by rw [← ec2]
              have e8 : (c'.ask2 (l'.headD 0)).fresh = false := by show c'.fresh = false; exact HFA.out.1
              rw [e7, e8]
              show 2 * (NW + 1 - s) + 0 < 2 * (NW + 1 - c'.next) + 0
              have h5 : c'.next < s := by
                have h1 := H1.out.n64; have h6 := HT.out; have h9 := HNX.out; have h10 := HNF.out; have h11 := HLAT.out.2.1; have h12 := hs
                unfold addT at h12
                unfold far at h1 h10 h12
                split at h12 <;> omega
              have h13 := HFA.out.2.2
              omega)
            have HR9 : Hid (os = (os1 ++ [reqB c1 T]) ++ os3) := Lib.hid (by
              rw [E1.out, HO.out, List.append_assoc, ← HC1.out, HS3.out.2]; rfl)
            have M9 : Hid ((c'.ask2 (l'.headD 0)).tm ≤ NW) := Lib.hid (by rw [← ec2]; show c1.tm ≤ NW; rw [HS3.out.2]; exact HTF.out.2)
            clear t9 ec2 hadd hs H8 W8 T8 O8 c9
            go_wp2_with fail
            refine CA.out.mono ?_
            rintro e w9 ⟨rfl, rfl⟩
            clear CA
            go_wp2_with fail
            exact ⟨⟨_, l'.tail, A6, os1.length + 1, c6, os1 ++ [reqB c1 T], os3, rfl, H9, W9, HRU, HR9, O9, T9, M9⟩, HM.out⟩
          · have d5 : decide ((3600000 : Int) < (P2 : Int)) = false := by simp; omega
            have d5' : decide (3600000 < P2) = false := by simp; omega
            have HLAT : Hid (P2 = c1.lat (l'.headD 0) ∧ 0 < P2 ∧ P2 ≤ 3960000) := Lib.hid (by
              have h1 := HLT.out
              rw [if_neg (by omega)] at h1
              rw [← h1]
              exact ⟨rfl, HLP.out.1, HLP.out.2⟩)
            clear hbig f6
            go_upto_region 18 with fail
            clear d5 d5'
            have f12 := bk_frozen H7.out.box 12
            clear ly c12
            have c12 := bk_cell H7.out.box 12
            simp [rcC] at c12
            have ly := bk_lt H7.out.box
            go_upto_region 19 with fail
            have H8 : Hid (RClB (w8.setCell ⟨y, 12, none⟩ (.int .u64 (P2 : Int))) y { c1 with wait := P2 }) := Lib.hid ⟨by rw [bk_setCell_same, H7.out.box]; rfl, H7.out.n64, H7.out.t64, H7.out.i24, H7.out.s64, HLAT.out.2.2⟩
            have t8 : Tn (fun k => k = y) w8 (w8.setCell ⟨y, 12, none⟩ (.int .u64 (P2 : Int))) := (Tn.refl _ _).set (.inl rfl)
            have W8 := Lib.hid (W7'.out.keep t8 fun k hk => by rw [hk]; exact HY.out)
            have T8 := Lib.hid (T7.out.trans t8 fun j hj => .inl (.inl hj))
            have O8 := Lib.hid (O7.out.turn t8 fun k hk => by rw [hk]; exact HYL.out)
            clear t8 f12 c12 ly H7 W7' T7 O7
            change Code.wp _ _ _ _ (w8.setCell ⟨y, 12, none⟩ (.int .u64 (P2 : Int)))
            generalize w8.setCell ⟨y, 12, none⟩ (.int .u64 (P2 : Int)) = wq at *
            have c9 := bk_cell H8.out.box 9
            simp only [rcC] at c9
            have e9 : wq.cell? ⟨y, 9, none⟩ = some (.int .u64 (T : Int)) := by rw [c9, ← HS3.out.2]; rfl
            have f8 := bk_frozen H8.out.box 8
            have c8 := bk_cell H8.out.box 8
            simp [rcC] at c8
            have ly := bk_lt H8.out.box
            obtain ⟨s, hs⟩ : ∃ s, s = addT T P2 := ⟨_, rfl⟩
            have CA : Hid (Calls Try.prog 65 #[.int .u64 (T : Int), .int .u64 (P2 : Int)] wq fun e w' => e = .returned (.int .u64 (s : Int)) ∧ wq = w') := Lib.hid (by rw [hs]; exact radd_any T P2 wq (by have := HTF.out.1; unfold far at this; omega) (by have := HLAT.out.2.2; omega))
            have hadd : s ≤ far := by rw [hs]; exact addT_le T P2
            have ec2 : { c1 with wait := P2, next := s } = c'.ask2 (l'.headD 0) := by
              have h8 := HS3.out.2
              rw [hs, HLAT.out.1, ← h8, HC1.out]
              rfl
            have H9 : Hid (RClB (wq.setCell ⟨y, 8, none⟩ (.int .u64 (s : Int))) y (c'.ask2 (l'.headD 0))) := Lib.hid (by
              rw [← ec2]; exact ⟨by rw [bk_setCell_same, H8.out.box]; rfl, hadd, H8.out.t64, H8.out.i24, H8.out.s64, H8.out.w22⟩)
            have t9 : Tn (fun k => k = y) wq (wq.setCell ⟨y, 8, none⟩ (.int .u64 (s : Int))) := (Tn.refl _ _).set (.inl rfl)
            have T9 := Lib.hid (T8.out.trans t9 fun j hj => .inl (.inl hj))
            have W9 := Lib.hid (W8.out.keep t9 fun k hk => by rw [hk]; exact HY.out)
            have O9 := Lib.hid (O8.out.turn t9 fun k hk => by rw [hk]; exact HYL.out)
            have HM : Hid (rTick NW y (wq.setCell ⟨y, 8, none⟩ (.int .u64 (s : Int))) < rTick NW y wr) := Lib.hid (by
              rw [rTick_eq H9.out, rTick_eq H1.out, HFA.out.1]
              have e7 : (c'.ask2 (l'.headD 0)).next = s := by rw [← ec2]
              have e8 : (c'.ask2 (l'.headD 0)).fresh = false := by show c'.fresh = false; exact HFA.out.1
              rw [e7, e8]
              show 2 * (NW + 1 - s) + 0 < 2 * (NW + 1 - c'.next) + 0
              have h5 : c'.next < s := by
                have h1 := H1.out.n64; have h6 := HT.out; have h9 := HNX.out; have h10 := HNF.out; have h11 := HLAT.out.2.1; have h12 := hs
                unfold addT at h12
                unfold far at h1 h10 h12
                split at h12 <;> omega
              have h13 := HFA.out.2.2
              omega)
            have HR9 : Hid (os = (os1 ++ [reqB c1 T]) ++ os3) := Lib.hid (by
              rw [E1.out, HO.out, List.append_assoc, ← HC1.out, HS3.out.2]; rfl)
            have M9 : Hid ((c'.ask2 (l'.headD 0)).tm ≤ NW) := Lib.hid (by rw [← ec2]; show c1.tm ≤ NW; rw [HS3.out.2]; exact HTF.out.2)
            clear t9 ec2 hadd hs H8 W8 T8 O8 c9
            go_wp2_with fail
            refine CA.out.mono ?_
            rintro e w9 ⟨rfl, rfl⟩
            clear CA
            go_wp2_with fail
            exact ⟨⟨_, l'.tail, A6, os1.length + 1, c6, os1 ++ [reqB c1 T], os3, rfl, H9, W9, HRU, HR9, O9, T9, M9⟩, HM.out⟩
  · have d1 : decide ((86400000 : Int) < (NW : Int)) = true := by simp; omega
    have d2 : decide (86400000 < NW) = true := by simp; omega
    obtain ⟨K, hK⟩ : ∃ K, K = NW - 86400000 := ⟨_, rfl⟩
    have e1 : (NW : Int) - 86400000 = (K : Int) := by omega
    have hf := HNW.out
    unfold far at hf
    have e2 : (K : Int) % 18446744073709551616 = (K : Int) := by omega
    have CX := Lib.hid (rdue_any y c w HC.out)
    obtain ⟨D, hD⟩ : ∃ D, D = c.due := ⟨_, rfl⟩
    rw [← hD] at CX
    have HK := Lib.hid (And.intro hK hf)
    by_cases hKD : K ≤ D
    · have d3 : decide ((D : Int) < (K : Int)) = false := by simp; omega
      have d4 : decide (D < K) = false := by simp; omega
      have ec : c.clamp NW = c := by unfold Cl.clamp; rw [if_neg (by omega)]
      rw [ec] at hrun
      have HRUN := Lib.hid hrun
      clear hrun ec hb hK hf hKD hD
      go_wp2_with fail
      refine CX.out.mono ?_
      rintro e w1 ⟨rfl, rfl⟩
      clear CX
      go_wp2_with fail
      clear d1 d2 d3 d4 e1 e2 ly
      go_loopw [7, 8, 9] (fun v _ _ wr => ∃ (c' : Cl) (l' : List Nat) (A : Option Addr) (k cc : Nat) (os1 os2 : List (List UInt8)), v = .slice A k cc ∧ Hid (RClB wr y c') ∧ Hid (RWd wr m q l') ∧ Hid (Run NW c' l' d mm os2) ∧ Hid (os = os1 ++ os2) ∧ Hid (OutL wr w.heap.size (.slice A k cc) os1) ∧ Hid (Tn (YF y q) w wr) ∧ Hid (c'.tm ≤ NW)) (fun _ _ _ wr => rTick NW y wr)
      case atStart => exact ⟨c, l, none, 0, 0, [], os, rfl, HC, HW, HRUN, Lib.hid rfl, Lib.hid OutL.nil, T0, HTM⟩
      case round =>
        clear HC HW HRUN T0 HTM
        obtain ⟨c', l', A, k, cc, os1, os2, rfl, H1, W1, R1, E1, O1, T1, M1⟩ := hrel
        have CX := Lib.hid (rdue_any y c' wr H1.out)
        obtain ⟨D, hD⟩ : ∃ D, D = c'.due := ⟨_, rfl⟩
        rw [← hD] at CX
        have c8 := bk_cell H1.out.box 8
        have c9 := bk_cell H1.out.box 9
        have f9 := bk_frozen H1.out.box 9
        simp [rcC] at c8 c9
        have ly := bk_lt H1.out.box
        obtain ⟨nx, hnx⟩ : ∃ nx, nx = c'.next := ⟨_, rfl⟩
        rw [← hnx] at c8
        have HNX := Lib.hid hnx
        rcases R1.out.inv with ⟨hdone, hd, hm, hos⟩ | ⟨hdu, hle, hfr, hka, hrun⟩ | ⟨hdu, hle, hfr, hsi, os3, hos, hrun⟩
        · have HE : Hid (os1 = os) := Lib.hid (by rw [E1.out, hos, List.append_nil])
          subst hd hm
          by_cases hDf : D = 9223372036854775807
          · have d1 : decide ((D : Int) < 9223372036854775807) = false := by simp; omega
            have d1' : decide (D < 9223372036854775807) = false := by simp; omega
            clear hdone hD hnx hos hDf c8 c9 f9
            go_wp2_with fail
            refine CX.out.mono ?_
            rintro e w1 ⟨rfl, rfl⟩
            clear CX
            go_upto_region 20 with fail
            have f9 := bk_frozen H1.out.box 9
            have c9 := bk_cell H1.out.box 9
            simp [rcC] at c9
            have ly := bk_lt H1.out.box
            obtain ⟨hk, hcc, _⟩ := O1.out.got
            have FIN : Hid (OutL (wr.setCell ⟨y, 9, none⟩ (.int .u64 (NW : Int))) w.heap.size (.slice A k cc) os ∧ k = os.length ∧ os.length ≤ cc ∧ RClB (wr.setCell ⟨y, 9, none⟩ (.int .u64 (NW : Int))) y (d.goes NW) ∧ RWd (wr.setCell ⟨y, 9, none⟩ (.int .u64 (NW : Int))) m q mm ∧ Tn (YF y q) w (wr.setCell ⟨y, 9, none⟩ (.int .u64 (NW : Int)))) := Lib.hid (by
              have t9 : Tn (fun k => k = y) wr (wr.setCell ⟨y, 9, none⟩ (.int .u64 (NW : Int))) := (Tn.refl _ _).set (.inl rfl)
              refine ⟨?_, by rw [hk, HE.out], by rw [← HE.out]; exact hcc, ?_, W1.out.keep t9 (fun k hk => by rw [hk]; exact HY.out), T1.out.set (.inl (.inl rfl))⟩
              · rw [← HE.out]
                exact O1.out.turn t9 (fun k hk => by rw [hk]; exact HYL.out)
              · have e : d.goes NW = { d with tm := NW } := by unfold Cl.goes; rw [Nat.max_eq_right M1.out]
                rw [e]
                exact ⟨by rw [bk_setCell_same, H1.out.box]; rfl, H1.out.n64, HNW.out, H1.out.i24, H1.out.s64, H1.out.w22⟩)
            clear hk hcc
            go_wp2_with fail
            go_ret
            obtain ⟨g1, g2, g3, g4, g5, g6⟩ := FIN.out
            exact ⟨A, cc, by rw [g2]; rfl, g3, (g2 ▸ g1).got.2.2, g4, g5, g6⟩
          · have d1 : decide ((D : Int) < 9223372036854775807) = true := by
              have : D ≤ 9223372036854775807 := by
                rw [hD]; unfold Cl.due; have := H1.out.n64; unfold far at *; split <;> omega
              simp; omega
            have d1' : decide (D < 9223372036854775807) = true := by simp at d1 ⊢; omega
            have d2 : decide ((D : Int) ≤ (NW : Int)) = false := by
              have h5 : d.due ≠ far := by rw [← hD]; exact hDf
              have h6 := (Cl.due_next h5).1
              rcases hdone with h | h
              · exact absurd h h5
              · simp; omega
            have d2' : decide (D ≤ NW) = false := by simp at d2 ⊢; omega
            have CX2 := CX
            clear hdone hD hnx hos hDf c8 c9 f9
            go_wp2_with fail
            refine CX.out.mono ?_
            rintro e w1 ⟨rfl, rfl⟩
            go_wp2_with fail
            refine CX2.out.mono ?_
            rintro e w1 ⟨rfl, rfl⟩
            clear CX CX2
            go_upto_region 20 with fail
            have f9 := bk_frozen H1.out.box 9
            have c9 := bk_cell H1.out.box 9
            simp [rcC] at c9
            have ly := bk_lt H1.out.box
            obtain ⟨hk, hcc, _⟩ := O1.out.got
            have FIN : Hid (OutL (wr.setCell ⟨y, 9, none⟩ (.int .u64 (NW : Int))) w.heap.size (.slice A k cc) os ∧ k = os.length ∧ os.length ≤ cc ∧ RClB (wr.setCell ⟨y, 9, none⟩ (.int .u64 (NW : Int))) y (d.goes NW) ∧ RWd (wr.setCell ⟨y, 9, none⟩ (.int .u64 (NW : Int))) m q mm ∧ Tn (YF y q) w (wr.setCell ⟨y, 9, none⟩ (.int .u64 (NW : Int)))) := Lib.hid (by
              have t9 : Tn (fun k => k = y) wr (wr.setCell ⟨y, 9, none⟩ (.int .u64 (NW : Int))) := (Tn.refl _ _).set (.inl rfl)
              refine ⟨?_, by rw [hk, HE.out], by rw [← HE.out]; exact hcc, ?_, W1.out.keep t9 (fun k hk => by rw [hk]; exact HY.out), T1.out.set (.inl (.inl rfl))⟩
              · rw [← HE.out]
                exact O1.out.turn t9 (fun k hk => by rw [hk]; exact HYL.out)
              · have e : d.goes NW = { d with tm := NW } := by unfold Cl.goes; rw [Nat.max_eq_right M1.out]
                rw [e]
                exact ⟨by rw [bk_setCell_same, H1.out.box]; rfl, H1.out.n64, HNW.out, H1.out.i24, H1.out.s64, H1.out.w22⟩)
            clear hk hcc
            go_wp2_with fail
            go_ret
            obtain ⟨g1, g2, g3, g4, g5, g6⟩ := FIN.out
            exact ⟨A, cc, by rw [g2]; rfl, g3, (g2 ▸ g1).got.2.2, g4, g5, g6⟩
        · have hDn : D = nx := by rw [hD, hnx]; exact (Cl.due_next hdu).1
          have hnf : nx ≠ 9223372036854775807 := by rw [hnx]; exact (Cl.due_next hdu).2
          have hn64 := H1.out.n64
          rw [← hnx] at hn64
          have d1 : decide ((D : Int) < 9223372036854775807) = true := by unfold far at hn64; simp; omega
          have d1' : decide (D < 9223372036854775807) = true := by unfold far at hn64; simp; omega
          have d2 : decide ((D : Int) ≤ (NW : Int)) = true := by simp; omega
          have d2' : decide (D ≤ NW) = true := by simp; omega
          have CX2 := CX
          obtain ⟨T, hT⟩ : ∃ T, T = max c'.tm nx := ⟨_, rfl⟩
          have HT := Lib.hid hT
          have HTF : Hid (T ≤ far ∧ T ≤ NW) := Lib.hid (by have h1 := H1.out.t64; have h2 := M1.out; omega)
          have hmx : max (c'.tm : Int) (nx : Int) = (T : Int) := by omega
          have hmx1 : (if (c'.tm : Int) < (nx : Int) then (nx : Int) else (c'.tm : Int)) = (T : Int) := by split <;> omega
          have hmx2 : (if c'.tm < nx then (nx : Int) else (c'.tm : Int)) = (T : Int) := by split <;> omega
          have HRU := Lib.hid hrun
          have HFA := Lib.hid (And.intro hfr (And.intro hka hle))
          clear hdu hle hfr hka hrun hD hnx hT hDn hnf hn64
          go_wp2_with fail
          refine CX.out.mono ?_
          rintro e w1 ⟨rfl, rfl⟩
          go_wp2_with fail
          refine CX2.out.mono ?_
          rintro e w1 ⟨rfl, rfl⟩
          clear CX CX2
          go_upto_region 6 with fail
          go_region
          have H2 : Hid (RClB (wr.setCell ⟨y, 9, none⟩ (.int .u64 (T : Int))).drew y { c' with tm := T }) := Lib.hid ⟨by show bk (wr.setCell ⟨y, 9, none⟩ (.int .u64 (T : Int))) y = _; rw [bk_setCell_same, H1.out.box]; rfl, H1.out.n64, HTF.out.1, H1.out.i24, H1.out.s64, H1.out.w22⟩
          have t2 : Tn (fun k => k = y) wr (wr.setCell ⟨y, 9, none⟩ (.int .u64 (T : Int))).drew := Tn.trans (F := fun k => k = y) (G := fun _ => False) ((Tn.refl (fun k => k = y) wr).set (.inl rfl)) (Tn.of (Below.refl _ _).drew) fun k hk => hk.elim
          have T2 := Lib.hid (T1.out.trans t2 fun k hk => .inl (.inl hk))
          have W2 := Lib.hid (W1.out.keep t2 fun k hk => by rw [hk]; exact HY.out)
          have O2 := Lib.hid (O1.out.turn t2 fun k hk => by rw [hk]; exact HYL.out)
          clear t2 c8 c9 f9 ly hmx hmx1 hmx2 O1 T1 W1
          generalize (wr.setCell ⟨y, 9, none⟩ (.int .u64 (T : Int))).drew = w2 at *
          have c7 := bk_cell H2.out.box 7
          have c9 := bk_cell H2.out.box 9
          simp [rcC] at c7 c9
          rw [HFA.out.1] at c7
          have ly := bk_lt H2.out.box
          have CS := Lib.hid (rstart_any y q m { c' with tm := T } T l' w2 H2.out W2.out HY.out HTF.out.1 HFA.out.2.1)
          clear d1 d1' d2 d2'
          go_wp2_with fail
          refine CS.out.mono ?_
          rintro e w3 ⟨rfl, h3, W3, t3⟩
          have O3 := Lib.hid (O2.out.turn t3 fun k hk => by rcases hk with hk | hk; (rw [hk]; exact HYL.out); (rw [hk]; exact HQL.out))
          have HM : Hid (rTick NW y w3 < rTick NW y wr) := Lib.hid (by
            rw [rTick_eq h3, rTick_eq H1.out, HFA.out.1]
            show 2 * (NW + 1 - addT (max T T) _) + 0 < 2 * (NW + 1 - c'.next) + 1
            have h5 : c'.next ≤ addT (max T T) (belT (l'.tail.headD 0) 1000) := by
              have h1 := H1.out.n64; have h6 := HT.out; have h7 := HNX.out
              unfold addT
              split <;> omega
            omega)
          have H3 := Lib.hid h3
          have W3' := Lib.hid W3
          have T3 := Lib.hid (T2.out.trans t3 fun j hj => .inl hj)
          have M3 : Hid ((Cl.start { c' with tm := T } T l').tm ≤ NW) := Lib.hid (by show max T T ≤ NW; have := HTF.out.2; omega)
          clear h3 W3 t3 CS H2 T2 W2 O2 c7 c9 ly
          go_wp2_with fail
          refine ⟨⟨_, l'.tail.tail, A, k, cc, os1, os2, rfl, H3, W3', Lib.hid ?_, E1, O3, T3, M3⟩, HM.out⟩
          have hru := HRU.out
          rw [← HNX.out, ← HT.out] at hru
          have e5 : Cl.start { c' with tm := T } T l' = (c'.goes nx).start T l' := by
            rw [HT.out]; rfl
          rw [e5]
          exact hru
        · have hDn : D = nx := by rw [hD, hnx]; exact (Cl.due_next hdu).1
          have hnf : nx ≠ 9223372036854775807 := by rw [hnx]; exact (Cl.due_next hdu).2
          have HNF : Hid (c'.next ≠ far) := Lib.hid (Cl.due_next hdu).2
          have hn64 := H1.out.n64
          rw [← hnx] at hn64
          have d1 : decide ((D : Int) < 9223372036854775807) = true := by unfold far at hn64; simp; omega
          have d1' : decide (D < 9223372036854775807) = true := by unfold far at hn64; simp; omega
          have d2 : decide ((D : Int) ≤ (NW : Int)) = true := by simp; omega
          have d2' : decide (D ≤ NW) = true := by simp; omega
          have CX2 := CX
          obtain ⟨T, hT⟩ : ∃ T, T = max c'.tm nx := ⟨_, rfl⟩
          have HT := Lib.hid hT
          have HTF : Hid (T ≤ far ∧ T ≤ NW) := Lib.hid (by have h1 := H1.out.t64; have h2 := M1.out; omega)
          have hmx : max (c'.tm : Int) (nx : Int) = (T : Int) := by omega
          have hmx1 : (if (c'.tm : Int) < (nx : Int) then (nx : Int) else (c'.tm : Int)) = (T : Int) := by split <;> omega
          have hmx2 : (if c'.tm < nx then (nx : Int) else (c'.tm : Int)) = (T : Int) := by split <;> omega
          have HRU := Lib.hid hrun
          have HFA := Lib.hid (And.intro hfr (And.intro hsi hle))
          have hk := (O1.out.got).1
          subst hk
          have HO := Lib.hid hos
          have HLN : Hid (os1.length < 2 ^ 20) := Lib.hid (by have h1 := HOS.out; rw [E1.out, List.length_append] at h1; omega)
          clear hdu hle hfr hsi hrun hD hnx hT hDn hnf hn64 hos
          go_wp2_with fail
          refine CX.out.mono ?_
          rintro e w1 ⟨rfl, rfl⟩
          go_wp2_with fail
          refine CX2.out.mono ?_
          rintro e w1 ⟨rfl, rfl⟩
          clear CX CX2
          go_upto_region 6 with fail
          go_region
          have H2 : Hid (RClB (wr.setCell ⟨y, 9, none⟩ (.int .u64 (T : Int))).drew y { c' with tm := T }) := Lib.hid ⟨by show bk (wr.setCell ⟨y, 9, none⟩ (.int .u64 (T : Int))) y = _; rw [bk_setCell_same, H1.out.box]; rfl, H1.out.n64, HTF.out.1, H1.out.i24, H1.out.s64, H1.out.w22⟩
          have t2 : Tn (fun k => k = y) wr (wr.setCell ⟨y, 9, none⟩ (.int .u64 (T : Int))).drew := Tn.trans (F := fun k => k = y) (G := fun _ => False) ((Tn.refl (fun k => k = y) wr).set (.inl rfl)) (Tn.of (Below.refl _ _).drew) fun k hk => hk.elim
          have T2 := Lib.hid (T1.out.trans t2 fun k hk => .inl (.inl hk))
          have W2 := Lib.hid (W1.out.keep t2 fun k hk => by rw [hk]; exact HY.out)
          have O2 := Lib.hid (O1.out.turn t2 fun k hk => by rw [hk]; exact HYL.out)
          clear t2 c8 c9 f9 ly hmx hmx1 hmx2 O1 T1 W1 d1 d1' d2 d2'
          generalize (wr.setCell ⟨y, 9, none⟩ (.int .u64 (T : Int))).drew = w2 at *
          have c7 := bk_cell H2.out.box 7
          have c12 := bk_cell H2.out.box 12
          have c9 := bk_cell H2.out.box 9
          simp [rcC] at c7 c12 c9
          rw [HFA.out.1] at c7
          have ly := bk_lt H2.out.box
          have hh := W2.out.head
          obtain ⟨bb, hbb⟩ : ∃ b, b = belT (l'.headD 0) 201 := ⟨_, rfl⟩
          have hbl : bb < 201 := by rw [hbb]; exact belT_lt hh (by decide)
          have HBB := Lib.hid hbb
          obtain ⟨R, hR⟩ : ∃ R : Int, R = (bb : Int) - 100 := ⟨_, rfl⟩
          have r0 : (bb : Int) - 100 = R := hR.symm
          have HRR : Hid (-100 ≤ R ∧ R ≤ 100) := Lib.hid (by omega)
          have r1 : wrap64 R = R := by unfold wrap64; omega
          have r2 : wrap64 (bb : Int) = (bb : Int) := by unfold wrap64; omega
          obtain ⟨W, hW⟩ : ∃ W, W = c'.wait := ⟨_, rfl⟩
          obtain ⟨f1, f2, f3, f4, f5, f6, f7⟩ := rlat_facts W R (by rw [hW]; exact H2.out.w22) HRR.out
          obtain ⟨y1, hy1⟩ : ∃ z : Int, z = (((1000 : Nat) : Int) * R).tdiv 1000 := ⟨_, rfl⟩
          obtain ⟨y2, hy2⟩ : ∃ z : Int, z = ((W : Int) * R).tdiv 1000 := ⟨_, rfl⟩
          obtain ⟨y3, hy3⟩ : ∃ z : Int, z = (((3600000 : Nat) : Int) * R).tdiv 1000 := ⟨_, rfl⟩
          rw [← hy1] at f1
          rw [← hy2] at f3
          rw [← hy3] at f4
          have HY1 := Lib.hid hy1
          have HY2 := Lib.hid hy2
          have HY3 := Lib.hid hy3
          obtain ⟨P1, hP1⟩ : ∃ P, P = partT 1000 R := ⟨_, rfl⟩
          obtain ⟨P2, hP2⟩ : ∃ P, P = W + partT W R := ⟨_, rfl⟩
          obtain ⟨P3, hP3⟩ : ∃ P, P = partT 3600000 R := ⟨_, rfl⟩
          rw [← hP1] at f1 f5
          rw [← hP2] at f3 f6
          rw [← hP3] at f4 f7
          have u1 : IntKind.u64.wrap (P1 : Int) = (P1 : Int) := by rw [IntKind.wrap_u64]; omega
          have u2 : IntKind.u64.wrap (P2 : Int) = (P2 : Int) := by rw [IntKind.wrap_u64]; omega
          have u3 : IntKind.u64.wrap (P3 : Int) = (P3 : Int) := by rw [IntKind.wrap_u64]; omega
          obtain ⟨c1, hc1⟩ : ∃ c1, c1 = c'.ask1 := ⟨_, rfl⟩
          have HC1 := Lib.hid hc1
          have hwc : c1.wait = W := by rw [hc1, hW]; rfl
          have hlt : c1.lat (l'.headD 0) = if (if W > 0 then P2 else P1) > 3600000 then P3 else if W > 0 then P2 else P1 := by
            unfold Cl.lat laterT
            rw [hwc, ← hbb, ← hR, hP1, hP2, hP3]
          have hlp := Cl.lat_pos c1 hh
          rw [← hW] at c12
          have HWC := Lib.hid (And.intro hwc hW)
          clear hc1 hy1 hy2 hy3 hP1 hP2 hP3 hwc hbb hR hh
          by_cases hw0 : W = 0
          · have HLAT : Hid (P1 = c1.lat (l'.headD 0) ∧ 0 < P1 ∧ P1 ≤ 3960000) := Lib.hid (by
              rw [hw0] at hlt
              simp only [gt_iff_lt, Nat.lt_irrefl, if_false] at hlt
              rw [if_neg (by omega)] at hlt
              exact ⟨hlt.symm, by omega, by omega⟩)
            clear hlt hlp hW f2 f3 f4 f6 f7 u2 u3
            rw [hw0] at c12
            have f11 := bk_frozen H2.out.box 11
            have c11 := bk_cell H2.out.box 11
            simp [rcC] at c11
            have d5 : decide ((3600000 : Int) < (P1 : Int)) = false := by simp; omega
            have d5' : decide (3600000 < P1) = false := by simp; omega
            have ec : c1 = { c' with tm := T, since := T } := by
              rw [HC1.out, HT.out, HNX.out]; unfold Cl.ask1; rw [if_pos (by rw [← HWC.out.2]; exact hw0)]
            have H3 : Hid (RClB (w2.setCell ⟨y, 11, none⟩ (.int .u64 (T : Int))) y c1) := Lib.hid (by
              rw [ec]; exact ⟨by rw [bk_setCell_same, H2.out.box]; rfl, H2.out.n64, H2.out.t64, H2.out.i24, HTF.out.1, H2.out.w22⟩)
            have t3 : Tn (fun k => k = y) w2 (w2.setCell ⟨y, 11, none⟩ (.int .u64 (T : Int))) := (Tn.refl _ _).set (.inl rfl)
            have T3 := Lib.hid (T2.out.trans t3 fun j hj => .inl (.inl hj))
            have W3 := Lib.hid (W2.out.keep t3 fun k hk => by rw [hk]; exact HY.out)
            have O3 := Lib.hid (O2.out.turn t3 fun k hk => by rw [hk]; exact HYL.out)
            have HS3 : Hid (c1.since ≤ T ∧ c1.tm = T) := Lib.hid (by rw [ec]; exact ⟨Nat.le_refl _, rfl⟩)
            have HC12 : Hid (c1.wait = 0) := Lib.hid (by rw [HWC.out.1, hw0])
            clear t3 ec hw0 hbl
            go_upto_region 11 with fail
            change Code.wp _ _ _ _ (w2.setCell ⟨y, 11, none⟩ (.int .u64 (T : Int)))
            clear c7 c12 c9 c11 f11 ly H2 T2 W2 O2
            generalize w2.setCell ⟨y, 11, none⟩ (.int .u64 (T : Int)) = w3 at *
            have CR := Lib.hid (rrequest_any y c1 w3 H3.out (by rw [HS3.out.2]; exact HS3.out.1))
            rw [HS3.out.2] at CR
            go_wp2_with fail
            refine CR.out.mono ?_
            rintro e w4 ⟨A1, ca, rfl, r4, hb4, b4⟩
            have b5 : Below w4.heap.size w4 (w4.alloc (.cells #[.slice A1 34 ca] 22)) := (by (repeat (first | exact Below.refl _ _ | assumption | refine Below.drew ?_ | refine bdrewN ?_ _ | refine Below.alloc ?_ (by first | omega | (simp <;> omega) | (simp only [World.size_alloc] <;> omega)) _ | refine below_setRow ?_ (by first | omega | (simp <;> omega)) _ | refine Below.setCell ?_ (by first | omega | (simp <;> omega)) _)))
            have b35 := b4.trans (b5.mono b4.size)
            have O5 := O3.out.turn (Tn.of (F := fun _ => False) b35) (fun k hk => hk.elim)
            obtain ⟨vs, hown, hall⟩ := O5
            have hvl : vs.length = os1.length := by have := hown.1; omega
            have hc5 : (w4.alloc (.cells #[.slice A1 34 ca] 22)).cell? ⟨w4.heap.size, 0, none⟩ = some (.slice A1 34 ca) := bk_cell (bk_alloc_at _ _ _ rfl) 0
            have hw5 : w.heap.size ≤ (w4.alloc (.cells #[.slice A1 34 ca] 22)).heap.size := Nat.le_trans T3.out.size b35.size
            have r5 := (r4.below b5 (Nat.le_refl _)).mono b5.size
            have hA5 : Hid (∀ g o, A1 = some ⟨g, o, none⟩ → w.heap.size ≤ g ∧ (Value.slice A os1.length cc).ownBlock ≠ some g ∧ g < (w4.alloc (.cells #[.slice A1 34 ca] 22)).heap.size) := Lib.hid fun g o e => by
              have h1 := hb4 g o e
              have h2 := T3.out.size
              obtain ⟨b9, o9, e9, hlt9, _⟩ := r4 (by rw [(reqB_len c1 T).2.2]; decide)
              rw [e9] at e
              cases e
              refine ⟨by omega, fun e2 => ?_, Nat.lt_of_lt_of_le hlt9 b5.size⟩
              obtain ⟨vs3, hown3, _⟩ := O3.out
              have h3 := (hown3.lt _ e2).2
              omega
            have HOWN := Lib.hid hown
            have HALL := Lib.hid hall
            have HVL := Lib.hid hvl
            have HC5 := Lib.hid hc5
            have HW5 := Lib.hid hw5
            have R5 := Lib.hid r5
            have T5 := Lib.hid (T3.out.trans (Tn.of (F := fun _ => False) b35) fun j hj => hj.elim)
            have H5 := Lib.hid (H3.out.below b35)
            have W5 := Lib.hid (W3.out.keep (Tn.of (F := fun _ => False) b35) fun k hk => hk.elim)
            clear r4 hb4 b4 b5 b35 hown hall hvl hc5 hw5 r5 O3 H3 W3 T3 CR
            go_wp2_with (at_builtin; refine wpList_snocR rfl _ _ rfl w.heap.size (.slice A os1.length cc) os1.length vs rfl HOWN.out ⟨w4.heap.size, 0, none⟩ (.slice A1 34 ca) rfl HC5.out rfl HW5.out (by have := HLN.out; omega) ?_)
            intro A6 c6 w6 hown6 hg6 hat6
            have hlen := (reqB_len c1 T).2.2
            have O6 : Hid (OutL w6 w.heap.size (.slice A6 (os1.length + 1) c6) (os1 ++ [reqB c1 T])) := Lib.hid (OutL.snoc (A := A1) (c := ca) HALL.out HVL.out (by rw [hlen]; exact hown6) hg6 (by rw [World.size_alloc]; exact hat6) R5.out hA5.out)
            have t6 : Tn (fun k => (Value.slice A os1.length cc).ownBlock = some k) (w4.alloc (.cells #[.slice A1 34 ca] 22)) w6 := Tn.grownG hg6
            have hge : ∀ k, k < w.heap.size → ¬ (Value.slice A os1.length cc).ownBlock = some k := fun k hk e => by
              have h2 := (HOWN.out.lt k e).1
              omega
            have H6 := Lib.hid (H5.out.keep t6 (hge y HYL.out))
            have W6 := Lib.hid (W5.out.grow HOWN.out (by decide) hg6 (fun e => hge q HQL.out e))
            have T6 := Lib.hid (T5.out.trans t6 fun j hj => .inr (HOWN.out.lt j hj).1)
            have CB : Hid (Calls Try.prog 66 #[.pointer (some ⟨q, 0, none⟩), .int .u32 201] w6 fun e w' => e = .returned (.int .u32 (bb : Int)) ∧ RWd w' m q l'.tail ∧ Tn (fun k => k = q) w6 w') := Lib.hid (by rw [HBB.out]; exact rwbelow_any m q l' 201 w6 W6.out (by decide))
            clear hown6 hg6 hat6 t6 hge HALL HOWN HVL HC5 HW5 R5 hA5 T5 H5 W5 hlen
            go_wp2_with fail
            refine CB.out.mono ?_
            rintro e w7 ⟨rfl, W7, t7⟩
            have H7 := Lib.hid (H6.out.keep t7 HY.out.2)
            have W7' := Lib.hid W7
            have T7 := Lib.hid (T6.out.trans t7 fun j hj => .inl (.inr hj))
            have O7 := Lib.hid (O6.out.turn t7 fun k hk => by rw [hk]; exact HQL.out)
            have c12 := bk_cell H7.out.box 12
            simp [rcC] at c12
            have ly := bk_lt H7.out.box
            have CS1 : Hid (Calls Try.prog 76 #[.int .u64 1000, .int .i64 R] w7 fun e w' => e = .returned (.int .i64 y1) ∧ w7 = w') := Lib.hid (by rw [HY1.out]; exact rshare_any 1000 R w7 (by decide) HRR.out)
            clear W7 t7 CB H6 W6 T6 O6
            go_wp2_with fail
            refine CS1.out.mono ?_
            rintro e w7' ⟨rfl, rfl⟩
            clear CS1
            rw [HC12.out] at c12
            go_upto_region 18 with fail
            have f12 := bk_frozen H7.out.box 12
            clear ly c12
            have c12 := bk_cell H7.out.box 12
            simp [rcC] at c12
            have ly := bk_lt H7.out.box
            go_upto_region 19 with fail
            have H8 : Hid (RClB (w7.setCell ⟨y, 12, none⟩ (.int .u64 (P1 : Int))) y { c1 with wait := P1 }) := Lib.hid ⟨by rw [bk_setCell_same, H7.out.box]; rfl, H7.out.n64, H7.out.t64, H7.out.i24, H7.out.s64, HLAT.out.2.2⟩
            have t8 : Tn (fun k => k = y) w7 (w7.setCell ⟨y, 12, none⟩ (.int .u64 (P1 : Int))) := (Tn.refl _ _).set (.inl rfl)
            have W8 := Lib.hid (W7'.out.keep t8 fun k hk => by rw [hk]; exact HY.out)
            have T8 := Lib.hid (T7.out.trans t8 fun j hj => .inl (.inl hj))
            have O8 := Lib.hid (O7.out.turn t8 fun k hk => by rw [hk]; exact HYL.out)
            clear t8 f12 c12 ly H7 W7' T7 O7
            change Code.wp _ _ _ _ (w7.setCell ⟨y, 12, none⟩ (.int .u64 (P1 : Int)))
            generalize w7.setCell ⟨y, 12, none⟩ (.int .u64 (P1 : Int)) = wq at *
            have c9 := bk_cell H8.out.box 9
            simp only [rcC] at c9
            have e9 : wq.cell? ⟨y, 9, none⟩ = some (.int .u64 (T : Int)) := by rw [c9, ← HS3.out.2]; rfl
            have f8 := bk_frozen H8.out.box 8
            have c8 := bk_cell H8.out.box 8
            simp [rcC] at c8
            have ly := bk_lt H8.out.box
            obtain ⟨s, hs⟩ : ∃ s, s = addT T P1 := ⟨_, rfl⟩
            have CA : Hid (Calls Try.prog 65 #[.int .u64 (T : Int), .int .u64 (P1 : Int)] wq fun e w' => e = .returned (.int .u64 (s : Int)) ∧ wq = w') := Lib.hid (by rw [hs]; exact radd_any T P1 wq (by have := HTF.out.1; unfold far at this; omega) (by have := HLAT.out.2.2; omega))
            have hadd : s ≤ far := by rw [hs]; exact addT_le T P1
            have ec2 : { c1 with wait := P1, next := s } = c'.ask2 (l'.headD 0) := by
              have h8 := HS3.out.2
              rw [hs, HLAT.out.1, ← h8, HC1.out]
              rfl
            have H9 : Hid (RClB (wq.setCell ⟨y, 8, none⟩ (.int .u64 (s : Int))) y (c'.ask2 (l'.headD 0))) := Lib.hid (by
              rw [← ec2]; exact ⟨by rw [bk_setCell_same, H8.out.box]; rfl, hadd, H8.out.t64, H8.out.i24, H8.out.s64, H8.out.w22⟩)
            have t9 : Tn (fun k => k = y) wq (wq.setCell ⟨y, 8, none⟩ (.int .u64 (s : Int))) := (Tn.refl _ _).set (.inl rfl)
            have T9 := Lib.hid (T8.out.trans t9 fun j hj => .inl (.inl hj))
            have W9 := Lib.hid (W8.out.keep t9 fun k hk => by rw [hk]; exact HY.out)
            have O9 := Lib.hid (O8.out.turn t9 fun k hk => by rw [hk]; exact HYL.out)
            have HM : Hid (rTick NW y (wq.setCell ⟨y, 8, none⟩ (.int .u64 (s : Int))) < rTick NW y wr) := Lib.hid (by
              rw [rTick_eq H9.out, rTick_eq H1.out, HFA.out.1]
              have e7 : (c'.ask2 (l'.headD 0)).next = s := by rw [← ec2]
              have e8 : (c'.ask2 (l'.headD 0)).fresh = false := by show c'.fresh = false; exact HFA.out.1
              rw [e7, e8]
              show 2 * (NW + 1 - s) + 0 < 2 * (NW + 1 - c'.next) + 0
              have h5 : c'.next < s := by
                have h1 := H1.out.n64; have h6 := HT.out; have h9 := HNX.out; have h10 := HNF.out; have h11 := HLAT.out.2.1; have h12 := hs
                unfold addT at h12
                unfold far at h1 h10 h12
                split at h12 <;> omega
              have h13 := HFA.out.2.2
              omega)
            have HR9 : Hid (os = (os1 ++ [reqB c1 T]) ++ os3) := Lib.hid (by
              rw [E1.out, HO.out, List.append_assoc, ← HC1.out, HS3.out.2]; rfl)
            have M9 : Hid ((c'.ask2 (l'.headD 0)).tm ≤ NW) := Lib.hid (by rw [← ec2]; show c1.tm ≤ NW; rw [HS3.out.2]; exact HTF.out.2)
            clear t9 ec2 hadd hs H8 W8 T8 O8 c9
            go_wp2_with fail
            refine CA.out.mono ?_
            rintro e w9 ⟨rfl, rfl⟩
            clear CA
            go_wp2_with fail
            exact ⟨⟨_, l'.tail, A6, os1.length + 1, c6, os1 ++ [reqB c1 T], os3, rfl, H9, W9, HRU, HR9, O9, T9, M9⟩, HM.out⟩
          · have hw1 : ((W : Int) == 0) = false := beq_eq_false_iff_ne.2 (by omega)
            have hw2 : ((W : Int) != 0) = true := by rw [bne, hw1]; rfl
            have hlt2 : c1.lat (l'.headD 0) = if P2 > 3600000 then P3 else P2 := by
              rw [hlt]; simp only [gt_iff_lt, show 0 < W by omega, if_true]
            have HLT := Lib.hid hlt2
            have HLP := Lib.hid hlp
            have ec : c1 = { c' with tm := T } := by
              rw [HC1.out, HT.out, HNX.out]; unfold Cl.ask1; rw [if_neg (by rw [← HWC.out.2]; exact hw0)]
            have H3 : Hid (RClB w2 y c1) := Lib.hid (by rw [ec]; exact H2.out)
            have HS3 : Hid (c1.since ≤ T ∧ c1.tm = T) := Lib.hid (by
              have h1 := HT.out; have h3 := HFA.out.2.1
              rw [ec]; exact ⟨(by show c'.since ≤ T; omega), rfl⟩)
            have T3 := T2
            have W3 := W2
            have O3 := O2
            have hw22 : W ≤ 3960000 := by rw [HWC.out.2]; exact H2.out.w22
            have v1 : wrap64 (W : Int) = (W : Int) := by unfold wrap64; omega
            have CS2 : Hid (∀ X, Calls Try.prog 76 #[.int .u64 (W : Int), .int .i64 R] X fun e w' => e = .returned (.int .i64 y2) ∧ Below X.heap.size X w') := Lib.hid fun X => (by
              rw [HY2.out]
              exact (rshare_any W R X hw22 HRR.out).mono fun e w' q => ⟨q.1, by rw [← q.2]; exact Below.refl _ _⟩)
            clear hlt hlt2 hlp hW ec hw0 hbl
            go_upto_region 11 with fail
            clear c7 c12 c9 ly H2 T2 W2 O2
            generalize hw23 : w2 = w3 at *
            clear hw23
            have CR := Lib.hid (rrequest_any y c1 w3 H3.out (by rw [HS3.out.2]; exact HS3.out.1))
            rw [HS3.out.2] at CR
            go_wp2_with fail
            refine CR.out.mono ?_
            rintro e w4 ⟨A1, ca, rfl, r4, hb4, b4⟩
            have b5 : Below w4.heap.size w4 (w4.alloc (.cells #[.slice A1 34 ca] 22)) := (by (repeat (first | exact Below.refl _ _ | assumption | refine Below.drew ?_ | refine bdrewN ?_ _ | refine Below.alloc ?_ (by first | omega | (simp <;> omega) | (simp only [World.size_alloc] <;> omega)) _ | refine below_setRow ?_ (by first | omega | (simp <;> omega)) _ | refine Below.setCell ?_ (by first | omega | (simp <;> omega)) _)))
            have b35 := b4.trans (b5.mono b4.size)
            have O5 := O3.out.turn (Tn.of (F := fun _ => False) b35) (fun k hk => hk.elim)
            obtain ⟨vs, hown, hall⟩ := O5
            have hvl : vs.length = os1.length := by have := hown.1; omega
            have hc5 : (w4.alloc (.cells #[.slice A1 34 ca] 22)).cell? ⟨w4.heap.size, 0, none⟩ = some (.slice A1 34 ca) := bk_cell (bk_alloc_at _ _ _ rfl) 0
            have hw5 : w.heap.size ≤ (w4.alloc (.cells #[.slice A1 34 ca] 22)).heap.size := Nat.le_trans T3.out.size b35.size
            have r5 := (r4.below b5 (Nat.le_refl _)).mono b5.size
            have hA5 : Hid (∀ g o, A1 = some ⟨g, o, none⟩ → w.heap.size ≤ g ∧ (Value.slice A os1.length cc).ownBlock ≠ some g ∧ g < (w4.alloc (.cells #[.slice A1 34 ca] 22)).heap.size) := Lib.hid fun g o e => by
              have h1 := hb4 g o e
              have h2 := T3.out.size
              obtain ⟨b9, o9, e9, hlt9, _⟩ := r4 (by rw [(reqB_len c1 T).2.2]; decide)
              rw [e9] at e
              cases e
              refine ⟨by omega, fun e2 => ?_, Nat.lt_of_lt_of_le hlt9 b5.size⟩
              obtain ⟨vs3, hown3, _⟩ := O3.out
              have h3 := (hown3.lt _ e2).2
              omega
            have HOWN := Lib.hid hown
            have HALL := Lib.hid hall
            have HVL := Lib.hid hvl
            have HC5 := Lib.hid hc5
            have HW5 := Lib.hid hw5
            have R5 := Lib.hid r5
            have T5 := Lib.hid (T3.out.trans (Tn.of (F := fun _ => False) b35) fun j hj => hj.elim)
            have H5 := Lib.hid (H3.out.below b35)
            have W5 := Lib.hid (W3.out.keep (Tn.of (F := fun _ => False) b35) fun k hk => hk.elim)
            clear r4 hb4 b4 b5 b35 hown hall hvl hc5 hw5 r5 O3 H3 W3 T3 CR
            go_wp2_with (at_builtin; refine wpList_snocR rfl _ _ rfl w.heap.size (.slice A os1.length cc) os1.length vs rfl HOWN.out ⟨w4.heap.size, 0, none⟩ (.slice A1 34 ca) rfl HC5.out rfl HW5.out (by have := HLN.out; omega) ?_)
            intro A6 c6 w6 hown6 hg6 hat6
            have hlen := (reqB_len c1 T).2.2
            have O6 : Hid (OutL w6 w.heap.size (.slice A6 (os1.length + 1) c6) (os1 ++ [reqB c1 T])) := Lib.hid (OutL.snoc (A := A1) (c := ca) HALL.out HVL.out (by rw [hlen]; exact hown6) hg6 (by rw [World.size_alloc]; exact hat6) R5.out hA5.out)
            have t6 : Tn (fun k => (Value.slice A os1.length cc).ownBlock = some k) (w4.alloc (.cells #[.slice A1 34 ca] 22)) w6 := Tn.grownG hg6
            have hge : ∀ k, k < w.heap.size → ¬ (Value.slice A os1.length cc).ownBlock = some k := fun k hk e => by
              have h2 := (HOWN.out.lt k e).1
              omega
            have H6 := Lib.hid (H5.out.keep t6 (hge y HYL.out))
            have W6 := Lib.hid (W5.out.grow HOWN.out (by decide) hg6 (fun e => hge q HQL.out e))
            have T6 := Lib.hid (T5.out.trans t6 fun j hj => .inr (HOWN.out.lt j hj).1)
            have CB : Hid (Calls Try.prog 66 #[.pointer (some ⟨q, 0, none⟩), .int .u32 201] w6 fun e w' => e = .returned (.int .u32 (bb : Int)) ∧ RWd w' m q l'.tail ∧ Tn (fun k => k = q) w6 w') := Lib.hid (by rw [HBB.out]; exact rwbelow_any m q l' 201 w6 W6.out (by decide))
            clear hown6 hg6 hat6 t6 hge HALL HOWN HVL HC5 HW5 R5 hA5 T5 H5 W5 hlen
            go_wp2_with fail
            refine CB.out.mono ?_
            rintro e w7 ⟨rfl, W7, t7⟩
            have H7 := Lib.hid (H6.out.keep t7 HY.out.2)
            have W7' := Lib.hid W7
            have T7 := Lib.hid (T6.out.trans t7 fun j hj => .inl (.inr hj))
            have O7 := Lib.hid (O6.out.turn t7 fun k hk => by rw [hk]; exact HQL.out)
            have c12 := bk_cell H7.out.box 12
            simp [rcC] at c12
            have ly := bk_lt H7.out.box
            have CS1 : Hid (Calls Try.prog 76 #[.int .u64 1000, .int .i64 R] w7 fun e w' => e = .returned (.int .i64 y1) ∧ w7 = w') := Lib.hid (by rw [HY1.out]; exact rshare_any 1000 R w7 (by decide) HRR.out)
            clear W7 t7 CB H6 W6 T6 O6
            go_wp2_with fail
            refine CS1.out.mono ?_
            rintro e w7' ⟨rfl, rfl⟩
            clear CS1
            rw [HWC.out.1] at c12
            go_upto_region 15 with fail
            have HFF := Lib.hid (And.intro f4 (And.intro f7 u3))
            clear f1 f4 f5 f7 u1 u3 r0 r1 r2
            refine wp_region_later (w7.heap.size) (by kernel_rfl) (by kernel_rfl) ?_
            repeat (go_big_quiet_step (((rename_i xq; with_reducible exact later_call xq (Nat.le_refl _) (CS2.out xq.w)))))
            (first | refine wpQuiet_nil ?_ | (go_big_quiet_want; (try go_big_quiet_op); trace_state; fail))
            intro w8 hw'
            have q8 := later_elim hw'
            clear hw'
            have H8 := Lib.hid (H7.out.below q8)
            have W8' := Lib.hid (W7'.out.keep (Tn.of (F := fun _ => False) q8) fun k hk => hk.elim)
            have T8 := Lib.hid (T7.out.trans (Tn.of (F := fun _ => False) q8) fun j hj => hj.elim)
            have O8 := Lib.hid (O7.out.turn (Tn.of (F := fun _ => False) q8) fun k hk => hk.elim)
            clear H7 W7' T7 O7 q8 CS2 v1 f2 f3 u2 c12 ly
            have H7 := H8
            have W7' := W8'
            have T7 := T8
            have O7 := O8
            clear H8 W8' T8 O8
            have ly := bk_lt H7.out.box
            have c12 := bk_cell H7.out.box 12
            simp [rcC] at c12
            by_cases hbig : 3600000 < P2
            · have d5 : decide ((3600000 : Int) < (P2 : Int)) = true := by simp; omega
              have d5' : decide (3600000 < P2) = true := by simp; omega
              have HLAT : Hid (P3 = c1.lat (l'.headD 0) ∧ 0 < P3 ∧ P3 ≤ 3960000) := Lib.hid (by
                have h1 := HLT.out
                rw [if_pos (by omega)] at h1
                rw [← h1]
                exact ⟨rfl, HLP.out.1, HLP.out.2⟩)
              obtain ⟨f4, f7, u3⟩ := HFF.out
              have CS3 : Hid (Calls Try.prog 76 #[.int .u64 3600000, .int .i64 R] w8 fun e w' => e = .returned (.int .i64 y3) ∧ w8 = w') := Lib.hid (by rw [HY3.out]; exact rshare_any 3600000 R w8 (by decide) HRR.out)
              clear hbig f6
              go_wp2_with fail
              refine CS3.out.mono ?_
              rintro e w8' ⟨rfl, rfl⟩
              clear CS3
              go_upto_region 18 with fail
              clear f4 f7 u3 d5 d5'
              have f12 := bk_frozen H7.out.box 12
              clear ly c12
              have c12 := bk_cell H7.out.box 12
              simp [rcC] at c12
              have ly := bk_lt H7.out.box
              go_upto_region 19 with fail
              have H8 : Hid (RClB (w8.setCell ⟨y, 12, none⟩ (.int .u64 (P3 : Int))) y { c1 with wait := P3 }) := Lib.hid ⟨by rw [bk_setCell_same, H7.out.box]; rfl, H7.out.n64, H7.out.t64, H7.out.i24, H7.out.s64, HLAT.out.2.2⟩
              have t8 : Tn (fun k => k = y) w8 (w8.setCell ⟨y, 12, none⟩ (.int .u64 (P3 : Int))) := (Tn.refl _ _).set (.inl rfl)
              have W8 := Lib.hid (W7'.out.keep t8 fun k hk => by rw [hk]; exact HY.out)
              have T8 := Lib.hid (T7.out.trans t8 fun j hj => .inl (.inl hj))
              have O8 := Lib.hid (O7.out.turn t8 fun k hk => by rw [hk]; exact HYL.out)
              clear t8 f12 c12 ly H7 W7' T7 O7
              change Code.wp _ _ _ _ (w8.setCell ⟨y, 12, none⟩ (.int .u64 (P3 : Int)))
              generalize w8.setCell ⟨y, 12, none⟩ (.int .u64 (P3 : Int)) = wq at *
              have c9 := bk_cell H8.out.box 9
              simp only [rcC] at c9
              have e9 : wq.cell? ⟨y, 9, none⟩ = some (.int .u64 (T : Int)) := by rw [c9, ← HS3.out.2]; rfl
              have f8 := bk_frozen H8.out.box 8
              have c8 := bk_cell H8.out.box 8
              simp [rcC] at c8
              have ly := bk_lt H8.out.box
              obtain ⟨s, hs⟩ : ∃ s, s = addT T P3 := ⟨_, rfl⟩
              have CA : Hid (Calls Try.prog 65 #[.int .u64 (T : Int), .int .u64 (P3 : Int)] wq fun e w' => e = .returned (.int .u64 (s : Int)) ∧ wq = w') := Lib.hid (by rw [hs]; exact radd_any T P3 wq (by have := HTF.out.1; unfold far at this; omega) (by have := HLAT.out.2.2; omega))
              have hadd : s ≤ far := by rw [hs]; exact addT_le T P3
              have ec2 : { c1 with wait := P3, next := s } = c'.ask2 (l'.headD 0) := by
                have h8 := HS3.out.2
                rw [hs, HLAT.out.1, ← h8, HC1.out]
                rfl
              have H9 : Hid (RClB (wq.setCell ⟨y, 8, none⟩ (.int .u64 (s : Int))) y (c'.ask2 (l'.headD 0))) := Lib.hid (by
                rw [← ec2]; exact ⟨by rw [bk_setCell_same, H8.out.box]; rfl, hadd, H8.out.t64, H8.out.i24, H8.out.s64, H8.out.w22⟩)
              have t9 : Tn (fun k => k = y) wq (wq.setCell ⟨y, 8, none⟩ (.int .u64 (s : Int))) := (Tn.refl _ _).set (.inl rfl)
              have T9 := Lib.hid (T8.out.trans t9 fun j hj => .inl (.inl hj))
              have W9 := Lib.hid (W8.out.keep t9 fun k hk => by rw [hk]; exact HY.out)
              have O9 := Lib.hid (O8.out.turn t9 fun k hk => by rw [hk]; exact HYL.out)
              have HM : Hid (rTick NW y (wq.setCell ⟨y, 8, none⟩ (.int .u64 (s : Int))) < rTick NW y wr) := Lib.hid (by
                rw [rTick_eq H9.out, rTick_eq H1.out, HFA.out.1]
                have e7 : (c'.ask2 (l'.headD 0)).next = s := by rw [← ec2]
                have e8 : (c'.ask2 (l'.headD 0)).fresh = false := by show c'.fresh = false; exact HFA.out.1
                rw [e7, e8]
                show 2 * (NW + 1 - s) + 0 < 2 * (NW + 1 - c'.next) + 0
                have h5 : c'.next < s := by
                  have h1 := H1.out.n64; have h6 := HT.out; have h9 := HNX.out; have h10 := HNF.out; have h11 := HLAT.out.2.1; have h12 := hs
                  unfold addT at h12
                  unfold far at h1 h10 h12
                  split at h12 <;> omega
                have h13 := HFA.out.2.2
                omega)
              have HR9 : Hid (os = (os1 ++ [reqB c1 T]) ++ os3) := Lib.hid (by
                rw [E1.out, HO.out, List.append_assoc, ← HC1.out, HS3.out.2]; rfl)
              have M9 : Hid ((c'.ask2 (l'.headD 0)).tm ≤ NW) := Lib.hid (by rw [← ec2]; show c1.tm ≤ NW; rw [HS3.out.2]; exact HTF.out.2)
              clear t9 ec2 hadd hs H8 W8 T8 O8 c9
              go_wp2_with fail
              refine CA.out.mono ?_
              rintro e w9 ⟨rfl, rfl⟩
              clear CA
              go_wp2_with fail
              exact ⟨⟨_, l'.tail, A6, os1.length + 1, c6, os1 ++ [reqB c1 T], os3, rfl, H9, W9, HRU, HR9, O9, T9, M9⟩, HM.out⟩
            · have d5 : decide ((3600000 : Int) < (P2 : Int)) = false := by simp; omega
              have d5' : decide (3600000 < P2) = false := by simp; omega
              have HLAT : Hid (P2 = c1.lat (l'.headD 0) ∧ 0 < P2 ∧ P2 ≤ 3960000) := Lib.hid (by
                have h1 := HLT.out
                rw [if_neg (by omega)] at h1
                rw [← h1]
                exact ⟨rfl, HLP.out.1, HLP.out.2⟩)
              clear hbig f6
              go_upto_region 18 with fail
              clear d5 d5'
              have f12 := bk_frozen H7.out.box 12
              clear ly c12
              have c12 := bk_cell H7.out.box 12
              simp [rcC] at c12
              have ly := bk_lt H7.out.box
              go_upto_region 19 with fail
              have H8 : Hid (RClB (w8.setCell ⟨y, 12, none⟩ (.int .u64 (P2 : Int))) y { c1 with wait := P2 }) := Lib.hid ⟨by rw [bk_setCell_same, H7.out.box]; rfl, H7.out.n64, H7.out.t64, H7.out.i24, H7.out.s64, HLAT.out.2.2⟩
              have t8 : Tn (fun k => k = y) w8 (w8.setCell ⟨y, 12, none⟩ (.int .u64 (P2 : Int))) := (Tn.refl _ _).set (.inl rfl)
              have W8 := Lib.hid (W7'.out.keep t8 fun k hk => by rw [hk]; exact HY.out)
              have T8 := Lib.hid (T7.out.trans t8 fun j hj => .inl (.inl hj))
              have O8 := Lib.hid (O7.out.turn t8 fun k hk => by rw [hk]; exact HYL.out)
              clear t8 f12 c12 ly H7 W7' T7 O7
              change Code.wp _ _ _ _ (w8.setCell ⟨y, 12, none⟩ (.int .u64 (P2 : Int)))
              generalize w8.setCell ⟨y, 12, none⟩ (.int .u64 (P2 : Int)) = wq at *
              have c9 := bk_cell H8.out.box 9
              simp only [rcC] at c9
              have e9 : wq.cell? ⟨y, 9, none⟩ = some (.int .u64 (T : Int)) := by rw [c9, ← HS3.out.2]; rfl
              have f8 := bk_frozen H8.out.box 8
              have c8 := bk_cell H8.out.box 8
              simp [rcC] at c8
              have ly := bk_lt H8.out.box
              obtain ⟨s, hs⟩ : ∃ s, s = addT T P2 := ⟨_, rfl⟩
              have CA : Hid (Calls Try.prog 65 #[.int .u64 (T : Int), .int .u64 (P2 : Int)] wq fun e w' => e = .returned (.int .u64 (s : Int)) ∧ wq = w') := Lib.hid (by rw [hs]; exact radd_any T P2 wq (by have := HTF.out.1; unfold far at this; omega) (by have := HLAT.out.2.2; omega))
              have hadd : s ≤ far := by rw [hs]; exact addT_le T P2
              have ec2 : { c1 with wait := P2, next := s } = c'.ask2 (l'.headD 0) := by
                have h8 := HS3.out.2
                rw [hs, HLAT.out.1, ← h8, HC1.out]
                rfl
              have H9 : Hid (RClB (wq.setCell ⟨y, 8, none⟩ (.int .u64 (s : Int))) y (c'.ask2 (l'.headD 0))) := Lib.hid (by
                rw [← ec2]; exact ⟨by rw [bk_setCell_same, H8.out.box]; rfl, hadd, H8.out.t64, H8.out.i24, H8.out.s64, H8.out.w22⟩)
              have t9 : Tn (fun k => k = y) wq (wq.setCell ⟨y, 8, none⟩ (.int .u64 (s : Int))) := (Tn.refl _ _).set (.inl rfl)
              have T9 := Lib.hid (T8.out.trans t9 fun j hj => .inl (.inl hj))
              have W9 := Lib.hid (W8.out.keep t9 fun k hk => by rw [hk]; exact HY.out)
              have O9 := Lib.hid (O8.out.turn t9 fun k hk => by rw [hk]; exact HYL.out)
              have HM : Hid (rTick NW y (wq.setCell ⟨y, 8, none⟩ (.int .u64 (s : Int))) < rTick NW y wr) := Lib.hid (by
                rw [rTick_eq H9.out, rTick_eq H1.out, HFA.out.1]
                have e7 : (c'.ask2 (l'.headD 0)).next = s := by rw [← ec2]
                have e8 : (c'.ask2 (l'.headD 0)).fresh = false := by show c'.fresh = false; exact HFA.out.1
                rw [e7, e8]
                show 2 * (NW + 1 - s) + 0 < 2 * (NW + 1 - c'.next) + 0
                have h5 : c'.next < s := by
                  have h1 := H1.out.n64; have h6 := HT.out; have h9 := HNX.out; have h10 := HNF.out; have h11 := HLAT.out.2.1; have h12 := hs
                  unfold addT at h12
                  unfold far at h1 h10 h12
                  split at h12 <;> omega
                have h13 := HFA.out.2.2
                omega)
              have HR9 : Hid (os = (os1 ++ [reqB c1 T]) ++ os3) := Lib.hid (by
                rw [E1.out, HO.out, List.append_assoc, ← HC1.out, HS3.out.2]; rfl)
              have M9 : Hid ((c'.ask2 (l'.headD 0)).tm ≤ NW) := Lib.hid (by rw [← ec2]; show c1.tm ≤ NW; rw [HS3.out.2]; exact HTF.out.2)
              clear t9 ec2 hadd hs H8 W8 T8 O8 c9
              go_wp2_with fail
              refine CA.out.mono ?_
              rintro e w9 ⟨rfl, rfl⟩
              clear CA
              go_wp2_with fail
              exact ⟨⟨_, l'.tail, A6, os1.length + 1, c6, os1 ++ [reqB c1 T], os3, rfl, H9, W9, HRU, HR9, O9, T9, M9⟩, HM.out⟩
    · have d3 : decide ((D : Int) < (K : Int)) = true := by simp; omega
      have d4 : decide (D < K) = true := by simp; omega
      have ec : c.clamp NW = { c with next := K } := by unfold Cl.clamp; rw [if_pos (by omega), hK]
      rw [ec] at hrun
      have HRUN := Lib.hid hrun
      have c8 := bk_cell HC.out.box 8
      simp [rcC] at c8
      have f8 := bk_frozen HC.out.box 8
      have HC1 : Hid (RClB (w.setCell ⟨y, 8, none⟩ (.int .u64 (K : Int))) y { c with next := K }) := Lib.hid ⟨by rw [bk_setCell_same, HC.out.box]; rfl, by show K ≤ far; unfold far; omega, HC.out.t64, HC.out.i24, HC.out.s64, HC.out.w22⟩
      have t1 : Tn (fun k => k = y) w (w.setCell ⟨y, 8, none⟩ (.int .u64 (K : Int))) := (Tn.refl _ _).set (.inl rfl)
      have HW1 := Lib.hid (HW.out.keep t1 fun k hk => by rw [hk]; exact HY.out)
      have TT1 := Lib.hid (t1.mono (G := YF y q) fun k hk => .inl hk)
      have HTM1 : Hid (({ c with next := K } : Cl).tm ≤ NW) := Lib.hid HTM.out
      clear hrun ec hb hK hf hKD hD t1
      go_wp2_with fail
      refine CX.out.mono ?_
      rintro e w1 ⟨rfl, rfl⟩
      clear CX
      go_upto_region 4 with fail
      clear d1 d2 d3 d4 e1 e2 ly c8 f8 HC HW T0 HTM
      change Code.wp _ _ _ _ (w.setCell ⟨y, 8, none⟩ (.int .u64 (K : Int)))
      generalize w.setCell ⟨y, 8, none⟩ (.int .u64 (K : Int)) = wk at *
      go_wp2_with fail
      go_loopw [7, 8, 9] (fun v _ _ wr => ∃ (c' : Cl) (l' : List Nat) (A : Option Addr) (k cc : Nat) (os1 os2 : List (List UInt8)), v = .slice A k cc ∧ Hid (RClB wr y c') ∧ Hid (RWd wr m q l') ∧ Hid (Run NW c' l' d mm os2) ∧ Hid (os = os1 ++ os2) ∧ Hid (OutL wr w.heap.size (.slice A k cc) os1) ∧ Hid (Tn (YF y q) w wr) ∧ Hid (c'.tm ≤ NW)) (fun _ _ _ wr => rTick NW y wr)
      case atStart => exact ⟨{ c with next := K }, l, none, 0, 0, [], os, rfl, HC1, HW1, HRUN, Lib.hid rfl, Lib.hid OutL.nil, TT1, HTM1⟩
      case round =>
        clear HC1 HW1 HRUN TT1 HTM1
        obtain ⟨c', l', A, k, cc, os1, os2, rfl, H1, W1, R1, E1, O1, T1, M1⟩ := hrel
        have CX := Lib.hid (rdue_any y c' wr H1.out)
        obtain ⟨D, hD⟩ : ∃ D, D = c'.due := ⟨_, rfl⟩
        rw [← hD] at CX
        have c8 := bk_cell H1.out.box 8
        have c9 := bk_cell H1.out.box 9
        have f9 := bk_frozen H1.out.box 9
        simp [rcC] at c8 c9
        have ly := bk_lt H1.out.box
        obtain ⟨nx, hnx⟩ : ∃ nx, nx = c'.next := ⟨_, rfl⟩
        rw [← hnx] at c8
        have HNX := Lib.hid hnx
        rcases R1.out.inv with ⟨hdone, hd, hm, hos⟩ | ⟨hdu, hle, hfr, hka, hrun⟩ | ⟨hdu, hle, hfr, hsi, os3, hos, hrun⟩
        · have HE : Hid (os1 = os) := Lib.hid (by rw [E1.out, hos, List.append_nil])
          subst hd hm
          by_cases hDf : D = 9223372036854775807
          · have d1 : decide ((D : Int) < 9223372036854775807) = false := by simp; omega
            have d1' : decide (D < 9223372036854775807) = false := by simp; omega
            clear hdone hD hnx hos hDf c8 c9 f9
            go_wp2_with fail
            refine CX.out.mono ?_
            rintro e w1 ⟨rfl, rfl⟩
            clear CX
            go_upto_region 20 with fail
            have f9 := bk_frozen H1.out.box 9
            have c9 := bk_cell H1.out.box 9
            simp [rcC] at c9
            have ly := bk_lt H1.out.box
            obtain ⟨hk, hcc, _⟩ := O1.out.got
            have FIN : Hid (OutL (wr.setCell ⟨y, 9, none⟩ (.int .u64 (NW : Int))) w.heap.size (.slice A k cc) os ∧ k = os.length ∧ os.length ≤ cc ∧ RClB (wr.setCell ⟨y, 9, none⟩ (.int .u64 (NW : Int))) y (d.goes NW) ∧ RWd (wr.setCell ⟨y, 9, none⟩ (.int .u64 (NW : Int))) m q mm ∧ Tn (YF y q) w (wr.setCell ⟨y, 9, none⟩ (.int .u64 (NW : Int)))) := Lib.hid (by
              have t9 : Tn (fun k => k = y) wr (wr.setCell ⟨y, 9, none⟩ (.int .u64 (NW : Int))) := (Tn.refl _ _).set (.inl rfl)
              refine ⟨?_, by rw [hk, HE.out], by rw [← HE.out]; exact hcc, ?_, W1.out.keep t9 (fun k hk => by rw [hk]; exact HY.out), T1.out.set (.inl (.inl rfl))⟩
              · rw [← HE.out]
                exact O1.out.turn t9 (fun k hk => by rw [hk]; exact HYL.out)
              · have e : d.goes NW = { d with tm := NW } := by unfold Cl.goes; rw [Nat.max_eq_right M1.out]
                rw [e]
                exact ⟨by rw [bk_setCell_same, H1.out.box]; rfl, H1.out.n64, HNW.out, H1.out.i24, H1.out.s64, H1.out.w22⟩)
            clear hk hcc
            go_wp2_with fail
            go_ret
            obtain ⟨g1, g2, g3, g4, g5, g6⟩ := FIN.out
            exact ⟨A, cc, by rw [g2]; rfl, g3, (g2 ▸ g1).got.2.2, g4, g5, g6⟩
          · have d1 : decide ((D : Int) < 9223372036854775807) = true := by
              have : D ≤ 9223372036854775807 := by
                rw [hD]; unfold Cl.due; have := H1.out.n64; unfold far at *; split <;> omega
              simp; omega
            have d1' : decide (D < 9223372036854775807) = true := by simp at d1 ⊢; omega
            have d2 : decide ((D : Int) ≤ (NW : Int)) = false := by
              have h5 : d.due ≠ far := by rw [← hD]; exact hDf
              have h6 := (Cl.due_next h5).1
              rcases hdone with h | h
              · exact absurd h h5
              · simp; omega
            have d2' : decide (D ≤ NW) = false := by simp at d2 ⊢; omega
            have CX2 := CX
            clear hdone hD hnx hos hDf c8 c9 f9
            go_wp2_with fail
            refine CX.out.mono ?_
            rintro e w1 ⟨rfl, rfl⟩
            go_wp2_with fail
            refine CX2.out.mono ?_
            rintro e w1 ⟨rfl, rfl⟩
            clear CX CX2
            go_upto_region 20 with fail
            have f9 := bk_frozen H1.out.box 9
            have c9 := bk_cell H1.out.box 9
            simp [rcC] at c9
            have ly := bk_lt H1.out.box
            obtain ⟨hk, hcc, _⟩ := O1.out.got
            have FIN : Hid (OutL (wr.setCell ⟨y, 9, none⟩ (.int .u64 (NW : Int))) w.heap.size (.slice A k cc) os ∧ k = os.length ∧ os.length ≤ cc ∧ RClB (wr.setCell ⟨y, 9, none⟩ (.int .u64 (NW : Int))) y (d.goes NW) ∧ RWd (wr.setCell ⟨y, 9, none⟩ (.int .u64 (NW : Int))) m q mm ∧ Tn (YF y q) w (wr.setCell ⟨y, 9, none⟩ (.int .u64 (NW : Int)))) := Lib.hid (by
              have t9 : Tn (fun k => k = y) wr (wr.setCell ⟨y, 9, none⟩ (.int .u64 (NW : Int))) := (Tn.refl _ _).set (.inl rfl)
              refine ⟨?_, by rw [hk, HE.out], by rw [← HE.out]; exact hcc, ?_, W1.out.keep t9 (fun k hk => by rw [hk]; exact HY.out), T1.out.set (.inl (.inl rfl))⟩
              · rw [← HE.out]
                exact O1.out.turn t9 (fun k hk => by rw [hk]; exact HYL.out)
              · have e : d.goes NW = { d with tm := NW } := by unfold Cl.goes; rw [Nat.max_eq_right M1.out]
                rw [e]
                exact ⟨by rw [bk_setCell_same, H1.out.box]; rfl, H1.out.n64, HNW.out, H1.out.i24, H1.out.s64, H1.out.w22⟩)
            clear hk hcc
            go_wp2_with fail
            go_ret
            obtain ⟨g1, g2, g3, g4, g5, g6⟩ := FIN.out
            exact ⟨A, cc, by rw [g2]; rfl, g3, (g2 ▸ g1).got.2.2, g4, g5, g6⟩
        · have hDn : D = nx := by rw [hD, hnx]; exact (Cl.due_next hdu).1
          have hnf : nx ≠ 9223372036854775807 := by rw [hnx]; exact (Cl.due_next hdu).2
          have hn64 := H1.out.n64
          rw [← hnx] at hn64
          have d1 : decide ((D : Int) < 9223372036854775807) = true := by unfold far at hn64; simp; omega
          have d1' : decide (D < 9223372036854775807) = true := by unfold far at hn64; simp; omega
          have d2 : decide ((D : Int) ≤ (NW : Int)) = true := by simp; omega
          have d2' : decide (D ≤ NW) = true := by simp; omega
          have CX2 := CX
          obtain ⟨T, hT⟩ : ∃ T, T = max c'.tm nx := ⟨_, rfl⟩
          have HT := Lib.hid hT
          have HTF : Hid (T ≤ far ∧ T ≤ NW) := Lib.hid (by have h1 := H1.out.t64; have h2 := M1.out; omega)
          have hmx : max (c'.tm : Int) (nx : Int) = (T : Int) := by omega
          have hmx1 : (if (c'.tm : Int) < (nx : Int) then (nx : Int) else (c'.tm : Int)) = (T : Int) := by split <;> omega
          have hmx2 : (if c'.tm < nx then (nx : Int) else (c'.tm : Int)) = (T : Int) := by split <;> omega
          have HRU := Lib.hid hrun
          have HFA := Lib.hid (And.intro hfr (And.intro hka hle))
          clear hdu hle hfr hka hrun hD hnx hT hDn hnf hn64
          go_wp2_with fail
          refine CX.out.mono ?_
          rintro e w1 ⟨rfl, rfl⟩
          go_wp2_with fail
          refine CX2.out.mono ?_
          rintro e w1 ⟨rfl, rfl⟩
          clear CX CX2
          go_upto_region 6 with fail
          go_region
          have H2 : Hid (RClB (wr.setCell ⟨y, 9, none⟩ (.int .u64 (T : Int))).drew y { c' with tm := T }) := Lib.hid ⟨by show bk (wr.setCell ⟨y, 9, none⟩ (.int .u64 (T : Int))) y = _; rw [bk_setCell_same, H1.out.box]; rfl, H1.out.n64, HTF.out.1, H1.out.i24, H1.out.s64, H1.out.w22⟩
          have t2 : Tn (fun k => k = y) wr (wr.setCell ⟨y, 9, none⟩ (.int .u64 (T : Int))).drew := Tn.trans (F := fun k => k = y) (G := fun _ => False) ((Tn.refl (fun k => k = y) wr).set (.inl rfl)) (Tn.of (Below.refl _ _).drew) fun k hk => hk.elim
          have T2 := Lib.hid (T1.out.trans t2 fun k hk => .inl (.inl hk))
          have W2 := Lib.hid (W1.out.keep t2 fun k hk => by rw [hk]; exact HY.out)
          have O2 := Lib.hid (O1.out.turn t2 fun k hk => by rw [hk]; exact HYL.out)
          clear t2 c8 c9 f9 ly hmx hmx1 hmx2 O1 T1 W1
          generalize (wr.setCell ⟨y, 9, none⟩ (.int .u64 (T : Int))).drew = w2 at *
          have c7 := bk_cell H2.out.box 7
          have c9 := bk_cell H2.out.box 9
          simp [rcC] at c7 c9
          rw [HFA.out.1] at c7
          have ly := bk_lt H2.out.box
          have CS := Lib.hid (rstart_any y q m { c' with tm := T } T l' w2 H2.out W2.out HY.out HTF.out.1 HFA.out.2.1)
          clear d1 d1' d2 d2'
          go_wp2_with fail
          refine CS.out.mono ?_
          rintro e w3 ⟨rfl, h3, W3, t3⟩
          have O3 := Lib.hid (O2.out.turn t3 fun k hk => by rcases hk with hk | hk; (rw [hk]; exact HYL.out); (rw [hk]; exact HQL.out))
          have HM : Hid (rTick NW y w3 < rTick NW y wr) := Lib.hid (by
            rw [rTick_eq h3, rTick_eq H1.out, HFA.out.1]
            show 2 * (NW + 1 - addT (max T T) _) + 0 < 2 * (NW + 1 - c'.next) + 1
            have h5 : c'.next ≤ addT (max T T) (belT (l'.tail.headD 0) 1000) := by
              have h1 := H1.out.n64; have h6 := HT.out; have h7 := HNX.out
              unfold addT
              split <;> omega
            omega)
          have H3 := Lib.hid h3
          have W3' := Lib.hid W3
          have T3 := Lib.hid (T2.out.trans t3 fun j hj => .inl hj)
          have M3 : Hid ((Cl.start { c' with tm := T } T l').tm ≤ NW) := Lib.hid (by show max T T ≤ NW; have := HTF.out.2; omega)
          clear h3 W3 t3 CS H2 T2 W2 O2 c7 c9 ly
          go_wp2_with fail
          refine ⟨⟨_, l'.tail.tail, A, k, cc, os1, os2, rfl, H3, W3', Lib.hid ?_, E1, O3, T3, M3⟩, HM.out⟩
          have hru := HRU.out
          rw [← HNX.out, ← HT.out] at hru
          have e5 : Cl.start { c' with tm := T } T l' = (c'.goes nx).start T l' := by
            rw [HT.out]; rfl
          rw [e5]
          exact hru
        · have hDn : D = nx := by rw [hD, hnx]; exact (Cl.due_next hdu).1
          have hnf : nx ≠ 9223372036854775807 := by rw [hnx]; exact (Cl.due_next hdu).2
          have HNF : Hid (c'.next ≠ far) := Lib.hid (Cl.due_next hdu).2
          have hn64 := H1.out.n64
          rw [← hnx] at hn64
          have d1 : decide ((D : Int) < 9223372036854775807) = true := by unfold far at hn64; simp; omega
          have d1' : decide (D < 9223372036854775807) = true := by unfold far at hn64; simp; omega
          have d2 : decide ((D : Int) ≤ (NW : Int)) = true := by simp; omega
          have d2' : decide (D ≤ NW) = true := by simp; omega
          have CX2 := CX
          obtain ⟨T, hT⟩ : ∃ T, T = max c'.tm nx := ⟨_, rfl⟩
          have HT := Lib.hid hT
          have HTF : Hid (T ≤ far ∧ T ≤ NW) := Lib.hid (by have h1 := H1.out.t64; have h2 := M1.out; omega)
          have hmx : max (c'.tm : Int) (nx : Int) = (T : Int) := by omega
          have hmx1 : (if (c'.tm : Int) < (nx : Int) then (nx : Int) else (c'.tm : Int)) = (T : Int) := by split <;> omega
          have hmx2 : (if c'.tm < nx then (nx : Int) else (c'.tm : Int)) = (T : Int) := by split <;> omega
          have HRU := Lib.hid hrun
          have HFA := Lib.hid (And.intro hfr (And.intro hsi hle))
          have hk := (O1.out.got).1
          subst hk
          have HO := Lib.hid hos
          have HLN : Hid (os1.length < 2 ^ 20) := Lib.hid (by have h1 := HOS.out; rw [E1.out, List.length_append] at h1; omega)
          clear hdu hle hfr hsi hrun hD hnx hT hDn hnf hn64 hos
          go_wp2_with fail
          refine CX.out.mono ?_
          rintro e w1 ⟨rfl, rfl⟩
          go_wp2_with fail
          refine CX2.out.mono ?_
          rintro e w1 ⟨rfl, rfl⟩
          clear CX CX2
          go_upto_region 6 with fail
          go_region
          have H2 : Hid (RClB (wr.setCell ⟨y, 9, none⟩ (.int .u64 (T : Int))).drew y { c' with tm := T }) := Lib.hid ⟨by show bk (wr.setCell ⟨y, 9, none⟩ (.int .u64 (T : Int))) y = _; rw [bk_setCell_same, H1.out.box]; rfl, H1.out.n64, HTF.out.1, H1.out.i24, H1.out.s64, H1.out.w22⟩
          have t2 : Tn (fun k => k = y) wr (wr.setCell ⟨y, 9, none⟩ (.int .u64 (T : Int))).drew := Tn.trans (F := fun k => k = y) (G := fun _ => False) ((Tn.refl (fun k => k = y) wr).set (.inl rfl)) (Tn.of (Below.refl _ _).drew) fun k hk => hk.elim
          have T2 := Lib.hid (T1.out.trans t2 fun k hk => .inl (.inl hk))
          have W2 := Lib.hid (W1.out.keep t2 fun k hk => by rw [hk]; exact HY.out)
          have O2 := Lib.hid (O1.out.turn t2 fun k hk => by rw [hk]; exact HYL.out)
          clear t2 c8 c9 f9 ly hmx hmx1 hmx2 O1 T1 W1 d1 d1' d2 d2'
          generalize (wr.setCell ⟨y, 9, none⟩ (.int .u64 (T : Int))).drew = w2 at *
          have c7 := bk_cell H2.out.box 7
          have c12 := bk_cell H2.out.box 12
          have c9 := bk_cell H2.out.box 9
          simp [rcC] at c7 c12 c9
          rw [HFA.out.1] at c7
          have ly := bk_lt H2.out.box
          have hh := W2.out.head
          obtain ⟨bb, hbb⟩ : ∃ b, b = belT (l'.headD 0) 201 := ⟨_, rfl⟩
          have hbl : bb < 201 := by rw [hbb]; exact belT_lt hh (by decide)
          have HBB := Lib.hid hbb
          obtain ⟨R, hR⟩ : ∃ R : Int, R = (bb : Int) - 100 := ⟨_, rfl⟩
          have r0 : (bb : Int) - 100 = R := hR.symm
          have HRR : Hid (-100 ≤ R ∧ R ≤ 100) := Lib.hid (by omega)
          have r1 : wrap64 R = R := by unfold wrap64; omega
          have r2 : wrap64 (bb : Int) = (bb : Int) := by unfold wrap64; omega
          obtain ⟨W, hW⟩ : ∃ W, W = c'.wait := ⟨_, rfl⟩
          obtain ⟨f1, f2, f3, f4, f5, f6, f7⟩ := rlat_facts W R (by rw [hW]; exact H2.out.w22) HRR.out
          obtain ⟨y1, hy1⟩ : ∃ z : Int, z = (((1000 : Nat) : Int) * R).tdiv 1000 := ⟨_, rfl⟩
          obtain ⟨y2, hy2⟩ : ∃ z : Int, z = ((W : Int) * R).tdiv 1000 := ⟨_, rfl⟩
          obtain ⟨y3, hy3⟩ : ∃ z : Int, z = (((3600000 : Nat) : Int) * R).tdiv 1000 := ⟨_, rfl⟩
          rw [← hy1] at f1
          rw [← hy2] at f3
          rw [← hy3] at f4
          have HY1 := Lib.hid hy1
          have HY2 := Lib.hid hy2
          have HY3 := Lib.hid hy3
          obtain ⟨P1, hP1⟩ : ∃ P, P = partT 1000 R := ⟨_, rfl⟩
          obtain ⟨P2, hP2⟩ : ∃ P, P = W + partT W R := ⟨_, rfl⟩
          obtain ⟨P3, hP3⟩ : ∃ P, P = partT 3600000 R := ⟨_, rfl⟩
          rw [← hP1] at f1 f5
          rw [← hP2] at f3 f6
          rw [← hP3] at f4 f7
          have u1 : IntKind.u64.wrap (P1 : Int) = (P1 : Int) := by rw [IntKind.wrap_u64]; omega
          have u2 : IntKind.u64.wrap (P2 : Int) = (P2 : Int) := by rw [IntKind.wrap_u64]; omega
          have u3 : IntKind.u64.wrap (P3 : Int) = (P3 : Int) := by rw [IntKind.wrap_u64]; omega
          obtain ⟨c1, hc1⟩ : ∃ c1, c1 = c'.ask1 := ⟨_, rfl⟩
          have HC1 := Lib.hid hc1
          have hwc : c1.wait = W := by rw [hc1, hW]; rfl
          have hlt : c1.lat (l'.headD 0) = if (if W > 0 then P2 else P1) > 3600000 then P3 else if W > 0 then P2 else P1 := by
            unfold Cl.lat laterT
            rw [hwc, ← hbb, ← hR, hP1, hP2, hP3]
          have hlp := Cl.lat_pos c1 hh
          rw [← hW] at c12
          have HWC := Lib.hid (And.intro hwc hW)
          clear hc1 hy1 hy2 hy3 hP1 hP2 hP3 hwc hbb hR hh
          by_cases hw0 : W = 0
          · have HLAT : Hid (P1 = c1.lat (l'.headD 0) ∧ 0 < P1 ∧ P1 ≤ 3960000) := Lib.hid (by
              rw [hw0] at hlt
              simp only [gt_iff_lt, Nat.lt_irrefl, if_false] at hlt
              rw [if_neg (by omega)] at hlt
              exact ⟨hlt.symm, by omega, by omega⟩)
            clear hlt hlp hW f2 f3 f4 f6 f7 u2 u3
            rw [hw0] at c12
            have f11 := bk_frozen H2.out.box 11
            have c11 := bk_cell H2.out.box 11
            simp [rcC] at c11
            have d5 : decide ((3600000 : Int) < (P1 : Int)) = false := by simp; omega
            have d5' : decide (3600000 < P1) = false := by simp; omega
            have ec : c1 = { c' with tm := T, since := T } := by
              rw [HC1.out, HT.out, HNX.out]; unfold Cl.ask1; rw [if_pos (by rw [← HWC.out.2]; exact hw0)]
            have H3 : Hid (RClB (w2.setCell ⟨y, 11, none⟩ (.int .u64 (T : Int))) y c1) := Lib.hid (by
              rw [ec]; exact ⟨by rw [bk_setCell_same, H2.out.box]; rfl, H2.out.n64, H2.out.t64, H2.out.i24, HTF.out.1, H2.out.w22⟩)
            have t3 : Tn (fun k => k = y) w2 (w2.setCell ⟨y, 11, none⟩ (.int .u64 (T : Int))) := (Tn.refl _ _).set (.inl rfl)
            have T3 := Lib.hid (T2.out.trans t3 fun j hj => .inl (.inl hj))
            have W3 := Lib.hid (W2.out.keep t3 fun k hk => by rw [hk]; exact HY.out)
            have O3 := Lib.hid (O2.out.turn t3 fun k hk => by rw [hk]; exact HYL.out)
            have HS3 : Hid (c1.since ≤ T ∧ c1.tm = T) := Lib.hid (by rw [ec]; exact ⟨Nat.le_refl _, rfl⟩)
            have HC12 : Hid (c1.wait = 0) := Lib.hid (by rw [HWC.out.1, hw0])
            clear t3 ec hw0 hbl
            go_upto_region 11 with fail
            change Code.wp _ _ _ _ (w2.setCell ⟨y, 11, none⟩ (.int .u64 (T : Int)))
            clear c7 c12 c9 c11 f11 ly H2 T2 W2 O2
            generalize w2.setCell ⟨y, 11, none⟩ (.int .u64 (T : Int)) = w3 at *
            have CR := Lib.hid (rrequest_any y c1 w3 H3.out (by rw [HS3.out.2]; exact HS3.out.1))
            rw [HS3.out.2] at CR
            go_wp2_with fail
            refine CR.out.mono ?_
            rintro e w4 ⟨A1, ca, rfl, r4, hb4, b4⟩
            have b5 : Below w4.heap.size w4 (w4.alloc (.cells #[.slice A1 34 ca] 22)) := (by (repeat (first | exact Below.refl _ _ | assumption | refine Below.drew ?_ | refine bdrewN ?_ _ | refine Below.alloc ?_ (by first | omega | (simp <;> omega) | (simp only [World.size_alloc] <;> omega)) _ | refine below_setRow ?_ (by first | omega | (simp <;> omega)) _ | refine Below.setCell ?_ (by first | omega | (simp <;> omega)) _)))
            have b35 := b4.trans (b5.mono b4.size)
            have O5 := O3.out.turn (Tn.of (F := fun _ => False) b35) (fun k hk => hk.elim)
            obtain ⟨vs, hown, hall⟩ := O5
            have hvl : vs.length = os1.length := by have := hown.1; omega
            have hc5 : (w4.alloc (.cells #[.slice A1 34 ca] 22)).cell? ⟨w4.heap.size, 0, none⟩ = some (.slice A1 34 ca) := bk_cell (bk_alloc_at _ _ _ rfl) 0
            have hw5 : w.heap.size ≤ (w4.alloc (.cells #[.slice A1 34 ca] 22)).heap.size := Nat.le_trans T3.out.size b35.size
            have r5 := (r4.below b5 (Nat.le_refl _)).mono b5.size
            have hA5 : Hid (∀ g o, A1 = some ⟨g, o, none⟩ → w.heap.size ≤ g ∧ (Value.slice A os1.length cc).ownBlock ≠ some g ∧ g < (w4.alloc (.cells #[.slice A1 34 ca] 22)).heap.size) := Lib.hid fun g o e => by
              have h1 := hb4 g o e
              have h2 := T3.out.size
              obtain ⟨b9, o9, e9, hlt9, _⟩ := r4 (by rw [(reqB_len c1 T).2.2]; decide)
              rw [e9] at e
              cases e
              refine ⟨by omega, fun e2 => ?_, Nat.lt_of_lt_of_le hlt9 b5.size⟩
              obtain ⟨vs3, hown3, _⟩ := O3.out
              have h3 := (hown3.lt _ e2).2
              omega
            have HOWN := Lib.hid hown
            have HALL := Lib.hid hall
            have HVL := Lib.hid hvl
            have HC5 := Lib.hid hc5
            have HW5 := Lib.hid hw5
            have R5 := Lib.hid r5
            have T5 := Lib.hid (T3.out.trans (Tn.of (F := fun _ => False) b35) fun j hj => hj.elim)
            have H5 := Lib.hid (H3.out.below b35)
            have W5 := Lib.hid (W3.out.keep (Tn.of (F := fun _ => False) b35) fun k hk => hk.elim)
            clear r4 hb4 b4 b5 b35 hown hall hvl hc5 hw5 r5 O3 H3 W3 T3 CR
            go_wp2_with (at_builtin; refine wpList_snocR rfl _ _ rfl w.heap.size (.slice A os1.length cc) os1.length vs rfl HOWN.out ⟨w4.heap.size, 0, none⟩ (.slice A1 34 ca) rfl HC5.out rfl HW5.out (by have := HLN.out; omega) ?_)
            intro A6 c6 w6 hown6 hg6 hat6
            have hlen := (reqB_len c1 T).2.2
            have O6 : Hid (OutL w6 w.heap.size (.slice A6 (os1.length + 1) c6) (os1 ++ [reqB c1 T])) := Lib.hid (OutL.snoc (A := A1) (c := ca) HALL.out HVL.out (by rw [hlen]; exact hown6) hg6 (by rw [World.size_alloc]; exact hat6) R5.out hA5.out)
            have t6 : Tn (fun k => (Value.slice A os1.length cc).ownBlock = some k) (w4.alloc (.cells #[.slice A1 34 ca] 22)) w6 := Tn.grownG hg6
            have hge : ∀ k, k < w.heap.size → ¬ (Value.slice A os1.length cc).ownBlock = some k := fun k hk e => by
              have h2 := (HOWN.out.lt k e).1
              omega
            have H6 := Lib.hid (H5.out.keep t6 (hge y HYL.out))
            have W6 := Lib.hid (W5.out.grow HOWN.out (by decide) hg6 (fun e => hge q HQL.out e))
            have T6 := Lib.hid (T5.out.trans t6 fun j hj => .inr (HOWN.out.lt j hj).1)
            have CB : Hid (Calls Try.prog 66 #[.pointer (some ⟨q, 0, none⟩), .int .u32 201] w6 fun e w' => e = .returned (.int .u32 (bb : Int)) ∧ RWd w' m q l'.tail ∧ Tn (fun k => k = q) w6 w') := Lib.hid (by rw [HBB.out]; exact rwbelow_any m q l' 201 w6 W6.out (by decide))
            clear hown6 hg6 hat6 t6 hge HALL HOWN HVL HC5 HW5 R5 hA5 T5 H5 W5 hlen
            go_wp2_with fail
            refine CB.out.mono ?_
            rintro e w7 ⟨rfl, W7, t7⟩
            have H7 := Lib.hid (H6.out.keep t7 HY.out.2)
            have W7' := Lib.hid W7
            have T7 := Lib.hid (T6.out.trans t7 fun j hj => .inl (.inr hj))
            have O7 := Lib.hid (O6.out.turn t7 fun k hk => by rw [hk]; exact HQL.out)
            have c12 := bk_cell H7.out.box 12
            simp [rcC] at c12
            have ly := bk_lt H7.out.box
            have CS1 : Hid (Calls Try.prog 76 #[.int .u64 1000, .int .i64 R] w7 fun e w' => e = .returned (.int .i64 y1) ∧ w7 = w') := Lib.hid (by rw [HY1.out]; exact rshare_any 1000 R w7 (by decide) HRR.out)
            clear W7 t7 CB H6 W6 T6 O6
            go_wp2_with fail
            refine CS1.out.mono ?_
            rintro e w7' ⟨rfl, rfl⟩
            clear CS1
            rw [HC12.out] at c12
            go_upto_region 18 with fail
            have f12 := bk_frozen H7.out.box 12
            clear ly c12
            have c12 := bk_cell H7.out.box 12
            simp [rcC] at c12
            have ly := bk_lt H7.out.box
            go_upto_region 19 with fail
            have H8 : Hid (RClB (w7.setCell ⟨y, 12, none⟩ (.int .u64 (P1 : Int))) y { c1 with wait := P1 }) := Lib.hid ⟨by rw [bk_setCell_same, H7.out.box]; rfl, H7.out.n64, H7.out.t64, H7.out.i24, H7.out.s64, HLAT.out.2.2⟩
            have t8 : Tn (fun k => k = y) w7 (w7.setCell ⟨y, 12, none⟩ (.int .u64 (P1 : Int))) := (Tn.refl _ _).set (.inl rfl)
            have W8 := Lib.hid (W7'.out.keep t8 fun k hk => by rw [hk]; exact HY.out)
            have T8 := Lib.hid (T7.out.trans t8 fun j hj => .inl (.inl hj))
            have O8 := Lib.hid (O7.out.turn t8 fun k hk => by rw [hk]; exact HYL.out)
            clear t8 f12 c12 ly H7 W7' T7 O7
            change Code.wp _ _ _ _ (w7.setCell ⟨y, 12, none⟩ (.int .u64 (P1 : Int)))
            generalize w7.setCell ⟨y, 12, none⟩ (.int .u64 (P1 : Int)) = wq at *
            have c9 := bk_cell H8.out.box 9
            simp only [rcC] at c9
            have e9 : wq.cell? ⟨y, 9, none⟩ = some (.int .u64 (T : Int)) := by rw [c9, ← HS3.out.2]; rfl
            have f8 := bk_frozen H8.out.box 8
            have c8 := bk_cell H8.out.box 8
            simp [rcC] at c8
            have ly := bk_lt H8.out.box
            obtain ⟨s, hs⟩ : ∃ s, s = addT T P1 := ⟨_, rfl⟩
            have CA : Hid (Calls Try.prog 65 #[.int .u64 (T : Int), .int .u64 (P1 : Int)] wq fun e w' => e = .returned (.int .u64 (s : Int)) ∧ wq = w') := Lib.hid (by rw [hs]; exact radd_any T P1 wq (by have := HTF.out.1; unfold far at this; omega) (by have := HLAT.out.2.2; omega))
            have hadd : s ≤ far := by rw [hs]; exact addT_le T P1
            have ec2 : { c1 with wait := P1, next := s } = c'.ask2 (l'.headD 0) := by
              have h8 := HS3.out.2
              rw [hs, HLAT.out.1, ← h8, HC1.out]
              rfl
            have H9 : Hid (RClB (wq.setCell ⟨y, 8, none⟩ (.int .u64 (s : Int))) y (c'.ask2 (l'.headD 0))) := Lib.hid (by
              rw [← ec2]; exact ⟨by rw [bk_setCell_same, H8.out.box]; rfl, hadd, H8.out.t64, H8.out.i24, H8.out.s64, H8.out.w22⟩)
            have t9 : Tn (fun k => k = y) wq (wq.setCell ⟨y, 8, none⟩ (.int .u64 (s : Int))) := (Tn.refl _ _).set (.inl rfl)
            have T9 := Lib.hid (T8.out.trans t9 fun j hj => .inl (.inl hj))
            have W9 := Lib.hid (W8.out.keep t9 fun k hk => by rw [hk]; exact HY.out)
            have O9 := Lib.hid (O8.out.turn t9 fun k hk => by rw [hk]; exact HYL.out)
            have HM : Hid (rTick NW y (wq.setCell ⟨y, 8, none⟩ (.int .u64 (s : Int))) < rTick NW y wr) := Lib.hid (by
              rw [rTick_eq H9.out, rTick_eq H1.out, HFA.out.1]
              have e7 : (c'.ask2 (l'.headD 0)).next = s := by rw [← ec2]
              have e8 : (c'.ask2 (l'.headD 0)).fresh = false := by show c'.fresh = false; exact HFA.out.1
              rw [e7, e8]
              show 2 * (NW + 1 - s) + 0 < 2 * (NW + 1 - c'.next) + 0
              have h5 : c'.next < s := by
                have h1 := H1.out.n64; have h6 := HT.out; have h9 := HNX.out; have h10 := HNF.out; have h11 := HLAT.out.2.1; have h12 := hs
                unfold addT at h12
                unfold far at h1 h10 h12
                split at h12 <;> omega
              have h13 := HFA.out.2.2
              omega)
            have HR9 : Hid (os = (os1 ++ [reqB c1 T]) ++ os3) := Lib.hid (by
              rw [E1.out, HO.out, List.append_assoc, ← HC1.out, HS3.out.2]; rfl)
            have M9 : Hid ((c'.ask2 (l'.headD 0)).tm ≤ NW) := Lib.hid (by rw [← ec2]; show c1.tm ≤ NW; rw [HS3.out.2]; exact HTF.out.2)
            clear t9 ec2 hadd hs H8 W8 T8 O8 c9
            go_wp2_with fail
            refine CA.out.mono ?_
            rintro e w9 ⟨rfl, rfl⟩
            clear CA
            go_wp2_with fail
            exact ⟨⟨_, l'.tail, A6, os1.length + 1, c6, os1 ++ [reqB c1 T], os3, rfl, H9, W9, HRU, HR9, O9, T9, M9⟩, HM.out⟩
          · have hw1 : ((W : Int) == 0) = false := beq_eq_false_iff_ne.2 (by omega)
            have hw2 : ((W : Int) != 0) = true := by rw [bne, hw1]; rfl
            have hlt2 : c1.lat (l'.headD 0) = if P2 > 3600000 then P3 else P2 := by
              rw [hlt]; simp only [gt_iff_lt, show 0 < W by omega, if_true]
            have HLT := Lib.hid hlt2
            have HLP := Lib.hid hlp
            have ec : c1 = { c' with tm := T } := by
              rw [HC1.out, HT.out, HNX.out]; unfold Cl.ask1; rw [if_neg (by rw [← HWC.out.2]; exact hw0)]
            have H3 : Hid (RClB w2 y c1) := Lib.hid (by rw [ec]; exact H2.out)
            have HS3 : Hid (c1.since ≤ T ∧ c1.tm = T) := Lib.hid (by
              have h1 := HT.out; have h3 := HFA.out.2.1
              rw [ec]; exact ⟨(by show c'.since ≤ T; omega), rfl⟩)
            have T3 := T2
            have W3 := W2
            have O3 := O2
            have hw22 : W ≤ 3960000 := by rw [HWC.out.2]; exact H2.out.w22
            have v1 : wrap64 (W : Int) = (W : Int) := by unfold wrap64; omega
            have CS2 : Hid (∀ X, Calls Try.prog 76 #[.int .u64 (W : Int), .int .i64 R] X fun e w' => e = .returned (.int .i64 y2) ∧ Below X.heap.size X w') := Lib.hid fun X => (by
              rw [HY2.out]
              exact (rshare_any W R X hw22 HRR.out).mono fun e w' q => ⟨q.1, by rw [← q.2]; exact Below.refl _ _⟩)
            clear hlt hlt2 hlp hW ec hw0 hbl
            go_upto_region 11 with fail
            clear c7 c12 c9 ly H2 T2 W2 O2
            generalize hw23 : w2 = w3 at *
            clear hw23
            have CR := Lib.hid (rrequest_any y c1 w3 H3.out (by rw [HS3.out.2]; exact HS3.out.1))
            rw [HS3.out.2] at CR
            go_wp2_with fail
            refine CR.out.mono ?_
            rintro e w4 ⟨A1, ca, rfl, r4, hb4, b4⟩
            have b5 : Below w4.heap.size w4 (w4.alloc (.cells #[.slice A1 34 ca] 22)) := (by (repeat (first | exact Below.refl _ _ | assumption | refine Below.drew ?_ | refine bdrewN ?_ _ | refine Below.alloc ?_ (by first | omega | (simp <;> omega) | (simp only [World.size_alloc] <;> omega)) _ | refine below_setRow ?_ (by first | omega | (simp <;> omega)) _ | refine Below.setCell ?_ (by first | omega | (simp <;> omega)) _)))
            have b35 := b4.trans (b5.mono b4.size)
            have O5 := O3.out.turn (Tn.of (F := fun _ => False) b35) (fun k hk => hk.elim)
            obtain ⟨vs, hown, hall⟩ := O5
            have hvl : vs.length = os1.length := by have := hown.1; omega
            have hc5 : (w4.alloc (.cells #[.slice A1 34 ca] 22)).cell? ⟨w4.heap.size, 0, none⟩ = some (.slice A1 34 ca) := bk_cell (bk_alloc_at _ _ _ rfl) 0
            have hw5 : w.heap.size ≤ (w4.alloc (.cells #[.slice A1 34 ca] 22)).heap.size := Nat.le_trans T3.out.size b35.size
            have r5 := (r4.below b5 (Nat.le_refl _)).mono b5.size
            have hA5 : Hid (∀ g o, A1 = some ⟨g, o, none⟩ → w.heap.size ≤ g ∧ (Value.slice A os1.length cc).ownBlock ≠ some g ∧ g < (w4.alloc (.cells #[.slice A1 34 ca] 22)).heap.size) := Lib.hid fun g o e => by
              have h1 := hb4 g o e
              have h2 := T3.out.size
              obtain ⟨b9, o9, e9, hlt9, _⟩ := r4 (by rw [(reqB_len c1 T).2.2]; decide)
              rw [e9] at e
              cases e
              refine ⟨by omega, fun e2 => ?_, Nat.lt_of_lt_of_le hlt9 b5.size⟩
              obtain ⟨vs3, hown3, _⟩ := O3.out
              have h3 := (hown3.lt _ e2).2
              omega
            have HOWN := Lib.hid hown
            have HALL := Lib.hid hall
            have HVL := Lib.hid hvl
            have HC5 := Lib.hid hc5
            have HW5 := Lib.hid hw5
            have R5 := Lib.hid r5
            have T5 := Lib.hid (T3.out.trans (Tn.of (F := fun _ => False) b35) fun j hj => hj.elim)
            have H5 := Lib.hid (H3.out.below b35)
            have W5 := Lib.hid (W3.out.keep (Tn.of (F := fun _ => False) b35) fun k hk => hk.elim)
            clear r4 hb4 b4 b5 b35 hown hall hvl hc5 hw5 r5 O3 H3 W3 T3 CR
            go_wp2_with (at_builtin; refine wpList_snocR rfl _ _ rfl w.heap.size (.slice A os1.length cc) os1.length vs rfl HOWN.out ⟨w4.heap.size, 0, none⟩ (.slice A1 34 ca) rfl HC5.out rfl HW5.out (by have := HLN.out; omega) ?_)
            intro A6 c6 w6 hown6 hg6 hat6
            have hlen := (reqB_len c1 T).2.2
            have O6 : Hid (OutL w6 w.heap.size (.slice A6 (os1.length + 1) c6) (os1 ++ [reqB c1 T])) := Lib.hid (OutL.snoc (A := A1) (c := ca) HALL.out HVL.out (by rw [hlen]; exact hown6) hg6 (by rw [World.size_alloc]; exact hat6) R5.out hA5.out)
            have t6 : Tn (fun k => (Value.slice A os1.length cc).ownBlock = some k) (w4.alloc (.cells #[.slice A1 34 ca] 22)) w6 := Tn.grownG hg6
            have hge : ∀ k, k < w.heap.size → ¬ (Value.slice A os1.length cc).ownBlock = some k := fun k hk e => by
              have h2 := (HOWN.out.lt k e).1
              omega
            have H6 := Lib.hid (H5.out.keep t6 (hge y HYL.out))
            have W6 := Lib.hid (W5.out.grow HOWN.out (by decide) hg6 (fun e => hge q HQL.out e))
            have T6 := Lib.hid (T5.out.trans t6 fun j hj => .inr (HOWN.out.lt j hj).1)
            have CB : Hid (Calls Try.prog 66 #[.pointer (some ⟨q, 0, none⟩), .int .u32 201] w6 fun e w' => e = .returned (.int .u32 (bb : Int)) ∧ RWd w' m q l'.tail ∧ Tn (fun k => k = q) w6 w') := Lib.hid (by rw [HBB.out]; exact rwbelow_any m q l' 201 w6 W6.out (by decide))
            clear hown6 hg6 hat6 t6 hge HALL HOWN HVL HC5 HW5 R5 hA5 T5 H5 W5 hlen
            go_wp2_with fail
            refine CB.out.mono ?_
            rintro e w7 ⟨rfl, W7, t7⟩
            have H7 := Lib.hid (H6.out.keep t7 HY.out.2)
            have W7' := Lib.hid W7
            have T7 := Lib.hid (T6.out.trans t7 fun j hj => .inl (.inr hj))
            have O7 := Lib.hid (O6.out.turn t7 fun k hk => by rw [hk]; exact HQL.out)
            have c12 := bk_cell H7.out.box 12
            simp [rcC] at c12
            have ly := bk_lt H7.out.box
            have CS1 : Hid (Calls Try.prog 76 #[.int .u64 1000, .int .i64 R] w7 fun e w' => e = .returned (.int .i64 y1) ∧ w7 = w') := Lib.hid (by rw [HY1.out]; exact rshare_any 1000 R w7 (by decide) HRR.out)
            clear W7 t7 CB H6 W6 T6 O6
            go_wp2_with fail
            refine CS1.out.mono ?_
            rintro e w7' ⟨rfl, rfl⟩
            clear CS1
            rw [HWC.out.1] at c12
            go_upto_region 15 with fail
            have HFF := Lib.hid (And.intro f4 (And.intro f7 u3))
            clear f1 f4 f5 f7 u1 u3 r0 r1 r2
            refine wp_region_later (w7.heap.size) (by kernel_rfl) (by kernel_rfl) ?_
            repeat (go_big_quiet_step (((rename_i xq; with_reducible exact later_call xq (Nat.le_refl _) (CS2.out xq.w)))))
            (first | refine wpQuiet_nil ?_ | (go_big_quiet_want; (try go_big_quiet_op); trace_state; fail))
            intro w8 hw'
            have q8 := later_elim hw'
            clear hw'
            have H8 := Lib.hid (H7.out.below q8)
            have W8' := Lib.hid (W7'.out.keep (Tn.of (F := fun _ => False) q8) fun k hk => hk.elim)
            have T8 := Lib.hid (T7.out.trans (Tn.of (F := fun _ => False) q8) fun j hj => hj.elim)
            have O8 := Lib.hid (O7.out.turn (Tn.of (F := fun _ => False) q8) fun k hk => hk.elim)
            clear H7 W7' T7 O7 q8 CS2 v1 f2 f3 u2 c12 ly
            have H7 := H8
            have W7' := W8'
            have T7 := T8
            have O7 := O8
            clear H8 W8' T8 O8
            have ly := bk_lt H7.out.box
            have c12 := bk_cell H7.out.box 12
            simp [rcC] at c12
            by_cases hbig : 3600000 < P2
            · have d5 : decide ((3600000 : Int) < (P2 : Int)) = true := by simp; omega
              have d5' : decide (3600000 < P2) = true := by simp; omega
              have HLAT : Hid (P3 = c1.lat (l'.headD 0) ∧ 0 < P3 ∧ P3 ≤ 3960000) := Lib.hid (by
                have h1 := HLT.out
                rw [if_pos (by omega)] at h1
                rw [← h1]
                exact ⟨rfl, HLP.out.1, HLP.out.2⟩)
              obtain ⟨f4, f7, u3⟩ := HFF.out
              have CS3 : Hid (Calls Try.prog 76 #[.int .u64 3600000, .int .i64 R] w8 fun e w' => e = .returned (.int .i64 y3) ∧ w8 = w') := Lib.hid (by rw [HY3.out]; exact rshare_any 3600000 R w8 (by decide) HRR.out)
              clear hbig f6
              go_wp2_with fail
              refine CS3.out.mono ?_
              rintro e w8' ⟨rfl, rfl⟩
              clear CS3
              go_upto_region 18 with fail
              clear f4 f7 u3 d5 d5'
              have f12 := bk_frozen H7.out.box 12
              clear ly c12
              have c12 := bk_cell H7.out.box 12
              simp [rcC] at c12
              have ly := bk_lt H7.out.box
              go_upto_region 19 with fail
              have H8 : Hid (RClB (w8.setCell ⟨y, 12, none⟩ (.int .u64 (P3 : Int))) y { c1 with wait := P3 }) := Lib.hid ⟨by rw [bk_setCell_same, H7.out.box]; rfl, H7.out.n64, H7.out.t64, H7.out.i24, H7.out.s64, HLAT.out.2.2⟩
              have t8 : Tn (fun k => k = y) w8 (w8.setCell ⟨y, 12, none⟩ (.int .u64 (P3 : Int))) := (Tn.refl _ _).set (.inl rfl)
              have W8 := Lib.hid (W7'.out.keep t8 fun k hk => by rw [hk]; exact HY.out)
              have T8 := Lib.hid (T7.out.trans t8 fun j hj => .inl (.inl hj))
              have O8 := Lib.hid (O7.out.turn t8 fun k hk => by rw [hk]; exact HYL.out)
              clear t8 f12 c12 ly H7 W7' T7 O7
              change Code.wp _ _ _ _ (w8.setCell ⟨y, 12, none⟩ (.int .u64 (P3 : Int)))
              generalize w8.setCell ⟨y, 12, none⟩ (.int .u64 (P3 : Int)) = wq at *
              have c9 := bk_cell H8.out.box 9
              simp only [rcC] at c9
              have e9 : wq.cell? ⟨y, 9, none⟩ = some (.int .u64 (T : Int)) := by rw [c9, ← HS3.out.2]; rfl
              have f8 := bk_frozen H8.out.box 8
              have c8 := bk_cell H8.out.box 8
              simp [rcC] at c8
              have ly := bk_lt H8.out.box
              obtain ⟨s, hs⟩ : ∃ s, s = addT T P3 := ⟨_, rfl⟩
              have CA : Hid (Calls Try.prog 65 #[.int .u64 (T : Int), .int .u64 (P3 : Int)] wq fun e w' => e = .returned (.int .u64 (s : Int)) ∧ wq = w') := Lib.hid (by rw [hs]; exact radd_any T P3 wq (by have := HTF.out.1; unfold far at this; omega) (by have := HLAT.out.2.2; omega))
              have hadd : s ≤ far := by rw [hs]; exact addT_le T P3
              have ec2 : { c1 with wait := P3, next := s } = c'.ask2 (l'.headD 0) := by
                have h8 := HS3.out.2
                rw [hs, HLAT.out.1, ← h8, HC1.out]
                rfl
              have H9 : Hid (RClB (wq.setCell ⟨y, 8, none⟩ (.int .u64 (s : Int))) y (c'.ask2 (l'.headD 0))) := Lib.hid (by
                rw [← ec2]; exact ⟨by rw [bk_setCell_same, H8.out.box]; rfl, hadd, H8.out.t64, H8.out.i24, H8.out.s64, H8.out.w22⟩)
              have t9 : Tn (fun k => k = y) wq (wq.setCell ⟨y, 8, none⟩ (.int .u64 (s : Int))) := (Tn.refl _ _).set (.inl rfl)
              have T9 := Lib.hid (T8.out.trans t9 fun j hj => .inl (.inl hj))
              have W9 := Lib.hid (W8.out.keep t9 fun k hk => by rw [hk]; exact HY.out)
              have O9 := Lib.hid (O8.out.turn t9 fun k hk => by rw [hk]; exact HYL.out)
              have HM : Hid (rTick NW y (wq.setCell ⟨y, 8, none⟩ (.int .u64 (s : Int))) < rTick NW y wr) := Lib.hid (by
                rw [rTick_eq H9.out, rTick_eq H1.out, HFA.out.1]
                have e7 : (c'.ask2 (l'.headD 0)).next = s := by rw [← ec2]
                have e8 : (c'.ask2 (l'.headD 0)).fresh = false := by show c'.fresh = false; exact HFA.out.1
                rw [e7, e8]
                show 2 * (NW + 1 - s) + 0 < 2 * (NW + 1 - c'.next) + 0
                have h5 : c'.next < s := by
                  have h1 := H1.out.n64; have h6 := HT.out; have h9 := HNX.out; have h10 := HNF.out; have h11 := HLAT.out.2.1; have h12 := hs
                  unfold addT at h12
                  unfold far at h1 h10 h12
                  split at h12 <;> omega
                have h13 := HFA.out.2.2
                omega)
              have HR9 : Hid (os = (os1 ++ [reqB c1 T]) ++ os3) := Lib.hid (by
                rw [E1.out, HO.out, List.append_assoc, ← HC1.out, HS3.out.2]; rfl)
              have M9 : Hid ((c'.ask2 (l'.headD 0)).tm ≤ NW) := Lib.hid (by rw [← ec2]; show c1.tm ≤ NW; rw [HS3.out.2]; exact HTF.out.2)
              clear t9 ec2 hadd hs H8 W8 T8 O8 c9
              go_wp2_with fail
              refine CA.out.mono ?_
              rintro e w9 ⟨rfl, rfl⟩
              clear CA
              go_wp2_with fail
              exact ⟨⟨_, l'.tail, A6, os1.length + 1, c6, os1 ++ [reqB c1 T], os3, rfl, H9, W9, HRU, HR9, O9, T9, M9⟩, HM.out⟩
            · have d5 : decide ((3600000 : Int) < (P2 : Int)) = false := by simp; omega
              have d5' : decide (3600000 < P2) = false := by simp; omega
              have HLAT : Hid (P2 = c1.lat (l'.headD 0) ∧ 0 < P2 ∧ P2 ≤ 3960000) := Lib.hid (by
                have h1 := HLT.out
                rw [if_neg (by omega)] at h1
                rw [← h1]
                exact ⟨rfl, HLP.out.1, HLP.out.2⟩)
              clear hbig f6
              go_upto_region 18 with fail
              clear d5 d5'
              have f12 := bk_frozen H7.out.box 12
              clear ly c12
              have c12 := bk_cell H7.out.box 12
              simp [rcC] at c12
              have ly := bk_lt H7.out.box
              go_upto_region 19 with fail
              have H8 : Hid (RClB (w8.setCell ⟨y, 12, none⟩ (.int .u64 (P2 : Int))) y { c1 with wait := P2 }) := Lib.hid ⟨by rw [bk_setCell_same, H7.out.box]; rfl, H7.out.n64, H7.out.t64, H7.out.i24, H7.out.s64, HLAT.out.2.2⟩
              have t8 : Tn (fun k => k = y) w8 (w8.setCell ⟨y, 12, none⟩ (.int .u64 (P2 : Int))) := (Tn.refl _ _).set (.inl rfl)
              have W8 := Lib.hid (W7'.out.keep t8 fun k hk => by rw [hk]; exact HY.out)
              have T8 := Lib.hid (T7.out.trans t8 fun j hj => .inl (.inl hj))
              have O8 := Lib.hid (O7.out.turn t8 fun k hk => by rw [hk]; exact HYL.out)
              clear t8 f12 c12 ly H7 W7' T7 O7
              change Code.wp _ _ _ _ (w8.setCell ⟨y, 12, none⟩ (.int .u64 (P2 : Int)))
              generalize w8.setCell ⟨y, 12, none⟩ (.int .u64 (P2 : Int)) = wq at *
              have c9 := bk_cell H8.out.box 9
              simp only [rcC] at c9
              have e9 : wq.cell? ⟨y, 9, none⟩ = some (.int .u64 (T : Int)) := by rw [c9, ← HS3.out.2]; rfl
              have f8 := bk_frozen H8.out.box 8
              have c8 := bk_cell H8.out.box 8
              simp [rcC] at c8
              have ly := bk_lt H8.out.box
              obtain ⟨s, hs⟩ : ∃ s, s = addT T P2 := ⟨_, rfl⟩
              have CA : Hid (Calls Try.prog 65 #[.int .u64 (T : Int), .int .u64 (P2 : Int)] wq fun e w' => e = .returned (.int .u64 (s : Int)) ∧ wq = w') := Lib.hid (by rw [hs]; exact radd_any T P2 wq (by have := HTF.out.1; unfold far at this; omega) (by have := HLAT.out.2.2; omega))
              have hadd : s ≤ far := by rw [hs]; exact addT_le T P2
              have ec2 : { c1 with wait := P2, next := s } = c'.ask2 (l'.headD 0) := by
                have h8 := HS3.out.2
                rw [hs, HLAT.out.1, ← h8, HC1.out]
                rfl
              have H9 : Hid (RClB (wq.setCell ⟨y, 8, none⟩ (.int .u64 (s : Int))) y (c'.ask2 (l'.headD 0))) := Lib.hid (by
                rw [← ec2]; exact ⟨by rw [bk_setCell_same, H8.out.box]; rfl, hadd, H8.out.t64, H8.out.i24, H8.out.s64, H8.out.w22⟩)
              have t9 : Tn (fun k => k = y) wq (wq.setCell ⟨y, 8, none⟩ (.int .u64 (s : Int))) := (Tn.refl _ _).set (.inl rfl)
              have T9 := Lib.hid (T8.out.trans t9 fun j hj => .inl (.inl hj))
              have W9 := Lib.hid (W8.out.keep t9 fun k hk => by rw [hk]; exact HY.out)
              have O9 := Lib.hid (O8.out.turn t9 fun k hk => by rw [hk]; exact HYL.out)
              have HM : Hid (rTick NW y (wq.setCell ⟨y, 8, none⟩ (.int .u64 (s : Int))) < rTick NW y wr) := Lib.hid (by
                rw [rTick_eq H9.out, rTick_eq H1.out, HFA.out.1]
                have e7 : (c'.ask2 (l'.headD 0)).next = s := by rw [← ec2]
                have e8 : (c'.ask2 (l'.headD 0)).fresh = false := by show c'.fresh = false; exact HFA.out.1
                rw [e7, e8]
                show 2 * (NW + 1 - s) + 0 < 2 * (NW + 1 - c'.next) + 0
                have h5 : c'.next < s := by
                  have h1 := H1.out.n64; have h6 := HT.out; have h9 := HNX.out; have h10 := HNF.out; have h11 := HLAT.out.2.1; have h12 := hs
                  unfold addT at h12
                  unfold far at h1 h10 h12
                  split at h12 <;> omega
                have h13 := HFA.out.2.2
                omega)
              have HR9 : Hid (os = (os1 ++ [reqB c1 T]) ++ os3) := Lib.hid (by
                rw [E1.out, HO.out, List.append_assoc, ← HC1.out, HS3.out.2]; rfl)
              have M9 : Hid ((c'.ask2 (l'.headD 0)).tm ≤ NW) := Lib.hid (by rw [← ec2]; show c1.tm ≤ NW; rw [HS3.out.2]; exact HTF.out.2)
              clear t9 ec2 hadd hs H8 W8 T8 O8 c9
              go_wp2_with fail
              refine CA.out.mono ?_
              rintro e w9 ⟨rfl, rfl⟩
              clear CA
              go_wp2_with fail
              exact ⟨⟨_, l'.tail, A6, os1.length + 1, c6, os1 ++ [reqB c1 T], os3, rfl, H9, W9, HRU, HR9, O9, T9, M9⟩, HM.out⟩
end Go.Proofs.Ytfldoihindbdmaa
