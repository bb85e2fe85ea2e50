import Derived.Test.YtjimmfbjhkoekaaMgP
import Derived.Test.YtjimmfbjhkoekaaMhC
import Derived.Deep.RegionLaw
import Derived.Test.YtjimmfbjhkoekaaMgI
/- Icmps, the document: a taker of bytes. -/
namespace Go.Proofs.Ytjimmfbjhkoekaa
open Go.RowKit
set_option maxRecDepth 100000
set_option maxHeartbeats 2000000
/-- What is taken. -/
def GS.got (L : List UInt8) (k : Nat) : GS → List UInt8
  | .ok q => if q + k ≤ L.length then (L.drop q).take k else []
  | _ => []
theorem got_len (L : List UInt8) (k : Nat) (st : GS) : (st.got L k).length ≤ k := by
  unfold GS.got
  split
  · split
    · rw [List.length_take]; omega
    · simp
  · simp
/-- The taker's box. -/
structure TU (w : World) (gt nb : Nat) (L : List UInt8) (st : GS) : Prop where
  box : ∃ A n c, bk w gt = some (.cells #[.slice A n c, .int .i64 ((st.err : Nat) : Int)] 87 (0, 0)) ∧ (A = none → n = 0 ∧ c = 0) ∧ n ≤ c ∧ ∀ q, st = .ok q → q ≤ L.length ∧ n = L.length - q ∧ Rd w nb A (L.drop q)
  lt : nb ≤ gt
theorem TU.turn {F : Nat → Prop} {w w' : World} {gt nb : Nat} {L : List UInt8} {st : GS} (h : TU w gt nb L st) (t : Tn F w w') (h1 : ¬ F gt) (h2 : ∀ k, F k → nb ≤ k) : TU w' gt nb L st := by
  obtain ⟨A, n, c, hb, hA, hc, hq⟩ := h.box
  refine ⟨⟨A, n, c, t.keep h1 hb, hA, hc, fun q e => ?_⟩, h.lt⟩
  obtain ⟨p1, p2, p3⟩ := hq q e
  refine ⟨p1, p2, fun h0 => ?_⟩
  obtain ⟨b, o, e', hlt, hj⟩ := p3 h0
  refine ⟨b, o, e', hlt, fun j hjl => ?_⟩
  rw [← hj j hjl]
  exact cell_of_bk (t.old b (Nat.lt_trans hlt (Nat.lt_of_le_of_lt h.lt (bk_lt hb))) (fun f => by have := h2 b f; omega)) _
theorem TU.below {w w' : World} {gt nb : Nat} {L : List UInt8} {st : GS} (h : TU w gt nb L st) (hb : Below w.heap.size w w') : TU w' gt nb L st :=
  h.turn (Tn.of (F := fun _ => False) hb) (fun e => e) (fun _ e => e.elim)
theorem TU.less {w : World} {gt nb : Nat} {L : List UInt8} {st : GS} (h : TU w gt nb L st) : gt < w.heap.size := by obtain ⟨A, n, c, hb, _⟩ := h.box; exact bk_lt hb
theorem TU.err {w : World} {gt nb : Nat} {L : List UInt8} {st : GS} (h : TU w gt nb L st) : w.cell? ⟨gt, 1, none⟩ = some (.int .i64 ((st.err : Nat) : Int)) ∧ gt < w.heap.size := by
  obtain ⟨A, n, c, hb, _⟩ := h.box
  exact ⟨(bk_cell hb 1).trans rfl, bk_lt hb⟩
/-- The box with another slice and another error. -/
theorem TU.put {w' : World} {gt nb n c : Nat} {L : List UInt8} {st : GS} {A : Option Addr} (hlt : nb ≤ gt) (hb : bk w' gt = some (.cells #[.slice A n c, .int .i64 ((st.err : Nat) : Int)] 87 (0, 0))) (hA : A = none → n = 0 ∧ c = 0) (hc : n ≤ c) (hq : ∀ q, st = .ok q → q ≤ L.length ∧ n = L.length - q ∧ Rd w' nb A (L.drop q)) : TU w' gt nb L st := ⟨⟨A, n, c, hb, hA, hc, hq⟩, hlt⟩
/-- Taken, and one stands behind it. -/
def TkB (w : World) (gt nb k : Nat) (L : List UInt8) (st : GS) (e : Ending) (w' : World) : Prop :=
  ∃ A c, e = .returned (.slice A (st.got L k).length c) ∧ Own w' w.heap.size (.slice A (st.got L k).length c) (st.got L k) ∧ TU w' gt nb L (st.adv L k) ∧ Tn (fun j => j = gt) w w'
theorem tk_bytes (gt nb k : Nat) (L : List UInt8) (st : GS) (w : World) (h : TU w gt nb L st) (_hL : L.length < 2 ^ 32) (hk : k < 2 ^ 32) :
    Calls Try.prog 46 #[.pointer (some ⟨gt, 0, none⟩), .int .i64 (k : Int)] w fun e w' => TkB w gt nb k L st e w' := by
  cases st with
  | short =>
    have F : Hid (TkB w gt nb k L .short (.returned (.slice none 0 0)) w) := Lib.hid ⟨none, 0, rfl, .inl ⟨rfl, rfl⟩, h, Tn.refl _ _⟩
    have c1 : w.cell? ⟨gt, 1, none⟩ = some (.int .i64 5) := h.err.1
    have lg := h.less
    clear h
    go_enter Try.func46, Try.ntmps46
    go_wp2_with fail
    go_ret
    exact F.out
  | form =>
    have F : Hid (TkB w gt nb k L .form (.returned (.slice none 0 0)) w) := Lib.hid ⟨none, 0, rfl, .inl ⟨rfl, rfl⟩, h, Tn.refl _ _⟩
    have c1 : w.cell? ⟨gt, 1, none⟩ = some (.int .i64 4) := h.err.1
    have lg := h.less
    clear h
    go_enter Try.func46, Try.ntmps46
    go_wp2_with fail
    go_ret
    exact F.out
  | ok q =>
    obtain ⟨A, n, c, hb, hA, hc, hq⟩ := h.box
    obtain ⟨hql, hn, hr⟩ := hq q rfl
    have hlt := h.lt
    have c0 : w.cell? ⟨gt, 0, none⟩ = some (.slice A n c) := (bk_cell hb 0).trans rfl
    have c1 : w.cell? ⟨gt, 1, none⟩ = some (.int .i64 0) := (bk_cell hb 1).trans rfl
    have f0 := bk_frozen hb 0; have f1 := bk_frozen hb 1
    have lg := bk_lt hb
    by_cases hs : q + k ≤ L.length
    · have d1 : decide ((n : Int) < (k : Int)) = false := by simp; omega
      have d1' : decide (n < k) = false := by simp; omega
      have hkn : k ≤ n := by omega
      have hkc : k ≤ c := by omega
      have hkc' : decide (k ≤ c) = true := by simp; omega
      have eg : GS.got L k (.ok q) = (L.drop q).take k := by simp only [GS.got]; rw [if_pos hs]
      have ea : GS.adv L k (.ok q) = .ok (q + k) := ok_adv _ _ _ hs
      obtain ⟨D, hD⟩ : ∃ D, D = (L.drop q).take k := ⟨_, rfl⟩
      have hDl : D.length = k := by rw [hD, List.length_take, List.length_drop]; omega
      have RD : Hid (Rd w w.heap.size A D) := Lib.hid (by rw [hD]; exact (hr.mono (by omega)).tk k)
      have HAD : Hid (A = none → D = [] ∧ c = 0) := Lib.hid fun e => ⟨List.eq_nil_of_length_eq_zero (by rw [hDl]; have := hA e; omega), (hA e).2⟩
      have ON : Hid (Own w w.heap.size (.slice none 0 0) []) := Lib.hid (.inl ⟨rfl, rfl⟩)
      have HB := Lib.hid hb; have HR := Lib.hid hr; have HDL := Lib.hid hDl; have HE := Lib.hid (And.intro (eg.trans hD.symm) ea); have HAN := Lib.hid hA; have HLT := Lib.hid hlt
      have HN := Lib.hid (And.intro hn hc); have HG := Lib.hid lg
      have HLB : Hid (([] : List UInt8).length + D.length < 2 ^ 46) := Lib.hid (by rw [hDl]; simp only [List.length_nil]; omega)
      have HNQ := Lib.hid hql
      clear h hb hA hq hr eg ea hD hDl hlt hn hql
      go_enter Try.func46, Try.ntmps46
      go_wp2_with (at_builtin; refine wpList_app rfl _ _ rfl w.heap.size (.slice none 0 0) [] D k rfl ON.out A c rfl HDL.out.symm RD.out HAD.out (Nat.le_refl _) HLB.out k (by rw [List.nil_append]; exact HDL.out) ?_)
      intro A1 c1' w1 r1 r2 _
      have b1 : Below w.heap.size w w1 := (Below.refl _ _).grown r2 (Nat.le_refl _) fun j hj => by simp [Value.ownBlock] at hj
      have O1 : Hid (Own w1 w.heap.size (.slice A1 k c1') D) := Lib.hid r1
      have hb1 := bk_keep b1 lg HB.out
      have c0' : w1.cell? ⟨gt, 0, none⟩ = some (.slice A n c) := (bk_cell hb1 0).trans rfl
      have f0' := bk_frozen hb1 0
      have lg1 := bk_lt hb1
      have HB1 := Lib.hid hb1; have B1 := Lib.hid b1
      clear r1 r2 c0 c1 f0 f1 lg b1 hb1 RD HAD ON HLB HB
      have FIN : Hid (∀ A2, (A2 = none → n - k = 0 ∧ c - k = 0) → (k < n → ∃ b o, A = some ⟨b, o, none⟩ ∧ A2 = some ⟨b, o + k, none⟩) → TkB w gt nb k L (.ok q) (.returned (.slice A1 k c1')) (w1.setCell ⟨gt, 0, none⟩ (.slice A2 (n - k) (c - k)))) := Lib.hid fun A2 hz hA2 => by
        have t1 : Tn (fun j => j = gt) w (w1.setCell ⟨gt, 0, none⟩ (.slice A2 (n - k) (c - k))) := (Tn.of (F := fun j => j = gt) B1.out).set (.inl rfl)
        have hgt := HG.out
        refine ⟨A1, c1', ?_, ?_, ?_, t1⟩
        · rw [HE.out.1, HDL.out]
        · rw [HE.out.1, HDL.out]
          refine O1.out.turn fun j hj => bk_setCell_other _ _ _ _ _ ?_
          have := (O1.out.lt hj).1
          omega
        · rw [HE.out.2]
          refine TU.put HLT.out (by rw [bk_setCell_same, HB1.out]; rfl) hz (by have := HN.out; omega) fun q' e => ?_
          cases e
          refine ⟨by have := HN.out; omega, by have := HN.out; omega, fun h0 => ?_⟩
          rw [List.length_drop] at h0
          obtain ⟨b, o, e1, e2⟩ := hA2 (by have := HN.out; omega)
          obtain ⟨b', o', e3, hlt', hj⟩ := HR.out (by rw [List.length_drop]; have := HN.out; omega)
          rw [e1] at e3
          cases e3
          refine ⟨b, o + k, e2, hlt', fun j hjl => ?_⟩
          rw [List.length_drop] at hjl
          have hbl : b < w.heap.size := by have := HLT.out; omega
          rw [cell_of_bk (t1.old b hbl (by have := HLT.out; omega)) _]
          have h5 := hj (k + j) (by rw [List.length_drop]; omega)
          have e5 : (L.drop (q + k))[j]'(by rw [List.length_drop]; omega) = (L.drop q)[k + j]'(by rw [List.length_drop]; omega) := by simp [List.getElem_drop, Nat.add_assoc]
          rw [e5, show o + k + j = o + (k + j) by omega]
          exact h5
      by_cases hck : c = k
      · have FX : Hid (TkB w gt nb k L (.ok q) (.returned (.slice A1 k c1')) (w1.setCell ⟨gt, 0, none⟩ (.slice A (n - k) 0))) := Lib.hid (by
          have h := FIN.out A (fun e => by have := HAN.out e; omega) (fun h => by omega)
          rwa [show c - k = 0 by omega] at h)
        clear FIN
        go_wp2_with fail
        go_ret
        exact FX.out
      · cases A with
        | none => exact absurd (by have := HAN.out rfl; omega) hck
        | some a =>
          have FX : Hid (TkB w gt nb k L (.ok q) (.returned (.slice A1 k c1')) (w1.setCell ⟨gt, 0, none⟩ (.slice (some (a.add k)) (n - k) (c - k)))) := Lib.hid (FIN.out (some (a.add k)) (fun e => by cases e) (fun h => by
            obtain ⟨b', o', e3, _, _⟩ := HR.out (by rw [List.length_drop]; have := HN.out; omega)
            cases e3
            refine ⟨b', o', rfl, ?_⟩
            unfold Addr.add
            split
            · rename_i e; subst e; rfl
            · rfl))
          clear FIN
          go_wp2_with fail
          go_ret
          exact FX.out
    · have d1 : decide ((n : Int) < (k : Int)) = true := by simp; omega
      have d1' : decide (n < k) = true := by simp; omega
      have FX : Hid (TkB w gt nb k L (.ok q) (.returned (.slice none 0 0)) (w.setCell ⟨gt, 1, none⟩ (.int .i64 5))) := Lib.hid (by
        have eg : GS.got L k (.ok q) = [] := by simp only [GS.got]; rw [if_neg hs]
        have ea : GS.adv L k (.ok q) = .short := ok_adv_no _ _ _ (by omega)
        refine ⟨none, 0, by rw [eg]; rfl, by rw [eg]; exact .inl ⟨rfl, rfl⟩, ?_, (Tn.refl _ _).set (.inl rfl)⟩
        rw [ea]
        exact TU.put hlt (A := A) (n := n) (c := c) (by rw [bk_setCell_same, hb]; rfl) hA hc fun q' e => by cases e)
      clear h hb hA hq hr hlt hn hql
      go_enter Try.func46, Try.ntmps46
      go_wp2_with fail
      go_ret
      exact FX.out
end Go.Proofs.Ytjimmfbjhkoekaa
/- Icmps, the document: a number, an address, a count taken. -/
namespace Go.Proofs.Ytjimmfbjhkoekaa
open Go.RowKit
set_option maxRecDepth 100000
set_option maxHeartbeats 2000000
theorem val_small (l : List UInt8) (i : Nat) (hi : i < l.length) (h8 : l.length ≤ 8) : 256 * val (l.take i) + (l[i]).toNat < 2 ^ 64 := by
  have h1 := val_lt (l.take i)
  rw [List.length_take, Nat.min_eq_left (by omega)] at h1
  have h2 : (256 : Nat) ^ i ≤ 256 ^ 7 := Nat.pow_le_pow_right (by decide) (by omega)
  have h3 := (l[i]).toNat_lt
  have h4 : (256 : Nat) ^ 7 = 72057594037927936 := by decide
  omega
def TkN (w : World) (gt nb k : Nat) (L : List UInt8) (st : GS) (e : Ending) (w' : World) : Prop :=
  e = .returned (.int .u64 ((val (st.got L k) : Nat) : Int)) ∧ TU w' gt nb L (st.adv L k) ∧ Tn (fun j => j = gt) w w'
theorem tk_num (gt nb k : Nat) (L : List UInt8) (st : GS) (w : World) (h : TU w gt nb L st) (hL : L.length < 2 ^ 32) (hk : k ≤ 8) :
    Calls Try.prog 45 #[.pointer (some ⟨gt, 0, none⟩), .int .i64 (k : Int)] w fun e w' => TkN w gt nb k L st e w' := by
  have C := Lib.hid (tk_bytes gt nb k L st w h hL (by omega))
  have hD8 : (st.got L k).length ≤ 8 := Nat.le_trans (got_len L k st) hk
  obtain ⟨D, hD⟩ : ∃ D, D = st.got L k := ⟨_, rfl⟩
  rw [← hD] at hD8
  have HD := Lib.hid hD
  clear h hD
  go_enter Try.func45, Try.ntmps45
  go_wp2_with fail
  refine C.out.mono ?_
  rintro e w1 ⟨A, c, rfl, ho, h1, t1⟩
  rw [← HD.out] at ho ⊢
  have FX : Hid (TkN w gt nb k L st (.returned (.int .u64 ((val D : Nat) : Int))) w1) := Lib.hid ⟨by rw [HD.out], h1, t1⟩
  obtain ⟨A', c', ev, hr, _, _⟩ := ho.sl
  cases ev
  have HR := Lib.hid hr
  clear C ho h1 t1 hr
  go_wp2_with fail
  go_loopw [6, 7] (fun v i wr => ∃ j : Nat, j ≤ D.length ∧ i = .int .i64 (j : Int) ∧ v = .int .u64 ((val (D.take j) : Nat) : Int) ∧ wr = w1) (fun _ i _ => D.length - (intOf i).toNat)
  case atStart => exact ⟨0, by omega, rfl, rfl, rfl⟩
  case round =>
    obtain ⟨j, hj, rfl, rfl, rfl⟩ := hrel
    by_cases hlt : j < D.length
    · have d1 : decide ((j : Int) < (D.length : Int)) = true := by simp; omega
      obtain ⟨b, o, rfl, hbl, hc⟩ := HR.out (by omega)
      have cj := hc j hlt
      obtain ⟨x, hx⟩ : ∃ x, x = D[j] := ⟨_, rfl⟩
      rw [← hx] at cj
      have hs := val_small D j hlt hD8
      have hv := val_take D j hlt
      rw [← hx] at hs hv
      obtain ⟨V, hV⟩ : ∃ V, V = val (D.take j) := ⟨_, rfl⟩
      rw [← hV] at hs hv ⊢
      have e1 : IntKind.u64.wrap (256 * (V : Int)) = 256 * (V : Int) := by rw [IntKind.wrap_u64]; omega
      have e2 : IntKind.u64.wrap (256 * (V : Int) + (x.toNat : Int)) = ((val (D.take (j + 1)) : Nat) : Int) := by rw [hv, IntKind.wrap_u64]; omega
      have hx8 := x.toNat_lt
      have hji : (j : Int) < (D.length : Int) := by omega
      clear hx hv hc hV
      go_wp2_with fail
      go_roundw
      case rel => exact ⟨j + 1, by omega, by go_num, by first | rfl | (rw [← e2, IntKind.wrap_u64]), trivial⟩
      case measure => simp [intOf]; omega
    · obtain rfl : j = D.length := by omega
      have d1 : decide ((D.length : Int) < (D.length : Int)) = false := by simp
      rw [List.take_length]
      go_wp2_with fail
      go_ret
      exact FX.out
end Go.Proofs.Ytjimmfbjhkoekaa
/- Icmps, the document: an address, a count taken. -/
namespace Go.Proofs.Ytjimmfbjhkoekaa
open Go.RowKit
set_option maxRecDepth 100000
set_option maxHeartbeats 2000000
def TkA (w : World) (gt nb : Nat) (L : List UInt8) (st : GS) (e : Ending) (w' : World) : Prop :=
  ∃ z : List UInt8, z.length = 16 ∧ e = .returned (av z) ∧ adrOk L st z ∧ TU w' gt nb L (st.adv L 16) ∧ Tn (fun j => j = gt) w w'
theorem got16 (L : List UInt8) (st : GS) : st.got L 16 = [] ∨ (st.got L 16).length = 16 := by
  unfold GS.got
  split
  · split
    · right; rw [List.length_take, List.length_drop]; omega
    · exact .inl rfl
  · exact .inl rfl
theorem got_adr (L : List UInt8) (st : GS) : adrOk L st (st.got L 16) := fun q e h => by subst e; simp only [GS.got]; rw [if_pos h]
theorem tk_addr (gt nb : Nat) (L : List UInt8) (st : GS) (w : World) (h : TU w gt nb L st) (hL : L.length < 2 ^ 32) :
    Calls Try.prog 47 #[.pointer (some ⟨gt, 0, none⟩)] w fun e w' => TkA w gt nb L st e w' := by
  obtain ⟨g, hg⟩ : ∃ g, g = w.heap.size := ⟨_, rfl⟩
  obtain ⟨W, hW⟩ : ∃ W, W = (w.alloc (.cells ((List.replicate 16 (0 : UInt8)).map B).toArray 23)).alloc (.cells ((List.replicate 16 (0 : UInt8)).map B).toArray 23) := ⟨_, rfl⟩
  have b0 : Below w.heap.size w W := by rw [hW]; exact (by (repeat (first | exact Below.refl _ _ | assumption | refine Below.drew ?_ | refine bdrewN ?_ _ | refine Below.alloc ?_ (by first | omega | (simp <;> omega) | (simp only [World.size_alloc] <;> omega)) _ | refine below_setRow ?_ (by first | omega | (simp <;> omega)) _ | refine Below.setCell ?_ (by first | omega | (simp <;> omega)) _)))
  have k0 : bk W g = some (.cells ((List.replicate 16 (0 : UInt8)).map B).toArray 23 (0, 0)) := by rw [hW, hg, bk_alloc_past _ _ _ (by simp)]; exact bk_alloc_at _ _ _ rfl
  have k1 : bk W (g + 1) = some (.cells ((List.replicate 16 (0 : UInt8)).map B).toArray 23 (0, 0)) := by rw [hW, hg]; exact bk_alloc_at _ _ _ (by simp)
  have hgt := h.less
  have H0 := Lib.hid (h.below b0); have B0 := Lib.hid b0; have K0 := Lib.hid k0; have K1 := Lib.hid k1; have HW := Lib.hid hW; have HG := Lib.hid hg
  have HGL : Hid (gt < g) := Lib.hid (by omega)
  have hne : gt ≠ g := by omega
  have hne1 : gt ≠ g + 1 := by omega
  clear h b0 k0 k1 hW hgt
  go_enter Try.func47, Try.ntmps47
  go_upto_region 2 with fail
  rw [← hg]
  change Code.wp _ _ _ _ ((w.alloc (.cells ((List.replicate 16 (0 : UInt8)).map B).toArray 23)).alloc (.cells ((List.replicate 16 (0 : UInt8)).map B).toArray 23))
  rw [← HW.out]
  clear HW hg
  have bd : Below W.heap.size W W.drew := (by (repeat (first | exact Below.refl _ _ | assumption | refine Below.drew ?_ | refine bdrewN ?_ _ | refine Below.alloc ?_ (by first | omega | (simp <;> omega) | (simp only [World.size_alloc] <;> omega)) _ | refine below_setRow ?_ (by first | omega | (simp <;> omega)) _ | refine Below.setCell ?_ (by first | omega | (simp <;> omega)) _)))
  obtain ⟨D, hD⟩ : ∃ D, D = st.got L 16 := ⟨_, rfl⟩
  have HD : Hid (D = st.got L 16 ∧ (D = [] ∨ D.length = 16)) := Lib.hid ⟨hD, by rw [hD]; exact got16 L st⟩
  have HMIN := Lib.hid (min16 HD.out.2)
  have C : Hid (Calls Try.prog 46 #[.pointer (some ⟨gt, 0, none⟩), .int .i64 16] W.drew fun e w' => ∃ A c, e = .returned (.slice A D.length c) ∧ (0 < D.length → ∃ ad, A = some ad ∧ ∀ j v, (D.map B)[j]? = some v → w'.cell? (ad.add j) = some v) ∧ TU w' gt nb L (st.adv L 16) ∧ Tn (fun j => j = gt) W.drew w') := Lib.hid (by
    refine (tk_bytes gt nb 16 L st W.drew (H0.out.below bd) hL (by decide)).mono ?_
    rintro e w' ⟨A, c, rfl, ho, h1, t1⟩
    rw [← hD] at ho ⊢
    refine ⟨A, c, rfl, fun hl => ?_, h1, t1⟩
    obtain ⟨A', c', ev, hr, _, _⟩ := ho.sl
    cases ev
    obtain ⟨b, o, rfl, _, _⟩ := hr hl
    exact ⟨_, rfl, hr.news⟩)
  have KD : Hid (bk W.drew (g + 1) = some (.cells ((List.replicate 16 (0 : UInt8)).map B).toArray 23 (0, 0)) ∧ bk W.drew g = some (.cells ((List.replicate 16 (0 : UInt8)).map B).toArray 23 (0, 0))) := Lib.hid ⟨K1.out, K0.out⟩
  have BD := Lib.hid bd
  have l1 := bk_lt K1.out
  have l1d : g + 1 < W.drew.heap.size := bk_lt KD.out.1
  have kd1 := KD.out.1
  clear bd hD
  go_region_law (first
    | (go_simp; go_at_call 46; with_reducible refine C.out.mono ?_; rintro e w1 ⟨A, c, rfl, hcs, h1, t1⟩; have H1 := Lib.hid h1; have T1 := Lib.hid t1; have HCS := Lib.hid hcs; have kb1 := t1.keep hne1.symm KD.out.1; have KB1 := Lib.hid kb1; clear h1 t1 hcs C)
    | (refine step_copyS rfl _ _ _ _ rfl 5 1 Try.underlying27 (by kernel_rfl) (some ⟨g + 1, 0, none⟩) A 16 16 D.length c rfl rfl (g + 1) 0 _ _ KB1.out (D.map B) HMIN.out.1 (fun h0 => ⟨rfl, HCS.out (HMIN.out.2.1 h0)⟩) (Nat.le_trans (Nat.add_le_add_left HMIN.out.2.2 0) (by simp)) (ones_mem (ones_map _)) ?_))
  all_goals
    obtain ⟨z, hz16, hzok, hzc⟩ : ∃ z : List UInt8, z.length = 16 ∧ adrOk L st z ∧ spl [B 0, B 0, B 0, B 0, B 0, B 0, B 0, B 0, B 0, B 0, B 0, B 0, B 0, B 0, B 0, B 0] 0 (List.map B D) = (z.map B).toArray := by
      rcases HD.out.2 with h | h
      · refine ⟨List.replicate 16 0, rfl, fun q e h2 => ?_, by rw [h]; rfl⟩
        have h3 := got_adr L st q e h2
        rw [← HD.out.1, h] at h3
        have h4 := congrArg List.length h3
        rw [List.length_take, List.length_drop] at h4
        simp at h4
        omega
      · refine ⟨D, h, by rw [HD.out.1]; exact got_adr L st, ?_⟩
        unfold spl
        have h16 : (List.map B D).length = 16 := by rw [List.length_map]; exact h
        rw [h16]
        simp
    rw [hzc]
    have kb1 : bk (w1.setRow (g + 1) (z.map B).toArray) (g + 1) = some (.cells (z.map B).toArray 23 (0, 0)) := by rw [bk_setRow_same, KB1.out]; rfl
    have kb0 : bk (w1.setRow (g + 1) (z.map B).toArray) g = some (.cells ((List.replicate 16 (0 : UInt8)).map B).toArray 23 (0, 0)) := by rw [bk_setRow_other _ _ _ _ (by omega)]; exact T1.out.keep hne.symm KD.out.2
    have hw0 : w.heap.size ≤ g := by rw [HG.out]; exact Nat.le_refl _
    have T2 : Hid (Tn (fun j => j = gt) w (w1.setRow (g + 1) (z.map B).toArray)) := Lib.hid ((((Tn.of (F := fun j => j = gt) B0.out).trans (Tn.of (F := fun j => j = gt) BD.out) fun j e => .inl e).trans T1.out fun j e => .inl e).setRow (.inr (by omega)))
    have U2 : Hid (TU (w1.setRow (g + 1) (z.map B).toArray) gt nb L (st.adv L 16)) := Lib.hid (H1.out.turn (F := fun j => j = g + 1) ((Tn.refl _ _).setRow (.inl rfl)) hne1 fun k e => by have := H1.out.lt; have := HGL.out; rw [e]; omega)
    have HZ := Lib.hid (And.intro hz16 hzok)
    have z16 : (z.map B).toArray.size = 16 := by simp [hz16]
    have y16 : ((List.replicate 16 (0 : UInt8)).map B).toArray.size = 16 := rfl
    have o16 := ones_map z
    clear hz16 hzok hzc HMIN KB1 T1 H1 HCS KD kd1 l1 l1d
    generalize w1.setRow (g + 1) (z.map B).toArray = w2 at *
    have lb1 := bk_lt kb1; have lb0 := bk_lt kb0
    have FX : Hid (TkA w gt nb L st (.returned (av z)) (w2.setRow g (z.map B).toArray)) := Lib.hid ⟨z, HZ.out.1, rfl, HZ.out.2, U2.out.turn (F := fun j => j = g) ((Tn.refl _ _).setRow (.inl rfl)) hne fun k e => by have := U2.out.lt; have := HGL.out; rw [e]; omega, T2.out.setRow (.inr hw0)⟩
    have kf : bk (w2.setRow g (z.map B).toArray) g = some (.cells (z.map B).toArray 23 (0, 0)) := by rw [bk_setRow_same, kb0]; rfl
    clear U2 T2
    go_wp2_with fail
    exact bodyPost_ret (results_cell_row rfl _ _ g 23 (z.map B).toArray (0, 0) _ rfl kf Try.underlying23 rfl (by rw [z16]; kernel_rfl)) rfl FX.out
/-- How many a list is told to be. -/
def TkC (w : World) (gt nb : Nat) (L : List UInt8) (st : GS) (e : Ending) (w' : World) : Prop :=
  ∃ N : Nat, e = .returned (.int .i64 (N : Int)) ∧ N < 65536 ∧ (∀ q, st = .ok q → q + 2 ≤ L.length → N = numV L q 2) ∧ TU w' gt nb L (st.cnt L) ∧ Tn (fun j => j = gt) w w'
theorem tk_count (gt nb : Nat) (L : List UInt8) (st : GS) (w : World) (h : TU w gt nb L st) (hL : L.length < 2 ^ 32) :
    Calls Try.prog 49 #[.pointer (some ⟨gt, 0, none⟩)] w fun e w' => TkC w gt nb L st e w' := by
  have C := Lib.hid (tk_num gt nb 2 L st w h hL (by decide))
  have hV : val (st.got L 2) < 65536 := by
    have h1 := val_lt (st.got L 2)
    have h2 := got_len L 2 st
    exact Nat.lt_of_lt_of_le h1 (show 256 ^ _ ≤ 256 ^ 2 from Nat.pow_le_pow_right (by decide) h2)
  obtain ⟨V, hVe⟩ : ∃ V, V = val (st.got L 2) := ⟨_, rfl⟩
  rw [← hVe] at hV
  have HV := Lib.hid hVe
  clear h hVe
  go_enter Try.func49, Try.ntmps49
  go_wp2_with fail
  refine C.out.mono ?_
  rintro e w1 ⟨rfl, h1, t1⟩
  rw [← HV.out]
  clear C
  have c1 := h1.err.1
  have lg := h1.less
  have e1 : IntKind.i64.wrap (V : Int) = (V : Int) := by rw [IntKind.wrap_i64]; omega
  cases st with
  | short =>
    have FX : Hid (TkC w gt nb L .short (.returned (.int .i64 (V : Int))) w1) := Lib.hid ⟨V, rfl, hV, (fun q e => by cases e), h1, t1⟩
    have c1' : w1.cell? ⟨gt, 1, none⟩ = some (.int .i64 5) := c1
    clear c1 h1 t1
    go_wp2_with fail
    go_ret
    exact FX.out
  | form =>
    have FX : Hid (TkC w gt nb L .form (.returned (.int .i64 (V : Int))) w1) := Lib.hid ⟨V, rfl, hV, (fun q e => by cases e), h1, t1⟩
    have c1' : w1.cell? ⟨gt, 1, none⟩ = some (.int .i64 4) := c1
    clear c1 h1 t1
    go_wp2_with fail
    go_ret
    exact FX.out
  | ok q =>
    by_cases hq : q + 2 ≤ L.length
    · have ea : GS.adv L 2 (.ok q) = .ok (q + 2) := ok_adv _ _ _ hq
      have eV : V = numV L q 2 := by rw [HV.out]; simp only [GS.got]; rw [if_pos hq]; rfl
      rw [ea] at c1 h1
      have c1' : w1.cell? ⟨gt, 1, none⟩ = some (.int .i64 0) := c1
      by_cases h64 : 64 < V
      · have d1 : decide ((V : Int) > 64) = true := by simp; omega
        have d1' : decide (64 < V) = true := by simp; omega
        have d1'' : decide ((64 : Int) < (V : Int)) = true := by simp; omega
        have ec : GS.cnt L (.ok q) = .form := by simp only [GS.cnt]; rw [if_pos hq, if_pos (by rw [eV] at h64; exact h64)]
        obtain ⟨A, n, c, hb, hA, hc, _⟩ := h1.box
        have fz := bk_frozen hb 1
        have hu : TU (w1.setCell ⟨gt, 1, none⟩ (.int .i64 4)) gt nb L .form := TU.put h1.lt (A := A) (n := n) (c := c) (by rw [bk_setCell_same, hb]; rfl) hA hc fun q' e => by cases e
        rw [← ec] at hu
        have FX : Hid (TkC w gt nb L (.ok q) (.returned (.int .i64 (V : Int))) (w1.setCell ⟨gt, 1, none⟩ (.int .i64 4))) := Lib.hid ⟨V, rfl, hV, (fun q' e _ => by cases e; exact eV), hu, t1.set (.inl rfl)⟩
        clear hu
        clear c1 h1 t1 hb hA hc ec eV ea
        go_wp2_with fail
        go_ret
        exact FX.out
      · have d1 : decide ((V : Int) > 64) = false := by simp; omega
        have d1' : decide (64 < V) = false := by simp; omega
        have d1'' : decide ((64 : Int) < (V : Int)) = false := by simp; omega
        have ec : GS.cnt L (.ok q) = .ok (q + 2) := by simp only [GS.cnt]; rw [if_pos hq, if_neg (by rw [eV] at h64; exact h64)]
        have FX : Hid (TkC w gt nb L (.ok q) (.returned (.int .i64 (V : Int))) w1) := Lib.hid ⟨V, rfl, hV, (fun q' e _ => by cases e; exact eV), by rw [ec]; exact h1, t1⟩
        clear c1 h1 t1 ec eV ea
        go_wp2_with fail
        go_ret
        exact FX.out
    · have ea : GS.adv L 2 (.ok q) = .short := ok_adv_no _ _ _ (by omega)
      have ec : GS.cnt L (.ok q) = .short := by simp only [GS.cnt]; rw [if_neg hq]
      rw [ea] at c1 h1
      have c1' : w1.cell? ⟨gt, 1, none⟩ = some (.int .i64 5) := c1
      have FX : Hid (TkC w gt nb L (.ok q) (.returned (.int .i64 (V : Int))) w1) := Lib.hid ⟨V, rfl, hV, (fun q' e h => by cases e; omega), by rw [ec]; exact h1, t1⟩
      clear c1 h1 t1 ec ea
      go_wp2_with fail
      go_ret
      exact FX.out
end Go.Proofs.Ytjimmfbjhkoekaa
/- Icmps, the document: a list of addresses taken. -/
namespace Go.Proofs.Ytjimmfbjhkoekaa
open Go.RowKit
set_option maxRecDepth 100000
set_option maxHeartbeats 2000000
def zero16 : Array Value := #[.int .u8 0, .int .u8 0, .int .u8 0, .int .u8 0, .int .u8 0, .int .u8 0, .int .u8 0, .int .u8 0, .int .u8 0, .int .u8 0, .int .u8 0, .int .u8 0, .int .u8 0, .int .u8 0, .int .u8 0, .int .u8 0]
theorem fold_ad (c : Array Value) (h : c.size = 16) : Array.foldl (fun cs x => cs.setIfInBounds x.snd x.fst) (#[.int .u8 0, .int .u8 0, .int .u8 0, .int .u8 0, .int .u8 0, .int .u8 0, .int .u8 0, .int .u8 0, .int .u8 0, .int .u8 0, .int .u8 0, .int .u8 0, .int .u8 0, .int .u8 0, .int .u8 0, .int .u8 0] : Array Value) c.zipIdx 0 16 = c := by
  have e := fill_all (fun k => some (k * 16, 16)) [.agg c] 0 0 zero16 (by simp [placesOk, Value.cells, h]) (by simp [widths, Value.cells, h, zero16])
  simp [widths, Value.cells, h, partsAt, Instr.fill, zero16] at e
  simpa using e
theorem appA : App1 30 23 (.agg zero16) 16 16 := ⟨Try.underlying30, by kernel_rfl, rfl, by decide, by decide⟩
/-- A row of addresses of one's own. -/
def OA (w : World) (n : Nat) (A : Option Addr) (c : Nat) (zs : List (List UInt8)) : Prop := w.ownsRow n 23 16 (.slice A zs.length c) zs.length (zs.flatten.map B)
theorem OA.nil (w : World) (n : Nat) : OA w n none 0 [] := World.ownsRow_nil _ _ _ _
theorem OA.turn {F : Nat → Prop} {w w' : World} {n c : Nat} {A : Option Addr} {zs : List (List UInt8)} (h : OA w n A c zs) (t : Tn F w w') (h1 : ∀ k, (Value.slice A zs.length c).ownBlock = some k → ¬ F k) : OA w' n A c zs :=
  own_turnG h fun k hk => t.old k (World.ownsRow.lt h k hk).2 (h1 k hk)
theorem OA.below {w w' : World} {n c : Nat} {A : Option Addr} {zs : List (List UInt8)} (h : OA w n A c zs) (hb : Below w.heap.size w w') : OA w' n A c zs :=
  h.turn (Tn.of (F := fun _ => False) hb) fun _ _ e => e
theorem TU.adv0 {w : World} {gt nb : Nat} {L : List UInt8} {st : GS} (h : TU w gt nb L st) : st.adv L 0 = st := by
  obtain ⟨A, n, c, _, _, _, hq⟩ := h.box
  cases st with
  | ok q =>
    have := (hq q rfl).1
    simp only [GS.adv]
    rw [if_pos (by omega)]
    rfl
  | short => rfl
  | form => rfl
/-- Addresses that are taken. -/
def TkL (w : World) (gt nb N : Nat) (L : List UInt8) (st : GS) (e : Ending) (w' : World) : Prop :=
  ∃ A c zs, e = .returned (.slice A zs.length c) ∧ OA w' w.heap.size A c zs ∧ (∀ z ∈ zs, z.length = 16) ∧ zs.length ≤ N ∧ (∀ q, st = .ok q → q + 16 * N ≤ L.length → zs = srcsV L q N) ∧ TU w' gt nb L (st.adv L (16 * N)) ∧ Tn (fun j => j = gt) w w'
structure TL (w wr : World) (gt nb i c : Nat) (L : List UInt8) (st : GS) (A : Option Addr) (zs : List (List UInt8)) : Prop where
  ln : zs.length = i
  own : wr.ownsRow w.heap.size 23 16 (.slice A i c) i (zs.flatten.map B)
  l16 : ∀ z ∈ zs, z.length = 16
  ok : ∀ k (h : k < zs.length), adrOk L (st.adv L (16 * k)) zs[k]
  tu : TU wr gt nb L (st.adv L (16 * i))
  tn : Tn (fun j => j = gt) w wr
theorem TL.more {w wr wb w' : World} {gt nb i c c2 : Nat} {L : List UInt8} {st : GS} {A A2 : Option Addr} {zs : List (List UInt8)} {z : List UInt8} (h : TL w wr gt nb i c L st A zs) (hgt : gt < w.heap.size) (hz : z.length = 16) (hok : adrOk L (st.adv L (16 * i)) z) (hu : TU wb gt nb L ((st.adv L (16 * i)).adv L 16)) (ht : Tn (fun j => j = gt) wr wb)
    (hr : w'.ownsRow w.heap.size 23 16 (.slice A2 (i + 1) c2) (i + 1) (zs.flatten.map B ++ z.map B)) (hg : wb.grownBy w' (Value.slice A i c).ownBlock) : TL w w' gt nb (i + 1) c2 L st A2 (zs ++ [z]) := by
  have t : Tn (fun k => (Value.slice A i c).ownBlock = some k) wb w' := Tn.grown hg fun k e => e
  have lo : ∀ k, (Value.slice A i c).ownBlock = some k → w.heap.size ≤ k := fun k hk => (World.ownsRow.lt h.own k hk).1
  refine ⟨by simp [h.ln], ?_, fun y hy => ?_, fun k hk => ?_, ?_, (h.tn.trans ht fun j e => .inl e).trans t fun j e => .inr (lo j e)⟩
  · rw [List.flatten_append, List.map_append]; simpa using hr
  · rcases List.mem_append.1 hy with hy | hy
    · exact h.l16 y hy
    · rw [List.mem_singleton] at hy; rw [hy]; exact hz
  · by_cases e : k < zs.length
    · rw [List.getElem_append_left e]; exact h.ok k e
    · have : k = zs.length := by simp at hk; omega
      subst this
      rw [List.getElem_append_right (Nat.le_refl _)]
      simp only [Nat.sub_self, List.getElem_cons_zero]
      rw [h.ln]; exact hok
  · have := hu.turn t (fun e => by have := lo _ e; omega) (fun k e => by have := lo _ e; have := hu.lt; omega)
    rw [GS.adv_adv] at this
    exact this
theorem TL.done {w wr : World} {gt nb i c N : Nat} {L : List UInt8} {st : GS} {A : Option Addr} {zs : List (List UInt8)} (h : TL w wr gt nb i c L st A zs) (hi : i ≤ N) (he : i = N ∨ ∀ q, st.adv L (16 * i) ≠ .ok q) : TkL w gt nb N L st (.returned (.slice A i c)) wr := by
  have hl := h.ln
  subst hl
  refine ⟨A, c, zs, rfl, h.own, h.l16, hi, fun q hs hq => ?_, ?_, h.tn⟩
  · rcases he with he | he
    · rw [← he] at hq ⊢
      exact srcs_fun hs hq h.ok
    · exact absurd (by rw [hs]; exact ok_adv _ _ _ (by omega)) (he (q + 16 * zs.length))
  · rcases he with he | he
    · rw [← he]; exact h.tu
    · have e : st.adv L (16 * N) = st.adv L (16 * zs.length) := by
        rw [show 16 * N = 16 * zs.length + 16 * (N - zs.length) by omega, ← GS.adv_adv, err_adv he]
      rw [e]; exact h.tu
theorem TL.start {w : World} {gt nb : Nat} {L : List UInt8} {st : GS} (h : TU w gt nb L st) : TL w w gt nb 0 0 L st none [] :=
  ⟨rfl, World.ownsRow_nil _ _ _ _, fun z hz => by simp at hz, fun k hk => absurd hk (Nat.not_lt_zero _), by rw [Nat.mul_zero, h.adv0]; exact h, Tn.refl _ _⟩
theorem TL.lt {w wr : World} {gt nb i c : Nat} {L : List UInt8} {st : GS} {A : Option Addr} {zs : List (List UInt8)} (h : TL w wr gt nb i c L st A zs) : gt < wr.heap.size := h.tu.less
theorem tk_addrs (gt nb N : Nat) (L : List UInt8) (st : GS) (w : World) (h : TU w gt nb L st) (hL : L.length < 2 ^ 32) (hN : N < 65536) :
    Calls Try.prog 48 #[.pointer (some ⟨gt, 0, none⟩), .int .i64 (N : Int)] w fun e w' => TkL w gt nb N L st e w' := by
  have HL := Lib.hid hL
  have HGT := Lib.hid h.less
  have HT0 := Lib.hid (TL.start h)
  clear h hL
  go_enter Try.func48, Try.ntmps48
  go_wp2_with fail
  go_loopw [5, 6] (fun v x wr => ∃ (i c : Nat) (A : Option Addr) (zs : List (List UInt8)), i ≤ N ∧ v = .slice A i c ∧ x = .int .i64 (i : Int) ∧ Hid (TL w wr gt nb i c L st A zs)) (fun _ x _ => N - (intOf x).toNat)
  case atStart => exact ⟨0, 0, none, [], by omega, rfl, rfl, HT0⟩
  case round =>
    clear HT0
    obtain ⟨i, c, A, zs, hi, rfl, rfl, HT⟩ := hrel
    cases hs : st.adv L (16 * i) with
    | short =>
          have he : ∀ q, st.adv L (16 * i) ≠ .ok q := fun q e => by rw [hs] at e; cases e
          have FX := Lib.hid (HT.out.done hi (.inr he))
          have c1 : wr.cell? ⟨gt, 1, none⟩ = some (.int .i64 5) := by have h := HT.out.tu.err.1; rw [hs] at h; exact h
          have lg := HT.out.lt
          clear hs he HT
          by_cases hlt : i < N
          · have d1 : decide ((i : Int) < (N : Int)) = true := by simp; omega
            go_wp2_with fail
            go_ret
            exact FX.out
          · have d1 : decide ((i : Int) < (N : Int)) = false := by simp; omega
            go_wp2_with fail
            go_ret
            exact FX.out
    | form =>
          have he : ∀ q, st.adv L (16 * i) ≠ .ok q := fun q e => by rw [hs] at e; cases e
          have FX := Lib.hid (HT.out.done hi (.inr he))
          have c1 : wr.cell? ⟨gt, 1, none⟩ = some (.int .i64 4) := by have h := HT.out.tu.err.1; rw [hs] at h; exact h
          have lg := HT.out.lt
          clear hs he HT
          by_cases hlt : i < N
          · have d1 : decide ((i : Int) < (N : Int)) = true := by simp; omega
            go_wp2_with fail
            go_ret
            exact FX.out
          · have d1 : decide ((i : Int) < (N : Int)) = false := by simp; omega
            go_wp2_with fail
            go_ret
            exact FX.out
    | ok q =>
      have lg := HT.out.lt
      by_cases hlt : i < N
      · have d1 : decide ((i : Int) < (N : Int)) = true := by simp; omega
        have c1 : wr.cell? ⟨gt, 1, none⟩ = some (.int .i64 0) := by have h := HT.out.tu.err.1; rw [hs] at h; exact h
        have C := Lib.hid (tk_addr gt nb L (st.adv L (16 * i)) wr HT.out.tu HL.out)
        clear hs
        go_wp2_with fail
        refine C.out.mono ?_
        rintro e w1 ⟨z, hz, rfl, hok, hu, t1⟩
        clear C c1 lg
        obtain ⟨row, hrow⟩ : ∃ r, r = (z.map B).toArray := ⟨_, rfl⟩
        have hsz : row.size = 16 := by rw [hrow]; simp [hz]
        have hone : ones row.toList = true := by rw [hrow]; exact ones_map z
        have b1 : Below w1.heap.size w1 (w1.alloc (.cells row 23)) := (by (repeat (first | exact Below.refl _ _ | assumption | refine Below.drew ?_ | refine bdrewN ?_ _ | refine Below.alloc ?_ (by first | omega | (simp <;> omega) | (simp only [World.size_alloc] <;> omega)) _ | refine below_setRow ?_ (by first | omega | (simp <;> omega)) _ | refine Below.setCell ?_ (by first | omega | (simp <;> omega)) _)))
        have o0 : (w1.alloc (.cells row 23)).ownsRow w.heap.size 23 16 (.slice A i c) i (zs.flatten.map B) := own_turnG HT.out.own fun k hk => by
          have h1 := World.ownsRow.lt HT.out.own k hk
          have h2 := HGT.out
          rw [(Tn.of (F := fun _ => False) b1).old k (Nat.lt_of_lt_of_le h1.2 t1.size) (fun e => e)]
          exact t1.old k h1.2 (fun e => by omega)
        have O0 := Lib.hid o0
        have HC : Hid (∀ j u, (z.map B)[j]? = some u → (w1.alloc (.cells row 23)).cell? ⟨w1.heap.size, j, none⟩ = some u) := Lib.hid fun j u hu => by
          rw [bk_cell (bk_alloc_at w1 (.cells row 23) _ rfl), hrow, List.getElem?_toArray]
          exact hu
        have HM : Hid (w.heap.size ≤ (w1.alloc (.cells row 23)).heap.size) := Lib.hid (Nat.le_trans HT.out.tn.size (Nat.le_trans t1.size b1.size))
        have HU := Lib.hid (hu.below b1)
        have HT1 := Lib.hid (t1.next b1)
        have HZ := Lib.hid (And.intro hz hok)
        have HZL : Hid ((z.map B).length = 16) := Lib.hid (by simp [hz])
        have HI30 : Hid (i < 2 ^ 30) := Lib.hid (by omega)
        have hav : av z = .agg row := by rw [hrow]
        rw [hav]
        clear hav hz hok hu t1 b1 o0 hrow
        go_wp2_with (at_builtin; rw [fold_ad _ hsz]; refine wpList_app1 appA rfl _ _ rfl w.heap.size (.slice A i c) i (zs.flatten.map B) rfl O0.out w1.heap.size 1 rfl (z.map B) HZL.out HC.out (B_one z) HM.out HI30.out ?_)
        intro A2 c2 w2 r2 g2 _ _
        rw [← List.map_flatten] at r2
        have HT2 := Lib.hid (HT.out.more HGT.out HZ.out.1 HZ.out.2 HU.out HT1.out r2 g2)
        clear r2 g2 HT O0 HC HM HU HT1 hone hsz
        go_wp2_with fail
        go_roundw
        case rel => exact ⟨i + 1, c2, A2, _, by omega, rfl, by go_num, HT2⟩
        case measure => simp [intOf]; omega
      · have d1 : decide ((i : Int) < (N : Int)) = false := by simp; omega
        have FX := Lib.hid (HT.out.done hi (.inl (by omega)))
        have c1 : wr.cell? ⟨gt, 1, none⟩ = some (.int .i64 0) := by have h := HT.out.tu.err.1; rw [hs] at h; exact h
        clear hs HT
        go_wp2_with fail
        go_ret
        exact FX.out
end Go.Proofs.Ytjimmfbjhkoekaa
