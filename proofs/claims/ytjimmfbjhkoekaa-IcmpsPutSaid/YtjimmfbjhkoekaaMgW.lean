import Derived.Test.YtjimmfbjhkoekaaMgO
/- Icmps: parts, got: routers, echoes. -/
namespace Go.Proofs.Ytjimmfbjhkoekaa
open Go.RowKit
set_option maxRecDepth 100000
set_option maxHeartbeats 1000000
theorem p134_get (gg gc gb gm : Nat) (c : UInt8) (L : List UInt8) (st : GS) (w : World) (h : GU w gg gc gb L st) (hx : Bx w gg gc gb gm 0 (mC (mZ 134 c)) 33) (hL : L.length < 2 ^ 40) :
    Calls Try.prog 31 #[sideG gg, .pointer (some ⟨gm, 0, none⟩)] w fun e w' => e = .returned (.bool true) ∧ GotP w w' gg gc gb gm L st (mZ 134 c) := by
  have c0 : w.cell? ⟨gm, 0, none⟩ = some (.int .u8 134) := by rw [bk_cell hx.kb, mC_0]; rfl
  have lm := bk_lt hx.kb
  have P0 := Lib.hid (GT.start h hx)
  have HL := Lib.hid hL
  clear h hx hL
  go_enter Try.func31, Try.ntmps31
  go_upto_region 29 with fail
  have PD := Lib.hid ((P0).out.next (w' := (w).drew) (by (repeat (first | exact Below.refl _ _ | assumption | refine Below.drew ?_ | refine bdrewN ?_ _ | refine Below.alloc ?_ (by first | omega | (simp <;> omega) | (simp only [World.size_alloc] <;> omega)) _ | refine below_setRow ?_ (by first | omega | (simp <;> omega)) _ | refine Below.setCell ?_ (by first | omega | (simp <;> omega)) _))))
  have C := Lib.hid (gone gg gc gb gm 4 L _ _ _ w.drew PD.out.gu (PD.out.fld (by decide)))
  go_region_held3 (fun w' => True) (first | assumption | go_keep) ((go_at_call 115; with_reducible refine C.out.mono ?_; rintro e w1 ⟨ho, rfl, hok, hg⟩; have H1 := Lib.hid (And.intro hok hg); clear C))
  have P1 : Hid (GM w w1 gg gc gb gm L (st.adv L 1) { mZ 134 c with hops := ho }) := Lib.hid (by have q := PD.out.got1 H1.out.2; rw [sM4] at q; exact q)
  have O1 := Lib.hid H1.out.1
  clear H1 PD P0 c0 lm
  have lm2 := bk_lt P1.out.bx.kb
  go_upto_region 30 with fail
  have PD := Lib.hid ((P1).out.next (w' := (w1).drew) (by (repeat (first | exact Below.refl _ _ | assumption | refine Below.drew ?_ | refine bdrewN ?_ _ | refine Below.alloc ?_ (by first | omega | (simp <;> omega) | (simp only [World.size_alloc] <;> omega)) _ | refine below_setRow ?_ (by first | omega | (simp <;> omega)) _ | refine Below.setCell ?_ (by first | omega | (simp <;> omega)) _))))
  have C := Lib.hid (gone gg gc gb gm 5 L _ _ _ w1.drew PD.out.gu (PD.out.fld (by decide)))
  go_region_held3 (fun w' => True) (first | assumption | go_keep) ((go_at_call 115; with_reducible refine C.out.mono ?_; rintro e w2 ⟨fl, rfl, hok, hg⟩; have H2 := Lib.hid (And.intro hok hg); clear C))
  have P2 : Hid (GM w w2 gg gc gb gm L (st.adv L 2) { mZ 134 c with hops := ho, flags := fl }) := Lib.hid (by have q := PD.out.got1 H2.out.2; rw [sM5] at q; exact q.adv rfl)
  have O2 := Lib.hid H2.out.1
  clear H2 PD P1 lm2
  have lm2 := bk_lt P2.out.bx.kb
  go_upto_region 31 with fail
  have PD := Lib.hid ((P2).out.next (w' := (w2).drew) (by (repeat (first | exact Below.refl _ _ | assumption | refine Below.drew ?_ | refine bdrewN ?_ _ | refine Below.alloc ?_ (by first | omega | (simp <;> omega) | (simp only [World.size_alloc] <;> omega)) _ | refine below_setRow ?_ (by first | omega | (simp <;> omega)) _ | refine Below.setCell ?_ (by first | omega | (simp <;> omega)) _))))
  have C := Lib.hid (gtwo gg gc gb gm 6 L _ _ _ w2.drew PD.out.gu (PD.out.fld (by decide)))
  go_region_held3 (fun w' => True) (first | assumption | go_keep) ((go_at_call 119; with_reducible refine C.out.mono ?_; rintro e w3 ⟨li, hv, rfl, hok, hg⟩; have H3 := Lib.hid (And.intro hv (And.intro hok hg)); clear C))
  have P3 : Hid (GM w w3 gg gc gb gm L (st.adv L 4) { mZ 134 c with hops := ho, flags := fl, life := li }) := Lib.hid (by have q := PD.out.got1 H3.out.2.2; rw [sM6] at q; exact q.adv rfl)
  have O3 := Lib.hid (And.intro H3.out.1 H3.out.2.1)
  clear H3 PD P2 lm2
  have lm2 := bk_lt P3.out.bx.kb
  go_upto_region 32 with fail
  have PD := Lib.hid ((P3).out.next (w' := (w3).drew) (by (repeat (first | exact Below.refl _ _ | assumption | refine Below.drew ?_ | refine bdrewN ?_ _ | refine Below.alloc ?_ (by first | omega | (simp <;> omega) | (simp only [World.size_alloc] <;> omega)) _ | refine below_setRow ?_ (by first | omega | (simp <;> omega)) _ | refine Below.setCell ?_ (by first | omega | (simp <;> omega)) _))))
  have C := Lib.hid (gfour gg gc gb gm 7 L _ _ _ w3.drew PD.out.gu (PD.out.fld (by decide)))
  go_region_held3 (fun w' => True) (first | assumption | go_keep) ((go_at_call 113; with_reducible refine C.out.mono ?_; rintro e w4 ⟨re, hv, rfl, hok, hg⟩; have H4 := Lib.hid (And.intro hv (And.intro hok hg)); clear C))
  have P4 : Hid (GM w w4 gg gc gb gm L (st.adv L 8) { mZ 134 c with hops := ho, flags := fl, life := li, reach := re }) := Lib.hid (by have q := PD.out.got1 H4.out.2.2; rw [sM7] at q; exact q.adv rfl)
  have O4 := Lib.hid (And.intro H4.out.1 H4.out.2.1)
  clear H4 PD P3 lm2
  have lm2 := bk_lt P4.out.bx.kb
  go_upto_region 33 with fail
  have PD := Lib.hid ((P4).out.next (w' := (w4).drew) (by (repeat (first | exact Below.refl _ _ | assumption | refine Below.drew ?_ | refine bdrewN ?_ _ | refine Below.alloc ?_ (by first | omega | (simp <;> omega) | (simp only [World.size_alloc] <;> omega)) _ | refine below_setRow ?_ (by first | omega | (simp <;> omega)) _ | refine Below.setCell ?_ (by first | omega | (simp <;> omega)) _))))
  have C := Lib.hid (gfour gg gc gb gm 8 L _ _ _ w4.drew PD.out.gu (PD.out.fld (by decide)))
  go_region_held3 (fun w' => True) (first | assumption | go_keep) ((go_at_call 113; with_reducible refine C.out.mono ?_; rintro e w5 ⟨rt, hv, rfl, hok, hg⟩; have H5 := Lib.hid (And.intro hv (And.intro hok hg)); clear C))
  have P5 : Hid (GM w w5 gg gc gb gm L (st.adv L 12) { mZ 134 c with hops := ho, flags := fl, life := li, reach := re, retr := rt }) := Lib.hid (by have q := PD.out.got1 H5.out.2.2; rw [sM8] at q; exact q.adv rfl)
  have O5 := Lib.hid (And.intro H5.out.1 H5.out.2.1)
  clear H5 PD P4 lm2
  have lm2 := bk_lt P5.out.bx.kb
  go_upto_region 34 with fail
  have PD := Lib.hid ((P5).out.next (w' := (w5).drew) (by (repeat (first | exact Below.refl _ _ | assumption | refine Below.drew ?_ | refine bdrewN ?_ _ | refine Below.alloc ?_ (by first | omega | (simp <;> omega) | (simp only [World.size_alloc] <;> omega)) _ | refine below_setRow ?_ (by first | omega | (simp <;> omega)) _ | refine Below.setCell ?_ (by first | omega | (simp <;> omega)) _))))
  have C := Lib.hid (goptions gg gc gb gm 41 L _ _ _ w5.drew PD.out.gu (PD.out.fld (by decide)) HL.out)
  go_region_held3 (fun w' => True) (first | assumption | go_keep) ((go_at_call 116; with_reducible refine C.out.mono ?_; rintro e w6 ⟨x, rfl, hok, hg⟩; have H6 := Lib.hid (And.intro hok hg); clear C))
  obtain ⟨A, ol, q1, qo⟩ := PD.out.opts PD.out.size H6.out.1 H6.out.2
  have FX : Hid (GotP w w6 gg gc gb gm L st (mZ 134 c)) := Lib.hid ⟨_, { mZ 134 c with hops := ho, flags := fl, life := li, reach := re, retr := rt, OA := A, os := ol, oc := ol.length }, q1, by
    unfold PartG
    rw [if_neg (show ¬ (mZ 134 c).pl.kind = 130 from (by decide : ¬ ((134 : UInt8) = 130)))]
    rw [if_neg (show ¬ (mZ 134 c).pl.kind = 143 from (by decide : ¬ ((134 : UInt8) = 143)))]
    rw [if_pos (show (mZ 134 c).pl.kind = 134 from rfl)]
    exact ⟨_, _, _, _, _, _, rfl, O1.out, O2.out, O3.out.2, O4.out.2, O5.out.2, qo.rel, O3.out.1, O4.out.1, O5.out.1⟩, fun q _ => by
    have this := ok_opts (gb := gb) (m := { mZ 134 c with hops := ho, flags := fl, life := li, reach := re, retr := rt, OA := A, os := ol, oc := ol.length }) ⟨rfl, rfl, rfl⟩ ⟨rfl, rfl, rfl⟩ ⟨rfl, rfl, rfl⟩ ⟨by simp only [mZ]; decide, O3.out.1, O4.out.1, O5.out.1, by simp only [mZ]; decide⟩ qo rfl
    exact ⟨this.1, this.2, rfl, rfl⟩⟩
  clear q1 qo PD P5 H6 O1 O2 O3 O4 O5
  go_wp2_with fail
  go_ret
  exact ⟨rfl, FX.out⟩
def ddOk (L : List UInt8) (gb : Nat) (st : GS) (A : Option Addr) (dd : List UInt8) : Prop := ∀ q, st = .ok q → dd = L.drop q ∧ q ≤ L.length ∧ (dd ≠ [] → A = some ⟨gb, q, none⟩)
theorem rest_dd {L : List UInt8} {gb k : Nat} {st : GS} {A : Option Addr} (h : restOk L gb st A k) : ∃ dd : List UInt8, dd.length = k ∧ ddOk L gb st A dd := by
  cases st with
  | ok q =>
    obtain ⟨h1, h2, h3⟩ := h q rfl
    refine ⟨L.drop q, by rw [List.length_drop, h2], fun q' e => ?_⟩
    cases e
    refine ⟨rfl, h1, fun hne => h3 ?_⟩
    have := List.length_pos_iff.2 hne
    rw [List.length_drop] at this
    omega
  | short => exact ⟨List.replicate k 0, List.length_replicate .., fun q e => by cases e⟩
  | form => exact ⟨List.replicate k 0, List.length_replicate .., fun q e => by cases e⟩
theorem ok_data {w : World} {n gb : Nat} {k c : UInt8} {L : List UInt8} {q V : Nat} {A : Option Addr} {dd : List UInt8} (hb : PB w gb L) (hg : gb < w.heap.size) (hd : dd = L.drop q ∧ q ≤ L.length ∧ (dd ≠ [] → A = some ⟨gb, q, none⟩)) (hV : V < 4294967296) (hL : L.length < 2 ^ 40) :
    MvOk w w.heap.size { mZ k c with param := V, DA := A, dd := dd, dc := dd.length } ∧ Fr w n gb { mZ k c with param := V, DA := A, dd := dd, dc := dd.length } := by
  obtain ⟨h1, h2, h3⟩ := hd
  have hl : dd.length ≤ L.length := by rw [h1, List.length_drop]; omega
  refine ⟨⟨?_, fun e => ?_, Nat.le_refl _, by simp only; omega, ⟨Rws.nil, fun x hx => by simp [mZ] at hx⟩, Nat.le_refl _, by simp only [mZ]; decide, Rws.nil, fun z hz => by simp [mZ] at hz, Nat.le_refl _, by simp only [mZ]; decide, Rws.nil, fun r hr => by simp [mZ] at hr, Nat.le_refl _, by simp only [mZ]; decide, hV, by simp only [mZ]; decide, by simp only [mZ]; decide, by simp only [mZ]; decide, by simp only [mZ]; decide⟩,
    ⟨fun e => ⟨q, h3 e⟩, rfl, ⟨0, 0, fun e => absurd rfl e, LayAt.nil _ _, (fun a e => by cases e), fun e => absurd rfl e⟩, rfl, fun e => absurd rfl e, rfl, fun i h => absurd h (by simp [mZ]), fun i j h => absurd h (by simp [mZ]), (fun a e => by cases e), rfl, fun e => by
      have h0 : 0 < dd.length := List.length_pos_iff.2 e
      obtain ⟨cur, hbb, _⟩ := hb (by omega)
      exact ⟨cur, hbb⟩⟩⟩
  · show Rd w w.heap.size A dd
    by_cases hne : dd = []
    · rw [hne]; exact Rd.nil
    · rw [h3 hne]
      have := hb.rd (q := q) (m := L.length) hg
      rw [List.take_of_length_le (by rw [List.length_drop]; omega), ← h1] at this
      exact this
  · have hne : dd = [] := by
      by_cases hne : dd = []
      · exact hne
      · have := h3 hne; rw [show A = none from e] at this; cases this
    exact ⟨hne, by show dd.length = 0; rw [hne]; rfl⟩
theorem p1_get (gg gc gb gm : Nat) (c : UInt8) (L : List UInt8) (st : GS) (w : World) (h : GU w gg gc gb L st) (hx : Bx w gg gc gb gm 0 (mC (mZ 1 c)) 33) (hL : L.length < 2 ^ 40) :
    Calls Try.prog 31 #[sideG gg, .pointer (some ⟨gm, 0, none⟩)] w fun e w' => e = .returned (.bool true) ∧ GotP w w' gg gc gb gm L st (mZ 1 c) := by
  have c0 : w.cell? ⟨gm, 0, none⟩ = some (.int .u8 1) := by rw [bk_cell hx.kb, mC_0]; rfl
  have lm := bk_lt hx.kb
  have P0 := Lib.hid (GT.start h hx)
  have HL := Lib.hid hL
  clear h hx hL
  go_enter Try.func31, Try.ntmps31
  go_upto_region 9 with fail
  have PD := Lib.hid ((P0).out.next (w' := (w).drew) (by (repeat (first | exact Below.refl _ _ | assumption | refine Below.drew ?_ | refine bdrewN ?_ _ | refine Below.alloc ?_ (by first | omega | (simp <;> omega) | (simp only [World.size_alloc] <;> omega)) _ | refine below_setRow ?_ (by first | omega | (simp <;> omega)) _ | refine Below.setCell ?_ (by first | omega | (simp <;> omega)) _))))
  have C := Lib.hid (gfour gg gc gb gm 2 L _ _ _ w.drew PD.out.gu (PD.out.fld (by decide)))
  go_region_held3 (fun w' => True) (first | assumption | go_keep) ((go_at_call 113; with_reducible refine C.out.mono ?_; rintro e w1 ⟨V, hv, rfl, hok, hg⟩; have H1 := Lib.hid (And.intro hv (And.intro hok hg)); clear C))
  have P1 : Hid (GM w w1 gg gc gb gm L (st.adv L 4) { mZ 1 c with param := V }) := Lib.hid (by have q := PD.out.got1 H1.out.2.2; rw [sM2] at q; exact q)
  have O1 := Lib.hid (And.intro H1.out.1 H1.out.2.1)
  clear H1 PD P0 c0 lm
  have lm2 := bk_lt P1.out.bx.kb
  go_upto_region 10 with fail
  have PD := Lib.hid ((P1).out.next (w' := (w1).drew) (by (repeat (first | exact Below.refl _ _ | assumption | refine Below.drew ?_ | refine bdrewN ?_ _ | refine Below.alloc ?_ (by first | omega | (simp <;> omega) | (simp only [World.size_alloc] <;> omega)) _ | refine below_setRow ?_ (by first | omega | (simp <;> omega)) _ | refine Below.setCell ?_ (by first | omega | (simp <;> omega)) _))))
  have C := Lib.hid (grest gg gc gb gm 3 L _ _ _ w1.drew PD.out.gu (PD.out.fld (by decide)))
  go_region_held3 (fun w' => True) (first | assumption | go_keep) ((go_at_call 118; with_reducible refine C.out.mono ?_; rintro e w2 ⟨A, j, rfl, hok, hg⟩; have H2 := Lib.hid (And.intro hok hg); clear C))
  obtain ⟨dd, hdl, hdd⟩ := rest_dd H2.out.1
  have q1 : GM w w2 gg gc gb gm L ((st.adv L 4).rst L) { mZ 1 c with param := V, DA := A, dd := dd, dc := dd.length } := by
    have q := PD.out.got1 H2.out.2
    rw [← hdl, sM3] at q
    exact q
  have FX : Hid (GotP w w2 gg gc gb gm L st (mZ 1 c)) := Lib.hid ⟨_, _, q1, by
    unfold PartG
    rw [if_neg (show ¬ (mZ 1 c).pl.kind = 130 from (by decide : ¬ ((1 : UInt8) = 130)))]
    rw [if_neg (show ¬ (mZ 1 c).pl.kind = 143 from (by decide : ¬ ((1 : UInt8) = 143)))]
    rw [if_neg (show ¬ (mZ 1 c).pl.kind = 134 from (by decide : ¬ ((1 : UInt8) = 134)))]
    rw [if_neg (show ¬ (mZ 1 c).pl.kind = 133 from (by decide : ¬ ((1 : UInt8) = 133)))]
    rw [if_neg (show ¬ (mZ 1 c).pl.kind = 135 from (by decide : ¬ ((1 : UInt8) = 135)))]
    rw [if_neg (show ¬ (mZ 1 c).pl.kind = 136 from (by decide : ¬ ((1 : UInt8) = 136)))]
    rw [if_neg (show ¬ (mZ 1 c).pl.kind = 137 from (by decide : ¬ ((1 : UInt8) = 137)))]
    exact ⟨_, _, rfl, O1.out.2, O1.out.1, fun q e => (hdd q e).1, rfl⟩, fun q e => by
    have hq : ∃ q0, st.adv L 4 = .ok q0 := by
      cases h5 : st.adv L 4 with
      | ok q0 => exact ⟨q0, rfl⟩
      | short => rw [h5] at e; cases e
      | form => rw [h5] at e; cases e
    obtain ⟨q0, hq0⟩ := hq
    have this := ok_data (n := w.heap.size) (k := 1) (c := c) (V := V) q1.gu.pb (by have := q1.gu.lt; have := q1.gu.bc; omega) (hdd q0 hq0) O1.out.1 HL.out
    exact ⟨this.1, this.2, rfl, rfl⟩⟩
  clear q1 hdl hdd PD P1 H2 O1
  go_wp2_with fail
  go_ret
  exact ⟨rfl, FX.out⟩
theorem p2_get (gg gc gb gm : Nat) (c : UInt8) (L : List UInt8) (st : GS) (w : World) (h : GU w gg gc gb L st) (hx : Bx w gg gc gb gm 0 (mC (mZ 2 c)) 33) (hL : L.length < 2 ^ 40) :
    Calls Try.prog 31 #[sideG gg, .pointer (some ⟨gm, 0, none⟩)] w fun e w' => e = .returned (.bool true) ∧ GotP w w' gg gc gb gm L st (mZ 2 c) := by
  have c0 : w.cell? ⟨gm, 0, none⟩ = some (.int .u8 2) := by rw [bk_cell hx.kb, mC_0]; rfl
  have lm := bk_lt hx.kb
  have P0 := Lib.hid (GT.start h hx)
  have HL := Lib.hid hL
  clear h hx hL
  go_enter Try.func31, Try.ntmps31
  go_upto_region 9 with fail
  have PD := Lib.hid ((P0).out.next (w' := (w).drew) (by (repeat (first | exact Below.refl _ _ | assumption | refine Below.drew ?_ | refine bdrewN ?_ _ | refine Below.alloc ?_ (by first | omega | (simp <;> omega) | (simp only [World.size_alloc] <;> omega)) _ | refine below_setRow ?_ (by first | omega | (simp <;> omega)) _ | refine Below.setCell ?_ (by first | omega | (simp <;> omega)) _))))
  have C := Lib.hid (gfour gg gc gb gm 2 L _ _ _ w.drew PD.out.gu (PD.out.fld (by decide)))
  go_region_held3 (fun w' => True) (first | assumption | go_keep) ((go_at_call 113; with_reducible refine C.out.mono ?_; rintro e w1 ⟨V, hv, rfl, hok, hg⟩; have H1 := Lib.hid (And.intro hv (And.intro hok hg)); clear C))
  have P1 : Hid (GM w w1 gg gc gb gm L (st.adv L 4) { mZ 2 c with param := V }) := Lib.hid (by have q := PD.out.got1 H1.out.2.2; rw [sM2] at q; exact q)
  have O1 := Lib.hid (And.intro H1.out.1 H1.out.2.1)
  clear H1 PD P0 c0 lm
  have lm2 := bk_lt P1.out.bx.kb
  go_upto_region 10 with fail
  have PD := Lib.hid ((P1).out.next (w' := (w1).drew) (by (repeat (first | exact Below.refl _ _ | assumption | refine Below.drew ?_ | refine bdrewN ?_ _ | refine Below.alloc ?_ (by first | omega | (simp <;> omega) | (simp only [World.size_alloc] <;> omega)) _ | refine below_setRow ?_ (by first | omega | (simp <;> omega)) _ | refine Below.setCell ?_ (by first | omega | (simp <;> omega)) _))))
  have C := Lib.hid (grest gg gc gb gm 3 L _ _ _ w1.drew PD.out.gu (PD.out.fld (by decide)))
  go_region_held3 (fun w' => True) (first | assumption | go_keep) ((go_at_call 118; with_reducible refine C.out.mono ?_; rintro e w2 ⟨A, j, rfl, hok, hg⟩; have H2 := Lib.hid (And.intro hok hg); clear C))
  obtain ⟨dd, hdl, hdd⟩ := rest_dd H2.out.1
  have q1 : GM w w2 gg gc gb gm L ((st.adv L 4).rst L) { mZ 2 c with param := V, DA := A, dd := dd, dc := dd.length } := by
    have q := PD.out.got1 H2.out.2
    rw [← hdl, sM3] at q
    exact q
  have FX : Hid (GotP w w2 gg gc gb gm L st (mZ 2 c)) := Lib.hid ⟨_, _, q1, by
    unfold PartG
    rw [if_neg (show ¬ (mZ 2 c).pl.kind = 130 from (by decide : ¬ ((2 : UInt8) = 130)))]
    rw [if_neg (show ¬ (mZ 2 c).pl.kind = 143 from (by decide : ¬ ((2 : UInt8) = 143)))]
    rw [if_neg (show ¬ (mZ 2 c).pl.kind = 134 from (by decide : ¬ ((2 : UInt8) = 134)))]
    rw [if_neg (show ¬ (mZ 2 c).pl.kind = 133 from (by decide : ¬ ((2 : UInt8) = 133)))]
    rw [if_neg (show ¬ (mZ 2 c).pl.kind = 135 from (by decide : ¬ ((2 : UInt8) = 135)))]
    rw [if_neg (show ¬ (mZ 2 c).pl.kind = 136 from (by decide : ¬ ((2 : UInt8) = 136)))]
    rw [if_neg (show ¬ (mZ 2 c).pl.kind = 137 from (by decide : ¬ ((2 : UInt8) = 137)))]
    exact ⟨_, _, rfl, O1.out.2, O1.out.1, fun q e => (hdd q e).1, rfl⟩, fun q e => by
    have hq : ∃ q0, st.adv L 4 = .ok q0 := by
      cases h5 : st.adv L 4 with
      | ok q0 => exact ⟨q0, rfl⟩
      | short => rw [h5] at e; cases e
      | form => rw [h5] at e; cases e
    obtain ⟨q0, hq0⟩ := hq
    have this := ok_data (n := w.heap.size) (k := 2) (c := c) (V := V) q1.gu.pb (by have := q1.gu.lt; have := q1.gu.bc; omega) (hdd q0 hq0) O1.out.1 HL.out
    exact ⟨this.1, this.2, rfl, rfl⟩⟩
  clear q1 hdl hdd PD P1 H2 O1
  go_wp2_with fail
  go_ret
  exact ⟨rfl, FX.out⟩
theorem p3_get (gg gc gb gm : Nat) (c : UInt8) (L : List UInt8) (st : GS) (w : World) (h : GU w gg gc gb L st) (hx : Bx w gg gc gb gm 0 (mC (mZ 3 c)) 33) (hL : L.length < 2 ^ 40) :
    Calls Try.prog 31 #[sideG gg, .pointer (some ⟨gm, 0, none⟩)] w fun e w' => e = .returned (.bool true) ∧ GotP w w' gg gc gb gm L st (mZ 3 c) := by
  have c0 : w.cell? ⟨gm, 0, none⟩ = some (.int .u8 3) := by rw [bk_cell hx.kb, mC_0]; rfl
  have lm := bk_lt hx.kb
  have P0 := Lib.hid (GT.start h hx)
  have HL := Lib.hid hL
  clear h hx hL
  go_enter Try.func31, Try.ntmps31
  go_upto_region 9 with fail
  have PD := Lib.hid ((P0).out.next (w' := (w).drew) (by (repeat (first | exact Below.refl _ _ | assumption | refine Below.drew ?_ | refine bdrewN ?_ _ | refine Below.alloc ?_ (by first | omega | (simp <;> omega) | (simp only [World.size_alloc] <;> omega)) _ | refine below_setRow ?_ (by first | omega | (simp <;> omega)) _ | refine Below.setCell ?_ (by first | omega | (simp <;> omega)) _))))
  have C := Lib.hid (gfour gg gc gb gm 2 L _ _ _ w.drew PD.out.gu (PD.out.fld (by decide)))
  go_region_held3 (fun w' => True) (first | assumption | go_keep) ((go_at_call 113; with_reducible refine C.out.mono ?_; rintro e w1 ⟨V, hv, rfl, hok, hg⟩; have H1 := Lib.hid (And.intro hv (And.intro hok hg)); clear C))
  have P1 : Hid (GM w w1 gg gc gb gm L (st.adv L 4) { mZ 3 c with param := V }) := Lib.hid (by have q := PD.out.got1 H1.out.2.2; rw [sM2] at q; exact q)
  have O1 := Lib.hid (And.intro H1.out.1 H1.out.2.1)
  clear H1 PD P0 c0 lm
  have lm2 := bk_lt P1.out.bx.kb
  go_upto_region 10 with fail
  have PD := Lib.hid ((P1).out.next (w' := (w1).drew) (by (repeat (first | exact Below.refl _ _ | assumption | refine Below.drew ?_ | refine bdrewN ?_ _ | refine Below.alloc ?_ (by first | omega | (simp <;> omega) | (simp only [World.size_alloc] <;> omega)) _ | refine below_setRow ?_ (by first | omega | (simp <;> omega)) _ | refine Below.setCell ?_ (by first | omega | (simp <;> omega)) _))))
  have C := Lib.hid (grest gg gc gb gm 3 L _ _ _ w1.drew PD.out.gu (PD.out.fld (by decide)))
  go_region_held3 (fun w' => True) (first | assumption | go_keep) ((go_at_call 118; with_reducible refine C.out.mono ?_; rintro e w2 ⟨A, j, rfl, hok, hg⟩; have H2 := Lib.hid (And.intro hok hg); clear C))
  obtain ⟨dd, hdl, hdd⟩ := rest_dd H2.out.1
  have q1 : GM w w2 gg gc gb gm L ((st.adv L 4).rst L) { mZ 3 c with param := V, DA := A, dd := dd, dc := dd.length } := by
    have q := PD.out.got1 H2.out.2
    rw [← hdl, sM3] at q
    exact q
  have FX : Hid (GotP w w2 gg gc gb gm L st (mZ 3 c)) := Lib.hid ⟨_, _, q1, by
    unfold PartG
    rw [if_neg (show ¬ (mZ 3 c).pl.kind = 130 from (by decide : ¬ ((3 : UInt8) = 130)))]
    rw [if_neg (show ¬ (mZ 3 c).pl.kind = 143 from (by decide : ¬ ((3 : UInt8) = 143)))]
    rw [if_neg (show ¬ (mZ 3 c).pl.kind = 134 from (by decide : ¬ ((3 : UInt8) = 134)))]
    rw [if_neg (show ¬ (mZ 3 c).pl.kind = 133 from (by decide : ¬ ((3 : UInt8) = 133)))]
    rw [if_neg (show ¬ (mZ 3 c).pl.kind = 135 from (by decide : ¬ ((3 : UInt8) = 135)))]
    rw [if_neg (show ¬ (mZ 3 c).pl.kind = 136 from (by decide : ¬ ((3 : UInt8) = 136)))]
    rw [if_neg (show ¬ (mZ 3 c).pl.kind = 137 from (by decide : ¬ ((3 : UInt8) = 137)))]
    exact ⟨_, _, rfl, O1.out.2, O1.out.1, fun q e => (hdd q e).1, rfl⟩, fun q e => by
    have hq : ∃ q0, st.adv L 4 = .ok q0 := by
      cases h5 : st.adv L 4 with
      | ok q0 => exact ⟨q0, rfl⟩
      | short => rw [h5] at e; cases e
      | form => rw [h5] at e; cases e
    obtain ⟨q0, hq0⟩ := hq
    have this := ok_data (n := w.heap.size) (k := 3) (c := c) (V := V) q1.gu.pb (by have := q1.gu.lt; have := q1.gu.bc; omega) (hdd q0 hq0) O1.out.1 HL.out
    exact ⟨this.1, this.2, rfl, rfl⟩⟩
  clear q1 hdl hdd PD P1 H2 O1
  go_wp2_with fail
  go_ret
  exact ⟨rfl, FX.out⟩
theorem p4_get (gg gc gb gm : Nat) (c : UInt8) (L : List UInt8) (st : GS) (w : World) (h : GU w gg gc gb L st) (hx : Bx w gg gc gb gm 0 (mC (mZ 4 c)) 33) (hL : L.length < 2 ^ 40) :
    Calls Try.prog 31 #[sideG gg, .pointer (some ⟨gm, 0, none⟩)] w fun e w' => e = .returned (.bool true) ∧ GotP w w' gg gc gb gm L st (mZ 4 c) := by
  have c0 : w.cell? ⟨gm, 0, none⟩ = some (.int .u8 4) := by rw [bk_cell hx.kb, mC_0]; rfl
  have lm := bk_lt hx.kb
  have P0 := Lib.hid (GT.start h hx)
  have HL := Lib.hid hL
  clear h hx hL
  go_enter Try.func31, Try.ntmps31
  go_upto_region 9 with fail
  have PD := Lib.hid ((P0).out.next (w' := (w).drew) (by (repeat (first | exact Below.refl _ _ | assumption | refine Below.drew ?_ | refine bdrewN ?_ _ | refine Below.alloc ?_ (by first | omega | (simp <;> omega) | (simp only [World.size_alloc] <;> omega)) _ | refine below_setRow ?_ (by first | omega | (simp <;> omega)) _ | refine Below.setCell ?_ (by first | omega | (simp <;> omega)) _))))
  have C := Lib.hid (gfour gg gc gb gm 2 L _ _ _ w.drew PD.out.gu (PD.out.fld (by decide)))
  go_region_held3 (fun w' => True) (first | assumption | go_keep) ((go_at_call 113; with_reducible refine C.out.mono ?_; rintro e w1 ⟨V, hv, rfl, hok, hg⟩; have H1 := Lib.hid (And.intro hv (And.intro hok hg)); clear C))
  have P1 : Hid (GM w w1 gg gc gb gm L (st.adv L 4) { mZ 4 c with param := V }) := Lib.hid (by have q := PD.out.got1 H1.out.2.2; rw [sM2] at q; exact q)
  have O1 := Lib.hid (And.intro H1.out.1 H1.out.2.1)
  clear H1 PD P0 c0 lm
  have lm2 := bk_lt P1.out.bx.kb
  go_upto_region 10 with fail
  have PD := Lib.hid ((P1).out.next (w' := (w1).drew) (by (repeat (first | exact Below.refl _ _ | assumption | refine Below.drew ?_ | refine bdrewN ?_ _ | refine Below.alloc ?_ (by first | omega | (simp <;> omega) | (simp only [World.size_alloc] <;> omega)) _ | refine below_setRow ?_ (by first | omega | (simp <;> omega)) _ | refine Below.setCell ?_ (by first | omega | (simp <;> omega)) _))))
  have C := Lib.hid (grest gg gc gb gm 3 L _ _ _ w1.drew PD.out.gu (PD.out.fld (by decide)))
  go_region_held3 (fun w' => True) (first | assumption | go_keep) ((go_at_call 118; with_reducible refine C.out.mono ?_; rintro e w2 ⟨A, j, rfl, hok, hg⟩; have H2 := Lib.hid (And.intro hok hg); clear C))
  obtain ⟨dd, hdl, hdd⟩ := rest_dd H2.out.1
  have q1 : GM w w2 gg gc gb gm L ((st.adv L 4).rst L) { mZ 4 c with param := V, DA := A, dd := dd, dc := dd.length } := by
    have q := PD.out.got1 H2.out.2
    rw [← hdl, sM3] at q
    exact q
  have FX : Hid (GotP w w2 gg gc gb gm L st (mZ 4 c)) := Lib.hid ⟨_, _, q1, by
    unfold PartG
    rw [if_neg (show ¬ (mZ 4 c).pl.kind = 130 from (by decide : ¬ ((4 : UInt8) = 130)))]
    rw [if_neg (show ¬ (mZ 4 c).pl.kind = 143 from (by decide : ¬ ((4 : UInt8) = 143)))]
    rw [if_neg (show ¬ (mZ 4 c).pl.kind = 134 from (by decide : ¬ ((4 : UInt8) = 134)))]
    rw [if_neg (show ¬ (mZ 4 c).pl.kind = 133 from (by decide : ¬ ((4 : UInt8) = 133)))]
    rw [if_neg (show ¬ (mZ 4 c).pl.kind = 135 from (by decide : ¬ ((4 : UInt8) = 135)))]
    rw [if_neg (show ¬ (mZ 4 c).pl.kind = 136 from (by decide : ¬ ((4 : UInt8) = 136)))]
    rw [if_neg (show ¬ (mZ 4 c).pl.kind = 137 from (by decide : ¬ ((4 : UInt8) = 137)))]
    exact ⟨_, _, rfl, O1.out.2, O1.out.1, fun q e => (hdd q e).1, rfl⟩, fun q e => by
    have hq : ∃ q0, st.adv L 4 = .ok q0 := by
      cases h5 : st.adv L 4 with
      | ok q0 => exact ⟨q0, rfl⟩
      | short => rw [h5] at e; cases e
      | form => rw [h5] at e; cases e
    obtain ⟨q0, hq0⟩ := hq
    have this := ok_data (n := w.heap.size) (k := 4) (c := c) (V := V) q1.gu.pb (by have := q1.gu.lt; have := q1.gu.bc; omega) (hdd q0 hq0) O1.out.1 HL.out
    exact ⟨this.1, this.2, rfl, rfl⟩⟩
  clear q1 hdl hdd PD P1 H2 O1
  go_wp2_with fail
  go_ret
  exact ⟨rfl, FX.out⟩
theorem p128_get (gg gc gb gm : Nat) (c : UInt8) (L : List UInt8) (st : GS) (w : World) (h : GU w gg gc gb L st) (hx : Bx w gg gc gb gm 0 (mC (mZ 128 c)) 33) (hL : L.length < 2 ^ 40) :
    Calls Try.prog 31 #[sideG gg, .pointer (some ⟨gm, 0, none⟩)] w fun e w' => e = .returned (.bool true) ∧ GotP w w' gg gc gb gm L st (mZ 128 c) := by
  have c0 : w.cell? ⟨gm, 0, none⟩ = some (.int .u8 128) := by rw [bk_cell hx.kb, mC_0]; rfl
  have lm := bk_lt hx.kb
  have P0 := Lib.hid (GT.start h hx)
  have HL := Lib.hid hL
  clear h hx hL
  go_enter Try.func31, Try.ntmps31
  go_upto_region 9 with fail
  have PD := Lib.hid ((P0).out.next (w' := (w).drew) (by (repeat (first | exact Below.refl _ _ | assumption | refine Below.drew ?_ | refine bdrewN ?_ _ | refine Below.alloc ?_ (by first | omega | (simp <;> omega) | (simp only [World.size_alloc] <;> omega)) _ | refine below_setRow ?_ (by first | omega | (simp <;> omega)) _ | refine Below.setCell ?_ (by first | omega | (simp <;> omega)) _))))
  have C := Lib.hid (gfour gg gc gb gm 2 L _ _ _ w.drew PD.out.gu (PD.out.fld (by decide)))
  go_region_held3 (fun w' => True) (first | assumption | go_keep) ((go_at_call 113; with_reducible refine C.out.mono ?_; rintro e w1 ⟨V, hv, rfl, hok, hg⟩; have H1 := Lib.hid (And.intro hv (And.intro hok hg)); clear C))
  have P1 : Hid (GM w w1 gg gc gb gm L (st.adv L 4) { mZ 128 c with param := V }) := Lib.hid (by have q := PD.out.got1 H1.out.2.2; rw [sM2] at q; exact q)
  have O1 := Lib.hid (And.intro H1.out.1 H1.out.2.1)
  clear H1 PD P0 c0 lm
  have lm2 := bk_lt P1.out.bx.kb
  go_upto_region 10 with fail
  have PD := Lib.hid ((P1).out.next (w' := (w1).drew) (by (repeat (first | exact Below.refl _ _ | assumption | refine Below.drew ?_ | refine bdrewN ?_ _ | refine Below.alloc ?_ (by first | omega | (simp <;> omega) | (simp only [World.size_alloc] <;> omega)) _ | refine below_setRow ?_ (by first | omega | (simp <;> omega)) _ | refine Below.setCell ?_ (by first | omega | (simp <;> omega)) _))))
  have C := Lib.hid (grest gg gc gb gm 3 L _ _ _ w1.drew PD.out.gu (PD.out.fld (by decide)))
  go_region_held3 (fun w' => True) (first | assumption | go_keep) ((go_at_call 118; with_reducible refine C.out.mono ?_; rintro e w2 ⟨A, j, rfl, hok, hg⟩; have H2 := Lib.hid (And.intro hok hg); clear C))
  obtain ⟨dd, hdl, hdd⟩ := rest_dd H2.out.1
  have q1 : GM w w2 gg gc gb gm L ((st.adv L 4).rst L) { mZ 128 c with param := V, DA := A, dd := dd, dc := dd.length } := by
    have q := PD.out.got1 H2.out.2
    rw [← hdl, sM3] at q
    exact q
  have FX : Hid (GotP w w2 gg gc gb gm L st (mZ 128 c)) := Lib.hid ⟨_, _, q1, by
    unfold PartG
    rw [if_neg (show ¬ (mZ 128 c).pl.kind = 130 from (by decide : ¬ ((128 : UInt8) = 130)))]
    rw [if_neg (show ¬ (mZ 128 c).pl.kind = 143 from (by decide : ¬ ((128 : UInt8) = 143)))]
    rw [if_neg (show ¬ (mZ 128 c).pl.kind = 134 from (by decide : ¬ ((128 : UInt8) = 134)))]
    rw [if_neg (show ¬ (mZ 128 c).pl.kind = 133 from (by decide : ¬ ((128 : UInt8) = 133)))]
    rw [if_neg (show ¬ (mZ 128 c).pl.kind = 135 from (by decide : ¬ ((128 : UInt8) = 135)))]
    rw [if_neg (show ¬ (mZ 128 c).pl.kind = 136 from (by decide : ¬ ((128 : UInt8) = 136)))]
    rw [if_neg (show ¬ (mZ 128 c).pl.kind = 137 from (by decide : ¬ ((128 : UInt8) = 137)))]
    exact ⟨_, _, rfl, O1.out.2, O1.out.1, fun q e => (hdd q e).1, rfl⟩, fun q e => by
    have hq : ∃ q0, st.adv L 4 = .ok q0 := by
      cases h5 : st.adv L 4 with
      | ok q0 => exact ⟨q0, rfl⟩
      | short => rw [h5] at e; cases e
      | form => rw [h5] at e; cases e
    obtain ⟨q0, hq0⟩ := hq
    have this := ok_data (n := w.heap.size) (k := 128) (c := c) (V := V) q1.gu.pb (by have := q1.gu.lt; have := q1.gu.bc; omega) (hdd q0 hq0) O1.out.1 HL.out
    exact ⟨this.1, this.2, rfl, rfl⟩⟩
  clear q1 hdl hdd PD P1 H2 O1
  go_wp2_with fail
  go_ret
  exact ⟨rfl, FX.out⟩
theorem p129_get (gg gc gb gm : Nat) (c : UInt8) (L : List UInt8) (st : GS) (w : World) (h : GU w gg gc gb L st) (hx : Bx w gg gc gb gm 0 (mC (mZ 129 c)) 33) (hL : L.length < 2 ^ 40) :
    Calls Try.prog 31 #[sideG gg, .pointer (some ⟨gm, 0, none⟩)] w fun e w' => e = .returned (.bool true) ∧ GotP w w' gg gc gb gm L st (mZ 129 c) := by
  have c0 : w.cell? ⟨gm, 0, none⟩ = some (.int .u8 129) := by rw [bk_cell hx.kb, mC_0]; rfl
  have lm := bk_lt hx.kb
  have P0 := Lib.hid (GT.start h hx)
  have HL := Lib.hid hL
  clear h hx hL
  go_enter Try.func31, Try.ntmps31
  go_upto_region 9 with fail
  have PD := Lib.hid ((P0).out.next (w' := (w).drew) (by (repeat (first | exact Below.refl _ _ | assumption | refine Below.drew ?_ | refine bdrewN ?_ _ | refine Below.alloc ?_ (by first | omega | (simp <;> omega) | (simp only [World.size_alloc] <;> omega)) _ | refine below_setRow ?_ (by first | omega | (simp <;> omega)) _ | refine Below.setCell ?_ (by first | omega | (simp <;> omega)) _))))
  have C := Lib.hid (gfour gg gc gb gm 2 L _ _ _ w.drew PD.out.gu (PD.out.fld (by decide)))
  go_region_held3 (fun w' => True) (first | assumption | go_keep) ((go_at_call 113; with_reducible refine C.out.mono ?_; rintro e w1 ⟨V, hv, rfl, hok, hg⟩; have H1 := Lib.hid (And.intro hv (And.intro hok hg)); clear C))
  have P1 : Hid (GM w w1 gg gc gb gm L (st.adv L 4) { mZ 129 c with param := V }) := Lib.hid (by have q := PD.out.got1 H1.out.2.2; rw [sM2] at q; exact q)
  have O1 := Lib.hid (And.intro H1.out.1 H1.out.2.1)
  clear H1 PD P0 c0 lm
  have lm2 := bk_lt P1.out.bx.kb
  go_upto_region 10 with fail
  have PD := Lib.hid ((P1).out.next (w' := (w1).drew) (by (repeat (first | exact Below.refl _ _ | assumption | refine Below.drew ?_ | refine bdrewN ?_ _ | refine Below.alloc ?_ (by first | omega | (simp <;> omega) | (simp only [World.size_alloc] <;> omega)) _ | refine below_setRow ?_ (by first | omega | (simp <;> omega)) _ | refine Below.setCell ?_ (by first | omega | (simp <;> omega)) _))))
  have C := Lib.hid (grest gg gc gb gm 3 L _ _ _ w1.drew PD.out.gu (PD.out.fld (by decide)))
  go_region_held3 (fun w' => True) (first | assumption | go_keep) ((go_at_call 118; with_reducible refine C.out.mono ?_; rintro e w2 ⟨A, j, rfl, hok, hg⟩; have H2 := Lib.hid (And.intro hok hg); clear C))
  obtain ⟨dd, hdl, hdd⟩ := rest_dd H2.out.1
  have q1 : GM w w2 gg gc gb gm L ((st.adv L 4).rst L) { mZ 129 c with param := V, DA := A, dd := dd, dc := dd.length } := by
    have q := PD.out.got1 H2.out.2
    rw [← hdl, sM3] at q
    exact q
  have FX : Hid (GotP w w2 gg gc gb gm L st (mZ 129 c)) := Lib.hid ⟨_, _, q1, by
    unfold PartG
    rw [if_neg (show ¬ (mZ 129 c).pl.kind = 130 from (by decide : ¬ ((129 : UInt8) = 130)))]
    rw [if_neg (show ¬ (mZ 129 c).pl.kind = 143 from (by decide : ¬ ((129 : UInt8) = 143)))]
    rw [if_neg (show ¬ (mZ 129 c).pl.kind = 134 from (by decide : ¬ ((129 : UInt8) = 134)))]
    rw [if_neg (show ¬ (mZ 129 c).pl.kind = 133 from (by decide : ¬ ((129 : UInt8) = 133)))]
    rw [if_neg (show ¬ (mZ 129 c).pl.kind = 135 from (by decide : ¬ ((129 : UInt8) = 135)))]
    rw [if_neg (show ¬ (mZ 129 c).pl.kind = 136 from (by decide : ¬ ((129 : UInt8) = 136)))]
    rw [if_neg (show ¬ (mZ 129 c).pl.kind = 137 from (by decide : ¬ ((129 : UInt8) = 137)))]
    exact ⟨_, _, rfl, O1.out.2, O1.out.1, fun q e => (hdd q e).1, rfl⟩, fun q e => by
    have hq : ∃ q0, st.adv L 4 = .ok q0 := by
      cases h5 : st.adv L 4 with
      | ok q0 => exact ⟨q0, rfl⟩
      | short => rw [h5] at e; cases e
      | form => rw [h5] at e; cases e
    obtain ⟨q0, hq0⟩ := hq
    have this := ok_data (n := w.heap.size) (k := 129) (c := c) (V := V) q1.gu.pb (by have := q1.gu.lt; have := q1.gu.bc; omega) (hdd q0 hq0) O1.out.1 HL.out
    exact ⟨this.1, this.2, rfl, rfl⟩⟩
  clear q1 hdl hdd PD P1 H2 O1
  go_wp2_with fail
  go_ret
  exact ⟨rfl, FX.out⟩
end Go.Proofs.Ytjimmfbjhkoekaa
