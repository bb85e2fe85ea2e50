import Derived.Test.YtjimmfbjhkoekaaMgW
/- Icmps: parts, got: a question. -/
namespace Go.Proofs.Ytjimmfbjhkoekaa
open Go.RowKit
set_option maxRecDepth 100000
set_option maxHeartbeats 1000000
theorem rws_flat {w : World} {g : Nat} {t : TypeId} {fr : Nat × Nat} {zs : List (List UInt8)} (h16 : ∀ z ∈ zs, z.length = 16) (hb : bk w g = some (.cells (zs.flatten.map B).toArray t fr)) : Rws 16 (fun z : List UInt8 => (z.map B).toArray) w w.heap.size (some ⟨g, 0, none⟩) zs := fun _ =>
  ⟨g, 0, _, t, fr, rfl, bk_lt hb, hb, fun j hj => by
    have hfl := flat16 h16
    have hz := h16 _ (List.getElem_mem hj)
    refine ⟨by simp only [List.size_toArray, List.length_map]; rw [hfl]; omega, ?_⟩
    apply Array.ext_getElem?
    intro i
    unfold xt
    rw [Array.getElem?_extract]
    by_cases hi : i < 16
    · have hlt : 0 + j * 16 + i < 0 + j * 16 + 16 := by omega
      have e1 : (j * 16 + i) / 16 = j := by omega
      have e2 : (j * 16 + i) % 16 = i := by omega
      have hm : min (0 + j * 16 + 16) (zs.flatten.map B).toArray.size = 0 + j * 16 + 16 := by simp only [List.size_toArray, List.length_map]; rw [hfl]; omega
      rw [hm, if_pos (by omega), Nat.zero_add, List.getElem?_toArray, ← adr_flat, flat_at (fun z => (adr z).toList) 16 (by decide) zs (j * 16 + i) (fun z hz => by simpa using h16 z hz) (by rw [e1]; exact hj)]
      simp only [e1, e2]
      first | rfl | simp
    · rw [if_neg (by omega), Array.getElem?_eq_none (by simp; omega)]⟩
theorem parts1_get (w : World) : Calls Try.prog 62 #[] w fun e w' => e = .returned (.tuple #[]) ∧ w = w' := by
  go_enter Try.func62, Try.ntmps62
  go_wp2_with fail
  go_end0
  exact ⟨rfl, rfl⟩
theorem ok_srcs {w : World} {n gb gs : Nat} {m : Mv} {zs : List (List UInt8)} (hm : m.DA = none ∧ m.dd = [] ∧ m.dc = 0 ∧ m.OA = none ∧ m.os = [] ∧ m.oc = 0 ∧ m.RA = none ∧ m.rs = [] ∧ m.rc = 0) (b : m.param < 4294967296 ∧ m.life < 65536 ∧ m.reach < 4294967296 ∧ m.retr < 4294967296 ∧ m.mx < 65536) (h16 : ∀ z ∈ zs, z.length = 16) (hN : zs.length ≤ 64) (hg : n ≤ gs) (hb : bk w gs = some (.cells (zs.flatten.map B).toArray 23 (0, 0))) :
    MvOk w w.heap.size { m with SA := some ⟨gs, 0, none⟩, ss := zs, sc := zs.length } ∧ Fr w n gb { m with SA := some ⟨gs, 0, none⟩, ss := zs, sc := zs.length } := by
  obtain ⟨k, c, pa, DA, dd, dc, ho, fl, li, re, rt, tg, ds, OA, os, oc, mx, gr, ro, it, SA, ss, sc, RA, rs, rc, _, _, _⟩ := m
  obtain ⟨rfl, rfl, rfl, rfl, rfl, rfl, rfl, rfl, rfl⟩ := hm
  obtain ⟨b1, b2, b3, b4, b5⟩ := b
  simp only at b1 b2 b3 b4 b5
  exact ⟨⟨Rd.nil, fun _ => ⟨rfl, rfl⟩, Nat.le_refl _, by simp only; decide, ⟨Rws.nil, fun x hx => by simp at hx⟩, Nat.le_refl _, by simp only; decide, rws_flat h16 hb, h16, Nat.le_refl _, by simp only; omega, Rws.nil, fun r hr => by simp at hr, Nat.le_refl _, by simp only; decide, b1, b2, b3, b4, b5⟩,
    ⟨fun e => absurd rfl e, rfl, ⟨0, 0, fun e => absurd rfl e, LayAt.nil _ _, (fun a e => by cases e), fun e => absurd rfl e⟩, rfl, fun _ => ⟨gs, rfl, hg, ⟨_, hb⟩⟩, rfl, fun i h => absurd h (by simp), fun i j h => absurd h (by simp), (fun a e => by cases e), rfl, fun e => absurd rfl e⟩⟩
theorem p130_get (gg gc gb gm : Nat) (c : UInt8) (L : List UInt8) (st : GS) (w : World) (h : GU w gg gc gb L st) (hx : Bx w gg gc gb gm 0 (mC (mZ 130 c)) 33) :
    Calls Try.prog 31 #[sideG gg, .pointer (some ⟨gm, 0, none⟩)] w fun e w' => e = .returned (.bool true) ∧ GotP w w' gg gc gb gm L st (mZ 130 c) := by
  have c0 : w.cell? ⟨gm, 0, none⟩ = some (.int .u8 130) := by rw [bk_cell hx.kb, mC_0]; rfl
  have lm := bk_lt hx.kb
  have P0 := Lib.hid (GT.start h hx)
  clear h hx
  go_enter Try.func31, Try.ntmps31
  go_upto_region 12 with fail
  have PD := Lib.hid ((P0).out.next (w' := (w).drew) (by (repeat (first | exact Below.refl _ _ | assumption | refine Below.drew ?_ | refine bdrewN ?_ _ | refine Below.alloc ?_ (by first | omega | (simp <;> omega) | (simp only [World.size_alloc] <;> omega)) _ | refine below_setRow ?_ (by first | omega | (simp <;> omega)) _ | refine Below.setCell ?_ (by first | omega | (simp <;> omega)) _))))
  have C := Lib.hid (gtwo gg gc gb gm 42 L _ _ _ w.drew PD.out.gu (PD.out.fld (by decide)))
  go_region_held3 (fun w' => True) (first | assumption | go_keep) ((go_at_call 119; with_reducible refine C.out.mono ?_; rintro e w1 ⟨mx, hv, rfl, hok, hg⟩; have H1 := Lib.hid (And.intro hv (And.intro hok hg)); clear C))
  have P1 : Hid (GM w w1 gg gc gb gm L (st.adv L 2) { mZ 130 c with mx := mx }) := Lib.hid (by have q := PD.out.got1 H1.out.2.2; rw [sM42] at q; exact q)
  have O1 := Lib.hid (And.intro H1.out.1 H1.out.2.1)
  clear H1 PD P0 c0 lm
  have C := Lib.hid (gnought gg gc gb 2 L _ _ (P1).out.gu)
  go_wp2_with fail
  refine C.out.mono ?_
  rintro e w2 ⟨rfl, h1, t1⟩
  have P2 := Lib.hid (((P1).out.got0 h1 t1).adv (c := 4) rfl)
  clear h1 t1 C
  have lm2 := bk_lt P2.out.bx.kb
  clear P1
  go_upto_region 14 with fail
  have PD := Lib.hid ((P2).out.next (w' := (w2).drew) (by (repeat (first | exact Below.refl _ _ | assumption | refine Below.drew ?_ | refine bdrewN ?_ _ | refine Below.alloc ?_ (by first | omega | (simp <;> omega) | (simp only [World.size_alloc] <;> omega)) _ | refine below_setRow ?_ (by first | omega | (simp <;> omega)) _ | refine Below.setCell ?_ (by first | omega | (simp <;> omega)) _))))
  have C := Lib.hid (gaddr gg gc gb gm 43 (grpZ { mZ 130 c with mx := mx }).1 L _ _ 33 (w2).drew PD.out.gu (PD.out.fld (by decide)) (by rw [mC_size]; decide) (grpZ { mZ 130 c with mx := mx }).2.1 (grpZ { mZ 130 c with mx := mx }).2.2)
  go_region_held3 (fun w' => True) (first | assumption | go_keep) ((go_at_call 111; with_reducible refine C.out.mono ?_; rintro e w3 ⟨z, hz, rfl, hok, hg⟩; have H3 := Lib.hid (And.intro hz (And.intro hok hg)); clear C))
  have P3 : Hid (GM w w3 gg gc gb gm L (st.adv L 20) { mZ 130 c with mx := mx, grp := z, hg := H3.out.1 }) := Lib.hid (by
    have q := PD.out.got16 H3.out.1 (by rw [mC_size]; decide) H3.out.2.2; rw [sM43 _ z H3.out.1] at q; exact q.adv rfl)
  have O3 := Lib.hid (And.intro H3.out.1 H3.out.2.1)
  clear PD P2 lm2
  have lm2 := bk_lt P3.out.bx.kb
  go_upto_region 15 with fail
  have PD := Lib.hid ((P3).out.next (w' := (w3).drew) (by (repeat (first | exact Below.refl _ _ | assumption | refine Below.drew ?_ | refine bdrewN ?_ _ | refine Below.alloc ?_ (by first | omega | (simp <;> omega) | (simp only [World.size_alloc] <;> omega)) _ | refine below_setRow ?_ (by first | omega | (simp <;> omega)) _ | refine Below.setCell ?_ (by first | omega | (simp <;> omega)) _))))
  have C := Lib.hid (gone gg gc gb gm 59 L _ _ _ w3.drew PD.out.gu (PD.out.fld (by decide)))
  go_region_held3 (fun w' => True) (first | assumption | go_keep) ((go_at_call 115; with_reducible refine C.out.mono ?_; rintro e w4 ⟨ro, rfl, hok, hg⟩; have H4 := Lib.hid (And.intro hok hg); clear C))
  have P4 : Hid (GM w w4 gg gc gb gm L (st.adv L 21) { mZ 130 c with mx := mx, grp := z, hg := H3.out.1, rob := ro }) := Lib.hid (by have q := PD.out.got1 H4.out.2; rw [sM59] at q; exact q.adv rfl)
  have O4 := Lib.hid H4.out.1
  clear H4 PD P3 lm2
  have lm2 := bk_lt P4.out.bx.kb
  go_upto_region 16 with fail
  have PD := Lib.hid ((P4).out.next (w' := (w4).drew) (by (repeat (first | exact Below.refl _ _ | assumption | refine Below.drew ?_ | refine bdrewN ?_ _ | refine Below.alloc ?_ (by first | omega | (simp <;> omega) | (simp only [World.size_alloc] <;> omega)) _ | refine below_setRow ?_ (by first | omega | (simp <;> omega)) _ | refine Below.setCell ?_ (by first | omega | (simp <;> omega)) _))))
  have C := Lib.hid (gone gg gc gb gm 60 L _ _ _ w4.drew PD.out.gu (PD.out.fld (by decide)))
  go_region_held3 (fun w' => True) (first | assumption | go_keep) ((go_at_call 115; with_reducible refine C.out.mono ?_; rintro e w5 ⟨it, rfl, hok, hg⟩; have H5 := Lib.hid (And.intro hok hg); clear C))
  have P5 : Hid (GM w w5 gg gc gb gm L (st.adv L 22) { mZ 130 c with mx := mx, grp := z, hg := H3.out.1, rob := ro, int := it }) := Lib.hid (by have q := PD.out.got1 H5.out.2; rw [sM60] at q; exact q.adv rfl)
  have O5 := Lib.hid H5.out.1
  clear H5 PD P4 lm2
  have lm2 := bk_lt P5.out.bx.kb
  obtain ⟨m5, hm5⟩ : ∃ m5, m5 = ({ mZ 130 c with mx := mx, grp := z, hg := H3.out.1, rob := ro, int := it } : Mv) := ⟨_, rfl⟩
  rw [← hm5] at P5
  have HM5 := Lib.hid hm5
  have C := Lib.hid (addrs_get gg gc gb gm 61 62 #[] (fun cur' => cur' = mC m5) ((st.adv L 22).cnt L) L (st.adv L 22) (mC m5) 33 w5 P5.out.gu (P5.out.fld (by decide)) (by rw [mC_61, hm5]; rfl) e62 (fun W hu hb ht => (parts1_get W).mono (by
    rintro e w' ⟨rfl, rfl⟩
    exact ⟨rfl, mC m5, rfl, rfl, by rw [mC_61, hm5]; rfl, hu, hb, Tn.refl _ _⟩)))
  clear hm5
  go_wp2_with fail
  refine C.out.mono ?_
  rintro e w6 ⟨rfl, cur', N, zs, gs, hN, hc, hsz, hln, h16, hoks, hgs, kgs, u6, kb6, tn6⟩
  have FX : Hid (GotP w w6 gg gc gb gm L st (mZ 130 c)) := Lib.hid (by
    subst hln
    subst hc
    rw [sM61] at kb6
    have q6 : GM w w6 gg gc gb gm L (((st.adv L 22).cnt L).adv L (16 * zs.length)) { m5 with SA := some ⟨gs, 0, none⟩, ss := zs, sc := zs.length } := ⟨u6, ⟨kb6, by rw [mC_size]; decide, P5.out.bx.n1, P5.out.bx.n2, P5.out.bx.n3⟩, P5.out.tn.trans tn6 fun j e => .inl e⟩
    have this := ok_srcs (n := w.heap.size) (gb := gb) (m := m5) (by rw [HM5.out]; exact ⟨rfl, rfl, rfl, rfl, rfl, rfl, rfl, rfl, rfl⟩) (by rw [HM5.out]; exact ⟨by simp only [mZ]; decide, by simp only [mZ]; decide, by simp only [mZ]; decide, by simp only [mZ]; decide, O1.out.1⟩) h16 hN.1 (Nat.le_trans P5.out.tn.size hgs) kgs
    refine ⟨_, _, q6, ?_, fun q _ => ⟨this.1, this.2, by rw [HM5.out], by rw [HM5.out]⟩⟩
    unfold PartG
    rw [if_pos (show (mZ 130 c).pl.kind = 130 from rfl), HM5.out]
    exact ⟨_, _, _, _, _, rfl, O1.out.2, O3.out.1, O3.out.2, O4.out, O5.out, hN, h16, hoks, rfl, O1.out.1⟩)
  clear C hN hc hsz hln h16 hoks hgs kgs u6 kb6 tn6 P5
  go_wp2_with fail
  go_ret
  exact ⟨rfl, FX.out⟩
end Go.Proofs.Ytjimmfbjhkoekaa
/- Icmps: parts, got: reports of listeners. -/
namespace Go.Proofs.Ytjimmfbjhkoekaa
open Go.RowKit
set_option maxRecDepth 100000
set_option maxHeartbeats 1000000
def zRv : Rv := ⟨0, List.replicate 16 0, none, [], 0, rfl⟩
def rowsL (ls : List Rv) : List Value := (ls.map fun r => r.row.toList).flatten
theorem rowsL_len (ls : List Rv) : (rowsL ls).length = ls.length * 18 := flat_len (fun r : Rv => r.row.toList) 18 ls (fun r _ => by simp [Rv.row_size])
theorem rowsL_split (ls : List Rv) (k : Nat) (hk : k < ls.length) : rowsL ls = rowsL (ls.take k) ++ (B ls[k].kind :: (ls[k].g.map B ++ [.slice ls[k].A ls[k].s.length ls[k].c])) ++ rowsL (ls.drop (k + 1)) := by
  have e : ls = ls.take k ++ ls[k] :: ls.drop (k + 1) := by rw [List.getElem_cons_drop hk, List.take_append_drop]
  conv => lhs; rw [e]
  unfold rowsL
  rw [List.map_append, List.flatten_append, List.map_cons, List.flatten_cons]
  simp [Rv.row]
theorem surg1 (a c g0 : List Value) (x0 s0 x : Value) (o : Nat) (ha : a.length = o) : (a ++ (x0 :: (g0 ++ [s0])) ++ c).toArray.setIfInBounds o x = ((a ++ [x]) ++ g0 ++ ([s0] ++ c)).toArray := by
  subst ha
  simp
theorem surg0 (a c g0 : List Value) (x0 s0 x : Value) (o : Nat) (ha : a.length = o) : spl ((a ++ (x0 :: (g0 ++ [s0])) ++ c).toArray.setIfInBounds o x).toList (o + 1) g0 = (a ++ (x0 :: (g0 ++ [s0])) ++ c).toArray.setIfInBounds o x := by
  rw [surg1 a c g0 x0 s0 x o ha]
  exact spl_mid (a ++ [x]) g0 ([s0] ++ c) g0 (o + 1) (by simp [ha]) rfl
theorem surg (a c g0 v : List Value) (x0 s0 x y : Value) (o : Nat) (ha : a.length = o) (hg : g0.length = 16) (hv : v.length = 16) : (spl ((a ++ (x0 :: (g0 ++ [s0])) ++ c).toArray.setIfInBounds o x).toList (o + 1) v).setIfInBounds (o + 17) y = (a ++ (x :: (v ++ [y])) ++ c).toArray := by
  rw [surg1 a c g0 x0 s0 x o ha]
  rw [show ((a ++ [x]) ++ g0 ++ ([s0] ++ c)).toArray.toList = (a ++ [x]) ++ g0 ++ ([s0] ++ c) from rfl, spl_mid (a ++ [x]) g0 ([s0] ++ c) v (o + 1) (by simp [ha]) (by rw [hv, hg])]
  subst ha
  have e : (a ++ [x] ++ v ++ ([s0] ++ c)) = (a ++ (x :: v)) ++ (s0 :: c) := by simp
  rw [e, List.setIfInBounds_toArray]
  simp [hv]
theorem recC_rows (ls : List Rv) (k : Nat) (hk : k < ls.length) (kind : UInt8) (z : List UInt8) (hz : z.length = 16) (gs : Nat) (zs : List (List UInt8)) : recC (rowsL ls).toArray (k * 18) kind z gs zs.length = (rowsL (ls.set k ⟨kind, z, some ⟨gs, 0, none⟩, zs, zs.length, hz⟩)).toArray := by
  have l1 : (rowsL (ls.take k)).length = k * 18 := by rw [rowsL_len, List.length_take]; congr 1; omega
  unfold recC
  rw [rowsL_split ls k hk, surg _ _ _ _ _ _ _ _ _ l1 (by rw [List.length_map, ls[k].hg]) (by rw [List.length_map, hz])]
  have hk' : k < (ls.set k ⟨kind, z, some ⟨gs, 0, none⟩, zs, zs.length, hz⟩).length := by rw [List.length_set]; exact hk
  rw [rowsL_split _ k hk', List.getElem_set_self, List.take_set, List.drop_set_of_lt (by omega), List.set_eq_of_length_le (by rw [List.length_take]; omega)]
theorem zRecs_rows (N : Nat) : zRecs N = (rowsL (List.replicate N zRv)).toArray := by
  apply Array.ext_getElem?
  intro i
  by_cases hi : i < N * 18
  · have e1 : i / 18 < (List.replicate N zRv).length := by rw [List.length_replicate]; omega
    have hm : i % 18 < 18 := Nat.mod_lt _ (by decide)
    unfold rowsL
    conv => rhs; rw [List.getElem?_toArray, flat_at (fun r : Rv => r.row.toList) 18 (by decide) (List.replicate N zRv) i (fun r _ => by simp [Rv.row_size]) e1]
    simp only [List.getElem_replicate]
    unfold zRecs madeCells
    simp [hi]
    generalize i % 18 = j at hm
    have : j = 0 ∨ j = 1 ∨ j = 2 ∨ j = 3 ∨ j = 4 ∨ j = 5 ∨ j = 6 ∨ j = 7 ∨ j = 8 ∨ j = 9 ∨ j = 10 ∨ j = 11 ∨ j = 12 ∨ j = 13 ∨ j = 14 ∨ j = 15 ∨ j = 16 ∨ j = 17 := by omega
    rcases this with rfl | rfl | rfl | rfl | rfl | rfl | rfl | rfl | rfl | rfl | rfl | rfl | rfl | rfl | rfl | rfl | rfl | rfl <;> rfl
  · rw [Array.getElem?_eq_none (by rw [zRecs_size]; omega), Array.getElem?_eq_none (by simp only [List.size_toArray]; rw [rowsL_len, List.length_replicate]; omega)]
theorem cnt_le {L : List UInt8} {st : GS} {N : Nat} (h : CntN L st N) : (N : Int) ≤ 1048576 := by have := h.1; omega
/-- Reports that are got, one by one. -/
structure RG (w4 wr : World) (gg gc gb go k N : Nat) (L : List UInt8) (s0 s : GS) (ls : List Rv) : Prop where
  gu : GU wr gg gc gb L s
  kb : bk wr go = some (.cells (rowsL ls).toArray 57 (0, 0))
  ln : ls.length = N
  z : ∀ i (h : i < ls.length), k ≤ i → ls[i] = zRv
  rel : RecsG L s0 ((ls.take k).map Rv.pl) s
  ok : ∀ i (h : i < ls.length), i < k → ∃ g, ls[i].A = some ⟨g, 0, none⟩ ∧ w4.heap.size ≤ g ∧ bk wr g = some (.cells (ls[i].s.flatten.map B).toArray 23 (0, 0)) ∧ (∀ z ∈ ls[i].s, z.length = 16) ∧ ls[i].s.length ≤ 64 ∧ ls[i].c = ls[i].s.length
  df : ∀ i j (hi : i < ls.length) (hj : j < ls.length), i < j → j < k → ls[i].A ≠ ls[j].A
  tn : Tn (fun j => Fg gg gc j ∨ j = go) w4 wr
theorem RG.next {w4 wr w' : World} {gg gc gb go k N : Nat} {L : List UInt8} {s0 s : GS} {ls : List Rv} (h : RG w4 wr gg gc gb go k N L s0 s ls) (hk : k < N) (hl : gg < w4.heap.size ∧ gc < w4.heap.size ∧ go < w4.heap.size) (hg : GotR wr gg gc gb go (k * 18) L s (rowsL ls).toArray 57 w') : ∃ s' ls', RG w4 w' gg gc gb go (k + 1) N L s0 s' ls' := by
  obtain ⟨s', kind, z, zs, gs, hrec, hgs, kgs, hu, hkb, ht⟩ := hg
  have hkl : k < ls.length := by rw [h.ln]; exact hk
  have hz : z.length = 16 := by obtain ⟨_, _, _, _, e, _⟩ := hrec; exact e
  have h16 : ∀ z ∈ zs, z.length = 16 := by obtain ⟨_, _, _, _, _, _, e, _⟩ := hrec; exact e
  have h64 : zs.length ≤ 64 := by obtain ⟨_, _, _, e, _⟩ := hrec; exact e.1
  have hsz := h.tn.size
  refine ⟨s', ls.set k ⟨kind, z, some ⟨gs, 0, none⟩, zs, zs.length, hz⟩, hu, by rw [hkb, recC_rows ls k hkl kind z hz], by rw [List.length_set, h.ln], fun i hi hki => ?_, ?_, fun i hi hik => ?_, fun i j hi hj hij hjk => ?_, h.tn.trans ht fun j e => .inl e⟩
  · rw [List.getElem_set_ne (by omega)]
    exact h.z i (by rw [List.length_set] at hi; exact hi) (by omega)
  · have e : (ls.set k ⟨kind, z, some ⟨gs, 0, none⟩, zs, zs.length, hz⟩).take (k + 1) = ls.take k ++ [⟨kind, z, some ⟨gs, 0, none⟩, zs, zs.length, hz⟩] := by
      rw [List.take_succ_eq_append_getElem (by rw [List.length_set]; exact hkl), List.getElem_set_self, List.take_set, List.set_eq_of_length_le (by rw [List.length_take]; omega)]
    rw [e, List.map_append]
    exact h.rel.snoc hrec
  · by_cases e : i = k
    · subst e
      rw [List.getElem_set_self]
      exact ⟨gs, rfl, Nat.le_trans hsz hgs, kgs, h16, h64, rfl⟩
    · rw [List.getElem_set_ne (fun e' => e e'.symm)]
      obtain ⟨g, h1, h2, h3, h4⟩ := h.ok i (by rw [List.length_set] at hi; exact hi) (by omega)
      exact ⟨g, h1, h2, ht.keep (fun e => by rcases e with (e | e) | e <;> omega) h3, h4⟩
  · have hi' : i < ls.length := by rw [List.length_set] at hi; exact hi
    have hj' : j < ls.length := by rw [List.length_set] at hj; exact hj
    rw [List.getElem_set_ne (by omega)]
    by_cases e : j = k
    · subst e
      rw [List.getElem_set_self]
      obtain ⟨g, h1, h2, h3, h4⟩ := h.ok i hi' (by omega)
      rw [h1]
      intro e
      cases e
      have := bk_lt h3
      omega
    · rw [List.getElem_set_ne (fun e' => e e'.symm)]
      exact h.df i j hi' hj' hij (by omega)
end Go.Proofs.Ytjimmfbjhkoekaa
/- Icmps: parts, got: reports of listeners, whole. -/
namespace Go.Proofs.Ytjimmfbjhkoekaa
open Go.RowKit
set_option maxRecDepth 100000
set_option maxHeartbeats 1000000
theorem rows_at (ls : List Rv) (i j : Nat) (hi : i < ls.length) (hj : j < 18) : (rowsL ls).toArray[i * 18 + j]? = ls[i].row[j]? := by
  have e1 : (i * 18 + j) / 18 = i := by omega
  have e2 : (i * 18 + j) % 18 = j := by omega
  rw [List.getElem?_toArray]
  unfold rowsL
  rw [flat_at (fun r : Rv => r.row.toList) 18 (by decide) ls (i * 18 + j) (fun r _ => by simp [Rv.row_size]) (by rw [e1]; exact hi)]
  simp only [e1, e2, Array.getElem?_toList]
theorem rws_rows {w : World} {g : Nat} {t : TypeId} {fr : Nat × Nat} {ls : List Rv} (hb : bk w g = some (.cells (rowsL ls).toArray t fr)) : Rws 18 Rv.row w w.heap.size (some ⟨g, 0, none⟩) ls := fun _ =>
  ⟨g, 0, _, t, fr, rfl, bk_lt hb, hb, fun j hj => by
    have hfl := rowsL_len ls
    refine ⟨by simp only [List.size_toArray]; rw [hfl]; omega, ?_⟩
    apply Array.ext_getElem?
    intro i
    unfold xt
    rw [Array.getElem?_extract]
    by_cases hi : i < 18
    · have hm : min (0 + j * 18 + 18) (rowsL ls).toArray.size = 0 + j * 18 + 18 := by simp only [List.size_toArray]; rw [hfl]; omega
      rw [hm, if_pos (by omega), Nat.zero_add]
      exact rows_at ls j i hj hi
    · rw [if_neg (by omega), Array.getElem?_eq_none (by rw [Rv.row_size]; omega)]⟩
theorem ok_recs {w : World} {n gb go : Nat} {m : Mv} {ls : List Rv} (hm : m.DA = none ∧ m.dd = [] ∧ m.dc = 0 ∧ m.OA = none ∧ m.os = [] ∧ m.oc = 0 ∧ m.SA = none ∧ m.ss = [] ∧ m.sc = 0) (b : m.param < 4294967296 ∧ m.life < 65536 ∧ m.reach < 4294967296 ∧ m.retr < 4294967296 ∧ m.mx < 65536) (hN : ls.length ≤ 64) (hg : n ≤ go) (hb : bk w go = some (.cells (rowsL ls).toArray 57 (0, 0)))
    (hok : ∀ i (h : i < ls.length), ∃ g, ls[i].A = some ⟨g, 0, none⟩ ∧ n ≤ g ∧ bk w g = some (.cells (ls[i].s.flatten.map B).toArray 23 (0, 0)) ∧ (∀ z ∈ ls[i].s, z.length = 16) ∧ ls[i].s.length ≤ 64 ∧ ls[i].c = ls[i].s.length)
    (hdf : ∀ i j (hi : i < ls.length) (hj : j < ls.length), i < j → ls[i].A ≠ ls[j].A) :
    MvOk w w.heap.size { m with RA := some ⟨go, 0, none⟩, rs := ls, rc := ls.length } ∧ Fr w n gb { m with RA := some ⟨go, 0, none⟩, rs := ls, rc := ls.length } := by
  obtain ⟨k, c, pa, DA, dd, dc, ho, fl, li, re, rt, tg, ds, OA, os, oc, mx, gr, ro, it, SA, ss, sc, RA, rs, rc, _, _, _⟩ := m
  obtain ⟨rfl, rfl, rfl, rfl, rfl, rfl, rfl, rfl, rfl⟩ := hm
  obtain ⟨b1, b2, b3, b4, b5⟩ := b
  simp only at b1 b2 b3 b4 b5
  refine ⟨⟨Rd.nil, fun _ => ⟨rfl, rfl⟩, Nat.le_refl _, by simp only; decide, ⟨Rws.nil, fun x hx => by simp at hx⟩, Nat.le_refl _, by simp only; decide, Rws.nil, fun z hz => by simp at hz, Nat.le_refl _, by simp only; decide, rws_rows hb, fun r hr => ?_, Nat.le_refl _, by simp only; omega, b1, b2, b3, b4, b5⟩,
    ⟨fun e => absurd rfl e, rfl, ⟨0, 0, fun e => absurd rfl e, LayAt.nil _ _, (fun a e => by cases e), fun e => absurd rfl e⟩, rfl, fun e => absurd rfl e, rfl, fun i h => ?_, hdf, (fun a e => by cases e; exact hg), rfl, fun e => absurd rfl e⟩⟩
  · obtain ⟨i, hi, rfl⟩ := List.mem_iff_getElem.1 hr
    obtain ⟨g, h1, h2, h3, h4, h5, h6⟩ := hok i hi
    refine ⟨?_, h4, by rw [h6]; exact Nat.le_refl _, by rw [h6]; omega⟩
    rw [h1]
    exact rws_flat h4 h3
  · obtain ⟨g, h1, h2, h3, _, _, h6⟩ := hok i h
    exact ⟨g, h1, h2, h6, ⟨_, h3⟩⟩
theorem p143_get (gg gc gb gm : Nat) (c : UInt8) (L : List UInt8) (st : GS) (w : World) (h : GU w gg gc gb L st) (hx : Bx w gg gc gb gm 0 (mC (mZ 143 c)) 33) :
    Calls Try.prog 31 #[sideG gg, .pointer (some ⟨gm, 0, none⟩)] w fun e w' => e = .returned (.bool true) ∧ GotP w w' gg gc gb gm L st (mZ 143 c) := by
  have c0 : w.cell? ⟨gm, 0, none⟩ = some (.int .u8 143) := by rw [bk_cell hx.kb, mC_0]; rfl
  have lm := bk_lt hx.kb
  have P0 := Lib.hid (GT.start h hx)
  obtain ⟨m0, hm0⟩ : ∃ m0, m0 = mZ 143 c := ⟨_, rfl⟩
  have HM0 := Lib.hid hm0
  rw [← hm0] at P0 ⊢
  clear h hx hm0
  go_enter Try.func31, Try.ntmps31
  have C := Lib.hid (gnought gg gc gb 2 L _ _ P0.out.gu)
  go_wp2_with fail
  refine C.out.mono ?_
  rintro e w1 ⟨rfl, h1, t1⟩
  have P1 := Lib.hid (P0.out.got0 h1 t1)
  clear h1 t1 C P0 c0 lm
  have hc62 : (mC m0)[62]? = some (.slice none 0 0) := by rw [HM0.out, mC_62]; rfl
  have H62 := Lib.hid hc62
  have c62 : w1.drew.cell? ⟨gm, 62, none⟩ = some (.slice none 0 0) := (bk_cell P1.out.bx.kb 62).trans hc62
  have lm1 : gm < w1.heap.size := bk_lt P1.out.bx.kb
  clear hc62
  go_upto_region 20 with fail
  have PD := Lib.hid (P1.out.next (w' := w1.drew) (by (repeat (first | exact Below.refl _ _ | assumption | refine Below.drew ?_ | refine bdrewN ?_ _ | refine Below.alloc ?_ (by first | omega | (simp <;> omega) | (simp only [World.size_alloc] <;> omega)) _ | refine below_setRow ?_ (by first | omega | (simp <;> omega)) _ | refine Below.setCell ?_ (by first | omega | (simp <;> omega)) _))))
  have C := Lib.hid (gcount gg gc gb 0 L _ _ PD.out.gu)
  have HK : Hid (∀ {w' : World}, Tn (Fg gg gc) w1.drew w' → w'.cell? ⟨gm, 62, none⟩ = some (.slice none 0 0) ∧ gm < w'.heap.size) := Lib.hid fun t1 => by
    have kb := t1.keep (fun e => e.elim PD.out.bx.n1 PD.out.bx.n2) PD.out.bx.kb
    exact ⟨(bk_cell kb 62).trans H62.out, bk_lt kb⟩
  go_region_law ((go_simp; go_at_call 112; with_reducible refine C.out.mono ?_; rintro e w2 ⟨N, rfl, hN, h2, t2⟩; have hN20 := cnt_le hN; obtain ⟨c62', lm2⟩ := HK.out t2; have H2 := Lib.hid (And.intro hN (And.intro h2 t2)); clear hN h2 t2 C))
  all_goals
    go_simp
    obtain ⟨go, hgo⟩ : ∃ g, g = w2.heap.size := ⟨_, rfl⟩
    have P2 : Hid (GM w w2 gg gc gb gm L ((st.adv L 2).cnt L) m0) := Lib.hid (PD.out.got0 H2.out.2.1 H2.out.2.2)
    have HN := Lib.hid H2.out.1
    have k3 : bk (w2.alloc (.cells (zRecs N) 57)) go = some (.cells (zRecs N) 57 (0, 0)) := bk_alloc_at _ _ _ hgo
    have b3 : Below w2.heap.size w2 (w2.alloc (.cells (zRecs N) 57)) := (by (repeat (first | exact Below.refl _ _ | assumption | refine Below.drew ?_ | refine bdrewN ?_ _ | refine Below.alloc ?_ (by first | omega | (simp <;> omega) | (simp only [World.size_alloc] <;> omega)) _ | refine below_setRow ?_ (by first | omega | (simp <;> omega)) _ | refine Below.setCell ?_ (by first | omega | (simp <;> omega)) _)))
    have P3 := Lib.hid (P2.out.next b3)
    have HGO : Hid (gg ≠ go ∧ gc ≠ go ∧ gb ≠ go ∧ gm ≠ go ∧ w.heap.size ≤ go) := Lib.hid (by have h1 := P2.out.gu.lt; have h2 := P2.out.gu.bc; have h3 := P2.out.tn.size; have h4 := bk_lt P2.out.bx.kb; omega)
    obtain ⟨Z0, hZ0⟩ : ∃ Z, Z = zRecs N := ⟨_, rfl⟩
    have HZ0 : Hid (Z0 = (rowsL (List.replicate N zRv)).toArray) := Lib.hid (by rw [hZ0, zRecs_rows])
    rw [← hgo, ← hZ0]
    rw [← hZ0] at k3 P3
    clear b3 hgo P2 c62 c62' lm2 hZ0 H2 PD HK P1 lm1
    generalize w2.alloc (.cells Z0 57) = w3 at *
    have c3 : w3.cell? ⟨gm, 62, none⟩ = some (.slice none 0 0) := (bk_cell P3.out.bx.kb 62).trans H62.out
    have lm3 := bk_lt P3.out.bx.kb
    have HSP : Hid (spl Z0.toList 0 [] = Z0) := Lib.hid (by simp [spl])
    have hm0' : Nat.min 0 N = 0 := Nat.zero_min N
    have CP : Hid (([] : List Value).length = Nat.min 0 N * 18 ∧ (0 < Nat.min 0 N → some (⟨go, 0, none⟩ : Addr) = some ⟨go, 0, none⟩ ∧ ∃ ad, (none : Option Addr) = some ad ∧ ∀ j v, ([] : List Value)[j]? = some v → w3.cell? (ad.add j) = some v)) := Lib.hid ⟨by rw [hm0']; rfl, fun h0 => by rw [hm0'] at h0; omega⟩
    have HFI : Hid (0 + ([] : List Value).length ≤ Z0.size ∧ ∀ v ∈ ([] : List Value), v.oneCell' = true) := Lib.hid ⟨by simp, fun v hv => by simp at hv⟩
    clear hm0'
    go_upto_region 21 with fail
    go_wp2_with (with_reducible refine wpList_copyS rfl _ _ _ _ rfl 57 18 Try.underlying31 (by kernel_rfl) (some ⟨go, 0, none⟩) none N N 0 0 rfl rfl go 0 _ _ k3 [] CP.out.1 CP.out.2 HFI.out.1 HFI.out.2 ?_)
    rw [HSP.out]
    have k4 : bk (w3.setRow go Z0) go = some (.cells Z0 57 (0, 0)) := by rw [bk_setRow_same, k3]; rfl
    have K4 : Hid (bk (w3.setRow go Z0) go = some (.cells (rowsL (List.replicate N zRv)).toArray 57 (0, 0))) := Lib.hid (by rw [k4, HZ0.out])
    have G4 := Lib.hid (P3.out.gu.keep (F := fun k => k = go) ((Tn.refl _ _).setRow (c := Z0) (.inl rfl)) (fun e => HGO.out.1 e) (fun e => HGO.out.2.1 e) (fun e => HGO.out.2.2.1 e))
    have KB4 : Hid (bk (w3.setRow go Z0) gm = some (.cells (mC m0) 33 (0, 0))) := Lib.hid (by rw [bk_setRow_other _ _ _ _ HGO.out.2.2.2.1]; exact P3.out.bx.kb)
    have T4 : Hid (Tn (fun j => Fg gg gc j ∨ j = gm) w (w3.setRow go Z0)) := Lib.hid (P3.out.tn.setRow (.inr HGO.out.2.2.2.2))
    have BN : Hid (gm ≠ gg ∧ gm ≠ gc ∧ gm ≠ gb) := Lib.hid ⟨P3.out.bx.n1, P3.out.bx.n2, P3.out.bx.n3⟩
    clear k3 P3 CP HSP HFI c3 lm3 k4 HZ0
    generalize w3.setRow go Z0 = w4 at *
    have HLT : Hid (gg < w4.heap.size ∧ gc < w4.heap.size ∧ go < w4.heap.size) := Lib.hid ⟨G4.out.lt.1, G4.out.lt.2, bk_lt K4.out⟩
    have R0 : Hid (RG w4 w4 gg gc gb go 0 N L ((st.adv L 2).cnt L) ((st.adv L 2).cnt L) (List.replicate N zRv)) := Lib.hid ⟨G4.out, K4.out, List.length_replicate .., fun i h _ => List.getElem_replicate .., rfl, fun i _ h => absurd h (Nat.not_lt_zero _), fun i j _ _ _ h => absurd h (Nat.not_lt_zero _), Tn.refl _ _⟩
    go_loopw [98] (fun i wr => ∃ (k : Nat) (s : GS) (ls : List Rv), k ≤ N ∧ i = .int .i64 (k : Int) ∧ Hid (RG w4 wr gg gc gb go k N L ((st.adv L 2).cnt L) s ls)) (fun i _ => N - (intOf i).toNat)
    case atStart => exact ⟨0, _, _, by omega, rfl, R0⟩
    case round =>
      clear R0 K4 G4
      obtain ⟨k, s, ls, hk, rfl, AR⟩ := hrel
      by_cases hlt : k < N
      · have d1 : decide ((k : Int) < (N : Int)) = true := by simp; omega
        have hkl : k < ls.length := by rw [AR.out.ln]; exact hlt
        have hfl := rowsL_len ls
        have hz : ls[k] = zRv := AR.out.z k hkl (Nat.le_refl _)
        have C := Lib.hid (record_get gg gc gb go (k * 18) L s (rowsL ls).toArray 57 wr AR.out.gu ⟨AR.out.kb, by simp only [List.size_toArray]; rw [hfl]; omega, HGO.out.1.symm, HGO.out.2.1.symm, HGO.out.2.2.1.symm⟩ (by simp only [List.size_toArray]; rw [hfl]; omega) ls[k].g ls[k].hg (fun x => by
          rw [rowsL_split ls k hkl]
          exact surg0 _ _ _ _ _ _ _ (by rw [rowsL_len, List.length_take]; congr 1; omega)) (by rw [rows_at ls k 17 hkl (by decide), hz]; rfl))
        have HNX : Hid (∀ {w' : World}, GotR wr gg gc gb go (k * 18) L s (rowsL ls).toArray 57 w' → ∃ s' ls', RG w4 w' gg gc gb go (k + 1) N L ((st.adv L 2).cnt L) s' ls') := Lib.hid fun q => AR.out.next hlt HLT.out q
        clear hkl hfl hz AR
        go_wp2_with fail
        refine C.out.mono ?_
        rintro e w6 ⟨rfl, p6⟩
        obtain ⟨s6, ls6, h6⟩ := HNX.out p6
        have P6 := Lib.hid h6
        clear p6 h6 C HNX
        go_wp2_with fail
        go_roundw
        case rel => exact ⟨k + 1, s6, ls6, by omega, by go_num, P6⟩
        case measure => simp [intOf]; omega
      · obtain rfl : k = N := by omega
        have d1 : decide ((k : Int) < (k : Int)) = false := by simp
        have kb := AR.out.tn.keep (fun e => e.elim (fun e => e.elim BN.out.1 BN.out.2.1) HGO.out.2.2.2.1) KB4.out
        have q1 := bk_lt kb
        have q2 := bk_frozen kb 62
        have q3 := (bk_cell kb 62).trans H62.out
        have FX : Hid (GotP w (wr.setCell ⟨gm, 62, none⟩ (.slice (some ⟨go, 0, none⟩) k k)) gg gc gb gm L st m0) := Lib.hid (by
          have hln := AR.out.ln
          have hgl := HGO.out
          have hN64 := HN.out.1
          have kgm : bk (wr.setCell ⟨gm, 62, none⟩ (.slice (some ⟨go, 0, none⟩) k k)) gm = some (.cells (mC { m0 with RA := some ⟨go, 0, none⟩, rs := ls, rc := ls.length }) 33 (0, 0)) := by
            rw [← sM62, hln, bk_setCell_same, kb]; rfl
          have q6 : GM w (wr.setCell ⟨gm, 62, none⟩ (.slice (some ⟨go, 0, none⟩) k k)) gg gc gb gm L s { m0 with RA := some ⟨go, 0, none⟩, rs := ls, rc := ls.length } :=
            ⟨AR.out.gu.keep (F := fun j => j = gm) ((Tn.refl _ _).set (.inl rfl)) BN.out.1.symm BN.out.2.1.symm BN.out.2.2.symm, ⟨kgm, by rw [mC_size]; decide, BN.out.1, BN.out.2.1, BN.out.2.2⟩, (T4.out.trans AR.out.tn fun j e => by
              rcases e with e | e
              · exact .inl (.inl e)
              · exact .inr (by rw [e]; exact hgl.2.2.2.2)).set (.inl (.inr rfl))⟩
          have hT4 := T4.out.size
          have this := ok_recs (n := w.heap.size) (gb := gb) (go := go) (w := wr.setCell ⟨gm, 62, none⟩ (.slice (some ⟨go, 0, none⟩) k k)) (m := m0) (ls := ls) (by rw [HM0.out]; exact ⟨rfl, rfl, rfl, rfl, rfl, rfl, rfl, rfl, rfl⟩) (by rw [HM0.out]; exact ⟨by simp only [mZ]; decide, by simp only [mZ]; decide, by simp only [mZ]; decide, by simp only [mZ]; decide, by simp only [mZ]; decide⟩) (by omega) hgl.2.2.2.2
            (by rw [bk_setCell_other _ _ _ _ _ hgl.2.2.2.1.symm]; exact AR.out.kb)
            (fun i hi => by
              obtain ⟨g, h1, h2, h3, h4⟩ := AR.out.ok i hi (by omega)
              exact ⟨g, h1, by omega, by rw [bk_setCell_other _ _ _ _ _ (fun e => by have := bk_lt KB4.out; omega)]; exact h3, h4⟩)
            (fun i j hi hj hij => AR.out.df i j hi hj hij (by omega))
          refine ⟨_, _, q6, ?_, fun q _ => ⟨this.1, this.2, rfl, rfl⟩⟩
          have hrel := AR.out.rel
          rw [← hln, List.take_length] at hrel
          unfold PartG
          rw [if_neg (show ¬ m0.pl.kind = 130 by rw [HM0.out]; exact (by decide : ¬ ((143 : UInt8) = 130))), if_pos (show m0.pl.kind = 143 by rw [HM0.out]; rfl)]
          refine ⟨_, rfl, ?_, hrel⟩
          rw [List.length_map, hln]
          exact HN.out)
        clear kb AR T4 KB4
        go_wp2_with fail
        go_ret
        exact ⟨rfl, FX.out⟩
end Go.Proofs.Ytjimmfbjhkoekaa
