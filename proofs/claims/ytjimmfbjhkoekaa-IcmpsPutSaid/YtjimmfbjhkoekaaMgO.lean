import Derived.Test.YtjimmfbjhkoekaaMgN
import Derived.Test.YtjimmfbjhkoekaaMgK
/- Icmps: a report, got. -/
namespace Go.Proofs.Ytjimmfbjhkoekaa
open Go.RowKit
set_option maxRecDepth 100000
set_option maxHeartbeats 1000000
/-- A state of getting, and a block that is written, since w0. -/
structure GT (w0 w : World) (gg gc gb b : Nat) (L : List UInt8) (st : GS) (cur : Array Value) (t : TypeId) : Prop where
  gu : GU w gg gc gb L st
  bx : Bx w gg gc gb b 0 cur t
  tn : Tn (fun j => Fg gg gc j ∨ j = b) w0 w
theorem GT.start {w : World} {gg gc gb b o : Nat} {L : List UInt8} {st : GS} {cur : Array Value} {t : TypeId} (h : GU w gg gc gb L st) (hx : Bx w gg gc gb b o cur t) : GT w w gg gc gb b L st cur t := ⟨h, ⟨hx.kb, by have := hx.lo; omega, hx.n1, hx.n2, hx.n3⟩, Tn.refl _ _⟩
theorem GT.next {w0 w w' : World} {gg gc gb b : Nat} {L : List UInt8} {st : GS} {cur : Array Value} {t : TypeId} (h : GT w0 w gg gc gb b L st cur t) (hb : Below w.heap.size w w') : GT w0 w' gg gc gb b L st cur t :=
  ⟨h.gu.below hb, ⟨bk_keep hb (bk_lt h.bx.kb) h.bx.kb, h.bx.lo, h.bx.n1, h.bx.n2, h.bx.n3⟩, h.tn.next hb⟩
theorem GT.at {w0 w : World} {gg gc gb b o : Nat} {L : List UInt8} {st : GS} {cur : Array Value} {t : TypeId} (h : GT w0 w gg gc gb b L st cur t) (ho : o < cur.size) : Bx w gg gc gb b o cur t := ⟨h.bx.kb, ho, h.bx.n1, h.bx.n2, h.bx.n3⟩
theorem GT.got1 {w0 w w' : World} {gg gc gb b o : Nat} {L : List UInt8} {st st' : GS} {cur : Array Value} {t : TypeId} {x : Value} (h : GT w0 w gg gc gb b L st cur t) (g : Got1 w gg gc gb b o L st' cur t x w') : GT w0 w' gg gc gb b L st' (cur.setIfInBounds o x) t :=
  ⟨g.1, ⟨g.2.1, by rw [Array.size_setIfInBounds]; exact h.bx.lo, h.bx.n1, h.bx.n2, h.bx.n3⟩, h.tn.trans g.2.2 fun j e => .inl e⟩
theorem spl_size (cur : Array Value) (o : Nat) (v : List Value) (h : o + v.length ≤ cur.size) : (spl cur.toList o v).size = cur.size := by
  unfold spl; simp; omega
theorem GT.got16 {w0 w w' : World} {gg gc gb b o : Nat} {L : List UInt8} {st st' : GS} {cur : Array Value} {t : TypeId} {z : List UInt8} (h : GT w0 w gg gc gb b L st cur t) (hz : z.length = 16) (ho : o + 16 ≤ cur.size) (g : Got16 w gg gc gb b o L st' cur t z w') : GT w0 w' gg gc gb b L st' (spl cur.toList o (z.map B)) t :=
  ⟨g.1, ⟨g.2.1, by rw [spl_size _ _ _ (by rw [List.length_map, hz]; exact ho)]; omega, h.bx.n1, h.bx.n2, h.bx.n3⟩, h.tn.trans g.2.2 fun j e => .inl e⟩
theorem GT.got0 {w0 w w' : World} {gg gc gb b : Nat} {L : List UInt8} {st st' : GS} {cur : Array Value} {t : TypeId} (h : GT w0 w gg gc gb b L st cur t) (g : GU w' gg gc gb L st') (t1 : Tn (Fg gg gc) w w') : GT w0 w' gg gc gb b L st' cur t :=
  ⟨g, h.bx.turn t1, h.tn.trans t1 fun _ e => .inl (.inl e)⟩
theorem GT.box {w0 w : World} {gg gc gb b k : Nat} {L : List UInt8} {st : GS} {cur : Array Value} {t t' : TypeId} {c : Array Value} (h : GT w0 w gg gc gb b L st cur t) (hk : bk w0 k = some (.cells c t' (0, 0))) (h1 : k ≠ gg) (h2 : k ≠ gc) (h3 : k ≠ b) : bk w k = some (.cells c t' (0, 0)) :=
  h.tn.keep (fun e => e.elim (fun e => e.elim h1 h2) h3) hk
theorem record1_get (gg gc gb go o bs br : Nat) (zo : List UInt8) (L : List UInt8) (st : GS) (cur : Array Value) (t : TypeId) (w : World) (h : GU w gg gc gb L st) (hx : Bx w gg gc gb go (o + 1) cur t) (hfit : o + 1 + 16 ≤ cur.size) (hzo : zo.length = 16) (hz : spl cur.toList (o + 1) (zo.map B) = cur)
    (ks : bk w bs = some (.cells #[sideG gg] 103 (0, 0))) (kr : bk w br = some (.cells #[.pointer (some ⟨go, o, none⟩)] 119 (0, 0))) (h1 : bs ≠ gg ∧ bs ≠ gc ∧ bs ≠ go) (h2 : br ≠ gg ∧ br ≠ gc ∧ br ≠ go) :
    Calls Try.prog 75 #[.pointer (some ⟨bs, 0, none⟩), .pointer (some ⟨br, 0, none⟩)] w fun e w' => e = .returned (.tuple #[]) ∧ ∃ z, z.length = 16 ∧ adrOk L st z ∧ Got16 w gg gc gb go (o + 1) L (st.adv L 16) cur t z w' := by
  have C := Lib.hid (gaddr gg gc gb go (o + 1) zo L st cur t w.drew (h.below (by (repeat (first | exact Below.refl _ _ | assumption | refine Below.drew ?_ | refine bdrewN ?_ _ | refine Below.alloc ?_ (by first | omega | (simp <;> omega) | (simp only [World.size_alloc] <;> omega)) _ | refine below_setRow ?_ (by first | omega | (simp <;> omega)) _ | refine Below.setCell ?_ (by first | omega | (simp <;> omega)) _)))) ⟨hx.kb, hx.lo, hx.n1, hx.n2, hx.n3⟩ hfit hzo hz)
  have BD : Hid (Tn (fun j => Fg gg gc j ∨ j = go) w w.drew) := Lib.hid (Tn.of (F := fun j => Fg gg gc j ∨ j = go) (show Below w.heap.size w w.drew from (by (repeat (first | exact Below.refl _ _ | assumption | refine Below.drew ?_ | refine bdrewN ?_ _ | refine Below.alloc ?_ (by first | omega | (simp <;> omega) | (simp only [World.size_alloc] <;> omega)) _ | refine below_setRow ?_ (by first | omega | (simp <;> omega)) _ | refine Below.setCell ?_ (by first | omega | (simp <;> omega)) _)))))
  have c1 : w.drew.cell? ⟨bs, 0, none⟩ = some (sideG gg) := (bk_cell ks 0).trans rfl
  have c2 : w.drew.cell? ⟨br, 0, none⟩ = some (.pointer (some ⟨go, o, none⟩)) := (bk_cell kr 0).trans rfl
  have l1 := bk_lt ks; have l2 := bk_lt kr
  have HK : Hid (∀ {w1 : World} {z : List UInt8} {st' : GS}, Got16 w.drew gg gc gb go (o + 1) L st' cur t z w1 → w1.cell? ⟨bs, 0, none⟩ = some (sideG gg) ∧ w1.cell? ⟨br, 0, none⟩ = some (.pointer (some ⟨go, o, none⟩)) ∧ Got16 w gg gc gb go (o + 1) L st' cur t z w1) := Lib.hid fun q =>
    ⟨(bk_cell (q.2.2.keep (fun e => e.elim (fun e => e.elim h1.1 h1.2.1) h1.2.2) (show bk w.drew bs = _ from ks)) 0).trans rfl, (bk_cell (q.2.2.keep (fun e => e.elim (fun e => e.elim h2.1 h2.2.1) h2.2.2) (show bk w.drew br = _ from kr)) 0).trans rfl, q.1, q.2.1, BD.out.trans q.2.2 fun j e => .inl e⟩
  clear h hx hfit hzo hz ks kr h1 h2
  go_enter Try.func75, Try.ntmps75
  go_upto_region 0 with fail
  go_region_held3 (fun w' => w'.cell? ⟨bs, 0, none⟩ = some (sideG gg) ∧ w'.cell? ⟨br, 0, none⟩ = some (.pointer (some ⟨go, o, none⟩))) (first | assumption | go_keep)
    ((go_at_call 111; with_reducible refine C.out.mono ?_; rintro e w1 ⟨z, hz, rfl, hok, hg⟩; obtain ⟨s1, s2, s3⟩ := HK.out hg; have HG := Lib.hid (And.intro hz (And.intro hok s3)); clear hz hok hg s3 C))
  go_end0
  exact ⟨rfl, z, HG.out⟩
theorem e75g (bs br : Nat) (w : World) : (callFunc 75 #[.pointer (some ⟨bs, 0, none⟩), .pointer (some ⟨br, 0, none⟩)]).run Try.prog w = .ok (.enter 75 #[.pointer (some ⟨bs, 0, none⟩), .pointer (some ⟨br, 0, none⟩)]) w := by kernel_rfl
theorem spl_get_ge (cur : Array Value) (o i : Nat) (v : List Value) (h : o + v.length ≤ cur.size) (hi : o + v.length ≤ i) : (spl cur.toList o v)[i]? = cur[i]? := by
  have hl : (cur.toList.take o).length = o := by rw [List.length_take]; simp; omega
  unfold spl
  rw [List.getElem?_toArray, List.getElem?_append_right (by omega), hl, List.getElem?_append_right (by omega), List.getElem?_drop]
  rw [show o + v.length + (i - o - v.length) = i by omega]
  simp
/-- What a report that is got says. -/
def RecG (L : List UInt8) (st st' : GS) (kind : UInt8) (z : List UInt8) (zs : List (List UInt8)) : Prop :=
  ∃ more : UInt8, numOk L st 1 kind.toNat ∧ numOk L (st.adv L 1) 1 more.toNat ∧ CntN L (st.adv L 2) zs.length ∧ z.length = 16 ∧ adrOk L ((st.adv L 2).cnt L) z ∧ (∀ z ∈ zs, z.length = 16) ∧
    (∀ i (h : i < zs.length), adrOk L (((st.adv L 2).cnt L).adv L (16 + 16 * i)) zs[i]) ∧ st' = ((st.adv L 2).cnt L).adv L (16 + 16 * zs.length + 4 * more.toNat)
/-- A report's cells, behind their getting. -/
def recC (cur : Array Value) (o : Nat) (kind : UInt8) (z : List UInt8) (gs N : Nat) : Array Value := ((spl (cur.setIfInBounds o (B kind)).toList (o + 1) (z.map B)).setIfInBounds (o + 17) (.slice (some ⟨gs, 0, none⟩) N N))
def GotR (w : World) (gg gc gb go o : Nat) (L : List UInt8) (st : GS) (cur : Array Value) (t : TypeId) (w' : World) : Prop :=
  ∃ (st' : GS) (kind : UInt8) (z : List UInt8) (zs : List (List UInt8)) (gs : Nat), RecG L st st' kind z zs ∧ w.heap.size ≤ gs ∧ bk w' gs = some (.cells (zs.flatten.map B).toArray 23 (0, 0)) ∧ GU w' gg gc gb L st' ∧ bk w' go = some (.cells (recC cur o kind z gs zs.length) t (0, 0)) ∧ Tn (fun j => Fg gg gc j ∨ j = go) w w'
theorem record_get (gg gc gb go o : Nat) (L : List UInt8) (st : GS) (cur : Array Value) (t : TypeId) (w : World) (h : GU w gg gc gb L st) (hx : Bx w gg gc gb go o cur t) (hfit : o + 18 ≤ cur.size) (zo : List UInt8) (hzo : zo.length = 16) (hz : ∀ x, spl (cur.setIfInBounds o x).toList (o + 1) (zo.map B) = cur.setIfInBounds o x) (hs : cur[o + 17]? = some (.slice none 0 0)) :
    Calls Try.prog 63 #[sideG gg, .pointer (some ⟨go, o, none⟩)] w fun e w' => e = .returned (.tuple #[]) ∧ GotR w gg gc gb go o L st cur t w' := by
  obtain ⟨W, hW⟩ : ∃ W, W = ((w.alloc (.cells #[sideG gg] 103)).alloc (.cells #[.pointer (some ⟨go, o, none⟩)] 119)).alloc (.cells #[.int .u8 0] 5) := ⟨_, rfl⟩
  have b0 : Below w.heap.size w W := by rw [hW]; exact (by (repeat (first | exact Below.refl _ _ | assumption | refine Below.drew ?_ | refine bdrewN ?_ _ | refine Below.alloc ?_ (by first | omega | (simp <;> omega) | (simp only [World.size_alloc] <;> omega)) _ | refine below_setRow ?_ (by first | omega | (simp <;> omega)) _ | refine Below.setCell ?_ (by first | omega | (simp <;> omega)) _)))
  obtain ⟨bs, hbs⟩ : ∃ b, b = w.heap.size := ⟨_, rfl⟩
  have ks : bk W bs = some (.cells #[sideG gg] 103 (0, 0)) := by rw [hW, hbs, bk_alloc_past _ _ _ (by simp <;> omega), bk_alloc_past _ _ _ (by simp)]; exact bk_alloc_at _ _ _ rfl
  have kr : bk W (bs + 1) = some (.cells #[.pointer (some ⟨go, o, none⟩)] 119 (0, 0)) := by rw [hW, hbs, bk_alloc_past _ _ _ (by simp)]; exact bk_alloc_at _ _ _ (by simp)
  have km : bk W (bs + 1 + 1) = some (.cells #[.int .u8 0] 5 (0, 0)) := by rw [hW, hbs]; exact bk_alloc_at _ _ _ (by simp)
  have HN : Hid (gg < bs ∧ gc < bs ∧ gb < bs ∧ go < bs) := Lib.hid (by have := h.lt; have := h.bc; have := bk_lt hx.kb; omega)
  have hxW : Bx W gg gc gb go o cur t := ⟨bk_keep b0 (bk_lt hx.kb) hx.kb, hx.lo, hx.n1, hx.n2, hx.n3⟩
  have P0 := Lib.hid (GT.start (h.below b0) hxW)
  have KS := Lib.hid ks; have KR := Lib.hid kr; have KM := Lib.hid km; have B0 := Lib.hid b0; have HW := Lib.hid hW; have HBSE := Lib.hid hbs
  have HF := Lib.hid (And.intro hfit (And.intro hzo (And.intro hz hs)))
  clear h hx hfit hzo hz hs b0 ks kr km hW hbs hxW
  have BW : Hid (Below W.heap.size W W.drew) := Lib.hid (by (repeat (first | exact Below.refl _ _ | assumption | refine Below.drew ?_ | refine bdrewN ?_ _ | refine Below.alloc ?_ (by first | omega | (simp <;> omega) | (simp only [World.size_alloc] <;> omega)) _ | refine below_setRow ?_ (by first | omega | (simp <;> omega)) _ | refine Below.setCell ?_ (by first | omega | (simp <;> omega)) _)))
  have C1 := Lib.hid (gone gg gc gb go o L st cur t W.drew (P0.out.next BW.out).gu ((P0.out.next BW.out).at (by have := HF.out.1; omega)))
  have HK1 : Hid (∀ {w1 : World} {x : Value} {st' : GS}, Got1 W.drew gg gc gb go o L st' cur t x w1 → w1.cell? ⟨bs, 0, none⟩ = some (sideG gg) ∧ w1.cell? ⟨bs + 1, 0, none⟩ = some (.pointer (some ⟨go, o, none⟩)) ∧ GT W w1 gg gc gb go L st' (cur.setIfInBounds o x) t) := Lib.hid fun q => by
    have q1 := (P0.out.next BW.out).got1 q
    have := HN.out
    exact ⟨(bk_cell (q1.box KS.out (by omega) (by omega) (by omega)) 0).trans rfl, (bk_cell (q1.box KR.out (by omega) (by omega) (by omega)) 0).trans rfl, q1⟩
  go_enter Try.func63, Try.ntmps63
  go_upto_region 2 with fail
  rw [← HW.out, ← HBSE.out]
  clear HW
  have c1 : W.drew.cell? ⟨bs, 0, none⟩ = some (sideG gg) := (bk_cell KS.out 0).trans rfl
  have c2 : W.drew.cell? ⟨bs + 1, 0, none⟩ = some (.pointer (some ⟨go, o, none⟩)) := (bk_cell KR.out 0).trans rfl
  have l1 := bk_lt KS.out; have l2 := bk_lt KR.out
  go_region_held3 (fun w' => w'.cell? ⟨bs, 0, none⟩ = some (sideG gg) ∧ w'.cell? ⟨bs + 1, 0, none⟩ = some (.pointer (some ⟨go, o, none⟩))) (first | assumption | go_keep)
    ((go_at_call 115; with_reducible refine C1.out.mono ?_; rintro e w1 ⟨kind, rfl, hok, hg⟩; obtain ⟨s1, s2, s3⟩ := HK1.out hg; have P1 := Lib.hid s3; have HOK1 := Lib.hid hok; clear hok hg s3 C1))
  have KSS : Hid (bk w1 bs = some (.cells #[sideG gg] 103 (0, 0)) ∧ bk w1 (bs + 1) = some (.cells #[.pointer (some ⟨go, o, none⟩)] 119 (0, 0)) ∧ bk w1 (bs + 1 + 1) = some (.cells #[.int .u8 0] 5 (0, 0))) := Lib.hid (by
    have := HN.out
    exact ⟨P1.out.box KS.out (by omega) (by omega) (by omega), P1.out.box KR.out (by omega) (by omega) (by omega), P1.out.box KM.out (by omega) (by omega) (by omega)⟩)
  have T1 : Hid (Tn (fun j => Fg gg gc j ∨ j = go) w w1) := Lib.hid ((Tn.of (F := fun j => Fg gg gc j ∨ j = go) B0.out).trans P1.out.tn fun j e => .inl e)
  have l1' : bs < w1.heap.size := bk_lt KSS.out.1
  have s1' : w1.cell? ⟨bs, 0, none⟩ = some (sideG gg) := (bk_cell KSS.out.1 0).trans rfl
  have C2 := Lib.hid (gone gg gc gb (bs + 1 + 1) 0 L (st.adv L 1) #[.int .u8 0] 5 w1 P1.out.gu ⟨KSS.out.2.2, by simp, by have := HN.out; omega, by have := HN.out; omega, by have := HN.out; omega⟩)
  clear c1 c2 s1 s2 HK1 l1 l2 KS KR KM P0 BW
  go_wp2_with fail
  refine C2.out.mono ?_
  rintro e w2 ⟨more, rfl, hok2, g2⟩
  obtain ⟨cur1, hcur1⟩ : ∃ c, c = cur.setIfInBounds o (B kind) := ⟨_, rfl⟩
  have hsz1 : cur1.size = cur.size := by rw [hcur1, Array.size_setIfInBounds]
  have K2 : Hid (bk w2 bs = some (.cells #[sideG gg] 103 (0, 0)) ∧ bk w2 (bs + 1) = some (.cells #[.pointer (some ⟨go, o, none⟩)] 119 (0, 0)) ∧ bk w2 (bs + 1 + 1) = some (.cells #[B more] 5 (0, 0)) ∧ bk w2 go = some (.cells cur1 t (0, 0))) := Lib.hid (by
    have := HN.out
    refine ⟨g2.2.2.keep (fun e => ?_) KSS.out.1, g2.2.2.keep (fun e => ?_) KSS.out.2.1, g2.2.1, g2.2.2.keep (fun e => ?_) (by rw [hcur1]; exact P1.out.bx.kb)⟩
    · rcases e with (e | e) | e <;> omega
    · rcases e with (e | e) | e <;> omega
    · rcases e with (e | e) | e
      · exact P1.out.bx.n1 e
      · exact P1.out.bx.n2 e
      · omega)
  have T2 : Hid (Tn (fun j => Fg gg gc j ∨ j = go) w w2) := Lib.hid (T1.out.trans g2.2.2 fun j e => by
    have := HBSE.out
    rcases e with e | e
    · exact .inl (.inl e)
    · exact .inr (by omega))
  have U2 : Hid (GU w2 gg gc gb L (st.adv L 2)) := Lib.hid (by have := g2.1; rw [GS.adv_adv] at this; exact this)
  have BN : Hid (go ≠ gg ∧ go ≠ gc ∧ go ≠ gb) := Lib.hid ⟨P1.out.bx.n1, P1.out.bx.n2, P1.out.bx.n3⟩
  have HOK2 := Lib.hid hok2
  have HSZ := Lib.hid (And.intro hsz1 hcur1)
  have hc17 : cur1[o + 17]? = some (.slice none 0 0) := by rw [hcur1, Array.getElem?_setIfInBounds_ne (by omega)]; exact HF.out.2.2.2
  have hz1 : spl cur1.toList (o + 1) (zo.map B) = cur1 := by rw [hcur1]; exact HF.out.2.2.1 _
  have HC17 := Lib.hid (And.intro hc17 hz1)
  clear C2 hok2 g2 hcur1 hsz1 hc17 hz1 KSS T1 P1 s1' l1'
  have BD2 : Hid (Below w2.heap.size w2 w2.drew) := Lib.hid (by (repeat (first | exact Below.refl _ _ | assumption | refine Below.drew ?_ | refine bdrewN ?_ _ | refine Below.alloc ?_ (by first | omega | (simp <;> omega) | (simp only [World.size_alloc] <;> omega)) _ | refine below_setRow ?_ (by first | omega | (simp <;> omega)) _ | refine Below.setCell ?_ (by first | omega | (simp <;> omega)) _)))
  have CA := Lib.hid (addrs_get gg gc gb go (o + 17) 75 #[.pointer (some ⟨bs, 0, none⟩), .pointer (some ⟨bs + 1, 0, none⟩)]
    (fun cur' => ∃ z : List UInt8, z.length = 16 ∧ adrOk L ((st.adv L 2).cnt L) z ∧ cur' = spl cur1.toList (o + 1) (z.map B)) (((st.adv L 2).cnt L).adv L 16) L (st.adv L 2) cur1 t w2.drew (U2.out.below BD2.out)
    ⟨K2.out.2.2.2, by rw [HSZ.out.1]; have := HF.out.1; omega, BN.out.1, BN.out.2.1, BN.out.2.2⟩ HC17.out.1 (fun w => e75g bs (bs + 1) w) (fun W' hu hb ht => by
      have hn := HN.out
      have k1 : bk W' bs = some (.cells #[sideG gg] 103 (0, 0)) := ht.keep (fun e => by rcases e with e | e <;> omega) (show bk w2.drew bs = _ from K2.out.1)
      have k2 : bk W' (bs + 1) = some (.cells #[.pointer (some ⟨go, o, none⟩)] 119 (0, 0)) := ht.keep (fun e => by rcases e with e | e <;> omega) (show bk w2.drew (bs + 1) = _ from K2.out.2.1)
      refine (record1_get gg gc gb go o bs (bs + 1) zo L _ cur1 t W' hu ⟨hb, by rw [HSZ.out.1]; have := HF.out.1; omega, BN.out.1, BN.out.2.1, BN.out.2.2⟩ (by rw [HSZ.out.1]; have := HF.out.1; omega) HF.out.2.1 HC17.out.2 k1 k2 ⟨by omega, by omega, by omega⟩ ⟨by omega, by omega, by omega⟩).mono ?_
      rintro e w' ⟨rfl, z, hz, hzok, q1, q2, q3⟩
      have hfit : o + 1 + (z.map B).length ≤ cur1.size := by rw [List.length_map, hz, HSZ.out.1]; have := HF.out.1; omega
      refine ⟨rfl, _, ⟨z, hz, hzok, rfl⟩, spl_size _ _ _ hfit, ?_, q1, q2, q3⟩
      rw [← HC17.out.1]
      exact spl_get_ge _ _ _ _ hfit (by rw [List.length_map, hz]; omega)))
  have HKA : Hid (∀ {w3 : World}, Got2 w2.drew gg gc gb go (o + 17) L (st.adv L 2) (((st.adv L 2).cnt L).adv L 16) cur1 t (fun cur' => ∃ z : List UInt8, z.length = 16 ∧ adrOk L ((st.adv L 2).cnt L) z ∧ cur' = spl cur1.toList (o + 1) (z.map B)) w3 → w3.cell? ⟨bs, 0, none⟩ = some (sideG gg) ∧ w3.cell? ⟨bs + 1, 0, none⟩ = some (.pointer (some ⟨go, o, none⟩)) ∧ bk w3 bs = some (.cells #[sideG gg] 103 (0, 0)) ∧ bk w3 (bs + 1 + 1) = some (.cells #[B more] 5 (0, 0)) ∧ bs < w3.heap.size) := Lib.hid fun q => by
    obtain ⟨_, _, _, _, _, _, _, _, _, _, _, _, _, _, tt⟩ := q
    have hn := HN.out
    have k1 := tt.keep (m := bs) (fun e => by rcases e with (e | e) | e <;> omega) (show bk w2.drew bs = _ from K2.out.1)
    have k2 := tt.keep (m := bs + 1) (fun e => by rcases e with (e | e) | e <;> omega) (show bk w2.drew (bs + 1) = _ from K2.out.2.1)
    have k3 := tt.keep (m := bs + 1 + 1) (fun e => by rcases e with (e | e) | e <;> omega) (show bk w2.drew (bs + 1 + 1) = _ from K2.out.2.2.1)
    exact ⟨(bk_cell k1 0).trans rfl, (bk_cell k2 0).trans rfl, k1, k3, bk_lt k1⟩
  have c1 : w2.drew.cell? ⟨bs, 0, none⟩ = some (sideG gg) := (bk_cell K2.out.1 0).trans rfl
  have c2 : w2.drew.cell? ⟨bs + 1, 0, none⟩ = some (.pointer (some ⟨go, o, none⟩)) := (bk_cell K2.out.2.1 0).trans rfl
  have l1' : bs < w2.heap.size := bk_lt K2.out.1
  have l2' : bs + 1 < w2.heap.size := bk_lt K2.out.2.1
  have hgl : go < w2.drew.heap.size := bk_lt K2.out.2.2.2
  go_upto_region 4 with fail
  go_region_held3 (fun w' => w'.cell? ⟨bs, 0, none⟩ = some (sideG gg) ∧ w'.cell? ⟨bs + 1, 0, none⟩ = some (.pointer (some ⟨go, o, none⟩))) (first | assumption | go_keep)
    ((go_at_call 61; with_reducible refine CA.out.mono ?_; rintro e w3 ⟨rfl, p3⟩; have P3 := Lib.hid p3; obtain ⟨t1, t2, t3⟩ := HKA.out p3; have K3 := Lib.hid t3; clear p3 t3 CA))
  clear c1 c2 hgl l1' l2' HKA
  obtain ⟨cur', N, zs, gs, hN, ⟨z, hz, hzok, hcur'⟩, hsz', hln, h16, hoks, hgs, kgs, u3, kb3, tn3⟩ := P3.out
  have C4 := Lib.hid (gover gg gc gb (bs + 1 + 1) 0 more L _ w3 u3 ((bk_cell K3.out.2.1 0).trans rfl) (bk_lt K3.out.2.1))
  have FX : Hid (∀ w4, GU w4 gg gc gb L (((((st.adv L 2).cnt L).adv L 16).adv L (16 * N)).adv L (4 * more.toNat)) → Tn (Fg gg gc) w3 w4 → GotR w gg gc gb go o L st cur t w4) := Lib.hid fun w4 q1 q2 => by
    have hgs' : w.heap.size ≤ gs := Nat.le_trans T2.out.size hgs
    subst hln
    have hgsn : ¬ Fg gg gc gs := fun e => by have := HN.out; have := HBSE.out; rcases e with e | e <;> omega
    refine ⟨_, kind, z, zs, gs, ⟨more, HOK1.out, HOK2.out, hN, hz, hzok, h16, fun i hi => ?_, rfl⟩, hgs', q2.keep hgsn kgs, ?_, ?_, ?_⟩
    · rw [← GS.adv_adv]; exact hoks i hi
    · rw [show 16 + 16 * zs.length + 4 * more.toNat = 16 + (16 * zs.length + 4 * more.toNat) by omega, ← GS.adv_adv, ← GS.adv_adv]; exact q1
    · have e1 : recC cur o kind z gs zs.length = cur'.setIfInBounds (o + 17) (.slice (some ⟨gs, 0, none⟩) zs.length zs.length) := by unfold recC; rw [hcur', HSZ.out.2]
      rw [e1]
      exact q2.keep (fun e => e.elim BN.out.1 BN.out.2.1) kb3
    · exact (T2.out.trans ((Tn.of (F := fun j => Fg gg gc j ∨ j = go) BD2.out).trans tn3 fun j e => .inl e) fun j e => .inl e).trans q2 fun j e => .inl (.inl e)
  have d1 : w3.cell? ⟨bs, 0, none⟩ = some (sideG gg) := (bk_cell K3.out.1 0).trans rfl
  have d2 := K3.out.2.2
  clear P3 hN hz hzok hcur' hsz' hln h16 hoks hgs kgs u3 kb3 tn3
  go_wp2_with fail
  refine C4.out.mono ?_
  rintro e w4 ⟨rfl, q1, q2⟩
  have F4 := Lib.hid (FX.out w4 q1 q2)
  clear q1 q2 C4 FX
  go_wp2_with fail
  go_end0
  exact ⟨rfl, F4.out⟩
end Go.Proofs.Ytjimmfbjhkoekaa
/- Icmps: a message that is got: a field at a time. -/
namespace Go.Proofs.Ytjimmfbjhkoekaa
open Go.RowKit
set_option maxRecDepth 100000
set_option maxHeartbeats 1000000
section
variable (m : Mv)
theorem sM2 (V : Nat) : (mC m).setIfInBounds 2 (.int .u32 (V : Int)) = mC { m with param := V } := by simp [mC]
theorem sM3 (A : Option Addr) (d : List UInt8) (c : Nat) : (mC m).setIfInBounds 3 (.slice A d.length c) = mC { m with DA := A, dd := d, dc := c } := by simp [mC]
theorem sM4 (z : UInt8) : (mC m).setIfInBounds 4 (B z) = mC { m with hops := z } := by simp [mC]
theorem sM5 (z : UInt8) : (mC m).setIfInBounds 5 (B z) = mC { m with flags := z } := by simp [mC]
theorem sM6 (V : Nat) : (mC m).setIfInBounds 6 (.int .u16 (V : Int)) = mC { m with life := V } := by simp [mC]
theorem sM7 (V : Nat) : (mC m).setIfInBounds 7 (.int .u32 (V : Int)) = mC { m with reach := V } := by simp [mC]
theorem sM8 (V : Nat) : (mC m).setIfInBounds 8 (.int .u32 (V : Int)) = mC { m with retr := V } := by simp [mC]
theorem sM41 (A : Option Addr) (l : List Ov) (c : Nat) : (mC m).setIfInBounds 41 (.slice A l.length c) = mC { m with OA := A, os := l, oc := c } := by simp [mC, m.ht, m.hd]
theorem sM42 (V : Nat) : (mC m).setIfInBounds 42 (.int .u16 (V : Int)) = mC { m with mx := V } := by simp [mC, m.ht, m.hd]
theorem sM59 (z : UInt8) : (mC m).setIfInBounds 59 (B z) = mC { m with rob := z } := by simp [mC, m.ht, m.hd, m.hg]
theorem sM60 (z : UInt8) : (mC m).setIfInBounds 60 (B z) = mC { m with int := z } := by simp [mC, m.ht, m.hd, m.hg]
theorem sM61 (A : Option Addr) (l : List (List UInt8)) (c : Nat) : (mC m).setIfInBounds 61 (.slice A l.length c) = mC { m with SA := A, ss := l, sc := c } := by simp [mC, m.ht, m.hd, m.hg]
theorem sM62 (A : Option Addr) (l : List Rv) (c : Nat) : (mC m).setIfInBounds 62 (.slice A l.length c) = mC { m with RA := A, rs := l, rc := c } := by simp [mC, m.ht, m.hd, m.hg]
theorem spl_mid (a b c v : List Value) (o : Nat) (ho : a.length = o) (hv : v.length = b.length) : spl (a ++ b ++ c) o v = (a ++ v ++ c).toArray := by
  have e1 : (a ++ b ++ c).take o = a := by rw [List.append_assoc, List.take_left' ho]
  have e2 : (a ++ b ++ c).drop (o + v.length) = c := List.drop_left' (by rw [List.length_append]; omega)
  unfold spl
  rw [e1, e2, List.append_assoc]
theorem sM9 (z : List UInt8) (hz : z.length = 16) : spl (mC m).toList 9 (z.map B) = mC { m with tgt := z, ht := hz } := by
  have := spl_mid [B m.kind, B m.code, .int .u32 (m.param : Int), .slice m.DA m.dd.length m.dc, B m.hops, B m.flags, .int .u16 (m.life : Int), .int .u32 (m.reach : Int), .int .u32 (m.retr : Int)] (m.tgt.map B) (m.dst.map B ++ [Value.slice m.OA m.os.length m.oc, Value.int .u16 (m.mx : Int)] ++ m.grp.map B ++ [B m.rob, B m.int, Value.slice m.SA m.ss.length m.sc, Value.slice m.RA m.rs.length m.rc]) (z.map B) 9 rfl (by rw [List.length_map, List.length_map, m.ht, hz])
  unfold mC
  simpa [List.append_assoc] using this
theorem sM25 (z : List UInt8) (hz : z.length = 16) : spl (mC m).toList 25 (z.map B) = mC { m with dst := z, hd := hz } := by
  have := spl_mid ([B m.kind, B m.code, .int .u32 (m.param : Int), .slice m.DA m.dd.length m.dc, B m.hops, B m.flags, .int .u16 (m.life : Int), .int .u32 (m.reach : Int), .int .u32 (m.retr : Int)] ++ m.tgt.map B) (m.dst.map B) ([Value.slice m.OA m.os.length m.oc, Value.int .u16 (m.mx : Int)] ++ m.grp.map B ++ [B m.rob, B m.int, Value.slice m.SA m.ss.length m.sc, Value.slice m.RA m.rs.length m.rc]) (z.map B) 25 (by simp [m.ht]) (by rw [List.length_map, List.length_map, m.hd, hz])
  unfold mC
  simpa [List.append_assoc] using this
theorem sM43 (z : List UInt8) (hz : z.length = 16) : spl (mC m).toList 43 (z.map B) = mC { m with grp := z, hg := hz } := by
  have := spl_mid ([B m.kind, B m.code, .int .u32 (m.param : Int), .slice m.DA m.dd.length m.dc, B m.hops, B m.flags, .int .u16 (m.life : Int), .int .u32 (m.reach : Int), .int .u32 (m.retr : Int)] ++ m.tgt.map B ++ m.dst.map B ++ [Value.slice m.OA m.os.length m.oc, Value.int .u16 (m.mx : Int)]) (m.grp.map B) ([B m.rob, B m.int, Value.slice m.SA m.ss.length m.sc, Value.slice m.RA m.rs.length m.rc]) (z.map B) 43 (by simp [m.ht, m.hd]) (by rw [List.length_map, List.length_map, m.hg, hz])
  unfold mC
  simpa [List.append_assoc] using this
end
/-- Where getting a message stands. -/
abbrev GM (w0 w : World) (gg gc gb gm : Nat) (L : List UInt8) (st : GS) (m : Mv) : Prop := GT w0 w gg gc gb gm L st (mC m) 33
theorem GT.kind {w0 w : World} {gg gc gb gm : Nat} {L : List UInt8} {st : GS} {m : Mv} (h : GM w0 w gg gc gb gm L st m) : w.cell? ⟨gm, 0, none⟩ = some (B m.kind) := (bk_cell h.bx.kb 0).trans (mC_0 m)
theorem GT.fld {w0 w : World} {gg gc gb gm o : Nat} {L : List UInt8} {st : GS} {m : Mv} (h : GM w0 w gg gc gb gm L st m) (ho : o < 63) : Bx w gg gc gb gm o (mC m) 33 := h.at (by rw [mC_size]; exact ho)
theorem GT.adv {w0 w : World} {gg gc gb gm a b c : Nat} {L : List UInt8} {st : GS} {cur : Array Value} {t : TypeId} (h : GT w0 w gg gc gb gm L ((st.adv L a).adv L b) cur t) (e : a + b = c) : GT w0 w gg gc gb gm L (st.adv L c) cur t := by rw [GS.adv_adv, e] at h; exact h
end Go.Proofs.Ytjimmfbjhkoekaa
/- Icmps: neighbors, got. -/
namespace Go.Proofs.Ytjimmfbjhkoekaa
open Go.RowKit
set_option maxRecDepth 100000
set_option maxHeartbeats 1000000
def OptG (n : Nat) (L : List UInt8) (st : GS) (A : Option Addr) (ol : List Ov) (w : World) : Prop :=
  ∃ g q, ol.length ≤ 64 ∧ (A = none → ol = []) ∧ (∀ a, A = some a → n ≤ a.block) ∧ Ovs w w.heap.size A ol ∧ (ol ≠ [] → n ≤ g) ∧ LayAt g q ol ∧ (∀ q os', st = .ok q → optsG 64 (L.drop q) = some os' → ol.map Ov.pl = os') ∧ (ol ≠ [] → Ub w g)
theorem optOk.split {n k : Nat} {L : List UInt8} {st : GS} {x : Value} {w : World} (h : optOk L n st x w) (hk : k ≤ n) : ∃ A ol, x = .slice A ol.length ol.length ∧ OptG k L st A ol w := by
  obtain ⟨os, ⟨A, ol, g, q, h1, h2, h3, h4, h5, h6, h7, h8, hub⟩, h9⟩ := h
  exact ⟨A, ol, h1, g, q, h3, h4, fun a e => Nat.le_trans hk (h5 a e), h6, fun e => Nat.le_trans hk (h7 e), h8, (fun q os' e1 e2 => by rw [h2]; exact h9 q os' e1 e2), hub⟩
theorem GT.size {w0 w : World} {gg gc gb b : Nat} {L : List UInt8} {st : GS} {cur : Array Value} {t : TypeId} (h : GT w0 w gg gc gb b L st cur t) : w0.heap.size ≤ w.heap.size := h.tn.size
theorem GT.opts {w0 w w' : World} {gg gc gb gm n : Nat} {L : List UInt8} {st : GS} {m : Mv} {x : Value} (h : GM w0 w gg gc gb gm L st m) (hn : w0.heap.size ≤ n) (ho : optOk L n st x w') (g : Got1 w gg gc gb gm 41 L (st.opt L) (mC m) 33 x w') :
    ∃ A ol, GM w0 w' gg gc gb gm L (st.opt L) { m with OA := A, os := ol, oc := ol.length } ∧ OptG w0.heap.size L st A ol w' := by
  obtain ⟨A, ol, rfl, h2⟩ := ho.split hn
  have q := h.got1 g
  rw [sM41] at q
  exact ⟨A, ol, q, h2⟩
def tgtZ (m : Mv) : { z : List UInt8 // z.length = 16 ∧ spl (mC m).toList 9 (z.map B) = mC m } := ⟨m.tgt, m.ht, sM9 m m.tgt m.ht⟩
def dstZ (m : Mv) : { z : List UInt8 // z.length = 16 ∧ spl (mC m).toList 25 (z.map B) = mC m } := ⟨m.dst, m.hd, sM25 m m.dst m.hd⟩
def grpZ (m : Mv) : { z : List UInt8 // z.length = 16 ∧ spl (mC m).toList 43 (z.map B) = mC m } := ⟨m.grp, m.hg, sM43 m m.grp m.hg⟩
theorem nb136_get (gg gc gb gm : Nat) (m : Mv) (L : List UInt8) (st : GS) (w : World) (h : GU w gg gc gb L st) (hx : Bx w gg gc gb gm 0 (mC m) 33) (hL : L.length < 2 ^ 40) (hk : m.kind = 136) :
    Calls Try.prog 64 #[sideG gg, .pointer (some ⟨gm, 0, none⟩)] w fun e w' => e = .returned (.tuple #[]) ∧ ∃ (fl : UInt8) (z : List UInt8) (hz : z.length = 16) (A : Option Addr) (ol : List Ov), GM w w' gg gc gb gm L ((st.adv L 20).opt L) { m with flags := fl, tgt := z, ht := hz, OA := A, os := ol, oc := ol.length } ∧ numOk L st 1 fl.toNat ∧ adrOk L (st.adv L 4) z ∧ OptG w.heap.size L (st.adv L 20) A ol w' := by
  have c0 : w.cell? ⟨gm, 0, none⟩ = some (.int .u8 136) := by rw [bk_cell hx.kb, mC_0, hk]; rfl
  have lm := bk_lt hx.kb
  have P0 := Lib.hid (GT.start h hx)
  have HL := Lib.hid hL; have HQ := Lib.hid hk
  clear h hx hL hk
  go_enter Try.func64, Try.ntmps64
  go_upto_region 1 with fail
  have PD := Lib.hid ((P0).out.next (w' := (w).drew) (by (repeat (first | exact Below.refl _ _ | assumption | refine Below.drew ?_ | refine bdrewN ?_ _ | refine Below.alloc ?_ (by first | omega | (simp <;> omega) | (simp only [World.size_alloc] <;> omega)) _ | refine below_setRow ?_ (by first | omega | (simp <;> omega)) _ | refine Below.setCell ?_ (by first | omega | (simp <;> omega)) _))))
  have C := Lib.hid (gone gg gc gb gm 5 L _ _ _ w.drew PD.out.gu (PD.out.fld (by decide)))
  go_region_held3 (fun w' => True) (first | assumption | go_keep) ((go_at_call 115; with_reducible refine C.out.mono ?_; rintro e w1 ⟨fl, rfl, hok, hg⟩; have H1 := Lib.hid (And.intro hok hg); clear C))
  have P1 : Hid (GM w w1 gg gc gb gm L (st.adv L 1) { m with flags := fl }) := Lib.hid (by have q := PD.out.got1 H1.out.2; rw [sM5] at q; exact q)
  have O1 := Lib.hid H1.out.1
  clear H1 PD P0 c0 lm
  have C := Lib.hid (gnought gg gc gb 3 L _ _ (P1).out.gu)
  go_wp2_with fail
  refine C.out.mono ?_
  rintro e w2 ⟨rfl, h1, t1⟩
  have P2 := Lib.hid (((P1).out.got0 h1 t1).adv (c := 4) rfl)
  clear h1 t1 C
  have c0' : (w2).cell? ⟨gm, 0, none⟩ = some (B m.kind) := (P2).out.kind
  rw [HQ.out] at c0'
  have lm2 := bk_lt (P2).out.bx.kb
  go_upto_region 5 with fail
  have PD := Lib.hid ((P2).out.next (w' := (w2).drew) (by (repeat (first | exact Below.refl _ _ | assumption | refine Below.drew ?_ | refine bdrewN ?_ _ | refine Below.alloc ?_ (by first | omega | (simp <;> omega) | (simp only [World.size_alloc] <;> omega)) _ | refine below_setRow ?_ (by first | omega | (simp <;> omega)) _ | refine Below.setCell ?_ (by first | omega | (simp <;> omega)) _))))
  have C := Lib.hid (gaddr gg gc gb gm 9 (tgtZ { m with flags := fl }).1 L _ _ 33 (w2).drew PD.out.gu (PD.out.fld (by decide)) (by rw [mC_size]; decide) (tgtZ { m with flags := fl }).2.1 (tgtZ { m with flags := fl }).2.2)
  go_region_held3 (fun w' => True) (first | assumption | go_keep) ((go_at_call 111; with_reducible refine C.out.mono ?_; rintro e w3 ⟨z, hz, rfl, hok, hg⟩; have H3 := Lib.hid (And.intro hz (And.intro hok hg)); clear C))
  have P3 : Hid (GM w w3 gg gc gb gm L (st.adv L 20) { m with flags := fl, tgt := z, ht := H3.out.1 }) := Lib.hid (by
    have q := PD.out.got16 H3.out.1 (by rw [mC_size]; decide) H3.out.2.2; rw [sM9 _ z H3.out.1] at q; exact q.adv rfl)
  have O3 := Lib.hid (And.intro H3.out.1 H3.out.2.1)
  clear PD P1 P2 c0' lm2
  have c0' : (w3).cell? ⟨gm, 0, none⟩ = some (B m.kind) := (P3).out.kind
  rw [HQ.out] at c0'
  have lm2 := bk_lt (P3).out.bx.kb
  go_upto_region 8 with fail
  have PD := Lib.hid ((P3).out.next (w' := (w3).drew) (by (repeat (first | exact Below.refl _ _ | assumption | refine Below.drew ?_ | refine bdrewN ?_ _ | refine Below.alloc ?_ (by first | omega | (simp <;> omega) | (simp only [World.size_alloc] <;> omega)) _ | refine below_setRow ?_ (by first | omega | (simp <;> omega)) _ | refine Below.setCell ?_ (by first | omega | (simp <;> omega)) _))))
  have C := Lib.hid (goptions gg gc gb gm 41 L _ _ _ w3.drew PD.out.gu (PD.out.fld (by decide)) HL.out)
  go_region_held3 (fun w' => True) (first | assumption | go_keep) ((go_at_call 116; with_reducible refine C.out.mono ?_; rintro e w4 ⟨x, rfl, hok, hg⟩; have H4 := Lib.hid (And.intro hok hg); clear C))
  obtain ⟨A, ol, q4, o4⟩ := PD.out.opts PD.out.size H4.out.1 H4.out.2
  have FX := Lib.hid (And.intro q4 o4)
  clear PD P3 H4 q4 o4
  go_wp2_with fail
  go_end0
  exact ⟨rfl, fl, z, O3.out.1, A, ol, FX.out.1, O1.out, O3.out.2, FX.out.2⟩
end Go.Proofs.Ytjimmfbjhkoekaa
/- Icmps: neighbors, got: the others. -/
namespace Go.Proofs.Ytjimmfbjhkoekaa
open Go.RowKit
set_option maxRecDepth 100000
set_option maxHeartbeats 1000000
theorem nb133_get (gg gc gb gm : Nat) (m : Mv) (L : List UInt8) (st : GS) (w : World) (h : GU w gg gc gb L st) (hx : Bx w gg gc gb gm 0 (mC m) 33) (hL : L.length < 2 ^ 40) (hk : m.kind = 133) :
    Calls Try.prog 64 #[sideG gg, .pointer (some ⟨gm, 0, none⟩)] w fun e w' => e = .returned (.tuple #[]) ∧ ∃ (A : Option Addr) (ol : List Ov), GM w w' gg gc gb gm L ((st.adv L 4).opt L) { m with OA := A, os := ol, oc := ol.length } ∧ OptG w.heap.size L (st.adv L 4) A ol w' := by
  have c0 : w.cell? ⟨gm, 0, none⟩ = some (.int .u8 133) := by rw [bk_cell hx.kb, mC_0, hk]; rfl
  have lm := bk_lt hx.kb
  have P0 := Lib.hid (GT.start h hx)
  have HL := Lib.hid hL; have HQ := Lib.hid hk
  clear h hx hL hk
  go_enter Try.func64, Try.ntmps64
  have C := Lib.hid (gnought gg gc gb 4 L _ _ P0.out.gu)
  go_wp2_with fail
  refine C.out.mono ?_
  rintro e w2 ⟨rfl, h1, t1⟩
  have P2 := Lib.hid (P0.out.got0 h1 t1)
  clear h1 t1 C P0 c0 lm
  have c0' : (w2).cell? ⟨gm, 0, none⟩ = some (B m.kind) := (P2).out.kind
  rw [HQ.out] at c0'
  have lm2 := bk_lt (P2).out.bx.kb
  go_upto_region 8 with fail
  have PD := Lib.hid ((P2).out.next (w' := (w2).drew) (by (repeat (first | exact Below.refl _ _ | assumption | refine Below.drew ?_ | refine bdrewN ?_ _ | refine Below.alloc ?_ (by first | omega | (simp <;> omega) | (simp only [World.size_alloc] <;> omega)) _ | refine below_setRow ?_ (by first | omega | (simp <;> omega)) _ | refine Below.setCell ?_ (by first | omega | (simp <;> omega)) _))))
  have C := Lib.hid (goptions gg gc gb gm 41 L _ _ _ w2.drew PD.out.gu (PD.out.fld (by decide)) HL.out)
  go_region_held3 (fun w' => True) (first | assumption | go_keep) ((go_at_call 116; with_reducible refine C.out.mono ?_; rintro e w4 ⟨x, rfl, hok, hg⟩; have H4 := Lib.hid (And.intro hok hg); clear C))
  obtain ⟨A, ol, q4, o4⟩ := PD.out.opts PD.out.size H4.out.1 H4.out.2
  have FX := Lib.hid (And.intro q4 o4)
  clear PD P2 H4 q4 o4
  go_wp2_with fail
  go_end0
  exact ⟨rfl, A, ol, FX.out.1, FX.out.2⟩
theorem nb135_get (gg gc gb gm : Nat) (m : Mv) (L : List UInt8) (st : GS) (w : World) (h : GU w gg gc gb L st) (hx : Bx w gg gc gb gm 0 (mC m) 33) (hL : L.length < 2 ^ 40) (hk : m.kind = 135) :
    Calls Try.prog 64 #[sideG gg, .pointer (some ⟨gm, 0, none⟩)] w fun e w' => e = .returned (.tuple #[]) ∧ ∃ (z : List UInt8) (hz : z.length = 16) (A : Option Addr) (ol : List Ov), GM w w' gg gc gb gm L ((st.adv L 20).opt L) { m with tgt := z, ht := hz, OA := A, os := ol, oc := ol.length } ∧ adrOk L (st.adv L 4) z ∧ OptG w.heap.size L (st.adv L 20) A ol w' := by
  have c0 : w.cell? ⟨gm, 0, none⟩ = some (.int .u8 135) := by rw [bk_cell hx.kb, mC_0, hk]; rfl
  have lm := bk_lt hx.kb
  have P0 := Lib.hid (GT.start h hx)
  have HL := Lib.hid hL; have HQ := Lib.hid hk
  clear h hx hL hk
  go_enter Try.func64, Try.ntmps64
  have C := Lib.hid (gnought gg gc gb 4 L _ _ P0.out.gu)
  go_wp2_with fail
  refine C.out.mono ?_
  rintro e w2 ⟨rfl, h1, t1⟩
  have P2 := Lib.hid (P0.out.got0 h1 t1)
  clear h1 t1 C P0 c0 lm
  have c0' : (w2).cell? ⟨gm, 0, none⟩ = some (B m.kind) := (P2).out.kind
  rw [HQ.out] at c0'
  have lm2 := bk_lt (P2).out.bx.kb
  go_upto_region 5 with fail
  have PD := Lib.hid ((P2).out.next (w' := (w2).drew) (by (repeat (first | exact Below.refl _ _ | assumption | refine Below.drew ?_ | refine bdrewN ?_ _ | refine Below.alloc ?_ (by first | omega | (simp <;> omega) | (simp only [World.size_alloc] <;> omega)) _ | refine below_setRow ?_ (by first | omega | (simp <;> omega)) _ | refine Below.setCell ?_ (by first | omega | (simp <;> omega)) _))))
  have C := Lib.hid (gaddr gg gc gb gm 9 (tgtZ m).1 L _ _ 33 (w2).drew PD.out.gu (PD.out.fld (by decide)) (by rw [mC_size]; decide) (tgtZ m).2.1 (tgtZ m).2.2)
  go_region_held3 (fun w' => True) (first | assumption | go_keep) ((go_at_call 111; with_reducible refine C.out.mono ?_; rintro e w3 ⟨z, hz, rfl, hok, hg⟩; have H3 := Lib.hid (And.intro hz (And.intro hok hg)); clear C))
  have P3 : Hid (GM w w3 gg gc gb gm L (st.adv L 20) { m with tgt := z, ht := H3.out.1 }) := Lib.hid (by
    have q := PD.out.got16 H3.out.1 (by rw [mC_size]; decide) H3.out.2.2; rw [sM9 _ z H3.out.1] at q; exact q.adv rfl)
  have O3 := Lib.hid (And.intro H3.out.1 H3.out.2.1)
  clear PD P2 c0' lm2
  have c0' : (w3).cell? ⟨gm, 0, none⟩ = some (B m.kind) := (P3).out.kind
  rw [HQ.out] at c0'
  have lm2 := bk_lt (P3).out.bx.kb
  go_upto_region 8 with fail
  have PD := Lib.hid ((P3).out.next (w' := (w3).drew) (by (repeat (first | exact Below.refl _ _ | assumption | refine Below.drew ?_ | refine bdrewN ?_ _ | refine Below.alloc ?_ (by first | omega | (simp <;> omega) | (simp only [World.size_alloc] <;> omega)) _ | refine below_setRow ?_ (by first | omega | (simp <;> omega)) _ | refine Below.setCell ?_ (by first | omega | (simp <;> omega)) _))))
  have C := Lib.hid (goptions gg gc gb gm 41 L _ _ _ w3.drew PD.out.gu (PD.out.fld (by decide)) HL.out)
  go_region_held3 (fun w' => True) (first | assumption | go_keep) ((go_at_call 116; with_reducible refine C.out.mono ?_; rintro e w4 ⟨x, rfl, hok, hg⟩; have H4 := Lib.hid (And.intro hok hg); clear C))
  obtain ⟨A, ol, q4, o4⟩ := PD.out.opts PD.out.size H4.out.1 H4.out.2
  have FX := Lib.hid (And.intro q4 o4)
  clear PD P3 H4 q4 o4
  go_wp2_with fail
  go_end0
  exact ⟨rfl, z, O3.out.1, A, ol, FX.out.1, O3.out.2, FX.out.2⟩
theorem nb137_get (gg gc gb gm : Nat) (m : Mv) (L : List UInt8) (st : GS) (w : World) (h : GU w gg gc gb L st) (hx : Bx w gg gc gb gm 0 (mC m) 33) (hL : L.length < 2 ^ 40) (hk : m.kind = 137) :
    Calls Try.prog 64 #[sideG gg, .pointer (some ⟨gm, 0, none⟩)] w fun e w' => e = .returned (.tuple #[]) ∧ ∃ (z d : List UInt8) (hz : z.length = 16) (hd : d.length = 16) (A : Option Addr) (ol : List Ov), GM w w' gg gc gb gm L ((st.adv L 36).opt L) { m with tgt := z, ht := hz, dst := d, hd := hd, OA := A, os := ol, oc := ol.length } ∧ adrOk L (st.adv L 4) z ∧ adrOk L (st.adv L 20) d ∧ OptG w.heap.size L (st.adv L 36) A ol w' := by
  have c0 : w.cell? ⟨gm, 0, none⟩ = some (.int .u8 137) := by rw [bk_cell hx.kb, mC_0, hk]; rfl
  have lm := bk_lt hx.kb
  have P0 := Lib.hid (GT.start h hx)
  have HL := Lib.hid hL; have HQ := Lib.hid hk
  clear h hx hL hk
  go_enter Try.func64, Try.ntmps64
  have C := Lib.hid (gnought gg gc gb 4 L _ _ P0.out.gu)
  go_wp2_with fail
  refine C.out.mono ?_
  rintro e w2 ⟨rfl, h1, t1⟩
  have P2 := Lib.hid (P0.out.got0 h1 t1)
  clear h1 t1 C P0 c0 lm
  have c0' : (w2).cell? ⟨gm, 0, none⟩ = some (B m.kind) := (P2).out.kind
  rw [HQ.out] at c0'
  have lm2 := bk_lt (P2).out.bx.kb
  go_upto_region 5 with fail
  have PD := Lib.hid ((P2).out.next (w' := (w2).drew) (by (repeat (first | exact Below.refl _ _ | assumption | refine Below.drew ?_ | refine bdrewN ?_ _ | refine Below.alloc ?_ (by first | omega | (simp <;> omega) | (simp only [World.size_alloc] <;> omega)) _ | refine below_setRow ?_ (by first | omega | (simp <;> omega)) _ | refine Below.setCell ?_ (by first | omega | (simp <;> omega)) _))))
  have C := Lib.hid (gaddr gg gc gb gm 9 (tgtZ m).1 L _ _ 33 (w2).drew PD.out.gu (PD.out.fld (by decide)) (by rw [mC_size]; decide) (tgtZ m).2.1 (tgtZ m).2.2)
  go_region_held3 (fun w' => True) (first | assumption | go_keep) ((go_at_call 111; with_reducible refine C.out.mono ?_; rintro e w3 ⟨z, hz, rfl, hok, hg⟩; have H3 := Lib.hid (And.intro hz (And.intro hok hg)); clear C))
  have P3 : Hid (GM w w3 gg gc gb gm L (st.adv L 20) { m with tgt := z, ht := H3.out.1 }) := Lib.hid (by
    have q := PD.out.got16 H3.out.1 (by rw [mC_size]; decide) H3.out.2.2; rw [sM9 _ z H3.out.1] at q; exact q.adv rfl)
  have O3 := Lib.hid (And.intro H3.out.1 H3.out.2.1)
  clear PD P2 c0' lm2
  have c0' : (w3).cell? ⟨gm, 0, none⟩ = some (B m.kind) := (P3).out.kind
  rw [HQ.out] at c0'
  have lm2 := bk_lt (P3).out.bx.kb
  go_upto_region 7 with fail
  have PD := Lib.hid ((P3).out.next (w' := (w3).drew) (by (repeat (first | exact Below.refl _ _ | assumption | refine Below.drew ?_ | refine bdrewN ?_ _ | refine Below.alloc ?_ (by first | omega | (simp <;> omega) | (simp only [World.size_alloc] <;> omega)) _ | refine below_setRow ?_ (by first | omega | (simp <;> omega)) _ | refine Below.setCell ?_ (by first | omega | (simp <;> omega)) _))))
  have C := Lib.hid (gaddr gg gc gb gm 25 (dstZ { m with tgt := z, ht := H3.out.1 }).1 L _ _ 33 (w3).drew PD.out.gu (PD.out.fld (by decide)) (by rw [mC_size]; decide) (dstZ { m with tgt := z, ht := H3.out.1 }).2.1 (dstZ { m with tgt := z, ht := H3.out.1 }).2.2)
  go_region_held3 (fun w' => True) (first | assumption | go_keep) ((go_at_call 111; with_reducible refine C.out.mono ?_; rintro e w5 ⟨d, hz, rfl, hok, hg⟩; have H5 := Lib.hid (And.intro hz (And.intro hok hg)); clear C))
  have P5 : Hid (GM w w5 gg gc gb gm L (st.adv L 36) { m with tgt := z, ht := H3.out.1, dst := d, hd := H5.out.1 }) := Lib.hid (by
    have q := PD.out.got16 H5.out.1 (by rw [mC_size]; decide) H5.out.2.2; rw [sM25 _ d H5.out.1] at q; exact q.adv rfl)
  have O5 := Lib.hid (And.intro H5.out.1 H5.out.2.1)
  clear PD P3 c0' lm2
  have c0' : (w5).cell? ⟨gm, 0, none⟩ = some (B m.kind) := (P5).out.kind
  rw [HQ.out] at c0'
  have lm2 := bk_lt (P5).out.bx.kb
  go_upto_region 8 with fail
  have PD := Lib.hid ((P5).out.next (w' := (w5).drew) (by (repeat (first | exact Below.refl _ _ | assumption | refine Below.drew ?_ | refine bdrewN ?_ _ | refine Below.alloc ?_ (by first | omega | (simp <;> omega) | (simp only [World.size_alloc] <;> omega)) _ | refine below_setRow ?_ (by first | omega | (simp <;> omega)) _ | refine Below.setCell ?_ (by first | omega | (simp <;> omega)) _))))
  have C := Lib.hid (goptions gg gc gb gm 41 L _ _ _ w5.drew PD.out.gu (PD.out.fld (by decide)) HL.out)
  go_region_held3 (fun w' => True) (first | assumption | go_keep) ((go_at_call 116; with_reducible refine C.out.mono ?_; rintro e w4 ⟨x, rfl, hok, hg⟩; have H4 := Lib.hid (And.intro hok hg); clear C))
  obtain ⟨A, ol, q4, o4⟩ := PD.out.opts PD.out.size H4.out.1 H4.out.2
  have FX := Lib.hid (And.intro q4 o4)
  clear PD P5 H4 q4 o4
  go_wp2_with fail
  go_end0
  exact ⟨rfl, z, d, O3.out.1, O5.out.1, A, ol, FX.out.1, O3.out.2, O5.out.2, FX.out.2⟩
end Go.Proofs.Ytjimmfbjhkoekaa
/- Icmps: parts, got: what they say, plain; neighbors. -/
namespace Go.Proofs.Ytjimmfbjhkoekaa
open Go.RowKit
set_option maxRecDepth 100000
set_option maxHeartbeats 1000000
def OptR (L : List UInt8) (s : GS) (os : List (UInt8 × List UInt8)) (s' : GS) : Prop := s' = s.opt L ∧ ∀ q os', s = .ok q → optsG 64 (L.drop q) = some os' → os = os'
def RecsG (L : List UInt8) : GS → List Rc → GS → Prop
  | s, [], s' => s' = s
  | s, r :: l, s' => ∃ s1, RecG L s s1 r.kind r.g r.s ∧ RecsG L s1 l s'
theorem RecsG.snoc {L : List UInt8} {r : Rc} {s1 s2 : GS} : ∀ {l : List Rc} {s : GS}, RecsG L s l s1 → RecG L s1 s2 r.kind r.g r.s → RecsG L s (l ++ [r]) s2
  | [], s, h, k => by rw [show s1 = s from h] at k; exact ⟨s2, k, rfl⟩
  | x :: l, s, h, k => by
    obtain ⟨s3, h1, h2⟩ := h
    exact ⟨s3, h1, RecsG.snoc h2 k⟩
/-- What parts that are got say: m0 is what was there, m what is there now. -/
def PartG (L : List UInt8) (s : GS) (m0 m : Msg) (s' : GS) : Prop :=
  if m0.kind = 130 then ∃ mx grp rob int srcs, m = { m0 with mx := mx, grp := grp, rob := rob, int := int, srcs := srcs } ∧ numOk L s 2 mx ∧ grp.length = 16 ∧ adrOk L (s.adv L 4) grp ∧ numOk L (s.adv L 20) 1 rob.toNat ∧ numOk L (s.adv L 21) 1 int.toNat ∧ CntN L (s.adv L 22) srcs.length ∧ (∀ z ∈ srcs, z.length = 16) ∧ (∀ i (h : i < srcs.length), adrOk L (((s.adv L 22).cnt L).adv L (16 * i)) srcs[i]) ∧ s' = ((s.adv L 22).cnt L).adv L (16 * srcs.length) ∧ mx < 65536
  else if m0.kind = 143 then ∃ recs, m = { m0 with recs := recs } ∧ CntN L (s.adv L 2) recs.length ∧ RecsG L ((s.adv L 2).cnt L) recs s'
  else if m0.kind = 134 then ∃ hops flags life reach retr opts, m = { m0 with hops := hops, flags := flags, life := life, reach := reach, retr := retr, opts := opts } ∧ numOk L s 1 hops.toNat ∧ numOk L (s.adv L 1) 1 flags.toNat ∧ numOk L (s.adv L 2) 2 life ∧ numOk L (s.adv L 4) 4 reach ∧ numOk L (s.adv L 8) 4 retr ∧ OptR L (s.adv L 12) opts s' ∧ life < 65536 ∧ reach < 4294967296 ∧ retr < 4294967296
  else if m0.kind = 133 then ∃ opts, m = { m0 with opts := opts } ∧ OptR L (s.adv L 4) opts s'
  else if m0.kind = 135 then ∃ tgt opts, m = { m0 with tgt := tgt, opts := opts } ∧ tgt.length = 16 ∧ adrOk L (s.adv L 4) tgt ∧ OptR L (s.adv L 20) opts s'
  else if m0.kind = 136 then ∃ flags tgt opts, m = { m0 with flags := flags, tgt := tgt, opts := opts } ∧ numOk L s 1 flags.toNat ∧ tgt.length = 16 ∧ adrOk L (s.adv L 4) tgt ∧ OptR L (s.adv L 20) opts s'
  else if m0.kind = 137 then ∃ tgt dst opts, m = { m0 with tgt := tgt, dst := dst, opts := opts } ∧ tgt.length = 16 ∧ adrOk L (s.adv L 4) tgt ∧ dst.length = 16 ∧ adrOk L (s.adv L 20) dst ∧ OptR L (s.adv L 36) opts s'
  else ∃ param data, m = { m0 with param := param, data := data } ∧ numOk L s 4 param ∧ param < 4294967296 ∧ (∀ q, s.adv L 4 = .ok q → data = L.drop q) ∧ s' = (s.adv L 4).rst L
/-- A message in memory of which nothing is got yet. -/
def mZ (k c : UInt8) : Mv := ⟨k, c, 0, none, [], 0, 0, 0, 0, 0, 0, List.replicate 16 0, List.replicate 16 0, none, [], 0, 0, List.replicate 16 0, 0, 0, none, [], 0, none, [], 0, rfl, rfl, rfl⟩
/-- A block of addresses. -/
def Ua (w : World) (g : Nat) : Prop := ∃ cur, bk w g = some (.cells cur 23 (0, 0))
/-- Where what is got lies. -/
structure Fr (w : World) (n gb : Nat) (m : Mv) : Prop where
  d : m.dd ≠ [] → ∃ o, m.DA = some ⟨gb, o, none⟩
  dc : m.dc = m.dd.length
  os : ∃ g q, (m.os ≠ [] → n ≤ g) ∧ LayAt g q m.os ∧ (∀ a, m.OA = some a → n ≤ a.block) ∧ (m.os ≠ [] → Ub w g)
  oc : m.oc = m.os.length
  ss : m.ss ≠ [] → ∃ g, m.SA = some ⟨g, 0, none⟩ ∧ n ≤ g ∧ Ua w g
  sc : m.sc = m.ss.length
  rs : ∀ i (h : i < m.rs.length), ∃ g, m.rs[i].A = some ⟨g, 0, none⟩ ∧ n ≤ g ∧ m.rs[i].c = m.rs[i].s.length ∧ Ua w g
  ra : ∀ i j (h : i < m.rs.length) (k : j < m.rs.length), i < j → m.rs[i].A ≠ m.rs[j].A
  ro : ∀ a, m.RA = some a → n ≤ a.block
  rc : m.rc = m.rs.length
  ud : m.dd ≠ [] → Ub w gb
def GotP (w w' : World) (gg gc gb gm : Nat) (L : List UInt8) (st : GS) (m : Mv) : Prop :=
  ∃ st' m', GM w w' gg gc gb gm L st' m' ∧ PartG L st m.pl m'.pl st' ∧ ∀ q, st' = .ok q → MvOk w' w'.heap.size m' ∧ Fr w' w.heap.size gb m' ∧ m'.kind = m.kind ∧ m'.code = m.code
theorem OptG.rel {n : Nat} {L : List UInt8} {st : GS} {A : Option Addr} {ol : List Ov} {w : World} (h : OptG n L st A ol w) : OptR L st (ol.map Ov.pl) (st.opt L) := by
  obtain ⟨g, q, _, _, _, _, _, _, h7, _⟩ := h
  exact ⟨rfl, h7⟩
theorem ok_opts {w : World} {n gb : Nat} {L : List UInt8} {st : GS} {m : Mv} (e1 : m.DA = none ∧ m.dd = [] ∧ m.dc = 0) (e2 : m.SA = none ∧ m.ss = [] ∧ m.sc = 0) (e3 : m.RA = none ∧ m.rs = [] ∧ m.rc = 0) (b : m.param < 4294967296 ∧ m.life < 65536 ∧ m.reach < 4294967296 ∧ m.retr < 4294967296 ∧ m.mx < 65536) (ho : OptG n L st m.OA m.os w) (hc : m.oc = m.os.length) : MvOk w w.heap.size m ∧ Fr w n gb m := by
  obtain ⟨g, q, h1, h2, h3, h4, h5, h6, _, h8⟩ := ho
  obtain ⟨k, c, pa, DA, dd, dc, ho, fl, li, re, rt, tg, ds, OA, os, oc, mx, gr, ro, it, SA, ss, sc, RA, rs, rc, _, _, _⟩ := m
  obtain ⟨rfl, rfl, rfl⟩ := e1
  obtain ⟨rfl, rfl, rfl⟩ := e2
  obtain ⟨rfl, rfl, rfl⟩ := e3
  obtain ⟨b1, b2, b3, b4, b5⟩ := b
  simp only at hc h1 h2 h3 h4 h5 h6 h8 b1 b2 b3 b4 b5
  subst hc
  refine ⟨⟨Rd.nil, fun _ => ⟨rfl, rfl⟩, Nat.le_refl _, by simp only; decide, h4, Nat.le_refl _, by simp only; omega, Rws.nil, fun z hz => by simp at hz, Nat.le_refl _, by simp only; decide, Rws.nil, fun r hr => by simp at hr, Nat.le_refl _, by simp only; decide, b1, b2, b3, b4, b5⟩,
    ⟨fun e => absurd rfl e, rfl, ⟨g, q, h5, h6, h3, h8⟩, rfl, fun e => absurd rfl e, rfl, fun i h => absurd h (by simp), fun i j h => absurd h (by simp), (fun a e => by cases e), rfl, fun e => absurd rfl e⟩⟩
theorem p133_get (gg gc gb gm : Nat) (c : UInt8) (L : List UInt8) (st : GS) (w : World) (h : GU w gg gc gb L st) (hx : Bx w gg gc gb gm 0 (mC (mZ 133 c)) 33) (hL : L.length < 2 ^ 40) :
    Calls Try.prog 31 #[sideG gg, .pointer (some ⟨gm, 0, none⟩)] w fun e w' => e = .returned (.bool true) ∧ GotP w w' gg gc gb gm L st (mZ 133 c) := by
  have c0 : w.cell? ⟨gm, 0, none⟩ = some (.int .u8 133) := by rw [bk_cell hx.kb, mC_0]; rfl
  have lm := bk_lt hx.kb
  have C := Lib.hid (nb133_get gg gc gb gm (mZ 133 c) L st w h hx hL rfl)
  clear h hx hL
  go_enter Try.func31, Try.ntmps31
  go_wp2_with fail
  refine C.out.mono ?_
  rintro e w1 ⟨rfl, A, ol, q1, qo⟩
  have FX : Hid (GotP w w1 gg gc gb gm L st (mZ 133 c)) := Lib.hid ⟨_, { mZ 133 c with OA := A, os := ol, oc := ol.length }, q1, by
    unfold PartG
    rw [if_neg (show ¬ (mZ 133 c).pl.kind = 130 from (by decide : ¬ ((133 : UInt8) = 130)))]
    rw [if_neg (show ¬ (mZ 133 c).pl.kind = 143 from (by decide : ¬ ((133 : UInt8) = 143)))]
    rw [if_neg (show ¬ (mZ 133 c).pl.kind = 134 from (by decide : ¬ ((133 : UInt8) = 134)))]
    skip
    rw [if_pos (show (mZ 133 c).pl.kind = 133 from rfl)]
    exact ⟨_, rfl, qo.rel⟩, fun q _ => by
    have this := ok_opts (gb := gb) (m := { mZ 133 c with OA := A, os := ol, oc := ol.length }) ⟨rfl, rfl, rfl⟩ ⟨rfl, rfl, rfl⟩ ⟨rfl, rfl, rfl⟩ ⟨by simp only [mZ]; decide, by simp only [mZ]; decide, by simp only [mZ]; decide, by simp only [mZ]; decide, by simp only [mZ]; decide⟩ qo rfl
    exact ⟨this.1, this.2, rfl, rfl⟩⟩
  clear q1 qo C
  go_wp2_with fail
  go_ret
  exact ⟨rfl, FX.out⟩
theorem p135_get (gg gc gb gm : Nat) (c : UInt8) (L : List UInt8) (st : GS) (w : World) (h : GU w gg gc gb L st) (hx : Bx w gg gc gb gm 0 (mC (mZ 135 c)) 33) (hL : L.length < 2 ^ 40) :
    Calls Try.prog 31 #[sideG gg, .pointer (some ⟨gm, 0, none⟩)] w fun e w' => e = .returned (.bool true) ∧ GotP w w' gg gc gb gm L st (mZ 135 c) := by
  have c0 : w.cell? ⟨gm, 0, none⟩ = some (.int .u8 135) := by rw [bk_cell hx.kb, mC_0]; rfl
  have lm := bk_lt hx.kb
  have C := Lib.hid (nb135_get gg gc gb gm (mZ 135 c) L st w h hx hL rfl)
  clear h hx hL
  go_enter Try.func31, Try.ntmps31
  go_wp2_with fail
  refine C.out.mono ?_
  rintro e w1 ⟨rfl, z, hz, A, ol, q1, oz, qo⟩
  have FX : Hid (GotP w w1 gg gc gb gm L st (mZ 135 c)) := Lib.hid ⟨_, { mZ 135 c with tgt := z, ht := hz, OA := A, os := ol, oc := ol.length }, q1, by
    unfold PartG
    rw [if_neg (show ¬ (mZ 135 c).pl.kind = 130 from (by decide : ¬ ((135 : UInt8) = 130)))]
    rw [if_neg (show ¬ (mZ 135 c).pl.kind = 143 from (by decide : ¬ ((135 : UInt8) = 143)))]
    rw [if_neg (show ¬ (mZ 135 c).pl.kind = 134 from (by decide : ¬ ((135 : UInt8) = 134)))]
    rw [if_neg (show ¬ (mZ 135 c).pl.kind = 133 from (by decide : ¬ ((135 : UInt8) = 133)))]
    rw [if_pos (show (mZ 135 c).pl.kind = 135 from rfl)]
    exact ⟨_, _, rfl, hz, oz, qo.rel⟩, fun q _ => by
    have this := ok_opts (gb := gb) (m := { mZ 135 c with tgt := z, ht := hz, OA := A, os := ol, oc := ol.length }) ⟨rfl, rfl, rfl⟩ ⟨rfl, rfl, rfl⟩ ⟨rfl, rfl, rfl⟩ ⟨by simp only [mZ]; decide, by simp only [mZ]; decide, by simp only [mZ]; decide, by simp only [mZ]; decide, by simp only [mZ]; decide⟩ qo rfl
    exact ⟨this.1, this.2, rfl, rfl⟩⟩
  clear q1 qo C
  go_wp2_with fail
  go_ret
  exact ⟨rfl, FX.out⟩
theorem p136_get (gg gc gb gm : Nat) (c : UInt8) (L : List UInt8) (st : GS) (w : World) (h : GU w gg gc gb L st) (hx : Bx w gg gc gb gm 0 (mC (mZ 136 c)) 33) (hL : L.length < 2 ^ 40) :
    Calls Try.prog 31 #[sideG gg, .pointer (some ⟨gm, 0, none⟩)] w fun e w' => e = .returned (.bool true) ∧ GotP w w' gg gc gb gm L st (mZ 136 c) := by
  have c0 : w.cell? ⟨gm, 0, none⟩ = some (.int .u8 136) := by rw [bk_cell hx.kb, mC_0]; rfl
  have lm := bk_lt hx.kb
  have C := Lib.hid (nb136_get gg gc gb gm (mZ 136 c) L st w h hx hL rfl)
  clear h hx hL
  go_enter Try.func31, Try.ntmps31
  go_wp2_with fail
  refine C.out.mono ?_
  rintro e w1 ⟨rfl, fl, z, hz, A, ol, q1, of, oz, qo⟩
  have FX : Hid (GotP w w1 gg gc gb gm L st (mZ 136 c)) := Lib.hid ⟨_, { mZ 136 c with flags := fl, tgt := z, ht := hz, OA := A, os := ol, oc := ol.length }, q1, by
    unfold PartG
    rw [if_neg (show ¬ (mZ 136 c).pl.kind = 130 from (by decide : ¬ ((136 : UInt8) = 130)))]
    rw [if_neg (show ¬ (mZ 136 c).pl.kind = 143 from (by decide : ¬ ((136 : UInt8) = 143)))]
    rw [if_neg (show ¬ (mZ 136 c).pl.kind = 134 from (by decide : ¬ ((136 : UInt8) = 134)))]
    rw [if_neg (show ¬ (mZ 136 c).pl.kind = 133 from (by decide : ¬ ((136 : UInt8) = 133))), if_neg (show ¬ (mZ 136 c).pl.kind = 135 from (by decide : ¬ ((136 : UInt8) = 135)))]
    rw [if_pos (show (mZ 136 c).pl.kind = 136 from rfl)]
    exact ⟨_, _, _, rfl, of, hz, oz, qo.rel⟩, fun q _ => by
    have this := ok_opts (gb := gb) (m := { mZ 136 c with flags := fl, tgt := z, ht := hz, OA := A, os := ol, oc := ol.length }) ⟨rfl, rfl, rfl⟩ ⟨rfl, rfl, rfl⟩ ⟨rfl, rfl, rfl⟩ ⟨by simp only [mZ]; decide, by simp only [mZ]; decide, by simp only [mZ]; decide, by simp only [mZ]; decide, by simp only [mZ]; decide⟩ qo rfl
    exact ⟨this.1, this.2, rfl, rfl⟩⟩
  clear q1 qo C
  go_wp2_with fail
  go_ret
  exact ⟨rfl, FX.out⟩
theorem p137_get (gg gc gb gm : Nat) (c : UInt8) (L : List UInt8) (st : GS) (w : World) (h : GU w gg gc gb L st) (hx : Bx w gg gc gb gm 0 (mC (mZ 137 c)) 33) (hL : L.length < 2 ^ 40) :
    Calls Try.prog 31 #[sideG gg, .pointer (some ⟨gm, 0, none⟩)] w fun e w' => e = .returned (.bool true) ∧ GotP w w' gg gc gb gm L st (mZ 137 c) := by
  have c0 : w.cell? ⟨gm, 0, none⟩ = some (.int .u8 137) := by rw [bk_cell hx.kb, mC_0]; rfl
  have lm := bk_lt hx.kb
  have C := Lib.hid (nb137_get gg gc gb gm (mZ 137 c) L st w h hx hL rfl)
  clear h hx hL
  go_enter Try.func31, Try.ntmps31
  go_wp2_with fail
  refine C.out.mono ?_
  rintro e w1 ⟨rfl, z, d, hz, hd, A, ol, q1, oz, od, qo⟩
  have FX : Hid (GotP w w1 gg gc gb gm L st (mZ 137 c)) := Lib.hid ⟨_, { mZ 137 c with tgt := z, ht := hz, dst := d, hd := hd, OA := A, os := ol, oc := ol.length }, q1, by
    unfold PartG
    rw [if_neg (show ¬ (mZ 137 c).pl.kind = 130 from (by decide : ¬ ((137 : UInt8) = 130)))]
    rw [if_neg (show ¬ (mZ 137 c).pl.kind = 143 from (by decide : ¬ ((137 : UInt8) = 143)))]
    rw [if_neg (show ¬ (mZ 137 c).pl.kind = 134 from (by decide : ¬ ((137 : UInt8) = 134)))]
    rw [if_neg (show ¬ (mZ 137 c).pl.kind = 133 from (by decide : ¬ ((137 : UInt8) = 133))), if_neg (show ¬ (mZ 137 c).pl.kind = 135 from (by decide : ¬ ((137 : UInt8) = 135))), if_neg (show ¬ (mZ 137 c).pl.kind = 136 from (by decide : ¬ ((137 : UInt8) = 136)))]
    rw [if_pos (show (mZ 137 c).pl.kind = 137 from rfl)]
    exact ⟨_, _, _, rfl, hz, oz, hd, od, qo.rel⟩, fun q _ => by
    have this := ok_opts (gb := gb) (m := { mZ 137 c with tgt := z, ht := hz, dst := d, hd := hd, OA := A, os := ol, oc := ol.length }) ⟨rfl, rfl, rfl⟩ ⟨rfl, rfl, rfl⟩ ⟨rfl, rfl, rfl⟩ ⟨by simp only [mZ]; decide, by simp only [mZ]; decide, by simp only [mZ]; decide, by simp only [mZ]; decide, by simp only [mZ]; decide⟩ qo rfl
    exact ⟨this.1, this.2, rfl, rfl⟩⟩
  clear q1 qo C
  go_wp2_with fail
  go_ret
  exact ⟨rfl, FX.out⟩
end Go.Proofs.Ytjimmfbjhkoekaa
