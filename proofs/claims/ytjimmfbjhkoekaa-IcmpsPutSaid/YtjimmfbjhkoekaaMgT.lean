import Derived.Test.YtjimmfbjhkoekaaMgR
import Derived.Test.YtjimmfbjhkoekaaMgP
/- Icmps: lives. -/
namespace Go.Proofs.Ytjimmfbjhkoekaa
open Go.RowKit
set_option maxRecDepth 100000
set_option maxHeartbeats 2000000
@[go_sem] theorem builtMsg_want : Try.prog.built 33 [(0, .int .u8 128), (2, .int .u32 1)] = some (mC wantM) := by kernel_rfl
def noneB : List UInt8 := [200, 0, 55, 193]
def badB : List UInt8 := [128, 0, 127, 187, 0, 0, 0, 1]
theorem want_mok (w : World) : MvOk w w.heap.size wantM := ⟨Rd.nil, fun _ => ⟨rfl, rfl⟩, Nat.le_refl _, by decide, ⟨Rws.nil, fun x hx => by simp [wantM, mZ] at hx⟩, Nat.le_refl _, by decide, Rws.nil, fun z hz => by simp [wantM, mZ] at hz, Nat.le_refl _, by decide, Rws.nil, fun r hr => by simp [wantM, mZ] at hr, Nat.le_refl _, by decide, by decide, by decide, by decide, by decide, by decide⟩
theorem want_small : Small wantM := ⟨by decide, by decide, by decide⟩
theorem want_big : Big wantM := ⟨by decide, by decide, by decide, fun r hr => by simp [wantM, mZ] at hr, by decide, fun x hx => by simp [wantM, mZ] at hx⟩
theorem big_of {mo : Mv} (h : mo.pl = wantM.pl) : Big mo := by
  have h1 : mo.dd = [] := congrArg Msg.data h
  have h2 : mo.ss = [] := congrArg Msg.srcs h
  have h3 : mo.os.map Ov.pl = [] := congrArg Msg.opts h
  have h4 : mo.rs.map Rv.pl = [] := congrArg Msg.recs h
  rw [List.map_eq_nil_iff] at h3 h4
  exact ⟨by rw [h1]; decide, by rw [h2]; decide, by rw [h4]; decide, fun r hr => by rw [h4] at hr; simp at hr, by rw [h3]; decide, fun x hx => by rw [h3] at hx; simp at hx⟩
theorem lives11_any (w : World) : Calls Try.prog 9 #[] w fun e w' => e = .returned (.bool true) ∧ Below w.heap.size w w' := by
  go_enter Try.func9, Try.ntmps9
  go_upto_region 3 with fail
  generalize hW1 : World.alloc (World.alloc w _) _ = W1
  have b1 : Below w.heap.size w W1 := by rw [← hW1]; exact (by (repeat (first | exact Below.refl _ _ | assumption | refine Below.drew ?_ | refine bdrewN ?_ _ | refine Below.alloc ?_ (by first | omega | (simp <;> omega) | (simp only [World.size_alloc] <;> omega)) _ | refine below_setRow ?_ (by first | omega | (simp <;> omega)) _ | refine Below.setCell ?_ (by first | omega | (simp <;> omega)) _)))
  obtain ⟨s, hs⟩ : ∃ s, s = w.heap.size := ⟨_, rfl⟩
  have kz : bk W1 s = some (.cells (z16.map B).toArray 23 (0, 0)) := by rw [← hW1, hs, bk_alloc_past _ _ _ (by simp)]; exact (bk_alloc_at _ _ _ rfl).trans (by kernel_rfl)
  have kw : bk W1 (s + 1) = some (.cells (wantB.map B).toArray 5 (0, 0)) := by rw [← hW1, hs]; exact (bk_alloc_at _ _ _ (by simp)).trans (by kernel_rfl)
  rw [← hs]
  have B1 := Lib.hid b1; have HS := Lib.hid hs
  clear b1 hs hW1
  have lz := bk_lt kz; have lw := bk_lt kw
  have CP := Lib.hid (putm_good z16 z16 rfl rfl wantM W1 (want_mok W1) want_small want_ok)
  have zl : z16.length = 16 := rfl
  go_wp2_with fail
  refine CP.out.mono ?_
  rintro e w2 ⟨hput, b2⟩
  unfold PutM at hput
  rw [if_pos want_ok, want_put] at hput
  obtain ⟨A, rfl, hown⟩ := hput
  obtain ⟨A', c', eS, hrA, hAn, _⟩ := hown.sl
  cases eS
  have kz2 := bk_keep b2 lz kz; have kw2 := bk_keep b2 lw kw
  have F2 := Lib.hid (B1.out.trans (b2.mono B1.out.size))
  have KZ2 := Lib.hid kz2; have KW2 := Lib.hid kw2; have RA2 := Lib.hid hrA
  have RW2 : Hid (Rd w2 w2.heap.size (some ⟨s + 1, 0, none⟩) wantB) := Lib.hid (Rd.of_bk kw2 (bk_lt kw2) (fun j h => by simp [List.getElem?_eq_getElem h]))
  have CG := Lib.hid (getm_any z16 z16 rfl rfl (some ⟨s + 1, 0, none⟩) wantB 8 w2 RW2.out (fun e => by cases e) (by decide) (by decide) (by have := bk_lt kz2; omega))
  have lz2 := bk_lt kz2
  clear kz kw lz lw b2 hown hrA CP B1 kw2
  go_wp2_with fail
  refine CG.out.mono ?_
  rintro e w3 ⟨hg, b3⟩
  obtain ⟨mo, rfl, hmo, hok⟩ := want_get hg
  have kz3 := bk_keep b3 lz2 kz2
  have F3 := Lib.hid (F2.out.trans (b3.mono F2.out.size))
  have OK3 := Lib.hid (And.intro hmo hok)
  have lz3 := bk_lt kz3
  have b3' := b3
  clear kz2 lz2 b3 CG hg hmo hok
  go_upto_region 5 with fail
  have kw3 := bk_keep b3' (bk_lt KW2.out) KW2.out
  generalize hW4 : World.alloc w3 _ = W4
  have b4 : Below w3.heap.size w3 W4 := by rw [← hW4]; exact (by (repeat (first | exact Below.refl _ _ | assumption | refine Below.drew ?_ | refine bdrewN ?_ _ | refine Below.alloc ?_ (by first | omega | (simp <;> omega) | (simp only [World.size_alloc] <;> omega)) _ | refine below_setRow ?_ (by first | omega | (simp <;> omega)) _ | refine Below.setCell ?_ (by first | omega | (simp <;> omega)) _)))
  have km4 : bk W4 w3.heap.size = some (.cells (mC mo) 33 (0, 0)) := by rw [← hW4]; exact bk_alloc_at _ _ _ rfl
  have kw4 := bk_keep b4 (bk_lt kw3) kw3
  have B4 := Lib.hid b4
  have KW4 := Lib.hid kw4; have KM4 := Lib.hid km4
  have KZ4 := Lib.hid (bk_keep b4 lz3 kz3)
  have F4 := Lib.hid (F3.out.trans (b4.mono F3.out.size))
  have B34 := Lib.hid (b3'.trans (b4.mono b3'.size))
  have RW4 : Hid (Rd W4 W4.heap.size (some ⟨s + 1, 0, none⟩) wantB) := Lib.hid (Rd.of_bk kw4 (bk_lt kw4) (fun j h => by simp [List.getElem?_eq_getElem h]))
  clear hW4 b4 km4 kw4 kw3 kz3 lz3 b3'
  go_wp2_with (at_builtin; refine append_rd rfl _ _ rfl W4.heap.size (.slice none 0 0) 0 [] rfl (World.ownsRow_nil _ _ _ _) (some ⟨s + 1, 0, none⟩) wantB 8 rfl (fun e => by cases e) RW4.out (by decide) (Nat.le_refl _) ?_)
  intro v5 w5 hown5 hgr
  obtain ⟨g, cap, cur, rfl, hg5, hb5, h51, h52, h53, h54⟩ : ∃ g cap cur, v5 = .slice (some ⟨g, 0, none⟩) 8 cap ∧ W4.heap.size ≤ g ∧ bk w5 g = some (.cells cur 5 (0, 0)) ∧ 8 ≤ cap ∧ cap ≤ maxLen ∧ 8 ≤ cur.size ∧ cur.toList.take 8 = wantB.map B := by
    rcases hown5.2 with ⟨_, h0⟩ | ⟨g, cap, cur, e, hg, hb, h1, h2, h3, h4⟩
    · exact absurd h0 (by decide)
    · have e8 : wantB.length = 8 := rfl
      rw [e8] at h1 h4
      exact ⟨g, cap, cur, e, hg, hb, by omega, h2, by omega, by simpa using h4⟩
  have g3 : w5.cell? ⟨g, 3, none⟩ = some (.int .u8 188) := by
    rw [bk_cell hb5]
    have e3 : (cur.toList.take 8)[3]? = (wantB.map B)[3]? := by rw [h54]
    rw [List.getElem?_take, if_pos (by decide), Array.getElem?_toList] at e3
    exact e3
  have f3 := bk_frozen hb5 3
  have lg5 := bk_lt hb5
  have HB5 := Lib.hid (And.intro hb5 (And.intro hg5 (And.intro h53 h54)))
  have b5 : Below W4.heap.size W4 w5 := (Below.refl _ _).grown hgr (Nat.le_refl _) (fun k hk => by simp [Value.ownBlock] at hk)
  have B5 := Lib.hid b5
  clear hb5 hg5 h53 h54 hown5 hgr b5
  go_upto_region 7 with fail
  have kg6 : bk (w5.setCell ⟨g, 3, none⟩ (.int .u8 187)) g = some (.cells (cur.setIfInBounds 3 (.int .u8 187)) 5 (0, 0)) := by rw [bk_setCell_same, HB5.out.1]; rfl
  have hcs : ∀ j (h : j < badB.length), (cur.setIfInBounds 3 (.int .u8 187))[j]? = some (B badB[j]) := fun j h => by
    have hj : j < 8 := h
    have h53 := HB5.out.2.2.1
    by_cases e : j = 3
    · subst e; rw [Array.getElem?_setIfInBounds_self_of_lt (by omega)]; rfl
    · rw [Array.getElem?_setIfInBounds_ne (fun e' => e e'.symm)]
      have e3 : (cur.toList.take 8)[j]? = (wantB.map B)[j]? := by rw [HB5.out.2.2.2]
      rw [List.getElem?_take, if_pos hj, Array.getElem?_toList] at e3
      rw [e3]
      have : j = 0 ∨ j = 1 ∨ j = 2 ∨ j = 4 ∨ j = 5 ∨ j = 6 ∨ j = 7 := by omega
      rcases this with rfl | rfl | rfl | rfl | rfl | rfl | rfl <;> rfl
  have b6 : Below W4.heap.size W4 (w5.setCell ⟨g, 3, none⟩ (.int .u8 187)) := B5.out.setCell (p := ⟨g, 3, none⟩) HB5.out.2.1 _
  generalize w5.setCell ⟨g, 3, none⟩ (.int .u8 187) = W6 at *
  have F6 := Lib.hid (F4.out.trans (b6.mono F4.out.size))
  have kz6 := bk_keep b6 (bk_lt KZ4.out) KZ4.out
  have KM6 := Lib.hid (bk_keep b6 (bk_lt KM4.out) KM4.out); have KW6 := Lib.hid (bk_keep b6 (bk_lt KW4.out) KW4.out)
  have CG := Lib.hid (getm_any z16 z16 rfl rfl (some ⟨g, 0, none⟩) badB cap W6 (fun _ => ⟨g, 0, rfl, bk_lt kg6, fun j hj => by rw [bk_cell kg6, Nat.zero_add]; exact hcs j hj⟩) (fun e => by cases e) h51 (by decide) (by have := bk_lt kz6; omega))
  have lz6 := bk_lt kz6
  have B46 := Lib.hid b6
  clear hcs b6 kg6 HB5 B5 KZ4 KM4 KW4 RW4 lg5 f3 g3 RW2
  go_wp2_with fail
  refine CG.out.mono ?_
  rintro e w7 ⟨hg, b7⟩
  have hb7 := bad_get hg
  subst hb7
  have kz7 := bk_keep b7 lz6 kz6
  have lz7 := bk_lt kz7
  have F7 := Lib.hid (F6.out.trans (b7.mono F6.out.size))
  have KM7 := Lib.hid (bk_keep b7 (bk_lt KM6.out) KM6.out); have KW7 := Lib.hid (bk_keep b7 (bk_lt KW6.out) KW6.out)
  have B7 := Lib.hid b7
  clear b7 kz6 lz6 CG KM6 KW6 hg
  go_upto_region 8 with fail
  generalize hW8 : World.alloc w7 _ = W8
  have b8 : Below w7.heap.size w7 W8 := by rw [← hW8]; exact (by (repeat (first | exact Below.refl _ _ | assumption | refine Below.drew ?_ | refine bdrewN ?_ _ | refine Below.alloc ?_ (by first | omega | (simp <;> omega) | (simp only [World.size_alloc] <;> omega)) _ | refine below_setRow ?_ (by first | omega | (simp <;> omega)) _ | refine Below.setCell ?_ (by first | omega | (simp <;> omega)) _)))
  have kz8 := bk_keep b8 lz7 kz7
  have lz8 := bk_lt kz8
  have F8 := Lib.hid (F7.out.trans (b8.mono F7.out.size))
  have KM8 := Lib.hid (bk_keep b8 (bk_lt KM7.out) KM7.out); have KW8 := Lib.hid (bk_keep b8 (bk_lt KW7.out) KW7.out)
  have B78 := Lib.hid (B7.out.trans (b8.mono B7.out.size))
  clear hW8 b8 kz7 lz7 KM7 KW7
  go_wp2_with fail
  obtain ⟨W9, hW9⟩ : ∃ W, W = W8.alloc (.cells (noneB.map B).toArray 5 (0, 0)) := ⟨_, rfl⟩
  have b9 : Below W8.heap.size W8 W9 := by rw [hW9]; exact (by (repeat (first | exact Below.refl _ _ | assumption | refine Below.drew ?_ | refine bdrewN ?_ _ | refine Below.alloc ?_ (by first | omega | (simp <;> omega) | (simp only [World.size_alloc] <;> omega)) _ | refine below_setRow ?_ (by first | omega | (simp <;> omega)) _ | refine Below.setCell ?_ (by first | omega | (simp <;> omega)) _)))
  have CN := Lib.hid (getm_any z16 z16 rfl rfl (some ⟨W8.heap.size, 0, none⟩) noneB 4 W9 (by rw [hW9]; exact Rd.lit W8 noneB 5) (fun e => by cases e) (by decide) (by decide) (by have := b9.size; omega))
  have kz9 := bk_keep b9 lz8 kz8
  have F9 := Lib.hid (F8.out.trans (b9.mono F8.out.size))
  have KM9 := Lib.hid (bk_keep b9 (bk_lt KM8.out) KM8.out); have KW9 := Lib.hid (bk_keep b9 (bk_lt KW8.out) KW8.out)
  have B89 := Lib.hid (B78.out.trans (b9.mono B78.out.size))
  rw [hW9] at CN
  refine CN.out.mono ?_
  rw [← hW9]
  rintro e w10 ⟨hg, b10⟩
  have hb10 := none_get hg
  subst hb10
  have KM10 := Lib.hid (bk_keep b10 (bk_lt KM9.out) KM9.out); have KW10 := Lib.hid (bk_keep b10 (bk_lt KW9.out) KW9.out)
  have F10 := Lib.hid (F9.out.trans (b10.mono F9.out.size))
  have BX := Lib.hid (B89.out.trans (b10.mono B89.out.size))
  clear b10 b9 kz9 hW9 CN KM9 KW9 kz8 lz8 hg
  go_upto_region 9 with fail
  generalize hW11 : World.alloc w10 _ = W11
  have b11 : Below w10.heap.size w10 W11 := by rw [← hW11]; exact (by (repeat (first | exact Below.refl _ _ | assumption | refine Below.drew ?_ | refine bdrewN ?_ _ | refine Below.alloc ?_ (by first | omega | (simp <;> omega) | (simp only [World.size_alloc] <;> omega)) _ | refine below_setRow ?_ (by first | omega | (simp <;> omega)) _ | refine Below.setCell ?_ (by first | omega | (simp <;> omega)) _)))
  have km11 := bk_keep b11 (bk_lt KM10.out) KM10.out
  have kw11 := bk_keep b11 (bk_lt KW10.out) KW10.out
  have F11 := Lib.hid (F10.out.trans (b11.mono F10.out.size))
  have BY := Lib.hid (B46.out.trans ((BX.out.trans (b11.mono BX.out.size)).mono B46.out.size))
  have lm11 := bk_lt km11
  have RA11 : Hid (Rd W11 W11.heap.size A wantB) := Lib.hid (by
    have h := B34.out.trans (BY.out.mono B34.out.size)
    exact (RA2.out.below h (Nat.le_refl _)).mono h.size)
  have RW11 : Hid (Rd W11 W11.heap.size (some ⟨s + 1, 0, none⟩) wantB) := Lib.hid (Rd.of_bk kw11 (bk_lt kw11) (fun j h => by simp [List.getElem?_eq_getElem h]))
  have OK11 : Hid (MvOk W11 W11.heap.size mo) := Lib.hid (by
    have h := B4.out.trans (BY.out.mono B4.out.size)
    exact (OK3.out.2.below h (Nat.le_refl _)).mono h.size)
  have CB := Lib.hid (sameBytes_any A (some ⟨s + 1, 0, none⟩) wantB wantB wantB.length 8 W11 RA11.out RW11.out (by decide) (by decide))
  clear hW11 b11 kw11
  go_wp2_with fail
  refine CB.out.mono ?_
  rintro e w12 ⟨rfl, b12⟩
  rw [show (wantB == wantB) = true by decide]
  have km12 := bk_keep b12 lm11 km11
  have lm12 := bk_lt km12
  have F12 := Lib.hid (F11.out.trans (b12.mono F11.out.size))
  have CS := Lib.hid (sameMessage_any mo wantM w12 ((OK11.out.below b12 (Nat.le_refl _)).mono b12.size) (want_mok w12) OK3.out.1 (big_of OK3.out.1))
  clear km11 lm11 b12 CB
  go_wp2_with fail
  refine CS.out.mono ?_
  rintro e w13 ⟨rfl, b13⟩
  have F13 := Lib.hid (F12.out.trans (b13.mono F12.out.size))
  clear b13 CS km12 lm12
  go_wp2_with fail
  go_ret
  exact ⟨rfl, F13.out⟩
end Go.Proofs.Ytjimmfbjhkoekaa
/- Icmps: bytes in a block; Put, whatever message it is. -/
namespace Go.Proofs.Ytjimmfbjhkoekaa
open Go.RowKit
set_option maxRecDepth 100000
/-- Bytes at the beginning of a block. -/
def By (w : World) (g : Nat) (L : List UInt8) : Prop := ∃ cur, bk w g = some (.cells cur 5 (0, 0)) ∧ cur.toList.take L.length = L.map B
section
variable {w w' : World} {g n : Nat} {L : List UInt8}
theorem By.lt (h : By w g L) : g < w.heap.size := by obtain ⟨cur, h1, _⟩ := h; exact bk_lt h1
theorem By.keep (h : By w g L) (hb : Below w.heap.size w w') : By w' g L := by obtain ⟨cur, h1, h2⟩ := h; exact ⟨cur, bk_keep hb (bk_lt h1) h1, h2⟩
theorem By.rd (h : By w g L) : Rd w w.heap.size (some ⟨g, 0, none⟩) L := by obtain ⟨cur, h1, h2⟩ := h; exact Rd.of_take h1 h2 (bk_lt h1)
theorem By.cell (h : By w g L) {j : Nat} {x : UInt8} (hx : L[j]? = some x) : w.cell? ⟨g, j, none⟩ = some (B x) := by
  obtain ⟨cur, h1, h2⟩ := h
  rw [bk_cell h1]
  have h3 : (cur.toList.take L.length)[j]? = some (B x) := by rw [h2, List.getElem?_map, hx]; rfl
  rw [List.getElem?_take] at h3
  split at h3
  · simpa using h3
  · cases h3
theorem By.frozen (h : By w g L) (j : Nat) : w.frozen? ⟨g, j, none⟩ = false := by obtain ⟨cur, h1, _⟩ := h; exact bk_frozen h1 j
theorem By.set (h : By w g L) (j : Nat) (x : UInt8) : By (w.setCell ⟨g, j, none⟩ (B x)) g (L.set j x) := by
  obtain ⟨cur, h1, h2⟩ := h
  refine ⟨cur.setIfInBounds j (B x), by rw [bk_setCell_same, h1]; rfl, ?_⟩
  rw [List.length_set, Array.toList_setIfInBounds, List.take_set, h2, List.map_set]
theorem By.other (h : By w g L) {k j : Nat} (v : Value) (hk : g ≠ k) : By (w.setCell ⟨k, j, none⟩ v) g L := by
  obtain ⟨cur, h1, h2⟩ := h
  exact ⟨cur, by rw [bk_setCell_other _ _ _ _ _ hk]; exact h1, h2⟩
theorem Own.by {v : Value} (h : Own w n v L) (h0 : 0 < L.length) : ∃ g c, v = .slice (some ⟨g, 0, none⟩) L.length c ∧ n ≤ g ∧ By w g L ∧ L.length ≤ c ∧ c ≤ maxLen := by
  rcases h with ⟨_, rfl⟩ | ⟨g, c, cur, rfl, hg, hb, h1, _, h3, ht, _⟩
  · simp at h0
  · exact ⟨g, c, rfl, hg, ⟨cur, hb, ht⟩, h1, h3⟩
end
theorem optsB_sum : ∀ l : List Ov, (optsB (l.map Ov.pl)).length ≤ 9 * l.length + (l.map fun x => x.d.length).sum
  | [] => by simp [optsB]
  | x :: l => by
    have ih := optsB_sum l
    have e : optsB ((x :: l).map Ov.pl) = optB x.pl ++ optsB (l.map Ov.pl) := by simp [optsB]
    have h1 := optB_len x.pl
    have h2 := optB_sz x.d
    have h3 := optE_le x.d
    have h4 : optM x.pl.2 = optM x.d := rfl
    rw [e, List.length_append, List.length_cons, List.map_cons, List.sum_cons]
    omega
theorem small_of {m : Mv} (h1 : msgSum m ≤ 6000) (h2 : optsSum m.os ≤ 5000) : Small m := by
  unfold msgSum at h1
  unfold optsSum at h2
  have h3 := optsB_sum m.os
  exact ⟨by omega, by omega, by omega⟩
theorem putm_any (src dst : List UInt8) (h1 : src.length = 16) (h2 : dst.length = 16) (m : Mv) (w : World) (hok : MvOk w w.heap.size m) (hs : Small m) :
    Calls Try.prog 11 #[av src, av dst, .agg (mC m)] w fun e w' => PutM src dst m.pl w.heap.size e w' ∧ Below w.heap.size w w' := by
  cases h : okM m.pl
  · exact putm_bad src dst h1 h2 m w hok hs h
  · exact putm_good src dst h1 h2 m w hok hs h
theorem sl_src {s d : List UInt8} (h : s.length = 16) : sl (s ++ d) 0 16 = s := by simp [sl, List.extract_eq_take_drop, h]
theorem sl_dst {s d : List UInt8} (h : s.length = 16) (h' : d.length = 16) : sl (s ++ d) 16 16 = d := by simp [sl, List.extract_eq_take_drop, h]; exact List.take_of_length_le (by omega)
end Go.Proofs.Ytjimmfbjhkoekaa
