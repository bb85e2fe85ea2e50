/- Checksums: plain laws on what is put, and on what is turned. -/
import Derived.Test.YteeiihfbnkgcaaaD3
namespace Go.Proofs.Yteeiihfbnkgcaaa
open Go.RowKit
theorem tk_set (L : List UInt8) (i : Nat) (h : i < L.length) (x : UInt8) : ∀ k, ws (tk (L.set i x) k) + (if i < k then wt (L[i], i % 2 == 0) else 0) = ws (tk L k) + (if i < k then wt (x, i % 2 == 0) else 0)
  | 0 => by simp [tk, ws]
  | k + 1 => by
    have ih := tk_set L i h x k
    rw [tk_succ, tk_succ, ws_snoc, ws_snoc]
    rcases Nat.lt_trichotomy i k with hk | hk | hk
    · rw [if_pos hk, if_pos hk] at ih
      rw [if_pos (by omega), if_pos (by omega), List.getElem?_set_ne (by omega)]
      omega
    · subst hk
      simp only [Nat.lt_irrefl, if_false, Nat.add_zero] at ih
      rw [if_pos (by omega), if_pos (by omega), ih, List.getElem?_set_self h, List.getElem?_eq_getElem h]
      simp only [Option.getD_some]
      omega
    · rw [if_neg (by omega), if_neg (by omega)] at ih
      rw [if_neg (by omega), if_neg (by omega), List.getElem?_set_ne (by omega)]
      omega
theorem WS_set (L : List UInt8) (i : Nat) (h : i < L.length) (x : UInt8) : WS (L.set i x) + wt (L[i], i % 2 == 0) = WS L + wt (x, i % 2 == 0) := by
  have := tk_set L i h x L.length
  rw [if_pos h, if_pos h] at this
  unfold WS
  rw [List.length_set]
  exact this
theorem sumOf_zero (L : List UInt8) : sumOf L = 0 ↔ 0 < WS L ∧ WS L % 65535 = 0 := by
  unfold sumOf red
  split <;> omega
/-- A byte turned: no longer good. -/
theorem sumOf_set (L : List UInt8) (i : Nat) (h : i < L.length) (x : UInt8) (hx : x ≠ L[i]) (h0 : sumOf L = 0) : sumOf (L.set i x) ≠ 0 := fun h1 => by
  rw [sumOf_zero] at h0 h1
  have hs := WS_set L i h x
  have hne : x.toNat ≠ L[i].toNat := fun e => hx (UInt8.toNat_inj.1 e)
  have b1 := x.toNat_lt
  have b2 := (L[i]).toNat_lt
  unfold wt at hs
  simp only [] at hs
  split at hs <;> omega
theorem ovr_set (src dst b : List UInt8) (nx : UInt8) (h1 : src.length = 16) (h2 : dst.length = 16) (i : Nat) (x : UInt8) : ovr src dst nx (b.set i x) = (ovr src dst nx b).set (40 + i) x := by
  unfold ovr
  rw [List.length_set, List.set_append_right _ _ (by simp [nb_length, h1, h2])]
  congr 1
  simp [nb_length, h1, h2]
theorem ovr_src (src dst b : List UInt8) (nx : UInt8) (h1 : src.length = 16) (i : Nat) (hi : i < 16) (x : UInt8) : ovr (src.set i x) dst nx b = (ovr src dst nx b).set i x := by
  unfold ovr
  simp only [List.append_assoc]
  rw [List.set_append_left _ _ (by omega)]
theorem ovr_at (src dst b : List UInt8) (nx : UInt8) (h1 : src.length = 16) (h2 : dst.length = 16) (i : Nat) (h : i < b.length) (h' : 40 + i < (ovr src dst nx b).length) : (ovr src dst nx b)[40 + i] = b[i] := by
  have e : (ovr src dst nx b)[40 + i]? = b[i]? := by
    unfold ovr
    rw [List.getElem?_append_right (by simp [nb_length, h1, h2])]
    congr 1
    simp [nb_length, h1, h2]
  rw [List.getElem?_eq_getElem h', List.getElem?_eq_getElem h] at e
  exact Option.some.inj e
theorem ovr_pos (src dst b : List UInt8) (h1 : src.length = 16) (h2 : dst.length = 16) : 0 < WS (ovr src dst 17 b) := by
  have hl := ovr_length src dst 17 b h1 h2
  have h39 : (ovr src dst 17 b)[39]'(by omega) = 17 := by
    have e : (ovr src dst 17 b)[39]? = some 17 := by
      unfold ovr
      rw [List.getElem?_append_left (by simp [nb_length, h1, h2]), List.getElem?_append_right (by simp [nb_length, h1, h2])]
      simp [nb_length, h1, h2]
    rw [List.getElem?_eq_getElem (by omega)] at e
    exact Option.some.inj e
  have := WS_set (ovr src dst 17 b) 39 (by omega) 0
  rw [h39] at this
  have e : wt ((17 : UInt8), 39 % 2 == 0) = 17 := by decide
  have e' : wt ((0 : UInt8), 39 % 2 == 0) = 0 := by decide
  rw [e, e'] at this
  omega
/-- What the checksum weighs. -/
theorem WS_sum (src dst : List UInt8) (f t n c : Nat) (l : List UInt8) (h1 : src.length = 16) (h2 : dst.length = 16) (hc : c < 65536) : WS (ovr src dst 17 (dhead f t n c ++ l)) = WS (ovr src dst 17 (dhead f t n 0 ++ l)) + c := by
  have hd8 : (dhead f t n 0).length = 8 := by simp [dhead, nb2s_length]
  have hl : (dhead f t n 0 ++ l).length = 8 + l.length := by rw [List.length_append, hd8]
  have hol := ovr_length src dst 17 (dhead f t n 0 ++ l) h1 h2
  have e := dset f t n c l
  have g6 : (dhead f t n 0 ++ l)[6]'(by omega) = 0 := by
    rw [List.getElem_append_left (by omega)]
    simp [dhead, nb2s, nb2']
  have g7 : (dhead f t n 0 ++ l)[7]'(by omega) = 0 := by
    rw [List.getElem_append_left (by omega)]
    simp [dhead, nb2s, nb2']
  rw [← e, ovr_set _ _ _ _ h1 h2, ovr_set _ _ _ _ h1 h2]
  have s1 := WS_set (ovr src dst 17 (dhead f t n 0 ++ l)) (40 + 6) (by omega) (UInt8.ofNat (c / 256))
  have s2 := WS_set ((ovr src dst 17 (dhead f t n 0 ++ l)).set (40 + 6) (UInt8.ofNat (c / 256))) (40 + 7) (by rw [List.length_set]; omega) (UInt8.ofNat c)
  rw [ovr_at _ _ _ _ h1 h2 6 (by omega), g6] at s1
  rw [List.getElem_set_ne (by omega), ovr_at _ _ _ _ h1 h2 7 (by omega), g7] at s2
  simp only [wt, Nat.reduceAdd, Nat.reduceMod, beq_self_eq_true, if_true, UInt8.toNat_ofNat', UInt8.toNat_zero] at s1 s2
  simp at s1 s2
  simp only [Nat.reduceAdd]
  omega
theorem dsum_range (src dst : List UInt8) (f t : Nat) (l : List UInt8) : 0 < dsum src dst f t l ∧ dsum src dst f t l < 65536 := by
  have := sumOf_le (ovr src dst 17 (dhead f t (8 + l.length) 0 ++ l))
  unfold dsum
  split <;> omega
/-- What is put is good. -/
theorem dgb_good (src dst : List UInt8) (f t : Nat) (l : List UInt8) (h1 : src.length = 16) (h2 : dst.length = 16) : sumOf (ovr src dst 17 (dgb src dst f t l)) = 0 := by
  have hr := dsum_range src dst f t l
  have hw := WS_sum src dst f t (8 + l.length) (dsum src dst f t l) l h1 h2 hr.2
  have hp := ovr_pos src dst (dhead f t (8 + l.length) 0 ++ l) h1 h2
  unfold dgb
  rw [sumOf_zero, hw]
  generalize hW : WS (ovr src dst 17 (dhead f t (8 + l.length) 0 ++ l)) = W at *
  have hd : dsum src dst f t l = if 65535 - red W = 0 then 65535 else 65535 - red W := by unfold dsum sumOf; rw [hW]
  have hrd : red W = (W - 1) % 65535 + 1 := by unfold red; rw [if_neg (by omega)]
  rw [hd, hrd]
  split <;> omega
theorem dgb_cons (src dst : List UInt8) (f t : Nat) (l : List UInt8) : dgb src dst f t l = UInt8.ofNat (f / 256) :: UInt8.ofNat f :: UInt8.ofNat (t / 256) :: UInt8.ofNat t :: UInt8.ofNat ((8 + l.length) / 256) :: UInt8.ofNat (8 + l.length) :: UInt8.ofNat (dsum src dst f t l / 256) :: UInt8.ofNat (dsum src dst f t l) :: l := by
  simp [dgb, dhead, nb2s, nb2']
theorem val_two (n : Nat) (h : n < 65536) : val [UInt8.ofNat (n / 256), UInt8.ofNat n] = n := by
  simp only [val, List.foldl_cons, List.foldl_nil, UInt8.toNat_ofNat']
  omega
theorem dsz_get (l : List UInt8) (h : 8 ≤ l.length) : dsz l = 256 * l[4].toNat + l[5].toNat := by
  match l, h with
  | x0 :: x1 :: x2 :: x3 :: x4 :: x5 :: x6 :: x7 :: r, _ => simp [dsz, val]
theorem dcs_get (l : List UInt8) (h : 8 ≤ l.length) : dcs l = 256 * l[6].toNat + l[7].toNat := by
  match l, h with
  | x0 :: x1 :: x2 :: x3 :: x4 :: x5 :: x6 :: x7 :: r, _ => simp [dcs, val]
section
variable {src dst : List UInt8} {f t : Nat} {l : List UInt8} (h1 : src.length = 16) (h2 : dst.length = 16) (hf : f < 65536) (ht : t < 65536) (hl : l.length ≤ 65527)
include hl in
theorem dsz_dgb (z : List UInt8) : dsz (dgb src dst f t l ++ z) = 8 + l.length := by
  rw [dgb_cons]
  exact val_two _ (by omega)
theorem dcs_dgb (z : List UInt8) : dcs (dgb src dst f t l ++ z) = dsum src dst f t l := by
  rw [dgb_cons]
  exact val_two _ (dsum_range src dst f t l).2
include h1 h2 hl in
theorem gE_back (z : List UInt8) : gE src dst (dgb src dst f t l ++ z) = 0 := by
  have hn := dgb_length src dst f t l
  refine gE_ok (by rw [List.length_append]; omega) (by rw [dsz_dgb hl, List.length_append]; omega) ?_
  rw [dcs_dgb, dsz_dgb hl, ← hn, List.take_left', dgb_good src dst f t l h1 h2]
  · have := dsum_range src dst f t l; omega
  · rfl
include h1 h2 hf hl in
theorem gF_back (z : List UInt8) : gF src dst (dgb src dst f t l ++ z) = f := by
  unfold gF
  rw [if_pos (gE_back h1 h2 hl z), dgb_cons]
  exact val_two f hf
include h1 h2 ht hl in
theorem gT_back (z : List UInt8) : gT src dst (dgb src dst f t l ++ z) = t := by
  unfold gT
  rw [if_pos (gE_back h1 h2 hl z), dgb_cons]
  exact val_two t ht
include h1 h2 hl in
theorem gD_back (z : List UInt8) : gD src dst (dgb src dst f t l ++ z) = l := by
  unfold gD
  rw [if_pos (gE_back h1 h2 hl z), dsz_dgb hl, dgb_cons]
  simp
include hl in
theorem gE_cut (k : Nat) (hk : k < 8 + l.length) : gE src dst ((dgb src dst f t l).take k) = 5 ∨ gE src dst ((dgb src dst f t l).take k) = 4 := by
  have hn := dgb_length src dst f t l
  have hlen : ((dgb src dst f t l).take k).length = k := by rw [List.length_take]; omega
  rcases Nat.lt_or_ge k 8 with h8 | h8
  · exact .inl (gE_short (by omega))
  · refine .inr (gE_form (by omega) (.inr ?_))
    have e := dsz_dgb (src := src) (dst := dst) (f := f) (t := t) hl []
    rw [List.append_nil, dsz_get _ (by omega)] at e
    rw [hlen, dsz_get _ (by omega), List.getElem_take, List.getElem_take]
    omega
include h1 h2 hl in
theorem gE_turn (i : Nat) (hi : i < (dgb src dst f t l).length) (h4 : i ≠ 4) (h5 : i ≠ 5) (x : UInt8) (hx : x ≠ (dgb src dst f t l)[i]) : gE src dst ((dgb src dst f t l).set i x) = 6 := by
  have hn := dgb_length src dst f t l
  have e := dsz_dgb (src := src) (dst := dst) (f := f) (t := t) hl []
  rw [List.append_nil, dsz_get _ (by omega)] at e
  have ez : dsz ((dgb src dst f t l).set i x) = 8 + l.length := by
    rw [dsz_get _ (by rw [List.length_set]; omega), List.getElem_set_ne h4, List.getElem_set_ne h5, e]
  refine gE_sum (by rw [List.length_set]; omega) (by rw [ez, List.length_set]; omega) (.inr ?_)
  rw [ez, List.take_of_length_le (by rw [List.length_set]; omega), ovr_set _ _ _ _ h1 h2]
  have ho := ovr_length src dst 17 (dgb src dst f t l) h1 h2
  refine sumOf_set _ _ (by omega) _ ?_ (dgb_good src dst f t l h1 h2)
  rw [ovr_at _ _ _ _ h1 h2 i hi]
  exact hx
include h1 h2 hl in
theorem gE_ends (i : Nat) (hi : i < 16) (x : UInt8) (hx : x ≠ src[i]) : gE (src.set i x) dst (dgb src dst f t l) = 6 := by
  have hn := dgb_length src dst f t l
  have ez := dsz_dgb (src := src) (dst := dst) (f := f) (t := t) hl []
  rw [List.append_nil] at ez
  refine gE_sum (by omega) (by rw [ez]; omega) (.inr ?_)
  rw [ez, List.take_of_length_le (by omega), ovr_src _ _ _ _ h1 i hi]
  have ho := ovr_length src dst 17 (dgb src dst f t l) h1 h2
  refine sumOf_set _ _ (by omega) _ ?_ (dgb_good src dst f t l h1 h2)
  have e : (ovr src dst 17 (dgb src dst f t l))[i]? = src[i]? := by
    unfold ovr
    simp only [List.append_assoc]
    rw [List.getElem?_append_left (by omega)]
  rw [List.getElem?_eq_getElem (by omega), List.getElem?_eq_getElem (by omega)] at e
  rw [Option.some.inj e]
  exact hx
end
theorem dgb_set67 (src dst : List UInt8) (f t : Nat) (l : List UInt8) : dcs (((dgb src dst f t l).set 6 0).set 7 0) = 0 := by
  rw [dgb_cons]
  simp [dcs, val]
end Go.Proofs.Yteeiihfbnkgcaaa
