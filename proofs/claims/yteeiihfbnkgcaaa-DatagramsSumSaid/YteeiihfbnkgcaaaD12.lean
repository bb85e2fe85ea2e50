/- Checksums: two bytes of Data that make the sum 0. -/
import Derived.Test.YteeiihfbnkgcaaaD9
namespace Go.Proofs.Yteeiihfbnkgcaaa
open Go.RowKit
theorem dsum_full (src dst : List UInt8) (f t : Nat) (L : List UInt8) (m : Nat) (h1 : src.length = 16) (h2 : dst.length = 16) (hL : L.length = m + 2) (hm : m % 2 = 0) (g0 : L[m]? = some 0) (g1 : L[m + 1]? = some 0) :
    dsum src dst f t ((L.set m (UInt8.ofNat (dsum src dst f t L / 256))).set (m + 1) (UInt8.ofNat (dsum src dst f t L))) = 65535 := by
  have hr := dsum_range src dst f t L
  have hp := ovr_pos src dst (dhead f t (8 + L.length) 0 ++ L) h1 h2
  have hd8 : (dhead f t (8 + L.length) 0).length = 8 := by simp [dhead, nb2s_length]
  have hol := ovr_length src dst 17 (dhead f t (8 + L.length) 0 ++ L) h1 h2
  rw [List.length_append, hd8] at hol
  obtain ⟨cs, hcs⟩ : ∃ cs, cs = dsum src dst f t L := ⟨_, rfl⟩
  rw [← hcs] at hr ⊢
  have e : ∀ (i : Nat) (x : UInt8) (M : List UInt8), ovr src dst 17 (dhead f t (8 + L.length) 0 ++ M.set i x) = (ovr src dst 17 (dhead f t (8 + L.length) 0 ++ M)).set (40 + (8 + i)) x := fun i x M => by
    rw [← ovr_set _ _ _ _ h1 h2, List.set_append_right _ _ (by omega), hd8, Nat.add_sub_cancel_left]
  have ga : ∀ (i : Nat) (M : List UInt8) (h : 40 + (8 + i) < (ovr src dst 17 (dhead f t (8 + L.length) 0 ++ M)).length) (x : UInt8), M[i]? = some x → (ovr src dst 17 (dhead f t (8 + L.length) 0 ++ M))[40 + (8 + i)] = x := fun i M h x hx => by
    have hlt : i < M.length := (List.getElem?_eq_some_iff.1 hx).1
    rw [ovr_at _ _ _ _ h1 h2 (8 + i) (by rw [List.length_append, hd8]; omega), List.getElem_append_right (by omega)]
    simp only [hd8, Nat.add_sub_cancel_left]
    rw [List.getElem?_eq_getElem hlt] at hx
    exact Option.some.inj hx
  have s1 := WS_set (ovr src dst 17 (dhead f t (8 + L.length) 0 ++ L)) (40 + (8 + m)) (by omega) (UInt8.ofNat (cs / 256))
  rw [ga m L (by omega) 0 g0, ← e] at s1
  have hol2 : (ovr src dst 17 (dhead f t (8 + L.length) 0 ++ L.set m (UInt8.ofNat (cs / 256)))).length = 40 + (8 + L.length) := by rw [e, List.length_set, hol]
  have s2 := WS_set (ovr src dst 17 (dhead f t (8 + L.length) 0 ++ L.set m (UInt8.ofNat (cs / 256)))) (40 + (8 + (m + 1))) (by omega) (UInt8.ofNat cs)
  rw [ga (m + 1) (L.set m (UInt8.ofNat (cs / 256))) (by omega) 0 (by rw [List.getElem?_set_ne (by omega)]; exact g1), ← e] at s2
  have p1 : ((40 + (8 + m)) % 2 == 0) = true := by simp; omega
  have p2 : ((40 + (8 + (m + 1))) % 2 == 0) = false := by simp; omega
  simp only [wt, p1, p2, if_true, Bool.false_eq_true, if_false, UInt8.toNat_ofNat', UInt8.toNat_zero] at s1 s2
  simp at s1 s2
  have hl2 : ((L.set m (UInt8.ofNat (cs / 256))).set (m + 1) (UInt8.ofNat cs)).length = L.length := by simp
  have key : sumOf (ovr src dst 17 (dhead f t (8 + L.length) 0 ++ (L.set m (UInt8.ofNat (cs / 256))).set (m + 1) (UInt8.ofNat cs))) = 0 := by
    rw [sumOf_zero]
    generalize WS (ovr src dst 17 (dhead f t (8 + L.length) 0 ++ (L.set m (UInt8.ofNat (cs / 256))).set (m + 1) (UInt8.ofNat cs))) = W2 at *
    generalize WS (ovr src dst 17 (dhead f t (8 + L.length) 0 ++ L.set m (UInt8.ofNat (cs / 256)))) = W1 at *
    have hd : cs = if 65535 - red (WS (ovr src dst 17 (dhead f t (8 + L.length) 0 ++ L))) = 0 then 65535 else 65535 - red (WS (ovr src dst 17 (dhead f t (8 + L.length) 0 ++ L))) := by rw [hcs]; unfold dsum sumOf; rfl
    generalize WS (ovr src dst 17 (dhead f t (8 + L.length) 0 ++ L)) = W at *
    have hrd : red W = (W - 1) % 65535 + 1 := by unfold red; rw [if_neg (by omega)]
    rw [hrd] at hd
    have hs : W2 = W + cs := by omega
    clear s1 s2
    obtain ⟨q, hq⟩ : ∃ q, q = (W - 1) / 65535 := ⟨_, rfl⟩
    obtain ⟨r, hr'⟩ : ∃ r, r = (W - 1) % 65535 := ⟨_, rfl⟩
    have hdm := Nat.div_add_mod (W - 1) 65535
    have hrl : r < 65535 := by rw [hr']; exact Nat.mod_lt _ (by omega)
    rw [← hq, ← hr'] at hdm
    rw [← hr'] at hd
    clear hq hr' hrd
    have hk : ∃ k, W2 = 65535 * k := by
      split at hd
      · exact ⟨q + 2, by omega⟩
      · exact ⟨q + 1, by omega⟩
    obtain ⟨k, hk⟩ := hk
    exact ⟨by omega, by rw [hk]; exact Nat.mul_mod_right _ _⟩
  unfold dsum
  rw [hl2, if_pos key]
theorem gE_zero (src dst : List UInt8) (f t : Nat) (l : List UInt8) (hl : l.length ≤ 65527) : gE src dst (((dgb src dst f t l).set 6 0).set 7 0) = 6 := by
  have hn := dgb_length src dst f t l
  have e := dsz_dgb (src := src) (dst := dst) (f := f) (t := t) hl []
  rw [List.append_nil, dsz_get _ (by omega)] at e
  have ez : dsz (((dgb src dst f t l).set 6 0).set 7 0) = 8 + l.length := by
    rw [dsz_get _ (by simp; omega), List.getElem_set_ne (by omega), List.getElem_set_ne (by omega), List.getElem_set_ne (by omega), List.getElem_set_ne (by omega), e]
  exact gE_sum (by simp; omega) (by rw [ez]; simp; omega) (.inl (dgb_set67 src dst f t l))
end Go.Proofs.Yteeiihfbnkgcaaa
