import Derived.Test.YtojddfbbeiobpaaU0
import Derived.Test.YtojddfbbeiobpaaQ6
import Derived.Test.YtojddfbbeiobpaaQ10
import Derived.Test.YtojddfbbeiobpaaS30
import Derived.Lib.AppendZeros
/- Checksums: plain laws on bytes that are turned. -/
namespace Go.Proofs.Ytojddfbbeiobpaa
open Go.RowKit
theorem tk_set (L : List UInt8) (i : Nat) (h : i < L.length) (x : UInt8) : ∀ k, ws (tk (L.set i x) k) + (if i < k then wt (L[i], i % 2 == 0) else 0) = ws (tk L k) + (if i < k then wt (x, i % 2 == 0) else 0)
  | 0 => by simp [tk, ws]
  | k + 1 => by
    have ih := tk_set L i h x k
    rw [tk_succ, tk_succ, ws_snoc, ws_snoc]
    rcases Nat.lt_trichotomy i k with hk | hk | hk
    · rw [if_pos hk, if_pos hk] at ih
      rw [if_pos (by omega), if_pos (by omega), List.getElem?_set_ne (by omega)]
      omega
    · subst hk
      simp only [Nat.lt_irrefl, if_false, Nat.add_zero] at ih
      rw [if_pos (by omega), if_pos (by omega), ih, List.getElem?_set_self h, List.getElem?_eq_getElem h]
      simp only [Option.getD_some]
      omega
    · rw [if_neg (by omega), if_neg (by omega)] at ih
      rw [if_neg (by omega), if_neg (by omega), List.getElem?_set_ne (by omega)]
      omega
theorem WS_set (L : List UInt8) (i : Nat) (h : i < L.length) (x : UInt8) : WS (L.set i x) + wt (L[i], i % 2 == 0) = WS L + wt (x, i % 2 == 0) := by
  have := tk_set L i h x L.length
  rw [if_pos h, if_pos h] at this
  unfold WS
  rw [List.length_set]
  exact this
theorem sumOf_zero (L : List UInt8) : sumOf L = 0 ↔ 0 < WS L ∧ WS L % 65535 = 0 := by
  unfold sumOf red
  split <;> omega
theorem sumOf_set (L : List UInt8) (i : Nat) (h : i < L.length) (x : UInt8) (hx : x ≠ L[i]) (h0 : sumOf L = 0) : sumOf (L.set i x) ≠ 0 := fun h1 => by
  rw [sumOf_zero] at h0 h1
  have hs := WS_set L i h x
  have hne : x.toNat ≠ L[i].toNat := fun e => hx (UInt8.toNat_inj.1 e)
  have b1 := x.toNat_lt
  have b2 := (L[i]).toNat_lt
  unfold wt at hs
  simp only [] at hs
  split at hs <;> omega
theorem ovr_set (src dst b : List UInt8) (nx : UInt8) (h1 : src.length = 16) (h2 : dst.length = 16) (i : Nat) (x : UInt8) : ovr src dst nx (b.set i x) = (ovr src dst nx b).set (40 + i) x := by
  unfold ovr
  rw [List.length_set, List.set_append_right _ _ (by simp [nb_length, h1, h2])]
  congr 1
  simp [nb_length, h1, h2]
theorem ovr_src (src dst b : List UInt8) (nx : UInt8) (h1 : src.length = 16) (i : Nat) (hi : i < 16) (x : UInt8) : ovr (src.set i x) dst nx b = (ovr src dst nx b).set i x := by
  unfold ovr
  simp only [List.append_assoc]
  rw [List.set_append_left _ _ (by omega)]
theorem ovr_at (src dst b : List UInt8) (nx : UInt8) (h1 : src.length = 16) (h2 : dst.length = 16) (i : Nat) (h : i < b.length) (h' : 40 + i < (ovr src dst nx b).length) : (ovr src dst nx b)[40 + i] = b[i] := by
  have e : (ovr src dst nx b)[40 + i]? = b[i]? := by
    unfold ovr
    rw [List.getElem?_append_right (by simp [nb_length, h1, h2])]
    congr 1
    simp [nb_length, h1, h2]
  rw [List.getElem?_eq_getElem h', List.getElem?_eq_getElem h] at e
  exact Option.some.inj e
end Go.Proofs.Ytojddfbbeiobpaa
/- Checksums: a checksum that is put right. -/
namespace Go.Proofs.Ytojddfbbeiobpaa
open Go.RowKit
theorem ovr_dst (src dst b : List UInt8) (nx : UInt8) (h1 : src.length = 16) (h2 : dst.length = 16) (i : Nat) (hi : i < 16) (x : UInt8) : ovr src (dst.set i x) nx b = (ovr src dst nx b).set (16 + i) x := by
  unfold ovr
  simp only [List.append_assoc]
  rw [List.set_append_right _ _ (by omega), List.set_append_left _ _ (by omega)]
  congr 3
  omega
theorem ovr_src_at (src dst b : List UInt8) (nx : UInt8) (h1 : src.length = 16) (i : Nat) (hi : i < 16) (h' : i < (ovr src dst nx b).length) : (ovr src dst nx b)[i] = src[i] := by
  have e : (ovr src dst nx b)[i]? = src[i]? := by
    unfold ovr
    simp only [List.append_assoc]
    rw [List.getElem?_append_left (by omega)]
  rw [List.getElem?_eq_getElem h', List.getElem?_eq_getElem (by omega)] at e
  exact Option.some.inj e
theorem ovr_dst_at (src dst b : List UInt8) (nx : UInt8) (h1 : src.length = 16) (h2 : dst.length = 16) (i : Nat) (hi : i < 16) (h' : 16 + i < (ovr src dst nx b).length) : (ovr src dst nx b)[16 + i] = dst[i] := by
  have e : (ovr src dst nx b)[16 + i]? = dst[i]? := by
    unfold ovr
    simp only [List.append_assoc]
    rw [List.getElem?_append_right (by omega), List.getElem?_append_left (by omega)]
    congr 1
    omega
  rw [List.getElem?_eq_getElem h', List.getElem?_eq_getElem (by omega)] at e
  exact Option.some.inj e
theorem ovr_pos (src dst b : List UInt8) (nx : UInt8) (hnx : nx ≠ 0) (h1 : src.length = 16) (h2 : dst.length = 16) : 0 < WS (ovr src dst nx b) := by
  have hl := ovr_length src dst nx b h1 h2
  have h39 : (ovr src dst nx b)[39]'(by omega) = nx := by
    have e : (ovr src dst nx b)[39]? = some nx := by
      unfold ovr
      rw [List.getElem?_append_left (by simp [nb_length, h1, h2]), List.getElem?_append_right (by simp [nb_length, h1, h2])]
      simp [nb_length, h1, h2]
    rw [List.getElem?_eq_getElem (by omega)] at e
    exact Option.some.inj e
  have := WS_set (ovr src dst nx b) 39 (by omega) 0
  rw [h39] at this
  have e : wt (nx, 39 % 2 == 0) = nx.toNat := rfl
  have e' : wt ((0 : UInt8), 39 % 2 == 0) = 0 := by decide
  have h0 : nx.toNat ≠ 0 := fun h => hnx (UInt8.toNat_inj.1 h)
  rw [e, e'] at this
  omega
/-- Bytes with two of them as their checksum. -/
def fixc (src dst : List UInt8) (nx : UInt8) (k : Nat) (L : List UInt8) : List UInt8 :=
  (((L.set k 0).set (k + 1) 0).set k (UInt8.ofNat (sumOf (ovr src dst nx ((L.set k 0).set (k + 1) 0)) / 256))).set (k + 1) (UInt8.ofNat (sumOf (ovr src dst nx ((L.set k 0).set (k + 1) 0))))
section
variable {src dst L : List UInt8} {nx : UInt8} {k : Nat}
theorem fixc_length : (fixc src dst nx k L).length = L.length := by simp [fixc]
theorem fixc_at {j : Nat} (h : j ≠ k) (h' : j ≠ k + 1) : (fixc src dst nx k L)[j]? = L[j]? := by
  unfold fixc
  rw [List.getElem?_set_ne (by omega), List.getElem?_set_ne (by omega), List.getElem?_set_ne (by omega), List.getElem?_set_ne (by omega)]
theorem fixc_part {q m : Nat} (h : q + m ≤ k ∨ k + 2 ≤ q) : ((fixc src dst nx k L).drop q).take m = (L.drop q).take m := by
  apply List.ext_getElem?
  intro i
  rw [List.getElem?_take, List.getElem?_take]
  split
  · rw [List.getElem?_drop, List.getElem?_drop, fixc_at (by omega) (by omega)]
  · rfl
theorem fixc_drop {q : Nat} (h : k + 2 ≤ q) : (fixc src dst nx k L).drop q = L.drop q := by
  apply List.ext_getElem?
  intro i
  rw [List.getElem?_drop, List.getElem?_drop, fixc_at (by omega) (by omega)]
theorem fixc_good (h1 : src.length = 16) (h2 : dst.length = 16) (hnx : nx ≠ 0) (hk : k % 2 = 0) (hl : k + 1 < L.length) : sumOf (ovr src dst nx (fixc src dst nx k L)) = 0 := by
  obtain ⟨M, hM⟩ : ∃ M, M = (L.set k 0).set (k + 1) 0 := ⟨_, rfl⟩
  have m0 : M.length = L.length := by rw [hM]; simp
  have mk : M[k]'(by omega) = 0 := by simp [hM]
  have mk1 : M[k + 1]'(by omega) = 0 := by simp [hM]
  have hp := ovr_pos src dst M nx hnx h1 h2
  have hol := ovr_length src dst nx M h1 h2
  unfold fixc
  rw [← hM]
  obtain ⟨c, hc⟩ : ∃ c, c = sumOf (ovr src dst nx M) := ⟨_, rfl⟩
  rw [← hc]
  have cl : c < 65536 := by rw [hc]; unfold sumOf; omega
  rw [ovr_set _ _ _ _ h1 h2, ovr_set _ _ _ _ h1 h2]
  have s1 := WS_set (ovr src dst nx M) (40 + k) (by omega) (UInt8.ofNat (c / 256))
  have s2 := WS_set ((ovr src dst nx M).set (40 + k) (UInt8.ofNat (c / 256))) (40 + (k + 1)) (by rw [List.length_set]; omega) (UInt8.ofNat c)
  rw [ovr_at _ _ _ _ h1 h2 k (by omega), mk] at s1
  rw [List.getElem_set_ne (by omega), ovr_at _ _ _ _ h1 h2 (k + 1) (by omega), mk1] at s2
  rw [show ((40 + k) % 2 == 0) = true by simp; omega] at s1
  rw [show ((40 + (k + 1)) % 2 == 0) = false by simp; omega] at s2
  simp only [wt, if_true, if_false, UInt8.toNat_ofNat', UInt8.toNat_zero, Bool.false_eq_true] at s1 s2
  rw [sumOf_zero]
  have hcr : c = 65535 - red (WS (ovr src dst nx M)) := hc
  generalize WS (ovr src dst nx M) = W at *
  have hrd : red W = (W - 1) % 65535 + 1 := by unfold red; rw [if_neg (by omega)]
  rw [hrd] at hcr
  have hR : WS (((ovr src dst nx M).set (40 + k) (UInt8.ofNat (c / 256))).set (40 + (k + 1)) (UInt8.ofNat c)) = W + c := by
    have c1 : c / 256 % 2 ^ 8 = c / 256 := Nat.mod_eq_of_lt (by omega)
    rw [c1] at s1
    omega
  have hW : W + c = 65535 * ((W - 1) / 65535 + 1) := by omega
  rw [hR, hW]
  exact ⟨by omega, Nat.mul_mod_right _ _⟩
end
theorem val_two (n : Nat) (h : n < 65536) : val [UInt8.ofNat (n / 256), UInt8.ofNat n] = n := by
  simp only [val, List.foldl_cons, List.foldl_nil, UInt8.toNat_ofNat']
  omega
theorem val_four (n : Nat) (h : n < 4294967296) : val [UInt8.ofNat (n / 256 / 256 / 256), UInt8.ofNat (n / 256 / 256), UInt8.ofNat (n / 256), UInt8.ofNat n] = n := by
  simp only [val, List.foldl_cons, List.foldl_nil, UInt8.toNat_ofNat']
  omega
end Go.Proofs.Ytojddfbbeiobpaa
/- Segments: plain laws on what is put, and on what is turned. -/
namespace Go.Proofs.Ytojddfbbeiobpaa
open Go.RowKit
theorem sgb_fixc (src dst : List UInt8) (s : Sg) (l : List UInt8) : sgb src dst s l = fixc src dst 6 16 (shead s 0 ++ (sopt s ++ l)) := by
  have e : ((shead s 0 ++ (sopt s ++ l)).set 16 0).set (16 + 1) 0 = shead s 0 ++ (sopt s ++ l) := by
    simp only [shead, nb2', nb4', List.cons_append, List.nil_append, List.set_cons_succ, List.set_cons_zero, Nat.reduceAdd]
    rfl
  unfold fixc
  rw [e]
  exact (sset s _ _).symm
theorem zE_turn {src dst L : List UInt8} (h1 : src.length = 16) (h2 : dst.length = 16) (h20 : 20 ≤ L.length) (h0 : sumOf (ovr src dst 6 L) = 0) (i : Nat) (hi : i < L.length) (x : UInt8) (hx : x ≠ L[i]) : zE src dst (L.set i x) = 6 := by
  refine zE_sum (by rw [List.length_set]; exact h20) ?_
  rw [ovr_set _ _ _ _ h1 h2]
  have ho := ovr_length src dst 6 L h1 h2
  refine sumOf_set _ _ (by omega) _ ?_ h0
  rw [ovr_at _ _ _ _ h1 h2 i hi]
  exact hx
theorem zE_ends {src dst L : List UInt8} (h1 : src.length = 16) (h2 : dst.length = 16) (h20 : 20 ≤ L.length) (h0 : sumOf (ovr src dst 6 L) = 0) (i : Nat) (hi : i < 16) (x : UInt8) (hx : x ≠ dst[i]) : zE src (dst.set i x) L = 6 := by
  refine zE_sum h20 ?_
  rw [ovr_dst _ _ _ _ h1 h2 i hi]
  have ho := ovr_length src dst 6 L h1 h2
  refine sumOf_set _ _ (by omega) _ ?_ h0
  rw [ovr_dst_at _ _ _ _ h1 h2 i hi]
  exact hx
theorem ob_fixc {src dst L : List UInt8} {i : Nat} (h : i < 16) : ob (fixc src dst 6 16 L) i = ob L i := by unfold ob; rw [fixc_at (by omega) (by omega)]
theorem ahd_fixc {src dst L : List UInt8} : ahd (fixc src dst 6 16 L) = ahd L := by unfold ahd; rw [ob_fixc (by omega)]
theorem opt_fixc {src dst L : List UInt8} : opt (fixc src dst 6 16 L) = opt L := by unfold opt; rw [ahd_fixc, fixc_part (by omega)]
theorem gS_fixc {src dst L : List UInt8} : gS (fixc src dst 6 16 L) = gS L := by
  unfold gS
  rw [fixc_part (by omega), fixc_part (by omega), fixc_part (by omega), fixc_part (by omega), fixc_part (by omega), opt_fixc, ob_fixc (by omega)]
/-- Of bytes whose checksum is right. -/
theorem zE_fixc {src dst L : List UInt8} (h1 : src.length = 16) (h2 : dst.length = 16) (h20 : 20 ≤ L.length) :
    zE src dst (fixc src dst 6 16 L) = if ahd L < 20 ∨ L.length < ahd L then 4 else if omss (opt L) = none then 4 else 0 := by
  unfold zE
  rw [if_neg (by rw [fixc_length]; omega), if_neg (by rw [fixc_good h1 h2 (by decide) (by decide) (by omega)]; simp), ahd_fixc, opt_fixc, fixc_length]
theorem gS_head (s : Sg) (hs : s.Ok) (X : List UInt8) (c : Nat) (d : UInt8) : gS ((shead s c ++ X).set 12 d) = ⟨s.f, s.t, s.sq, s.ak, s.fl &&& 63, s.wi, (omss (opt ((shead s c ++ X).set 12 d))).getD 0⟩ := by
  have e : ∃ r, (shead s c ++ X).set 12 d = UInt8.ofNat (s.f / 256) :: UInt8.ofNat s.f :: UInt8.ofNat (s.t / 256) :: UInt8.ofNat s.t :: UInt8.ofNat (s.sq / 256 / 256 / 256) :: UInt8.ofNat (s.sq / 256 / 256) :: UInt8.ofNat (s.sq / 256) :: UInt8.ofNat s.sq :: UInt8.ofNat (s.ak / 256 / 256 / 256) :: UInt8.ofNat (s.ak / 256 / 256) :: UInt8.ofNat (s.ak / 256) :: UInt8.ofNat s.ak :: d :: (s.fl &&& 63) :: UInt8.ofNat (s.wi / 256) :: UInt8.ofNat s.wi :: r := by
    simp only [shead, nb2', nb4', List.cons_append, List.nil_append, List.set_cons_succ, List.set_cons_zero]
    exact ⟨_, rfl⟩
  obtain ⟨r, hr⟩ := e
  unfold gS
  have a1 := val_two s.f hs.f
  have a2 := val_two s.t hs.t
  have a3 := val_four s.sq hs.sq
  have a4 := val_four s.ak hs.ak
  have a5 := val_two s.wi hs.wi
  generalize omss (opt ((shead s c ++ X).set 12 d)) = O
  rw [hr]
  simp only [List.drop_zero, List.drop_succ_cons, List.take_succ_cons, List.take_zero, a1, a2, a3, a4, a5, ob, List.getElem?_cons_succ, List.getElem?_cons_zero, Option.getD_some, UInt8.ofNat_toNat, UInt8.and_assoc]
  rfl
theorem ahd_head (s : Sg) (X : List UInt8) (c : Nat) (d : UInt8) : ahd ((shead s c ++ X).set 12 d) = 4 * (d.toNat / 16) := by
  unfold ahd ob
  simp only [shead, nb2', nb4', List.cons_append, List.nil_append, List.set_cons_succ, List.set_cons_zero, List.getElem?_cons_succ, List.getElem?_cons_zero, Option.getD_some]
theorem drop_head (s : Sg) (X : List UInt8) (c : Nat) (d : UInt8) : ((shead s c ++ X).set 12 d).drop 20 = X := by
  simp only [shead, nb2', nb4', List.cons_append, List.nil_append, List.set_cons_succ, List.set_cons_zero, List.drop_succ_cons, List.drop_zero]
theorem shead_12 (s : Sg) (X : List UInt8) (c : Nat) : (shead s c ++ X).set 12 (UInt8.ofNat (4 * sahd s)) = shead s c ++ X := by
  simp only [shead, nb2', nb4', List.cons_append, List.nil_append, List.set_cons_succ, List.set_cons_zero]
theorem omss_nil : omss [] = some 0 := by
  unfold omss
  rw [osq_end (by simp)]
  rfl
theorem omss_ms (m : Nat) (h : m < 65536) : omss ([2, 4] ++ nb 2 m) = some m := by
  have e0 : ([2, 4] ++ nb 2 m) = [2, 4, UInt8.ofNat (m / 256), UInt8.ofNat m] := by rw [nb2']; rfl
  rw [e0]
  have e : osq [2, 4, UInt8.ofNat (m / 256), UInt8.ofNat m] 0 = [some 0] := by
    rw [osq_good (by simp) (by simp [ob]) (by simp [ob]) (by simp [obad, ob]), osq_end (by simp [ob])]
  unfold omss
  rw [e]
  simp [og, ob, UInt8.toNat_ofNat']
  omega
theorem omss_sopt (s : Sg) (hs : s.Ok) : omss (sopt s) = some s.ms := by
  unfold sopt
  split
  · rename_i h; rw [omss_nil, h]
  · exact omss_ms s.ms hs.ms
section
variable {src dst : List UInt8} {s : Sg} {l : List UInt8} (h1 : src.length = 16) (h2 : dst.length = 16) (hs : s.Ok)
theorem sahd_or (s : Sg) : sahd s = 20 ∨ sahd s = 24 := by unfold sahd; split <;> simp
theorem ahd_sgb0 : ahd (shead s 0 ++ (sopt s ++ l)) = sahd s := by
  have e := ahd_head s (sopt s ++ l) 0 (UInt8.ofNat (4 * sahd s))
  rw [shead_12] at e
  rw [e, UInt8.toNat_ofNat']
  rcases sahd_or s with h | h <;> rw [h]
theorem opt_sgb0 : opt (shead s 0 ++ (sopt s ++ l)) = sopt s := by
  have e := drop_head s (sopt s ++ l) 0 (UInt8.ofNat (4 * sahd s))
  rw [shead_12] at e
  unfold opt
  rw [ahd_sgb0, e]
  have := sopt_length s
  exact List.take_left' (by omega)
include h1 h2 in
theorem sgb_good : sumOf (ovr src dst 6 (sgb src dst s l)) = 0 := by
  rw [sgb_fixc]
  exact fixc_good h1 h2 (by decide) (by decide) (by rw [List.length_append, shead_length]; omega)
include h1 h2 hs in
theorem zE_back : zE src dst (sgb src dst s l) = 0 := by
  have := sopt_length s
  rw [sgb_fixc, zE_fixc h1 h2 (by simp [shead_length]), ahd_sgb0, opt_sgb0, omss_sopt s hs, if_neg, if_neg (by simp)]
  simp only [List.length_append, shead_length]
  omega
include h1 h2 hs in
theorem zS_back : zS src dst (sgb src dst s l) = { s with fl := s.fl &&& 63 } := by
  unfold zS
  rw [if_pos (zE_back h1 h2 hs), sgb_fixc, gS_fixc]
  have e := gS_head s hs (sopt s ++ l) 0 (UInt8.ofNat (4 * sahd s))
  rw [shead_12, opt_sgb0, omss_sopt s hs] at e
  rw [e]; rfl
include h1 h2 hs in
theorem zD_back : zD src dst (sgb src dst s l) = l := by
  have hso := sopt_length s
  unfold zD
  rw [if_pos (zE_back h1 h2 hs), sgb_fixc, ahd_fixc, ahd_sgb0, fixc_drop (by rcases sahd_or s with h | h <;> omega)]
  have e := drop_head s (sopt s ++ l) 0 (UInt8.ofNat (4 * sahd s))
  rw [shead_12] at e
  rw [← hso, ← List.drop_drop, e]
  exact List.drop_left' rfl
end
end Go.Proofs.Ytojddfbbeiobpaa
/- Bytes with their checksum. -/
namespace Go.Proofs.Ytojddfbbeiobpaa
open Go.RowKit
set_option maxRecDepth 100000
set_option maxHeartbeats 1000000 in
theorem right_any (src dst : List UInt8) (A : Option Addr) (l : List UInt8) (c : Nat) (w : World) (h1 : src.length = 16) (h2 : dst.length = 16) (h : Rd w w.heap.size A l) (hA : A = none → l = [] ∧ c = 0) (h18 : 18 ≤ l.length) (hl : l.length < 2 ^ 32) :
    Calls Try.prog 22 #[av (src ++ dst), .slice A l.length c] w fun e w' => ∃ v, e = .returned v ∧ w'.ownsRow w.heap.size 5 1 v l.length ((fixc src dst 6 16 l).map B) ∧ Below w.heap.size w w' := by
  have RI := Lib.hid h; have HA := Lib.hid hA
  clear h hA
  obtain ⟨E, hE⟩ : ∃ E, E = src ++ dst := ⟨_, rfl⟩
  have q0 : sl E 0 16 = src := by rw [hE]; exact sl_src h1
  have q1 : sl E 16 16 = dst := by rw [hE]; exact sl_dst h1 h2
  have qn : E.length = 32 := by rw [hE, List.length_append]; omega
  rw [← hE]
  clear hE
  go_enter Try.func22, Try.ntmps22
  have a0 := (Below.refl w.heap.size w).alloc (Nat.le_refl _) (.cells (List.map B E).toArray 25 (0, 0))
  have KE := Lib.hid (bk_alloc_at w (.cells (List.map B E).toArray 25 (0, 0)) _ rfl)
  have F := Lib.hid a0
  replace RI := Lib.hid ((RI.out.below a0 (Nat.le_refl _)).mono a0.size)
  clear a0
  go_upto_region 1 with fail
  generalize w.alloc (.cells (List.map B E).toArray 25 (0, 0)) = w0 at *
  have n0 := bk_lt KE.out
  go_wp2_with (at_builtin; refine append_rd rfl _ _ rfl w0.heap.size (.slice none 0 0) 0 [] rfl (World.ownsRow_nil _ _ _ _) A l c rfl HA.out RI.out (by omega) (Nat.le_refl _) ?_)
  intro v1 w1 hown hgrow
  have b1 : Below w0.heap.size w0 w1 := (Below.refl _ _).grown hgrow (Nat.le_refl _) (fun k hk => by simp [Value.ownBlock] at hk)
  obtain ⟨A1, c1, rfl, _, _, _⟩ := Rd.of_own hown rfl
  have HO := Lib.hid (World.ownsRow.mono hown (show w.heap.size ≤ w0.heap.size by omega))
  obtain ⟨g, cur, rfl, hgb, hgs, hgl0⟩ := own_some hown (by omega)
  replace KE := Lib.hid (bk_keep b1 (bk_lt KE.out) KE.out)
  replace F := Lib.hid (F.out.trans (b1.mono F.out.size))
  have hgE : ¬ w.heap.size = g := by omega
  have hgl : w.heap.size ≤ g := by omega
  have u6 := bk_cell hgb 16
  have u7 := bk_cell hgb 17
  rw [Array.getElem?_eq_getElem (by omega)] at u6 u7
  have z6 := bk_frozen hgb 16
  have z7 := bk_frozen hgb 17
  generalize cur[16]'(by omega) = cu6 at u6
  generalize cur[17]'(by omega) = cu7 at u7
  have i6 : 16 < l.length := by omega
  have i7 : 17 < l.length := by omega
  clear b1 hown hgrow hgb hgs hgl0
  go_upto_region 4 with fail
  have HO2 := Lib.hid (show World.ownsRow ((w1.setCell ⟨g, 16, none⟩ (.int .u8 0)).setCell ⟨g, 17, none⟩ (.int .u8 0)) w.heap.size 5 1 (.slice (some ⟨g, 0, none⟩) l.length c1) l.length (((l.set 16 0).set 17 0).map B) from own_set (j := 17) (own_set (j := 16) HO.out 0) 0)
  replace KE := Lib.hid (show bk ((w1.setCell ⟨g, 16, none⟩ (.int .u8 0)).setCell ⟨g, 17, none⟩ (.int .u8 0)) w.heap.size = some (.cells (List.map B E).toArray 25 (0, 0)) by rw [bk_setCell_other _ _ _ _ _ hgE, bk_setCell_other _ _ _ _ _ hgE]; exact KE.out)
  replace F := Lib.hid ((F.out.setCell (p := ⟨g, 16, none⟩) hgl (.int .u8 0)).setCell (p := ⟨g, 17, none⟩) hgl (.int .u8 0))
  obtain ⟨M, hM⟩ : ∃ M, M = (l.set 16 0).set 17 0 := ⟨_, rfl⟩
  rw [← hM] at HO2
  have hMl : M.length = l.length := by rw [hM]; simp
  have HM := Lib.hid hM
  clear hM HO u6 u7 z6 z7
  generalize (w1.setCell ⟨g, 16, none⟩ (.int .u8 0)).setCell ⟨g, 17, none⟩ (.int .u8 0) = w2 at *
  have RM : Rd w2 w2.heap.size (some ⟨g, 0, none⟩) M := by
    have o := HO2.out
    rw [← hMl] at o
    obtain ⟨A', c', e, hr, _⟩ := Rd.of_own o rfl
    cases e
    exact hr
  have C := over_any src dst 6 (some ⟨g, 0, none⟩) M c1 w2 h1 h2 RM (by omega)
  rw [hMl] at C
  have HC := Lib.hid C
  have ke := KE.out
  have le := bk_lt ke
  clear C RM
  go_wp2_with fail
  refine HC.out.mono ?_
  rintro e w3 ⟨rfl, b3⟩
  have HO3 := own_below HO2.out b3
  replace F := Lib.hid (F.out.trans (b3.mono F.out.size))
  obtain ⟨g', cur', hge, hgb, hgs, hgl0⟩ := own_some HO3 (by omega)
  cases hge
  have u6 := bk_cell hgb 16
  have u7 := bk_cell hgb 17
  rw [Array.getElem?_eq_getElem (by omega)] at u6 u7
  have z6 := bk_frozen hgb 16
  have z7 := bk_frozen hgb 17
  generalize cur'[16]'(by omega) = cv6 at u6
  generalize cur'[17]'(by omega) = cv7 at u7
  have HO4 := Lib.hid HO3
  have hS := sumOf_le (ovr src dst 6 M)
  obtain ⟨S, hSe⟩ : ∃ S, S = sumOf (ovr src dst 6 M) := ⟨_, rfl⟩
  rw [← hSe] at hS
  rw [← hSe]
  have HS := Lib.hid hSe
  clear HO3 hgb hgs hgl0 b3 HC ke le KE HO2 hSe
  go_wp2_with fail
  refine bodyPost_ret (results_tmp rfl _ _ _) rfl ?_
  refine ⟨_, rfl, ?_, (F.out.setCell (p := ⟨g, 16, none⟩) hgl _).setCell (p := ⟨g, 17, none⟩) hgl _⟩
  have o := own_set (j := 17) (own_set (j := 16) HO4.out (UInt8.ofNat (S / 256))) (UInt8.ofNat S)
  have e : fixc src dst 6 16 l = (M.set 16 (UInt8.ofNat (S / 256))).set 17 (UInt8.ofNat S) := by unfold fixc; rw [HS.out, HM.out]
  rw [e]
  have e6 : B (UInt8.ofNat (S / 256)) = .int .u8 ((S : Int) / 256) := by rw [B_ofNat']; congr 1; omega
  have e7 : B (UInt8.ofNat S) = .int .u8 ((S : Int) % 256) := B_ofNat' S
  rw [e6, e7] at o
  exact o
end Go.Proofs.Ytojddfbbeiobpaa
/- Segments with options of all kinds: plain laws. -/
namespace Go.Proofs.Ytojddfbbeiobpaa
open Go.RowKit
/-- Bytes with options between head and Data. -/
def mid (s : Sg) (c : Nat) (O l : List UInt8) : List UInt8 := (shead s c ++ (O ++ l)).set 12 (UInt8.ofNat ((20 + O.length) / 4 * 16))
section
variable {src dst : List UInt8} {s : Sg} {c : Nat} {O l : List UInt8}
theorem mid_length : (mid s c O l).length = 20 + O.length + l.length := by
  unfold mid
  rw [List.length_set, List.length_append, List.length_append, shead_length]
  omega
theorem mid_ahd (h4 : O.length % 4 = 0) (hO : O.length ≤ 40) : ahd (mid s c O l) = 20 + O.length := by
  unfold mid
  rw [ahd_head, UInt8.toNat_ofNat']
  omega
theorem mid_opt (h4 : O.length % 4 = 0) (hO : O.length ≤ 40) : opt (mid s c O l) = O := by
  unfold opt
  rw [mid_ahd h4 hO]
  unfold mid
  rw [drop_head]
  exact List.take_left' (by omega)
theorem mid_E (h1 : src.length = 16) (h2 : dst.length = 16) (h4 : O.length % 4 = 0) (hO : O.length ≤ 40) : zE src dst (fixc src dst 6 16 (mid s c O l)) = if omss O = none then 4 else 0 := by
  have hl := mid_length (s := s) (c := c) (O := O) (l := l)
  rw [zE_fixc h1 h2 (by omega), mid_ahd h4 hO, mid_opt h4 hO, if_neg (by omega)]
theorem mid_none (h1 : src.length = 16) (h2 : dst.length = 16) (h4 : O.length % 4 = 0) (hO : O.length ≤ 40) (h : omss O = none) : zE src dst (fixc src dst 6 16 (mid s c O l)) = 4 := by
  rw [mid_E h1 h2 h4 hO, if_pos h]
theorem mid_ok (h1 : src.length = 16) (h2 : dst.length = 16) (h4 : O.length % 4 = 0) (hO : O.length ≤ 40) {m : Nat} (h : omss O = some m) : zE src dst (fixc src dst 6 16 (mid s c O l)) = 0 := by
  rw [mid_E h1 h2 h4 hO, if_neg (by rw [h]; simp)]
theorem mid_S (h1 : src.length = 16) (h2 : dst.length = 16) (hs : s.Ok) (h4 : O.length % 4 = 0) (hO : O.length ≤ 40) {m : Nat} (h : omss O = some m) : zS src dst (fixc src dst 6 16 (mid s c O l)) = ⟨s.f, s.t, s.sq, s.ak, s.fl &&& 63, s.wi, m⟩ := by
  have ho := mid_opt (s := s) (c := c) (l := l) h4 hO
  unfold zS
  rw [if_pos (mid_ok h1 h2 h4 hO h), gS_fixc]
  unfold mid at ho ⊢
  rw [gS_head s hs, ho, h]
  rfl
theorem mid_D (h1 : src.length = 16) (h2 : dst.length = 16) (h4 : O.length % 4 = 0) (hO : O.length ≤ 40) {m : Nat} (h : omss O = some m) : zD src dst (fixc src dst 6 16 (mid s c O l)) = l := by
  unfold zD
  rw [if_pos (mid_ok h1 h2 h4 hO h), ahd_fixc, mid_ahd h4 hO, fixc_drop (by omega), ← List.drop_drop]
  unfold mid
  rw [drop_head]
  exact List.drop_left' rfl
/-- Told ahead: n fours. -/
theorem told_E (h1 : src.length = 16) (h2 : dst.length = 16) {n : Nat} (hn : n < 16) (h : n < 5 ∨ 20 + l.length < 4 * n) : zE src dst (fixc src dst 6 16 ((shead s c ++ l).set 12 (UInt8.ofNat (16 * n)))) = 4 := by
  rw [zE_fixc h1 h2 (by rw [List.length_set, List.length_append, shead_length]; omega), ahd_head, UInt8.toNat_ofNat', if_pos]
  rw [List.length_set, List.length_append, shead_length]
  omega
end
theorem ob_l {P Q : List UInt8} {i : Nat} (h : i < P.length) : ob (P ++ Q) i = ob P i := by unfold ob; rw [List.getElem?_append_left h]
theorem ob_r {P Q : List UInt8} {i j : Nat} (h : i = P.length + j) : ob (P ++ Q) i = ob Q j := by unfold ob; rw [List.getElem?_append_right (by omega)]; congr 3; omega
/-- An option that nobody knows, two that tell Mss, the end. -/
theorem omss_mix (kd : UInt8) (L : Nat) (hk : 3 ≤ kd.toNat) (hL : 2 ≤ L ∧ L < 8) (a b a' b' : UInt8) (X : List UInt8) :
    omss (([1, kd, UInt8.ofNat L] ++ List.replicate (L - 2) 0) ++ ([2, 4, a, b, 2, 4, a', b', 1, 0] ++ X)) = some (256 * a.toNat + b.toNat) := by
  obtain ⟨P, hP⟩ : ∃ P, P = [1, kd, UInt8.ofNat L] ++ List.replicate (L - 2) (0 : UInt8) := ⟨_, rfl⟩
  obtain ⟨Q, hQ⟩ : ∃ Q, Q = [2, 4, a, b, 2, 4, a', b', 1, 0] ++ X := ⟨_, rfl⟩
  have pl : P.length = 1 + L := by rw [hP]; simp; omega
  have ql : 10 ≤ Q.length := by rw [hQ]; simp
  have q0 : ob Q 0 = 2 := by rw [hQ]; rfl
  have q1 : ob Q 1 = 4 := by rw [hQ]; rfl
  have q2 : ob Q 2 = a.toNat := by rw [hQ]; rfl
  have q3 : ob Q 3 = b.toNat := by rw [hQ]; rfl
  have q4 : ob Q 4 = 2 := by rw [hQ]; rfl
  have q5 : ob Q 5 = 4 := by rw [hQ]; rfl
  have q8 : ob Q 8 = 1 := by rw [hQ]; rfl
  have q9 : ob Q 9 = 0 := by rw [hQ]; rfl
  have p0 : ob P 0 = 1 := by rw [hP]; rfl
  have p1 : ob P 1 = kd.toNat := by rw [hP]; rfl
  have p2 : ob P 2 = L := by rw [hP]; show (UInt8.ofNat L).toNat = L; rw [UInt8.toNat_ofNat']; omega
  rw [← hP, ← hQ]
  have tl : (P ++ Q).length = 1 + L + Q.length := by rw [List.length_append, pl]
  have r0 : ob (P ++ Q) 0 = 1 := by rw [ob_l (by omega), p0]
  have r1 : ob (P ++ Q) 1 = kd.toNat := by rw [ob_l (by omega), p1]
  have r2 : ob (P ++ Q) 2 = L := by rw [ob_l (by omega), p2]
  have s0 : ob (P ++ Q) (1 + L) = 2 := by rw [ob_r (j := 0) (by omega), q0]
  have s1 : ob (P ++ Q) (1 + L + 1) = 4 := by rw [ob_r (j := 1) (by omega), q1]
  have s2 : ob (P ++ Q) (1 + L + 2) = a.toNat := by rw [ob_r (j := 2) (by omega), q2]
  have s3 : ob (P ++ Q) (1 + L + 3) = b.toNat := by rw [ob_r (j := 3) (by omega), q3]
  have s4 : ob (P ++ Q) (1 + L + 4) = 2 := by rw [ob_r (j := 4) (by omega), q4]
  have s5 : ob (P ++ Q) (1 + L + 4 + 1) = 4 := by rw [ob_r (j := 5) (by omega), q5]
  have s8 : ob (P ++ Q) (1 + L + 4 + 4) = 1 := by rw [ob_r (j := 8) (by omega), q8]
  have s9 : ob (P ++ Q) (1 + L + 4 + 4 + 1) = 0 := by rw [ob_r (j := 9) (by omega), q9]
  have e : osq (P ++ Q) 0 = [some 1, some (1 + L), some (1 + L + 4)] := by
    rw [osq_one (by omega) r0, Nat.zero_add, osq_good (by omega) (by omega) (by omega) (by simp [obad, r2]; omega), r2,
      osq_good (by omega) (by omega) (by omega) (by simp [obad, s1]; omega), s1, osq_good (by omega) (by omega) (by omega) (by simp [obad, s5]; omega), s5, osq_one (by omega) s8, osq_zero s9]
  have hog : og (P ++ Q) (osq (P ++ Q) 0) = some (256 * a.toNat + b.toNat) := by
    rw [e]
    unfold og
    rw [List.findSome?_cons, List.findSome?_cons]
    simp only [Option.bind_some]
    rw [if_neg (by omega), if_pos ⟨s0, s1⟩, s2, s3]
  unfold omss
  rw [hog, e]
  simp
theorem omss_bad {O : List UInt8} (h : none ∈ osq O 0) : omss O = none := by unfold omss; rw [if_pos h]
theorem bad1 (k : UInt8) (hk : 2 ≤ k.toNat) (x y z : UInt8) (hx : x.toNat < 2 ∨ 4 < x.toNat) : omss [k, x, y, z] = none := by
  have o0 : ob [k, x, y, z] 0 = k.toNat := rfl
  have o1 : ob [k, x, y, z] 1 = x.toNat := rfl
  refine omss_bad ?_
  rw [osq_bad (by simp) (by omega) (by omega) (by simp [obad, o1]; omega)]
  simp
theorem bad4 (k : UInt8) (hk : 2 ≤ k.toNat) : omss [1, 1, 1, k] = none := by
  have o3 : ob [1, 1, 1, k] 3 = k.toNat := rfl
  refine omss_bad ?_
  rw [osq_one (by simp) rfl, osq_one (by simp) rfl, osq_one (by simp) rfl]
  simp only [Nat.zero_add, Nat.reduceAdd]
  rw [osq_bad (by simp) (by omega) (by omega) (by simp [obad])]
  simp
theorem bad5 (k : UInt8) (hk : 2 ≤ k.toNat) : omss [1, k, 4, 0] = none := by
  have o1 : ob [1, k, 4, 0] 1 = k.toNat := rfl
  refine omss_bad ?_
  rw [osq_one (by simp) rfl, Nat.zero_add, osq_bad (by simp) (by omega) (by omega) (by simp [obad, ob])]
  simp
end Go.Proofs.Ytojddfbbeiobpaa
/- append(b, make([]byte, n)...), b without room. -/
namespace Go.Proofs.Ytojddfbbeiobpaa
open Go.RowKit
theorem zeroCells_B (m : Nat) : Builtin.zeroCells (Value.int .u8 0).cells m = ((List.replicate m (0 : UInt8)).map B).toArray := by
  apply Array.ext'
  simp only [Builtin.zeroCells, Value.cells, Array.toList_map, Array.toList_range]
  apply List.ext_getElem
  · simp
  · intro i h1 h2
    simp [Nat.mod_one]
theorem run_zeros {w : World} (ty : TypeId) (base : Nat) (ad : Addr) (l1 : List UInt8) (h1 : Rd w w.heap.size (some ad) l1) (hown : w.ownsRow base 5 1 (.slice (some ad) l1.length l1.length) l1.length (l1.map B)) (m : Nat) (hb : l1.length + m < 2 ^ 40) (hbase : base ≤ w.heap.size) :
    ∃ v' w', (Builtin.append_ #[28, 3] ty #[.slice (some ad) l1.length l1.length, .int .i64 m]).run Try.prog w = .ok v' w' ∧ w'.ownsRow base 5 1 v' (l1.length + m) ((l1 ++ List.replicate m 0).map B) ∧ Below w.heap.size w w' := by
  obtain ⟨i0, hi, hz0, hz1, hz2⟩ := info_parts infoB
  have hw : IntKind.i64.wrap (m : Int) = m := by rw [IntKind.wrap_i64]; omega
  have hneg : ¬ ((m : Int) < 0) := by omega
  have h48i : ¬ (281474976710656 < (m : Int) * (i0.bytes : Int)) := by rw [hz2]; omega
  rcases Nat.eq_zero_or_pos m with h0 | h0
  · subst h0
    refine ⟨.slice (some ad) l1.length l1.length, w, ?_, by simpa using hown, Below.refl _ _⟩
    have hw0 : IntKind.i64.wrap 0 = 0 := by decide
    simp [Builtin.append_, run_underlying Try.underlying28, run_underlying Try.underlying3, sizeOf, typeInfo, hi, asInt, asIntOf, hw0, storeCells]
  · have hn : ¬ (l1.length + m ≤ l1.length) := by omega
    have hm : m ≠ 0 := by omega
    have h63' : ¬ (9223372036854775807 < ((l1.length : Int) + (m : Int))) := by omega
    have h48' : ¬ (281474976710656 < Builtin.nextslicecap (l1.length + m) l1.length * i0.bytes) := by
      have := growslice_fits (need := l1.length + m) (old := l1.length) (bytes := i0.bytes) (by omega) (by rw [hz2]; omega)
      omega
    have hfo := run_firstCells_some (P := Try.prog) w.drew i0.size l1.length ad l1.length l1.length (l1.map B) (by rw [hz1]; simp) (by simpa using h1.news)
    have hns : ¬ (m * i0.size = 0) := Nat.mul_ne_zero hm (by omega)
    have hr : (Builtin.append_ #[28, 3] ty #[.slice (some ad) l1.length l1.length, .int .i64 m]).run Try.prog w = .ok (.slice (some ⟨w.heap.size, 0, none⟩) (l1.length + m) (grownCap w (l1.length + m) l1.length 5))
        (w.drew.alloc (.cells ((l1.map B).toArray ++ Builtin.zeroCells (Value.int .u8 0).cells m ++ Builtin.zeroCells (Value.int .u8 0).cells (grownCap w (l1.length + m) l1.length 5 - (l1.length + m))) 5)) := by
      simp [Builtin.append_, run_underlying Try.underlying28, run_underlying Try.underlying3, sizeOf, typeInfo, zeroValue, hi, hz0, asInt, asIntOf, hw, hn, hneg, hns, h63', h48', h48i, Question.forced, hfo, newRow, grownCap]
    refine ⟨_, _, hr, ?_, (Below.refl _ _).drew.alloc (show w.heap.size ≤ w.drew.heap.size from Nat.le_refl _) _⟩
    refine World.ownsRow.mono (base := w.heap.size) ?_ hbase
    refine ⟨by simp, .inr ⟨w.heap.size, _, _, rfl, Nat.le_refl _, heap_alloc_new w.drew _, ?_, ?_, ?_, ?_⟩⟩
    · exact grownCap_ge w _ _ _
    · exact grownCap_le_maxLen w _ _ _ (by unfold maxLen; omega)
    · have hge := grownCap_ge w (l1.length + m) l1.length 5
      simp only [Array.size_append, List.size_toArray, size_zeroCells, List.length_map]
      show l1.length + m * 1 + (_ - _) * 1 = _ * 1
      omega
    · rw [zeroCells_B]
      simp only [Array.toList_append, List.append_assoc]
      rw [← List.append_assoc, ← List.map_append]
      exact List.take_left' (by simp)
theorem append_zeros {w : World} {ops : Array Oper} {rest : List Oper} {o : Oper} {a : Act} {Q : Exit → Act → World → Prop} (hgd : o.guard = none) (s x : Operand)
    (ho : o.op = .call { callee := .builtin .append, args := #[s, x], argTypes := #[28, 3] }) (base : Nat) (ad : Addr) (l1 : List UInt8) (n1 c1 : Nat) (hs : a.eval s = .slice (some ad) n1 c1) (hn1 : n1 = l1.length) (hc1 : c1 = l1.length) (h1 : Rd w w.heap.size (some ad) l1)
    (hown : w.ownsRow base 5 1 (.slice (some ad) l1.length l1.length) l1.length (l1.map B)) (m : Nat) (hx : a.eval x = .int .i64 m) (hb : l1.length + m < 2 ^ 40) (hbase : base ≤ w.heap.size)
    (h : ∀ v' w', w'.ownsRow base 5 1 v' (l1.length + m) ((l1 ++ List.replicate m 0).map B) → Below w.heap.size w w' → wpList Try.prog ops Q rest (a.put o.dst v') w') : wpList Try.prog ops Q (o :: rest) a w := by
  subst hc1 hn1
  obtain ⟨v', w', hr, h3, h4⟩ := run_zeros o.type base ad l1 h1 hown m hb hbase
  refine wpList_plain hgd fun K hK => ?_
  unfold Oper.wp execOp
  simp only [ho, resolve, invoke, builtin, Sem.run_bind, Sem.run_pure, Result.andThen_ok, List.map_toArray, List.map_cons, List.map_nil, hs, hx, hr]
  exact hK _ _ (h v' w' h3 h4)
theorem own_lit {w : World} (L : List UInt8) (hl : L.length < 2 ^ 40) : (w.alloc (.cells (L.map B).toArray 5 (0, 0))).ownsRow w.heap.size 5 1 (.slice (some ⟨w.heap.size, 0, none⟩) L.length L.length) L.length (L.map B) := by
  refine ⟨by simp, .inr ⟨w.heap.size, _, _, rfl, Nat.le_refl _, heap_alloc_new w _, Nat.le_refl _, ?_, by simp, ?_⟩⟩
  · unfold maxLen; omega
  · exact List.take_of_length_le (by simp)
end Go.Proofs.Ytojddfbbeiobpaa
/- SegmentsOptions, SegmentsForm: what both have in common. -/
namespace Go.Proofs.Ytojddfbbeiobpaa
open Go.RowKit
set_option maxRecDepth 100000
@[go_sem ↓] theorem ldEnds (dst : Option Tmp) (x : Operand) (t : TypeId) (pos : String) (af : Array Edge) (g : Option (Nat × Bool)) (a : Act) (w : World) (K : Act → World → Prop) (Q : Exit → Act → World → Prop) :
    Oper.wp Try.prog ⟨dst, .load 25 x, t, pos, af, g⟩ a w K Q = ldPtr (wpHid Try.prog ⟨dst, .load 25 x, t, pos, af, g⟩ a w K Q) 32 w (fun c => K (a.put dst (.agg c)) w) (a.eval x) :=
  wp_load_bk 25 32 _ Try.underlying25 rfl (by kernel_rfl) dst x t pos af g a w K Q
@[go_sem ↓] theorem stEnds (dst : Option Tmp) (x y : Operand) (t : TypeId) (pos : String) (af : Array Edge) (g : Option (Nat × Bool)) (a : Act) (w : World) (K : Act → World → Prop) (Q : Exit → Act → World → Prop) :
    Oper.wp Try.prog ⟨dst, .store 25 x y, t, pos, af, g⟩ a w K Q = stPtr (wpHid Try.prog ⟨dst, .store 25 x y, t, pos, af, g⟩ a w K Q) 32 w (fun w' => K (a.put dst undef) w') (a.eval x) (a.eval y) :=
  wp_store_bk 25 32 (by kernel_rfl) dst x y t pos af g a w K Q
@[go_sem ↓] theorem qlEnds (dst : Option Tmp) (x : Operand) (t : TypeId) (pos : String) (af : Array Edge) (g : Option (Nat × Bool)) (a : Act) (m : Nat) (W : World) (K : Act → Prop) :
    Oper.quiet Try.prog ⟨dst, .load 25 x, t, pos, af, g⟩ a (fun w' => ∃ x : Later m W, w' = x.w) K =
      ldLater (quietHid Try.prog ⟨dst, .load 25 x, t, pos, af, g⟩ a (fun w' => ∃ x : Later m W, w' = x.w) K) m 32 W (fun c => K (a.put dst (.agg c))) (a.eval x) :=
  quiet_load_bk 25 32 _ Try.underlying25 rfl (by kernel_rfl) dst x t pos af g a m W K
@[go_sem ↓] theorem qfEnds (dst : Option Tmp) (x : Operand) (t : TypeId) (pos : String) (af : Array Edge) (g : Option (Nat × Bool)) (a : Act) (m : Nat) (W : World) (gs : List (Nat × (World → Prop))) [Nonempty (LaterF m W gs)] (K : Act → Prop) :
    Oper.quiet Try.prog ⟨dst, .load 25 x, t, pos, af, g⟩ a (fun w' => ∃ x : LaterF m W gs, w' = x.w) K =
      ldF (quietHid Try.prog ⟨dst, .load 25 x, t, pos, af, g⟩ a (fun w' => ∃ x : LaterF m W gs, w' = x.w) K) gs m 32 W (fun c => K (a.put dst (.agg c))) (a.eval x) :=
  quiet_load_F 25 32 _ Try.underlying25 rfl (by kernel_rfl) dst x t pos af g a m W gs K
theorem own_end {m : Nat} {M : MadeW m} {D : List TypeId} {l : List UInt8} {v : Value} {w w' : World} (HM : Hid (M = MadeW.own m D l)) (hb : Below w.heap.size w w') (hm : m ≤ w.heap.size) (h : w'.ownsRow w.heap.size 5 1 v l.length (l.map B)) : madeEndW M w (.returned v) w' :=
  ⟨v, rfl, own_mk HM (Kept.of_below hb hm) (World.ownsRow.mono h hm)⟩
end Go.Proofs.Ytojddfbbeiobpaa
