import Derived.Test.YtjimmfbjhkoekaaMgG
import Derived.Test.YtjimmfbjhkoekaaMgP
import Derived.Test.YtjimmfbjhkoekaaMgX
import Derived.Test.YtjimmfbjhkoekaaMgS
/- Checksums: plain laws on bytes that are turned. -/
namespace Go.Proofs.Ytjimmfbjhkoekaa
open Go.RowKit
theorem tk_set (L : List UInt8) (i : Nat) (h : i < L.length) (x : UInt8) : ∀ k, ws (tk (L.set i x) k) + (if i < k then wt (L[i], i % 2 == 0) else 0) = ws (tk L k) + (if i < k then wt (x, i % 2 == 0) else 0)
  | 0 => by simp [tk, ws]
  | k + 1 => by
    have ih := tk_set L i h x k
    rw [tk_succ, tk_succ, ws_snoc, ws_snoc]
    rcases Nat.lt_trichotomy i k with hk | hk | hk
    · rw [if_pos hk, if_pos hk] at ih
      rw [if_pos (by omega), if_pos (by omega), List.getElem?_set_ne (by omega)]
      omega
    · subst hk
      simp only [Nat.lt_irrefl, if_false, Nat.add_zero] at ih
      rw [if_pos (by omega), if_pos (by omega), ih, List.getElem?_set_self h, List.getElem?_eq_getElem h]
      simp only [Option.getD_some]
      omega
    · rw [if_neg (by omega), if_neg (by omega)] at ih
      rw [if_neg (by omega), if_neg (by omega), List.getElem?_set_ne (by omega)]
      omega
theorem WS_set (L : List UInt8) (i : Nat) (h : i < L.length) (x : UInt8) : WS (L.set i x) + wt (L[i], i % 2 == 0) = WS L + wt (x, i % 2 == 0) := by
  have := tk_set L i h x L.length
  rw [if_pos h, if_pos h] at this
  unfold WS
  rw [List.length_set]
  exact this
theorem sumOf_zero (L : List UInt8) : sumOf L = 0 ↔ 0 < WS L ∧ WS L % 65535 = 0 := by
  unfold sumOf red
  split <;> omega
theorem sumOf_set (L : List UInt8) (i : Nat) (h : i < L.length) (x : UInt8) (hx : x ≠ L[i]) (h0 : sumOf L = 0) : sumOf (L.set i x) ≠ 0 := fun h1 => by
  rw [sumOf_zero] at h0 h1
  have hs := WS_set L i h x
  have hne : x.toNat ≠ L[i].toNat := fun e => hx (UInt8.toNat_inj.1 e)
  have b1 := x.toNat_lt
  have b2 := (L[i]).toNat_lt
  unfold wt at hs
  simp only [] at hs
  split at hs <;> omega
theorem ovr_set (src dst b : List UInt8) (nx : UInt8) (h1 : src.length = 16) (h2 : dst.length = 16) (i : Nat) (x : UInt8) : ovr src dst nx (b.set i x) = (ovr src dst nx b).set (40 + i) x := by
  unfold ovr
  rw [List.length_set, List.set_append_right _ _ (by simp [nb_length, h1, h2])]
  congr 1
  simp [nb_length, h1, h2]
theorem ovr_src (src dst b : List UInt8) (nx : UInt8) (h1 : src.length = 16) (i : Nat) (hi : i < 16) (x : UInt8) : ovr (src.set i x) dst nx b = (ovr src dst nx b).set i x := by
  unfold ovr
  simp only [List.append_assoc]
  rw [List.set_append_left _ _ (by omega)]
theorem ovr_at (src dst b : List UInt8) (nx : UInt8) (h1 : src.length = 16) (h2 : dst.length = 16) (i : Nat) (h : i < b.length) (h' : 40 + i < (ovr src dst nx b).length) : (ovr src dst nx b)[40 + i] = b[i] := by
  have e : (ovr src dst nx b)[40 + i]? = b[i]? := by
    unfold ovr
    rw [List.getElem?_append_right (by simp [nb_length, h1, h2])]
    congr 1
    simp [nb_length, h1, h2]
  rw [List.getElem?_eq_getElem h', List.getElem?_eq_getElem h] at e
  exact Option.some.inj e
end Go.Proofs.Ytjimmfbjhkoekaa
/- Checksums: a checksum that is put right. -/
namespace Go.Proofs.Ytjimmfbjhkoekaa
open Go.RowKit
theorem ovr_dst (src dst b : List UInt8) (nx : UInt8) (h1 : src.length = 16) (h2 : dst.length = 16) (i : Nat) (hi : i < 16) (x : UInt8) : ovr src (dst.set i x) nx b = (ovr src dst nx b).set (16 + i) x := by
  unfold ovr
  simp only [List.append_assoc]
  rw [List.set_append_right _ _ (by omega), List.set_append_left _ _ (by omega)]
  congr 3
  omega
theorem ovr_src_at (src dst b : List UInt8) (nx : UInt8) (h1 : src.length = 16) (i : Nat) (hi : i < 16) (h' : i < (ovr src dst nx b).length) : (ovr src dst nx b)[i] = src[i] := by
  have e : (ovr src dst nx b)[i]? = src[i]? := by
    unfold ovr
    simp only [List.append_assoc]
    rw [List.getElem?_append_left (by omega)]
  rw [List.getElem?_eq_getElem h', List.getElem?_eq_getElem (by omega)] at e
  exact Option.some.inj e
theorem ovr_dst_at (src dst b : List UInt8) (nx : UInt8) (h1 : src.length = 16) (h2 : dst.length = 16) (i : Nat) (hi : i < 16) (h' : 16 + i < (ovr src dst nx b).length) : (ovr src dst nx b)[16 + i] = dst[i] := by
  have e : (ovr src dst nx b)[16 + i]? = dst[i]? := by
    unfold ovr
    simp only [List.append_assoc]
    rw [List.getElem?_append_right (by omega), List.getElem?_append_left (by omega)]
    congr 1
    omega
  rw [List.getElem?_eq_getElem h', List.getElem?_eq_getElem (by omega)] at e
  exact Option.some.inj e
theorem ovr_pos (src dst b : List UInt8) (nx : UInt8) (hnx : nx ≠ 0) (h1 : src.length = 16) (h2 : dst.length = 16) : 0 < WS (ovr src dst nx b) := by
  have hl := ovr_length src dst nx b h1 h2
  have h39 : (ovr src dst nx b)[39]'(by omega) = nx := by
    have e : (ovr src dst nx b)[39]? = some nx := by
      unfold ovr
      rw [List.getElem?_append_left (by simp [nb_length, h1, h2]), List.getElem?_append_right (by simp [nb_length, h1, h2])]
      simp [nb_length, h1, h2]
    rw [List.getElem?_eq_getElem (by omega)] at e
    exact Option.some.inj e
  have := WS_set (ovr src dst nx b) 39 (by omega) 0
  rw [h39] at this
  have e : wt (nx, 39 % 2 == 0) = nx.toNat := rfl
  have e' : wt ((0 : UInt8), 39 % 2 == 0) = 0 := by decide
  have h0 : nx.toNat ≠ 0 := fun h => hnx (UInt8.toNat_inj.1 h)
  rw [e, e'] at this
  omega
/-- Bytes with two of them as their checksum. -/
def fixc (src dst : List UInt8) (nx : UInt8) (k : Nat) (L : List UInt8) : List UInt8 :=
  (((L.set k 0).set (k + 1) 0).set k (UInt8.ofNat (sumOf (ovr src dst nx ((L.set k 0).set (k + 1) 0)) / 256))).set (k + 1) (UInt8.ofNat (sumOf (ovr src dst nx ((L.set k 0).set (k + 1) 0))))
section
variable {src dst L : List UInt8} {nx : UInt8} {k : Nat}
theorem fixc_length : (fixc src dst nx k L).length = L.length := by simp [fixc]
theorem fixc_at {j : Nat} (h : j ≠ k) (h' : j ≠ k + 1) : (fixc src dst nx k L)[j]? = L[j]? := by
  unfold fixc
  rw [List.getElem?_set_ne (by omega), List.getElem?_set_ne (by omega), List.getElem?_set_ne (by omega), List.getElem?_set_ne (by omega)]
theorem fixc_part {q m : Nat} (h : q + m ≤ k ∨ k + 2 ≤ q) : ((fixc src dst nx k L).drop q).take m = (L.drop q).take m := by
  apply List.ext_getElem?
  intro i
  rw [List.getElem?_take, List.getElem?_take]
  split
  · rw [List.getElem?_drop, List.getElem?_drop, fixc_at (by omega) (by omega)]
  · rfl
theorem fixc_drop {q : Nat} (h : k + 2 ≤ q) : (fixc src dst nx k L).drop q = L.drop q := by
  apply List.ext_getElem?
  intro i
  rw [List.getElem?_drop, List.getElem?_drop, fixc_at (by omega) (by omega)]
theorem fixc_good (h1 : src.length = 16) (h2 : dst.length = 16) (hnx : nx ≠ 0) (hk : k % 2 = 0) (hl : k + 1 < L.length) : sumOf (ovr src dst nx (fixc src dst nx k L)) = 0 := by
  obtain ⟨M, hM⟩ : ∃ M, M = (L.set k 0).set (k + 1) 0 := ⟨_, rfl⟩
  have m0 : M.length = L.length := by rw [hM]; simp
  have mk : M[k]'(by omega) = 0 := by simp [hM]
  have mk1 : M[k + 1]'(by omega) = 0 := by simp [hM]
  have hp := ovr_pos src dst M nx hnx h1 h2
  have hol := ovr_length src dst nx M h1 h2
  unfold fixc
  rw [← hM]
  obtain ⟨c, hc⟩ : ∃ c, c = sumOf (ovr src dst nx M) := ⟨_, rfl⟩
  rw [← hc]
  have cl : c < 65536 := by rw [hc]; unfold sumOf; omega
  rw [ovr_set _ _ _ _ h1 h2, ovr_set _ _ _ _ h1 h2]
  have s1 := WS_set (ovr src dst nx M) (40 + k) (by omega) (UInt8.ofNat (c / 256))
  have s2 := WS_set ((ovr src dst nx M).set (40 + k) (UInt8.ofNat (c / 256))) (40 + (k + 1)) (by rw [List.length_set]; omega) (UInt8.ofNat c)
  rw [ovr_at _ _ _ _ h1 h2 k (by omega), mk] at s1
  rw [List.getElem_set_ne (by omega), ovr_at _ _ _ _ h1 h2 (k + 1) (by omega), mk1] at s2
  rw [show ((40 + k) % 2 == 0) = true by simp; omega] at s1
  rw [show ((40 + (k + 1)) % 2 == 0) = false by simp; omega] at s2
  simp only [wt, if_true, if_false, UInt8.toNat_ofNat', UInt8.toNat_zero, Bool.false_eq_true] at s1 s2
  rw [sumOf_zero]
  have hcr : c = 65535 - red (WS (ovr src dst nx M)) := hc
  generalize WS (ovr src dst nx M) = W at *
  have hrd : red W = (W - 1) % 65535 + 1 := by unfold red; rw [if_neg (by omega)]
  rw [hrd] at hcr
  have hR : WS (((ovr src dst nx M).set (40 + k) (UInt8.ofNat (c / 256))).set (40 + (k + 1)) (UInt8.ofNat c)) = W + c := by
    have c1 : c / 256 % 2 ^ 8 = c / 256 := Nat.mod_eq_of_lt (by omega)
    rw [c1] at s1
    omega
  have hW : W + c = 65535 * ((W - 1) / 65535 + 1) := by omega
  rw [hR, hW]
  exact ⟨by omega, Nat.mul_mod_right _ _⟩
end
theorem val_two (n : Nat) (h : n < 65536) : val [UInt8.ofNat (n / 256), UInt8.ofNat n] = n := by
  simp only [val, List.foldl_cons, List.foldl_nil, UInt8.toNat_ofNat']
  omega
theorem val_four (n : Nat) (h : n < 4294967296) : val [UInt8.ofNat (n / 256 / 256 / 256), UInt8.ofNat (n / 256 / 256), UInt8.ofNat (n / 256), UInt8.ofNat n] = n := by
  simp only [val, List.foldl_cons, List.foldl_nil, UInt8.toNat_ofNat']
  omega
end Go.Proofs.Ytjimmfbjhkoekaa
/- Icmps: what of a message is got that is cut, its checksum put right. -/
namespace Go.Proofs.Ytjimmfbjhkoekaa
open Go.RowKit
set_option maxRecDepth 100000
def CutE (m : Msg) (k : Nat) (mo : Mv) (E : Nat) : Prop :=
  (m.kind < 130 → (k < 8 → E = 5) ∧ (8 ≤ k → E = 0 ∧ mo.dd.length = k - 8)) ∧
  (¬ m.kind < 130 → (E = 0 ∧ mo.os.length < m.opts.length ∧ m.kind ≠ 130 ∧ m.kind ≠ 143) ∨ E = 5 ∨ (E = 4 ∧ m.kind ≠ 130 ∧ m.kind ≠ 143))
theorem MvOk.wf {w : World} {n : Nat} {m : Mv} (h : MvOk w n m) : Wf m.pl :=
  ⟨m.ht, m.hd, m.hg, h.s16, fun r hr => by
    obtain ⟨x, hx, rfl⟩ := List.mem_map.1 hr
    exact ⟨x.hg, (h.rss x hx).2.1⟩⟩
theorem putB_drop (src dst : List UInt8) (m : Msg) : (putB src dst m).drop 4 = partB m := by
  unfold putB
  exact List.drop_left' (by simp [nb_length])
theorem putB_0 (src dst : List UInt8) (m : Msg) : (putB src dst m)[0]? = some m.kind := by
  unfold putB; rfl
theorem cut_get {src dst : List UInt8} {m : Msg} {k n : Nat} {e : Ending} {w' : World} (h1 : src.length = 16) (h2 : dst.length = 16) (hw : Wf m) (hok : okM m = true) (hk : 4 ≤ k) (hkl : k < (putB src dst m).length) (h : GetM src dst (fixc src dst 58 2 ((putB src dst m).take k)) n e w') :
    ∃ (mo : Mv) (E : Nat), e = .returned (.tuple #[.agg (mC mo), .int .i64 (E : Int)]) ∧ CutE m k mo E := by
  have hl : ((putB src dst m).take k).length = k := by rw [List.length_take]; omega
  have hgood := fixc_good (src := src) (dst := dst) (nx := 58) (k := 2) (L := (putB src dst m).take k) h1 h2 (by decide) (by decide) (by omega)
  have hdrop : (fixc src dst 58 2 ((putB src dst m).take k)).drop 4 = (partB m).take (k - 4) := by rw [fixc_drop (by decide), List.drop_take, putB_drop]
  have hp : ∃ p, p = fixc src dst 58 2 ((putB src dst m).take k) := ⟨_, rfl⟩
  obtain ⟨p, hp⟩ := hp
  have hpl : p.length = k := by rw [hp, fixc_length, hl]
  have h0 : p.headD 0 = m.kind := by
    have e0 : p[0]? = some m.kind := by rw [hp, fixc_at (by decide) (by decide), List.getElem?_take, if_pos (by omega), putB_0]
    cases p with
    | nil => simp at e0
    | cons a r => simpa using e0
  rw [← hp] at h hgood hdrop
  have hkk : isK m.kind = true := by unfold okM at hok; rw [Bool.and_eq_true] at hok; exact hok.2
  have hlen := putB_len src dst m
  unfold GetM at h
  rw [if_neg (by omega), if_neg (by rw [hgood]; simp), if_neg (by rw [h0, hkk]; simp), h0, hdrop] at h
  obtain ⟨st', m', hpart, hcase⟩ := h
  have hc := part_cut (m0 := (mZ m.kind (p.getD 1 0)).pl) hw hok rfl (by omega) hpart
  obtain ⟨c1, c2⟩ := hc
  rcases hcase with ⟨he, rfl⟩ | ⟨q, gb, hq, rfl, _⟩
  · refine ⟨mZ 0 0, st'.err, rfl, fun hlt => ?_, fun hge => ?_⟩
    · obtain ⟨d1, d2⟩ := c1 hlt
      refine ⟨fun h8 => by rw [d1 (by omega)]; rfl, fun h8 => ?_⟩
      obtain ⟨q, e1, _⟩ := d2 (by omega)
      rw [e1] at he; exact absurd rfl he
    · rcases c2 hge with ⟨q, e1, _⟩ | e1 | ⟨e1, e2⟩
      · rw [e1] at he; exact absurd rfl he
      · right; left; rw [e1]; rfl
      · right; right; exact ⟨by rw [e1]; rfl, e2⟩
  · refine ⟨m', 0, rfl, fun hlt => ?_, fun hge => ?_⟩
    · obtain ⟨d1, d2⟩ := c1 hlt
      refine ⟨fun h8 => ?_, fun h8 => ?_⟩
      · have := d1 (by omega); rw [hq] at this; cases this
      · obtain ⟨q', e1, e2⟩ := d2 (by omega)
        exact ⟨rfl, by have : m'.dd.length = k - 4 - 4 := e2; omega⟩
    · rcases c2 hge with ⟨q', e1, e2, e3⟩ | e1 | ⟨e1, e2⟩
      · left
        refine ⟨rfl, ?_, e3⟩
        have : (m'.os.map Ov.pl).length < m.opts.length := e2
        simpa using this
      · rw [hq] at e1; cases e1
      · rw [hq] at e1; cases e1
end Go.Proofs.Ytjimmfbjhkoekaa
/- Icmps: the chapter's own bytes, plain. -/
namespace Go.Proofs.Ytjimmfbjhkoekaa
open Go.RowKit
set_option maxRecDepth 100000
def z16 : List UInt8 := List.replicate 16 0
def wantB : List UInt8 := [128, 0, 127, 188, 0, 0, 0, 1]
def wantM : Mv := { mZ 128 0 with param := 1 }
theorem want_put : putB z16 z16 wantM.pl = wantB := by decide +kernel
theorem want_ok : okM wantM.pl = true := by decide +kernel
theorem want_get {n : Nat} {e : Ending} {w' : World} (h : GetM z16 z16 wantB n e w') : ∃ mo : Mv, e = .returned (.tuple #[.agg (mC mo), .int .i64 0]) ∧ mo.pl = wantM.pl ∧ MvOk w' w'.heap.size mo := by
  unfold GetM at h
  rw [if_neg (by decide), if_neg (by decide +kernel), if_neg (by decide)] at h
  obtain ⟨st', m', hp, hc⟩ := h
  have e4 : wantB.drop 4 = [0, 0, 0, 1] := rfl
  rw [e4, show wantB.headD 0 = 128 from rfl, show wantB.getD 1 0 = 0 from rfl] at hp
  unfold PartG at hp
  have hk : (mZ 128 0).pl.kind = 128 := rfl
  rw [hk, if_neg (by decide), if_neg (by decide), if_neg (by decide), if_neg (by decide), if_neg (by decide), if_neg (by decide), if_neg (by decide)] at hp
  obtain ⟨V, data, hm, hv, _, hd, hst⟩ := hp
  have ha : GS.adv [0, 0, 0, 1] 4 (.ok 0) = .ok 4 := rfl
  have hV : V = 1 := hv 0 rfl (by decide)
  have hD : data = [] := hd 4 ha
  rw [ha] at hst
  rcases hc with ⟨he, _⟩ | ⟨q, gb, hq, rfl, hok, _⟩
  · rw [hst] at he; exact absurd rfl he
  · refine ⟨m', rfl, ?_, hok⟩
    rw [hm, hV, hD]
    rfl
theorem bad_get {n : Nat} {e : Ending} {w' : World} (h : GetM z16 z16 [128, 0, 127, 187, 0, 0, 0, 1] n e w') : e = .returned (.tuple #[.agg (mC (mZ 0 0)), .int .i64 6]) := by
  unfold GetM at h
  rw [if_neg (by decide), if_pos (by decide +kernel)] at h
  exact h
theorem none_get {n : Nat} {e : Ending} {w' : World} (h : GetM z16 z16 [200, 0, 55, 193] n e w') : e = .returned (.tuple #[.agg (mC (mZ 0 0)), .int .i64 9]) := by
  unfold GetM at h
  rw [if_neg (by decide), if_neg (by decide +kernel), if_pos (by decide)] at h
  exact h
end Go.Proofs.Ytjimmfbjhkoekaa
