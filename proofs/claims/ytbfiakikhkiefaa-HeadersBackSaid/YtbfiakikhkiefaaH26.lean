/- Headers, plain: headers that are passed change nothing of what stands behind them. -/
import Derived.Test.YtbfiakikhkiefaaH24
namespace Go.Proofs.Ytbfiakikhkiefaa
set_option maxRecDepth 100000
def lgO (x : UInt8) : Nat := x.toNat / 4 % 5
def hdO (k lg : Nat) (first x : UInt8) : List UInt8 :=
  if k = 0 then [first, UInt8.ofNat lg, 1, UInt8.ofNat (8 * lg + 4)] ++ List.replicate (8 * lg + 4) 0
  else if k = 1 then [first, UInt8.ofNat lg, 30, UInt8.ofNat (8 * lg + 4)] ++ List.replicate (8 * lg + 4) 0
  else if k = 2 then [first, UInt8.ofNat lg, 0, 0] ++ List.replicate (8 * lg + 4) 0
  else [first, 0, 0, 0, 1, 2, 3, x]
def nxO (k : Nat) : UInt8 := if k = 0 then 60 else if k = 1 then 60 else if k = 2 then 43 else 44
def stO : List UInt8 → UInt8 × List UInt8 → UInt8 × List UInt8
  | [], s => s
  | x :: l, s => stO l (nxO (x.toNat % 4), hdO (x.toNat % 4) (lgO x) s.1 x ++ s.2)
theorem stO_snoc : ∀ (l : List UInt8) (s : UInt8 × List UInt8) (x : UInt8), stO (l ++ [x]) s = (nxO (x.toNat % 4), hdO (x.toNat % 4) (lgO x) (stO l s).1 x ++ (stO l s).2)
  | [], _, _ => rfl
  | _ :: l, _, x => stO_snoc l _ x
def tlO (nx : UInt8) (b : List UInt8) (al : Bool) : Tl := ⟨nx, b, al, false, 0, 0, false, 0, 0, 0⟩
theorem hdO_len (k lg : Nat) (first x : UInt8) (h : k ≤ 2) : (hdO k lg first x).length = 8 * lg + 8 := by
  unfold hdO
  split
  · simp [Nat.add_comm, Nat.add_left_comm] <;> omega
  · split
    · simp [Nat.add_comm, Nat.add_left_comm] <;> omega
    · rw [if_pos (by omega)]; simp [Nat.add_comm, Nat.add_left_comm] <;> omega
theorem opt_pad (first x : UInt8) (mc : Bool) : ∀ lg, lg < 5 → opt (hdO 0 lg first x) false mc 2 false = (0, 8 * lg + 8, false)
  | 0, _ => rfl
  | 1, _ => rfl
  | 2, _ => rfl
  | 3, _ => rfl
  | 4, _ => rfl
  | n + 5, h => absurd h (by omega)
theorem opt_thirty (first x : UInt8) (mc : Bool) : ∀ lg, lg < 5 → opt (hdO 1 lg first x) false mc 2 false = (0, 8 * lg + 8, false)
  | 0, _ => rfl
  | 1, _ => rfl
  | 2, _ => rfl
  | 3, _ => rfl
  | 4, _ => rfl
  | n + 5, h => absurd h (by omega)
theorem at8_app (h b : List UInt8) (i : Nat) (hi : i < h.length) : at8 (h ++ b) i = at8 h i := by
  unfold at8
  simp only [List.getD_eq_getElem?_getD, List.getElem?_append_left hi]
theorem hdO_at0 (k lg : Nat) (first x : UInt8) : at8 (hdO k lg first x) 0 = first := by
  unfold hdO
  split
  · rfl
  · split
    · rfl
    · split
      · rfl
      · rfl
theorem hdO_at1 {k lg : Nat} (first x : UInt8) (h : k ≤ 2) : at8 (hdO k lg first x) 1 = UInt8.ofNat lg := by
  unfold hdO
  split
  · rfl
  · split
    · rfl
    · rw [if_pos (by omega)]; rfl
theorem passes {mc : Bool} {nx first : UInt8} {rest b : List UInt8} (h : ∀ p told fs al, chain mc first b p told fs al = tlO nx rest al) (k lg : Nat) (x : UInt8) (hk : k < 4) (hl : lg < 5) :
    ∀ p told fs al, chain mc (nxO k) (hdO k lg first x ++ b) p told fs al = tlO nx rest al := fun p told fs al => by
  have e0 : at8 (hdO k lg first x ++ b) 0 = first := by
    have hp : 0 < (hdO k lg first x).length := by
      rcases Nat.lt_or_ge k 3 with h3 | h3
      · rw [hdO_len _ _ _ _ (by omega)]; omega
      · obtain rfl : k = 3 := by omega
        simp [hdO]
    rw [at8_app _ _ _ hp, hdO_at0]
  rcases Nat.lt_or_ge k 3 with h3 | h3
  · have hlen := hdO_len k lg first x (by omega)
    have e1 : hsz (hdO k lg first x ++ b) = 8 * lg + 8 := by
      unfold hsz
      rw [at8_app _ _ _ (by omega), hdO_at1 _ _ (by omega), UInt8.toNat_ofNat']
      omega
    have hbl : ¬ ((hdO k lg first x ++ b).length < 2 ∨ (hdO k lg first x ++ b).length < hsz (hdO k lg first x ++ b)) := by
      rw [e1, List.length_append]; omega
    have hbl4 : ¬ ((hdO k lg first x ++ b).length < 4 ∨ (hdO k lg first x ++ b).length < hsz (hdO k lg first x ++ b)) := by
      rw [e1, List.length_append]; omega
    have hdr : (hdO k lg first x ++ b).drop (hsz (hdO k lg first x ++ b)) = b := by rw [e1, ← hlen]; exact List.drop_left
    have htk : (hdO k lg first x ++ b).take (hsz (hdO k lg first x ++ b)) = hdO k lg first x := by rw [e1, ← hlen]; exact List.take_left
    rw [chain_eq]
    by_cases h2 : k = 2
    · subst h2
      have hn : ¬ (nxO 2 = 0 ∨ nxO 2 = 60) := by decide
      have e3 : ¬ (at8 (hdO 2 lg first x ++ b) 3 ≠ 0) := by rw [at8_app _ _ _ (by omega)]; simp [hdO, at8]
      rw [if_neg hn, if_pos (by decide), if_neg hbl4, if_neg e3, hdr, e0]
      exact h _ _ _ _
    · have hn : nxO k = 60 := by unfold nxO; rcases (show k = 0 ∨ k = 1 by omega) with rfl | rfl <;> rfl
      have ho : opr (nxO k) (hdO k lg first x ++ b) mc = (0, 8 * lg + 8, false) := by
        unfold opr
        rw [htk, hn]
        show opt _ false mc 2 false = _
        rcases (show k = 0 ∨ k = 1 by omega) with rfl | rfl
        · exact opt_pad first x mc lg hl
        · exact opt_thirty first x mc lg hl
      rw [if_pos (by rw [hn]; exact .inr rfl), if_neg (by rw [hn]; intro h; exact absurd h.1 (by decide)), if_neg hbl, ho, if_pos rfl, hdr, e0]
      exact h _ _ _ _
  · obtain rfl : k = 3 := by omega
    have hl8 : ¬ ((hdO 3 lg first x ++ b).length < 8) := by simp [hdO]
    have hw : wd (hdO 3 lg first x ++ b) = 0 := by
      unfold wd
      rw [at8_app _ _ _ (by simp [hdO]), at8_app _ _ _ (by simp [hdO])]
      rfl
    have hdr : (hdO 3 lg first x ++ b).drop 8 = b := by
      have : (hdO 3 lg first x).length = 8 := by simp [hdO]
      rw [← this]; exact List.drop_left
    rw [chain_eq, if_neg (by decide), if_neg (by decide), if_pos (by decide), if_neg hl8, hw, if_pos ⟨rfl, rfl⟩, hdr, e0]
    exact h _ _ _ _
def numO (n : UInt8) : Bool := n == 0 || n == 43 || n == 44 || n == 59 || n == 60
theorem chain_end {mc : Bool} {nx : UInt8} {rest : List UInt8} (h : numO nx = false) : ∀ p told fs al, chain mc nx rest p told fs al = tlO nx rest al := fun p told fs al => by
  unfold numO at h
  simp only [Bool.or_eq_false_iff, beq_eq_false_iff_ne, ne_eq] at h
  rw [chain_eq, if_neg (by rintro (h1 | h1) <;> simp_all), if_neg h.1.1.1.2, if_neg h.1.1.2, if_neg h.1.2]
  rfl
theorem over_all {mc : Bool} {nx : UInt8} {rest : List UInt8} (h : numO nx = false) : ∀ (l : List UInt8) (s : UInt8 × List UInt8), (∀ p told fs al, chain mc s.1 s.2 p told fs al = tlO nx rest al) → ∀ p told fs al, chain mc (stO l s).1 (stO l s).2 p told fs al = tlO nx rest al
  | [], _, hs => hs
  | x :: l, s, hs => over_all h l _ (passes hs (x.toNat % 4) (lgO x) x (Nat.mod_lt _ (by decide)) (Nat.mod_lt _ (by decide)))
theorem over_stO {mc : Bool} {nx : UInt8} {rest : List UInt8} (h : numO nx = false) (l : List UInt8) (p told : Nat) (fs al : Bool) : chain mc (stO l (nx, rest)).1 (stO l (nx, rest)).2 p told fs al = tlO nx rest al := over_all h l (nx, rest) (chain_end h) p told fs al
theorem stO_len : ∀ (l : List UInt8) (s : UInt8 × List UInt8), (stO l s).2.length ≤ s.2.length + 40 * l.length
  | [], _ => by simp [stO]
  | x :: l, s => by
    have := stO_len l (nxO (x.toNat % 4), hdO (x.toNat % 4) (lgO x) s.1 x ++ s.2)
    have h1 : (hdO (x.toNat % 4) (lgO x) s.1 x).length ≤ 40 := by
      rcases Nat.lt_or_ge (x.toNat % 4) 3 with h3 | h3
      · rw [hdO_len _ _ _ _ (by omega)]; unfold lgO; omega
      · rw [show x.toNat % 4 = 3 by omega]; simp [hdO]
    simp only [stO, List.length_append, List.length_cons] at this ⊢
    omega
end Go.Proofs.Ytbfiakikhkiefaa
