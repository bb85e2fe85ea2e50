/- Addresses as sixteen bytes: bits, what two have in common, what is masked. Plain lemmas; no program. -/
namespace Go.Proofs.YtcoonncedlbbkaaDoor.Ad
def bitB (b : UInt8) (k : Nat) : Nat := b.toNat / 2 ^ (7 - k) % 2
def bitN (l : List UInt8) (i : Nat) : Nat := bitB (l.getD (i / 8) 0) (i % 8)
theorem bitN_lt (l : List UInt8) (i : Nat) : bitN l i < 2 := Nat.mod_lt _ (by omega)
def cmnFrom (a b : List UInt8) : Nat → Nat → Nat
  | 0, n => n
  | f + 1, n => if bitN a n = bitN b n then cmnFrom a b f (n + 1) else n
def common (a b : List UInt8) : Nat := cmnFrom a b 128 0
def IsCmn (a b : List UInt8) (n : Nat) : Prop := n ≤ 128 ∧ (∀ j, j < n → bitN a j = bitN b j) ∧ (n < 128 → bitN a n ≠ bitN b n)
theorem cmnFrom_is (a b : List UInt8) : ∀ f n, n + f = 128 → (∀ j, j < n → bitN a j = bitN b j) → IsCmn a b (cmnFrom a b f n)
  | 0, n, h, hj => ⟨by simp [cmnFrom]; omega, by simpa [cmnFrom] using hj, by simp [cmnFrom]; omega⟩
  | f + 1, n, h, hj => by
    unfold cmnFrom
    split
    · rename_i he
      exact cmnFrom_is a b f (n + 1) (by omega) (fun j h' => by
        by_cases e : j = n
        · subst e; exact he
        · exact hj j (by omega))
    · rename_i he
      exact ⟨by omega, hj, fun _ => he⟩
theorem common_is (a b : List UInt8) : IsCmn a b (common a b) := cmnFrom_is a b 128 0 (by omega) (fun j h => by omega)
theorem cmn_unique {a b : List UInt8} {m n : Nat} (hm : IsCmn a b m) (hn : IsCmn a b n) : m = n := by
  obtain ⟨h1, h2, h3⟩ := hm
  obtain ⟨k1, k2, k3⟩ := hn
  rcases Nat.lt_trichotomy m n with h | h | h
  · exact absurd (k2 m h) (h3 (by omega))
  · exact h
  · exact absurd (h2 n h) (k3 (by omega))
theorem common_eq {a b : List UInt8} {n : Nat} (h : IsCmn a b n) : common a b = n := cmn_unique (common_is a b) h
theorem common_le (a b : List UInt8) : common a b ≤ 128 := (common_is a b).1
theorem common_symm (a b : List UInt8) : common a b = common b a :=
  common_eq ⟨common_le b a, fun j h => ((common_is b a).2.1 j h).symm, fun h e => (common_is b a).2.2 h e.symm⟩
/-- As many bits in common as k, just if the first k agree. -/
theorem le_common (a b : List UInt8) (k : Nat) (hk : k ≤ 128) : k ≤ common a b ↔ ∀ j, j < k → bitN a j = bitN b j := by
  constructor
  · intro h j hj
    exact (common_is a b).2.1 j (by omega)
  · intro h
    rcases Nat.lt_or_ge (common a b) k with h' | h'
    · exact absurd (h _ h') ((common_is a b).2.2 (by omega))
    · exact h'
theorem byte_ext (x y : UInt8) (h : ∀ k, k < 8 → bitB x k = bitB y k) : x = y := by
  have h0 : x.toNat / 128 % 2 = y.toNat / 128 % 2 := h 0 (by omega)
  have h1 : x.toNat / 64 % 2 = y.toNat / 64 % 2 := h 1 (by omega)
  have h2 : x.toNat / 32 % 2 = y.toNat / 32 % 2 := h 2 (by omega)
  have h3 : x.toNat / 16 % 2 = y.toNat / 16 % 2 := h 3 (by omega)
  have h4 : x.toNat / 8 % 2 = y.toNat / 8 % 2 := h 4 (by omega)
  have h5 : x.toNat / 4 % 2 = y.toNat / 4 % 2 := h 5 (by omega)
  have h6 : x.toNat / 2 % 2 = y.toNat / 2 % 2 := h 6 (by omega)
  have h7 : x.toNat / 1 % 2 = y.toNat / 1 % 2 := h 7 (by omega)
  have hx := x.toNat_lt
  have hy := y.toNat_lt
  rw [← UInt8.toNat_inj]
  omega
theorem addr_ext {a b : List UInt8} (ha : a.length = 16) (hb : b.length = 16) (h : ∀ i, i < 128 → bitN a i = bitN b i) : a = b := by
  apply List.ext_getElem (by omega)
  intro j h1 h2
  apply byte_ext
  intro k hk
  have := h (8 * j + k) (by omega)
  unfold bitN at this
  rw [show (8 * j + k) / 8 = j by omega, show (8 * j + k) % 8 = k by omega] at this
  simpa [List.getD_eq_getElem?_getD, h1, h2] using this
theorem common_all {a b : List UInt8} (ha : a.length = 16) (hb : b.length = 16) : common a b = 128 ↔ a = b := by
  constructor
  · intro h
    exact addr_ext ha hb ((le_common a b 128 (by omega)).1 (by omega))
  · rintro rfl
    exact common_eq ⟨by omega, fun _ _ => rfl, fun h => by omega⟩
/-- A byte's first k bits. -/
def mb (b : UInt8) (k : Nat) : UInt8 := UInt8.ofNat (b.toNat / 2 ^ (8 - k) * 2 ^ (8 - k))
def masked (l : List UInt8) (n : Nat) : List UInt8 := (List.range 16).map fun j => mb (l.getD j 0) (n - 8 * j)
@[simp] theorem masked_length (l : List UInt8) (n : Nat) : (masked l n).length = 16 := by simp [masked]
theorem mb_toNat (b : UInt8) (k : Nat) : (mb b k).toNat = b.toNat / 2 ^ (8 - k) * 2 ^ (8 - k) := by
  have h1 : b.toNat / 2 ^ (8 - k) * 2 ^ (8 - k) ≤ b.toNat := Nat.div_mul_le_self _ _
  have h2 := b.toNat_lt
  simp only [mb, UInt8.toNat_ofNat']
  exact Nat.mod_eq_of_lt (by omega)
theorem bitB_mb (b : UInt8) (n k : Nat) (hk : k < 8) : bitB (mb b n) k = if k < n then bitB b k else 0 := by
  unfold bitB
  rw [mb_toNat]
  have h2 := b.toNat_lt
  generalize b.toNat = x at *
  rcases Nat.lt_or_ge n 8 with h | h
  · rcases (show n = 0 ∨ n = 1 ∨ n = 2 ∨ n = 3 ∨ n = 4 ∨ n = 5 ∨ n = 6 ∨ n = 7 by omega) with rfl | rfl | rfl | rfl | rfl | rfl | rfl | rfl <;>
    rcases (show k = 0 ∨ k = 1 ∨ k = 2 ∨ k = 3 ∨ k = 4 ∨ k = 5 ∨ k = 6 ∨ k = 7 by omega) with rfl | rfl | rfl | rfl | rfl | rfl | rfl | rfl <;> simp <;> omega
  · rw [show 8 - n = 0 by omega, if_pos (by omega)]
    simp
theorem bitN_masked (l : List UInt8) (n i : Nat) (hi : i < 128) : bitN (masked l n) i = if i < n then bitN l i else 0 := by
  unfold bitN
  have e : (masked l n).getD (i / 8) 0 = mb (l.getD (i / 8) 0) (n - 8 * (i / 8)) := by
    unfold masked
    rw [List.getD_eq_getElem?_getD, List.getElem?_map, List.getElem?_range (by omega)]
    rfl
  rw [e, bitB_mb _ _ _ (by omega)]
  by_cases h : i < n
  · rw [if_pos (by omega), if_pos h]
  · rw [if_neg (by omega), if_neg h]
/-- Masked by k alike, just if so many bits are in common. -/
theorem masked_eq_iff (a b : List UInt8) (n : Nat) : masked a n = masked b n ↔ min n 128 ≤ common a b := by
  rw [le_common a b _ (by omega)]
  constructor
  · intro h j hj
    have h1 := bitN_masked a n j (by omega)
    have h2 := bitN_masked b n j (by omega)
    rw [if_pos (by omega)] at h1 h2
    rw [← h1, ← h2, h]
  · intro h
    apply addr_ext (masked_length _ _) (masked_length _ _)
    intro i hi
    rw [bitN_masked _ _ _ hi, bitN_masked _ _ _ hi]
    split
    · exact h i (by omega)
    · rfl
theorem masked_masked (a : List UInt8) (x y : Nat) : masked (masked a x) y = masked a (min x y) := by
  apply addr_ext (masked_length _ _) (masked_length _ _)
  intro i hi
  rw [bitN_masked _ _ _ hi, bitN_masked _ _ _ hi, bitN_masked _ _ _ hi]
  repeat' split
  all_goals first | rfl | omega
theorem masked_common (a : List UInt8) (x : Nat) : min x 128 ≤ common a (masked a x) := by
  rw [le_common _ _ _ (by omega)]
  intro j hj
  rw [bitN_masked _ _ _ (by omega), if_pos (by omega)]
theorem masked_all (a : List UInt8) (ha : a.length = 16) : masked a 128 = a := by
  apply addr_ext (masked_length _ _) ha
  intro i hi
  rw [bitN_masked _ _ _ hi, if_pos hi]
theorem masked_none (a : List UInt8) : masked a 0 = List.replicate 16 0 := by
  apply addr_ext (masked_length _ _) (by simp)
  intro i hi
  rw [bitN_masked _ _ _ hi, if_neg (by omega)]
  unfold bitN
  rw [show (List.replicate 16 (0 : UInt8)).getD (i / 8) 0 = 0 by
    rw [List.getD_eq_getElem?_getD, List.getElem?_replicate]; split <;> rfl]
  simp [bitB]
theorem masked_behind (a : List UInt8) (x i : Nat) (h : x ≤ i) (hi : i < 128) : bitN (masked a x) i = 0 := by
  rw [bitN_masked _ _ _ hi, if_neg (by omega)]
end Go.Proofs.YtcoonncedlbbkaaDoor.Ad
