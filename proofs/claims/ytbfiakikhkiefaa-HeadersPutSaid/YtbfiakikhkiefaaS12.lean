/- Numbers in bytes: plain laws. -/
import Derived.Test.YtbfiakikhkiefaaS11
namespace Go.Proofs.Ytbfiakikhkiefaa
open Go.RowKit
theorem val_go (l : List UInt8) : ∀ n, l.foldl (fun n b => 256 * n + b.toNat) n = n * 256 ^ l.length + val l := by
  induction l with
  | nil => intro n; simp [val]
  | cons b l ih =>
    intro n
    simp only [List.foldl_cons, List.length_cons, val]
    rw [ih, ih (256 * 0 + b.toNat), Nat.pow_succ, Nat.add_mul, Nat.mul_zero, Nat.zero_add]
    have : 256 * n * 256 ^ l.length = n * (256 ^ l.length * 256) := by rw [Nat.mul_comm 256 n, Nat.mul_assoc, Nat.mul_comm 256]
    omega
theorem val_cons (b : UInt8) (l : List UInt8) : val (b :: l) = b.toNat * 256 ^ l.length + val l := by
  show List.foldl _ (256 * 0 + b.toNat) l = _
  rw [val_go]; simp
theorem less_val : ∀ a b : List UInt8, a.length = b.length → Op.bytesLess a b = decide (val a < val b)
  | [], [], _ => by simp [Op.bytesLess]
  | [], _ :: _, h => by simp at h
  | _ :: _, [], h => by simp at h
  | x :: a, y :: b, h => by
    have hl : a.length = b.length := by simpa using h
    have ih := less_val a b hl
    have ha := val_lt a
    have hb := val_lt b
    rw [← hl] at hb
    rw [Op.bytesLess, ih, val_cons, val_cons, ← hl]
    have hx : (decide (x < y)) = decide (x.toNat < y.toNat) := by rw [Bool.eq_iff_iff]; simp [UInt8.lt_iff_toNat_lt]
    have he : (x == y) = decide (x.toNat = y.toNat) := by rw [Bool.eq_iff_iff]; simp [← UInt8.toNat_inj]
    rw [hx, he]
    generalize x.toNat = p, y.toNat = q, val a = s, val b = t, 256 ^ a.length = N at *
    rw [Bool.eq_iff_iff]
    simp only [Bool.or_eq_true, Bool.and_eq_true, decide_eq_true_eq]
    constructor
    · rintro (h1 | ⟨rfl, h2⟩)
      · have : (p + 1) * N ≤ q * N := Nat.mul_le_mul_right _ h1
        rw [Nat.add_mul] at this; omega
      · omega
    · intro h3
      rcases Nat.lt_trichotomy p q with h4 | h4 | h4
      · exact .inl h4
      · subst h4; exact .inr ⟨rfl, by omega⟩
      · have : (q + 1) * N ≤ p * N := Nat.mul_le_mul_right _ h4
        rw [Nat.add_mul] at this; omega
theorem val_inj : ∀ a b : List UInt8, a.length = b.length → val a = val b → a = b
  | [], [], _, _ => rfl
  | [], _ :: _, h, _ => by simp at h
  | _ :: _, [], h, _ => by simp at h
  | x :: a, y :: b, h, hv => by
    have hl : a.length = b.length := by simpa using h
    have ha := val_lt a
    have hb := val_lt b
    rw [← hl] at hb
    rw [val_cons, val_cons, ← hl] at hv
    have hxy : x.toNat = y.toNat := by
      generalize x.toNat = p, y.toNat = q, val a = s, val b = t, 256 ^ a.length = N at *
      rcases Nat.lt_trichotomy p q with h4 | h4 | h4
      · have : (p + 1) * N ≤ q * N := Nat.mul_le_mul_right _ h4
        rw [Nat.add_mul] at this; omega
      · exact h4
      · have : (q + 1) * N ≤ p * N := Nat.mul_le_mul_right _ h4
        rw [Nat.add_mul] at this; omega
    rw [hxy] at hv
    rw [UInt8.toNat_inj.1 hxy, val_inj a b hl (by omega)]
theorem val_nb_take (k m : Nat) : ∀ j, j ≤ k → val ((nb k m).take j) = m / 256 ^ (k - j) % 256 ^ j
  | 0, _ => by simp [val, Nat.mod_one]
  | j + 1, h => by
    have hj : j < (nb k m).length := by rw [nb_length]; omega
    rw [val_take _ _ hj, val_nb_take k m j (by omega)]
    have e : ((nb k m)[j]).toNat = m / 256 ^ (k - 1 - j) % 256 := by
      simp [nb]
    rw [e, show k - (j + 1) = k - 1 - j by omega, show k - j = (k - 1 - j) + 1 by omega, Nat.pow_succ 256 (k - 1 - j), ← Nat.div_div_eq_div_mul]
    generalize m / 256 ^ (k - 1 - j) = q
    rw [Nat.pow_succ, Nat.mul_comm (256 ^ j) 256, Nat.mod_mul]
    omega
theorem val_nb (k m : Nat) : val (nb k m) = m % 256 ^ k := by
  have := val_nb_take k m k (Nat.le_refl _)
  rwa [List.take_of_length_le (by rw [nb_length]; omega), Nat.sub_self, Nat.pow_zero, Nat.div_one] at this
theorem less_nb (k m n : Nat) (hm : m < 256 ^ k) (hn : n < 256 ^ k) : Op.bytesLess (nb k m) (nb k n) = decide (m < n) := by
  rw [less_val _ _ (by simp [nb_length]), val_nb, val_nb, Nat.mod_eq_of_lt hm, Nat.mod_eq_of_lt hn]
theorem same_nb (k m n : Nat) (hm : m < 256 ^ k) (hn : n < 256 ^ k) : (nb k m == nb k n) = decide (m = n) := by
  rw [Bool.eq_iff_iff, beq_iff_eq, decide_eq_true_eq]
  constructor
  · intro h
    have := congrArg val h
    rwa [val_nb, val_nb, Nat.mod_eq_of_lt hm, Nat.mod_eq_of_lt hn] at this
  · rintro rfl; rfl
end Go.Proofs.Ytbfiakikhkiefaa
