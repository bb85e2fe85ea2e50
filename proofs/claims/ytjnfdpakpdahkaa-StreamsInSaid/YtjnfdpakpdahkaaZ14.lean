/- Streams, plain: an end stands once. -/
import Derived.Test.YtjnfdpakpdahkaaZ0
namespace Go.Proofs.Ytjnfdpakpdahkaa
theorem dist_plus {p k : Nat} (hp : p < m32) (hk : k < m32) : dist ((p + k) % m32) p = k := by
  unfold dist m32 at *
  omega
theorem dist_self {p : Nat} (hp : p < m32) : dist p p = 0 := by
  unfold dist m32 at *
  omega
theorem bytes_none : ∀ (l : List UInt8) (s : Sn) (d : Nat), d + l.length ≤ m32 → (∀ k, d ≤ k → s.takes k = false) → s.bytes d l = (s, false)
  | [], _, _, _, _ => rfl
  | c :: l, s, d, h, hn => by
    have h0 := hn d (Nat.le_refl _)
    have hb : s.byte d c = s := by unfold Sn.byte; rw [h0]; rfl
    simp only [Sn.bytes, hb, h0, Bool.false_or]
    cases l with
    | nil => rfl
    | cons y l =>
      simp only [List.length_cons] at h
      rw [Nat.mod_eq_of_lt (by omega), bytes_none (y :: l) s (d + 1) (by simp only [List.length_cons]; omega) fun k hk => hn k (by omega)]
def idx : Nat → List UInt8 → List (Nat × UInt8)
  | _, [] => []
  | d, c :: l => (d, c) :: idx (d + 1) l
theorem idx_le : ∀ (l : List UInt8) (d : Nat), ∀ e ∈ idx d l, d ≤ e.1
  | [], _, _, h => by cases h
  | c :: l, d, e, h => by
    rcases List.mem_cons.1 h with rfl | h
    · exact Nat.le_refl _
    · have := idx_le l (d + 1) e h; omega
theorem has_above {s : Sn} {d : Nat} (h : ∀ e ∈ s.far, e.1 < d) : s.has d = false := by
  unfold Sn.has
  rw [List.any_eq_false]
  intro e he
  have := h e he
  simp
  omega
theorem bytes_all : ∀ (l : List UInt8) (s : Sn) (d : Nat), (∀ e ∈ s.far, e.1 < d) → d + l.length ≤ s.win → (s.known = true → d + l.length ≤ s.left) → d + l.length ≤ m32 →
    s.bytes d l = ({ s with far := s.far ++ idx d l }, decide (0 < l.length))
  | [], s, d, _, _, _, _ => by simp [Sn.bytes, idx]
  | c :: l, s, d, hf, hw, hk, hm => by
    simp only [List.length_cons] at hw hk hm
    have ht : s.takes d = true := by
      unfold Sn.takes
      rw [has_above hf, show decide (d < s.win) = true by simp; omega]
      cases hkn : s.known
      · rfl
      · have := hk hkn
        rw [show decide (d < s.left) = true by simp; omega]
        rfl
    have hb : s.byte d c = { s with far := s.far ++ [(d, c)] } := by unfold Sn.byte; rw [ht]; rfl
    simp only [Sn.bytes, hb, ht, Bool.true_or]
    cases l with
    | nil => simp [Sn.bytes, idx]
    | cons y l =>
      simp only [List.length_cons] at hw hk hm
      rw [Nat.mod_eq_of_lt (by omega), bytes_all (y :: l) { s with far := s.far ++ [(d, c)] } (d + 1) (fun e he => by
        rcases List.mem_append.1 he with he | he
        · have := hf e he; omega
        · obtain rfl := List.mem_singleton.1 he
          exact Nat.lt_succ_self _) (by simp only [List.length_cons]; show _ ≤ s.win; omega) (fun hkn => by have := hk hkn; simp only [List.length_cons]; show _ ≤ s.left; omega) (by simp only [List.length_cons]; omega)]
      simp [idx]
theorem lower_idx : ∀ (l : List UInt8) (d : Nat), lower (idx (d + 1) l) = idx d l
  | [], _ => rfl
  | c :: l, d => by
    have : lower (idx (d + 1) (c :: l)) = (d, c) :: lower (idx (d + 1 + 1) l) := by
      show lower ((d + 1, c) :: idx (d + 1 + 1) l) = _
      unfold lower
      rw [List.filter_cons_of_pos (by simp)]
      rfl
    rw [this, lower_idx l (d + 1)]
    rfl
theorem settle_none (p : Nat) (r : List UInt8) (kn : Bool) (left : Nat) : (⟨p, r, [], kn, left⟩ : Sn).settle = ⟨p, r, [], kn, left⟩ := rfl
theorem settle_idx : ∀ (l : List UInt8) (p : Nat) (r : List UInt8) (kn : Bool) (left : Nat), p < m32 → (⟨p, r, idx 0 l, kn, left⟩ : Sn).settle = ⟨(p + l.length) % m32, r ++ l, [], kn, left - l.length⟩
  | [], p, r, kn, left, hp => by simp [idx, settle_none, Nat.mod_eq_of_lt hp]
  | c :: l, p, r, kn, left, hp => by
    rw [settle_eq]
    have : (⟨p, r, idx 0 (c :: l), kn, left⟩ : Sn).step = some ⟨(p + 1) % m32, r ++ [c], idx 0 l, kn, left - 1⟩ := by
      unfold Sn.step
      have h1 : lower ((0, c) :: idx (0 + 1) l) = idx 0 l := by
        have : lower ((0, c) :: idx (0 + 1) l) = lower (idx (0 + 1) l) := by
          unfold lower
          rw [List.filter_cons_of_neg (by simp)]
        rw [this, lower_idx]
      show Option.map _ (List.find? _ ((0, c) :: idx (0 + 1) l)) = _
      have hf : List.find? (fun e : Nat × UInt8 => e.1 == 0) ((0, c) :: idx (0 + 1) l) = some (0, c) := List.find?_cons_of_pos rfl
      rw [hf]
      show some (⟨(p + 1) % m32, r ++ [c], lower ((0, c) :: idx (0 + 1) l), kn, left - 1⟩ : Sn) = _
      rw [h1]
    rw [this]
    simp only
    rw [settle_idx l ((p + 1) % m32) (r ++ [c]) kn (left - 1) (Nat.mod_lt _ (by decide))]
    simp only [List.append_assoc, List.singleton_append, List.length_cons, Nat.mod_add_mod]
    rw [show p + 1 + l.length = p + (l.length + 1) by omega, show left - 1 - l.length = left - (l.length + 1) by omega]
section
variable {p : Nat} (hp : p < m32)
include hp
theorem pend_a {N : Nat} (hN : N ≤ 3000) : (⟨p, [], [], false, 0⟩ : Sn).put ((p + N) % m32) [] true = (⟨p, [], [], true, N⟩, true) := by
  have hd : dist (((p + N) % m32 + 0) % m32) p = N := by rw [Nat.add_zero, Nat.mod_mod]; exact dist_plus hp (by unfold m32; omega)
  unfold Sn.put
  simp only [Sn.over, Bool.false_and, Bool.false_eq_true, if_false, Sn.bytes, List.length_nil, hd]
  have he : (⟨p, [], [], false, 0⟩ : Sn).endsAt N = true := by
    unfold Sn.endsAt Sn.win
    simp
    omega
  simp only [if_true, Sn.end', he, Bool.true_and, Bool.true_or, settle_none]
theorem pend_b {N : Nat} (hN : N ≤ 3000) (l : List UInt8) (hl : l.length ≤ 3000) : (⟨p, [], [], true, N⟩ : Sn).put ((p + N) % m32) l false = (⟨p, [], [], true, N⟩, false) := by
  unfold Sn.put
  by_cases h0 : N = 0
  · subst h0
    simp [Sn.over]
  · have ho : (⟨p, [], [], true, N⟩ : Sn).over = false := by simp [Sn.over, h0]
    simp only [ho, Bool.false_eq_true, if_false, dist_plus hp (show N < m32 by unfold m32; omega)]
    rw [bytes_none l _ N (by unfold m32; omega) fun k hk => by unfold Sn.takes; simp; omega]
    simp [settle_none]
omit hp in
theorem pend_c {N q : Nat} : (⟨p, [], [], true, N⟩ : Sn).put q [] true = (⟨p, [], [], true, N⟩, false) := by
  unfold Sn.put
  by_cases h0 : N = 0
  · subst h0
    simp [Sn.over]
  · have ho : (⟨p, [], [], true, N⟩ : Sn).over = false := by simp [Sn.over, h0]
    have he : ∀ d, (⟨p, [], [], true, N⟩ : Sn).endsAt d = false := fun d => by simp [Sn.endsAt]
    simp only [ho, Bool.false_eq_true, if_false, Sn.bytes, if_true, Sn.end', he, settle_none, Bool.true_and, Bool.or_false]
omit hp in
theorem bytes_app : ∀ (a b : List UInt8) (s : Sn) (d : Nat), d + a.length + b.length ≤ m32 → s.bytes d (a ++ b) = (((s.bytes d a).1.bytes (d + a.length) b).1, (s.bytes d a).2 || ((s.bytes d a).1.bytes (d + a.length) b).2)
  | [], b, s, d, _ => by simp [Sn.bytes]
  | c :: a, b, s, d, h => by
    simp only [List.length_cons] at h
    simp only [List.cons_append, Sn.bytes, List.length_cons]
    by_cases h0 : a = [] ∧ b = []
    · obtain ⟨rfl, rfl⟩ := h0
      simp [Sn.bytes]
    · have : 0 < a.length + b.length := by
        rcases a with _ | ⟨y, a⟩
        · rcases b with _ | ⟨z, b⟩
          · simp at h0
          · simp
        · simp; omega
      rw [Nat.mod_eq_of_lt (by omega), bytes_app a b _ (d + 1) (by omega), show d + 1 + a.length = d + (a.length + 1) by omega]
      simp only [Bool.or_assoc]
theorem pend_d (l m : List UInt8) (hl : l.length ≤ 3000) (hm : m.length ≤ 3000) :
    (⟨p, [], [], true, l.length⟩ : Sn).put p (l ++ m) false = (⟨(p + l.length) % m32, l, [], true, 0⟩, decide (0 < l.length)) := by
  unfold Sn.put
  by_cases h0 : l.length = 0
  · have : l = [] := List.eq_nil_of_length_eq_zero h0
    subst this
    simp [Sn.over, Nat.mod_eq_of_lt hp]
  · have ho : (⟨p, [], [], true, l.length⟩ : Sn).over = false := by simp [Sn.over]; intro h; simp [h] at h0
    simp only [ho, Bool.false_eq_true, if_false, dist_self hp]
    have e1 := bytes_all l ⟨p, [], [], true, l.length⟩ 0 (fun e he => by cases he) (by unfold Sn.win; simp; omega) (fun _ => by simp) (by unfold m32; omega)
    have e2 := bytes_none m ⟨p, [], idx 0 l, true, l.length⟩ (0 + l.length) (by unfold m32; omega) fun k hk => by unfold Sn.takes; simp; omega
    rw [bytes_app l m _ 0 (by unfold m32; omega), e1]
    simp only [List.nil_append] at e2 ⊢
    rw [e2]
    simp only [Bool.false_and, Bool.false_or, Bool.or_false, settle_idx l p [] true l.length hp, List.nil_append, Nat.sub_self]
omit hp in
theorem pend_next {N : Nat} {l : List UInt8} : (⟨(p + N) % m32, l, [], true, 0⟩ : Sn).next = ((p + N) % m32 + 1) % m32 := by simp [Sn.next, Sn.over]
theorem pend_e (c : UInt8) : (⟨p, [], [], false, 0⟩ : Sn).put ((p + 5) % m32) [c] false = (⟨p, [], [(5, c)], false, 0⟩, true) := by
  unfold Sn.put
  simp only [Sn.over, Bool.false_and, Bool.false_eq_true, if_false, dist_plus hp (show 5 < m32 by decide), Sn.bytes]
  have ht : (⟨p, [], [], false, 0⟩ : Sn).takes 5 = true := by simp [Sn.takes, Sn.win, Sn.has]
  simp only [Sn.byte, ht, if_true, List.nil_append, Bool.true_or]
  rfl
theorem pend_f (c : UInt8) : (⟨p, [], [(5, c)], false, 0⟩ : Sn).put ((p + 5) % m32) [] true = (⟨p, [], [(5, c)], false, 0⟩, false) := by
  unfold Sn.put
  have hd : dist (((p + 5) % m32 + 0) % m32) p = 5 := by rw [Nat.add_zero, Nat.mod_mod]; exact dist_plus hp (by decide)
  simp only [Sn.over, Bool.false_and, Bool.false_eq_true, if_false, Sn.bytes, List.length_nil, hd]
  have he : (⟨p, [], [(5, c)], false, 0⟩ : Sn).endsAt 5 = false := by simp [Sn.endsAt, Sn.win]
  simp only [if_true, Sn.end', he, Bool.false_eq_true, if_false, Bool.true_and, Bool.or_false]
  rfl
theorem pend_g (c : UInt8) : ((⟨p, [], [(5, c)], false, 0⟩ : Sn).put ((p + 6) % m32) [] true).2 = true := by
  unfold Sn.put
  have hd : dist (((p + 6) % m32 + 0) % m32) p = 6 := by rw [Nat.add_zero, Nat.mod_mod]; exact dist_plus hp (by decide)
  simp only [Sn.over, Bool.false_and, Bool.false_eq_true, if_false, Sn.bytes, List.length_nil, hd]
  simp [Sn.endsAt, Sn.win]
end
end Go.Proofs.Ytjnfdpakpdahkaa
