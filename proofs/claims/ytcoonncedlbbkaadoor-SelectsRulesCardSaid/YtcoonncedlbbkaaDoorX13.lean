/- Selects, plain laws: the document's label, its order and its choice are the program's; the order is told by a number. -/
import Derived.Test.YtcoonncedlbbkaaDoorX12
namespace Go.Proofs.YtcoonncedlbbkaaDoor
open Go.RowKit Ad
set_option maxRecDepth 100000
set_option maxHeartbeats 1000000
theorem common_ultra (a b c : List UInt8) : min (common a b) (common a c) ≤ common b c := by
  have h1 := common_le a b
  refine (le_common b c _ (by omega)).2 fun j hj => ?_
  have e1 := (le_common a b (common a b) h1).1 (Nat.le_refl _) j (by omega)
  have e2 := (le_common a c (common a c) (common_le a c)).1 (Nat.le_refl _) j (by omega)
  rw [← e1, e2]
def exPairs : List (Nat × Nat) := ((List.range 9).flatMap fun i => (List.range 9).map fun j => (i, j)).filter fun x => decide (x.1 < x.2 ∧ x.1 ≠ 1 ∧ x.2 ≠ 1 ∧ (x.1 ≠ 0 ∨ x.2 ≠ 6))
theorem within_apart (a : List UInt8) (x : Nat × Nat) (hx : x ∈ exPairs) : (within a (pf x.1) && within a (pf x.2)) = false := by
  have h : common (sl (pf x.1) 0 16) (sl (pf x.2) 0 16) < min (min ((pf x.1).getD 16 0).toNat 128) (min ((pf x.2).getD 16 0).toNat 128) := by
    have := List.all_eq_true.1 (show exPairs.all (fun x => decide (common (sl (pf x.1) 0 16) (sl (pf x.2) 0 16) < min (min ((pf x.1).getD 16 0).toNat 128) (min ((pf x.2).getD 16 0).toNat 128))) = true by decide +kernel) x hx
    simpa using this
  cases h1 : within a (pf x.1) with
  | false => rfl
  | true =>
    cases h2 : within a (pf x.2) with
    | false => rfl
    | true =>
      unfold within at h1 h2
      have := common_ultra a (sl (pf x.1) 0 16) (sl (pf x.2) 0 16)
      have h1' := of_decide_eq_true h1
      have h2' := of_decide_eq_true h2
      omega
def exB (W : List Bool) : Bool := exPairs.all fun x => !(W.getD x.1 false && W.getD x.2 false)
def labB (W : List Bool) : Nat := if W.getD 0 false then 0 else if W.getD 2 false then 4 else if W.getD 6 false then 3 else if W.getD 4 false then 5 else if W.getD 3 false then 2 else if W.getD 8 false then 12 else if W.getD 7 false then 11 else if W.getD 5 false then 13 else if W.getD 1 false then 1 else 1
def bstB (W : List Bool) : Nat → Nat
  | 0 => 1
  | k + 1 => if W.getD k false && decide (bt (bstB W k) ≤ bt k) then k else bstB W k
def wits (a : List UInt8) : List Bool := (List.range 9).map fun k => within a (pf k)
theorem wits_at (a : List UInt8) (k : Nat) (h : k < 9) : (wits a).getD k false = within a (pf k) := by
  unfold wits
  rw [List.getD_eq_getElem?_getD, List.getElem?_map, List.getElem?_range h]
  rfl
theorem bst_B (a : List UInt8) : ∀ k, k ≤ 9 → bst a k = bstB (wits a) k
  | 0, _ => rfl
  | k + 1, h => by
    unfold bst bstB
    rw [bst_B a k (by omega), wits_at a k (by omega)]
theorem label_B (a : List UInt8) : label a = labB (wits a) := by
  unfold labB
  rw [wits_at a 0 (by omega), wits_at a 1 (by omega), wits_at a 2 (by omega), wits_at a 3 (by omega), wits_at a 4 (by omega), wits_at a 5 (by omega), wits_at a 6 (by omega), wits_at a 7 (by omega), wits_at a 8 (by omega)]
  rfl
theorem exB_wits (a : List UInt8) : exB (wits a) = true := by
  refine List.all_eq_true.2 fun x hx => ?_
  have h : ∀ x ∈ exPairs, x.1 < 9 ∧ x.2 < 9 := by decide
  rw [wits_at a _ (h x hx).1, wits_at a _ (h x hx).2, within_apart a x hx]
  rfl
theorem bools_label : ∀ w0 w2 w3 w4 w5 w6 w7 w8 : Bool, exB [w0, true, w2, w3, w4, w5, w6, w7, w8] = true → lb2 (bstB [w0, true, w2, w3, w4, w5, w6, w7, w8] 9) = labB [w0, true, w2, w3, w4, w5, w6, w7, w8] := by decide +kernel
theorem label2_label (a : List UInt8) : label2 a = label a := by
  have h := exB_wits a
  unfold label2
  rw [bst_B a 9 (by omega), label_B]
  have e : wits a = [within a (pf 0), true, within a (pf 2), within a (pf 3), within a (pf 4), within a (pf 5), within a (pf 6), within a (pf 7), within a (pf 8)] := by
    have e1 : within a (pf 1) = true := by
      unfold within
      rw [show ((pf 1).getD 16 0).toNat = 0 from rfl]
      simp
    rw [← e1]
    rfl
  rw [e] at h ⊢
  exact bools_label _ _ _ _ _ _ _ _ h
theorem firstPos_by (p q : Bool) (r : List Int) : firstPos (byI p q :: r) = if p != q then p else firstPos r := by
  cases p <;> cases q <;> rfl
theorem firstPos_sc (x y d : Nat) (r : List Int) : firstPos (scI x y d :: r) = if x < y then decide (d ≤ x) else if y < x then decide (y < d) else firstPos r := by
  unfold scI
  by_cases h1 : x < y
  · rw [if_pos h1, if_pos h1]
    by_cases h2 : d ≤ x
    · rw [decide_eq_true h2]; rfl
    · rw [decide_eq_false h2]; rfl
  · rw [if_neg h1, if_neg h1]
    by_cases h2 : y < x
    · rw [if_pos h2, if_pos h2]
      by_cases h3 : d ≤ y
      · rw [decide_eq_true h3, decide_eq_false (by omega)]; rfl
      · rw [decide_eq_false h3, decide_eq_true (by omega)]; rfl
    · rw [if_neg h2, if_neg h2]; rfl
theorem firstPos_one (n : Int) : firstPos [n] = decide (0 < n) := by
  simp only [firstPos]
  split
  · rename_i h; subst h; rfl
  · rfl
theorem better_better2 (dst : List UInt8) (a b : Cd) : better dst a b = better2 dst a b := by
  unfold better rl better2
  rw [firstPos_by, firstPos_sc, firstPos_by, firstPos_by, firstPos_by, firstPos_one, label2_label, label2_label, label2_label]
  have e : (b.d != a.d) = (a.d != b.d) := by cases a.d <;> cases b.d <;> rfl
  have e2 : decide (0 < cmI dst a b) = decide (min 64 (common b.a dst) < min 64 (common a.a dst)) := by
    unfold cmI
    rw [decide_eq_decide]
    omega
  rw [e, e2]
/-- How good a candidate is, as one number. -/
def scK (s d : Nat) : Nat := if d ≤ s then 31 - s else s
def key (dst : List UInt8) (c : Cd) : Nat :=
  (c.a == dst).toNat * 20000 + (scK (scope c.a) (scope dst) * 600 + ((!c.d).toNat * 280 + ((label c.a == label dst).toNat * 140 + (c.t.toNat * 70 + min 64 (common c.a dst)))))
theorem lex_bool (p q : Bool) (K r s : Nat) (hr : r < K) (hs : s < K) : decide (q.toNat * K + s < p.toNat * K + r) = if p != q then p else decide (s < r) := by
  cases p <;> cases q <;> simp <;> omega
theorem scope_lt (l : List UInt8) : scope l < 16 := by
  unfold scope
  split
  · omega
  · split
    · omega
    · split <;> omega
theorem lex_sc (x y d K r s : Nat) (hr : r < K) (hs : s < K) (hx : x < 16) (hy : y < 16) :
    decide (scK y d * K + s < scK x d * K + r) = if x < y then decide (d ≤ x) else if y < x then decide (y < d) else decide (s < r) := by
  have key : ∀ m n : Nat, m < n → m * K + s < n * K + r ∧ ¬ (n * K + s < m * K + r) := fun m n h => by
    have : (m + 1) * K ≤ n * K := Nat.mul_le_mul_right K h
    rw [Nat.add_mul] at this
    omega
  unfold scK
  by_cases h1 : x < y
  · rw [if_pos h1]
    by_cases h2 : d ≤ x
    · rw [if_pos h2, if_pos (show d ≤ y by omega), decide_eq_decide]
      have := (key (31 - y) (31 - x) (by omega)).1
      simp only [h2, iff_true]
      exact this
    · rw [if_neg h2, decide_eq_decide]
      simp only [h2, iff_false]
      split
      · exact (key x (31 - y) (by omega)).2
      · exact (key x y h1).2
  · rw [if_neg h1]
    by_cases h2 : y < x
    · rw [if_pos h2]
      by_cases h3 : d ≤ y
      · rw [if_pos h3, if_pos (show d ≤ x by omega), decide_eq_decide]
        have := (key (31 - x) (31 - y) (by omega)).2
        have h4 : ¬ (y < d) := by omega
        simp only [h4, iff_false]
        exact this
      · rw [if_neg h3, decide_eq_decide]
        have h4 : y < d := by omega
        simp only [h4, iff_true]
        split
        · exact (key y (31 - x) (by omega)).1
        · exact (key y x h2).1
    · rw [if_neg h2]
      obtain rfl : x = y := by omega
      rw [decide_eq_decide]
      omega
theorem better_key (dst : List UInt8) (a b : Cd) : better dst a b = decide (key dst b < key dst a) := by
  rw [better_better2]
  unfold better2 key
  have t1 : ∀ c : Cd, c.t.toNat * 70 + min 64 (common c.a dst) < 140 := fun c => by cases c.t <;> simp <;> omega
  have t2 : ∀ c : Cd, (label c.a == label dst).toNat * 140 + (c.t.toNat * 70 + min 64 (common c.a dst)) < 280 := fun c => by have := t1 c; cases (label c.a == label dst) <;> simp <;> omega
  have t3 : ∀ c : Cd, (!c.d).toNat * 280 + ((label c.a == label dst).toNat * 140 + (c.t.toNat * 70 + min 64 (common c.a dst))) < 600 := fun c => by have := t2 c; cases c.d <;> simp <;> omega
  have t4 : ∀ c : Cd, scK (scope c.a) (scope dst) * 600 + ((!c.d).toNat * 280 + ((label c.a == label dst).toNat * 140 + (c.t.toNat * 70 + min 64 (common c.a dst)))) < 20000 := fun c => by
    have := t3 c
    have := scope_lt c.a
    have : scK (scope c.a) (scope dst) < 32 := by unfold scK; split <;> omega
    omega
  rw [lex_bool _ _ _ _ _ (t4 a) (t4 b), lex_sc _ _ _ _ _ _ (t3 a) (t3 b) (scope_lt _) (scope_lt _), lex_bool _ _ _ _ _ (t2 a) (t2 b), lex_bool _ _ _ _ _ (t1 a) (t1 b), lex_bool _ _ _ _ _ (by omega) (by omega), label2_label, label2_label, label2_label]
  have e : (!a.d) != (!b.d) ↔ (a.d != b.d) = true := by cases a.d <;> cases b.d <;> simp
  have e1 : ((!a.d) != (!b.d)) = (a.d != b.d) := by cases a.d <;> cases b.d <;> rfl
  rw [e1]
  cases ha : a.d <;> cases hb : b.d <;> rfl
theorem better_irr (dst : List UInt8) (a : Cd) : better dst a a = false := by rw [better_key]; simp
theorem better_asym (dst : List UInt8) (a b : Cd) (h : better dst a b = true) : better dst b a = false := by
  rw [better_key] at h ⊢
  have := of_decide_eq_true h
  exact decide_eq_false (by omega)
theorem better_trans (dst : List UInt8) (a b c : Cd) (h1 : better dst a b = true) (h2 : better dst b c = true) : better dst a c = true := by
  rw [better_key] at h1 h2 ⊢
  have := of_decide_eq_true h1
  have := of_decide_eq_true h2
  exact decide_eq_true (by omega)
/-- Who is chosen: the first of those that nobody is better than. -/
theorem chooseL_is (dst : List UInt8) : ∀ (r : List Cd) (b : Cd), ∃ i, ∃ h : i < (b :: r).length, (b :: r)[i] = chooseL dst b r ∧ (∀ j (hj : j < (b :: r).length), key dst (b :: r)[j] ≤ key dst (chooseL dst b r)) ∧ ∀ j (hj : j < (b :: r).length), j < i → key dst (b :: r)[j] < key dst (chooseL dst b r)
  | [], b => ⟨0, by simp, rfl, fun j hj => by
      obtain rfl : j = 0 := by simp at hj; omega
      exact Nat.le_refl _, fun j _ h => by omega⟩
  | c :: r, b => by
    unfold chooseL
    rw [better_key]
    by_cases hc : key dst b < key dst c
    · rw [if_pos (decide_eq_true hc)]
      obtain ⟨i, h, h1, h2, h3⟩ := chooseL_is dst r c
      have h0 := h2 0 (by simp)
      simp only [List.getElem_cons_zero] at h0
      refine ⟨i + 1, by simpa using h, by simpa using h1, fun j hj => ?_, fun j hj hji => ?_⟩
      · cases j with
        | zero => simp only [List.getElem_cons_zero]; omega
        | succ j => simpa using h2 j (by simpa using hj)
      · cases j with
        | zero => simp only [List.getElem_cons_zero]; omega
        | succ j => simpa using h3 j (by simpa using hj) (by omega)
    · rw [if_neg (by simp; omega)]
      obtain ⟨i, h, h1, h2, h3⟩ := chooseL_is dst r b
      have h0 := h2 0 (by simp)
      simp only [List.getElem_cons_zero] at h0
      cases i with
      | zero =>
        refine ⟨0, by simp, by simpa using h1, fun j hj => ?_, fun j hj hji => by omega⟩
        cases j with
        | zero => simpa using h0
        | succ j =>
          cases j with
          | zero => simp only [List.getElem_cons_succ, List.getElem_cons_zero]; omega
          | succ j => have e := h2 (j + 1) (by simpa using hj); rw [List.getElem_cons_succ] at e; simpa using e
      | succ i =>
        refine ⟨i + 2, by simp at h ⊢; omega, by simpa using h1, fun j hj => ?_, fun j hj hji => ?_⟩
        · cases j with
          | zero => simpa using h0
          | succ j =>
            cases j with
            | zero => simp only [List.getElem_cons_succ, List.getElem_cons_zero]; omega
            | succ j => have e := h2 (j + 1) (by simpa using hj); rw [List.getElem_cons_succ] at e; simpa using e
        · have h00 := h3 0 (by simp) (by omega)
          simp only [List.getElem_cons_zero] at h00
          cases j with
          | zero => simpa using h00
          | succ j =>
            cases j with
            | zero => simp only [List.getElem_cons_succ, List.getElem_cons_zero]; omega
            | succ j => have e := h3 (j + 1) (by simpa using hj) (by omega); rw [List.getElem_cons_succ] at e; simpa using e
theorem chosen (dst : List UInt8) (l : List Cd) (h0 : l ≠ []) : ∃ i, ∃ h : i < l.length, choose dst l = (l[i].a, true) ∧ (∀ j (hj : j < l.length), better dst l[j] l[i] = false) ∧ ∀ j (hj : j < l.length), j < i → better dst l[i] l[j] = true := by
  match l, h0 with
  | b :: r, _ =>
    obtain ⟨i, h, h1, h2, h3⟩ := chooseL_is dst r b
    refine ⟨i, h, by rw [h1]; rfl, fun j hj => ?_, fun j hj hji => ?_⟩
    · rw [better_key, h1]
      have := h2 j hj
      exact decide_eq_false (by omega)
    · rw [better_key, h1]
      exact decide_eq_true (h3 j hj hji)
theorem choose_choose2 (dst : List UInt8) (l : List Cd) : choose dst l = choose2 dst l := by
  by_cases h0 : l = []
  · subst h0; rfl
  · obtain ⟨i, h, h1, h2, h3⟩ := chosen dst l h0
    rw [h1]
    refine (choose2_at dst l i h (fun j hj hji => ?_) ?_).symm
    · refine Bool.eq_false_iff.2 fun hn => ?_
      have := List.all_eq_true.1 hn l[i] (List.getElem_mem _)
      rw [← better_better2, h3 j hj hji] at this
      simp at this
    · refine List.all_eq_true.2 fun x hx => ?_
      obtain ⟨j, hj, rfl⟩ := List.getElem_of_mem hx
      rw [← better_better2, h2 j hj]
      rfl
end Go.Proofs.YtcoonncedlbbkaaDoor
