/-
  A region that draws its order, in stages: stretches of reads in whatever order, and between them single operations that come alone (a call that writes, a store). Over any program.
-/
import Derived.Test.YtmpmddgledahbaaL2
namespace Go.Proofs.Ytmpmddgledahbaa
open Go.RowKit
section
variable {P : Program} {ops : Array Oper} {md : Region.Mode} {C : World → Prop}
/-- Behind n each operation waits for one from n on. -/
def backB (md : Region.Mode) (ops : Array Oper) (n : Nat) : Bool :=
  (List.range ops.size).all fun t => decide (t ≤ n) || match ops[t]? with
    | some o => o.after.any fun e => Region.binds md e && decide (n ≤ e.on)
    | none => false
def sinkFrom (md : Region.Mode) (ops : Array Oper) (s n : Nat) : Bool :=
  (List.range n).all fun i => decide (i < s) || (List.range (n + 1)).any fun j => decide (i < j) && Region.waitsFor md ops j i
theorem stage_waits {s n : Nat} {listed : Array Bool} (hs : Region.binds md = Region.binds md) (hk : sinkFrom md ops s n = true) (hc : backB md ops n = true) (inv : HeadInv md ops n listed) :
    ∀ (d i : Nat), n - i = d → s ≤ i → i < n → listed.getD i true = false → ∀ t, n ≤ t → t ∉ Region.ready md ops listed := by
  intro d
  induction d using Nat.strongRecOn with
  | _ d ih =>
    intro i hd hsi hi hun t ht hr
    obtain ⟨_, ot, hot, hall⟩ := mem_ready.1 hr
    have htlt : t < ops.size := (Array.getElem?_eq_some_iff.1 hot).1
    by_cases htn : t = n
    · subst htn
      have h1 := List.all_eq_true.1 hk i (List.mem_range.2 hi)
      rw [Bool.or_eq_true, decide_eq_true_eq] at h1
      rcases h1 with h1 | h1
      · omega
      obtain ⟨j, hj, hj2⟩ := List.any_eq_true.1 h1
      simp only [Bool.and_eq_true, decide_eq_true_eq] at hj2
      obtain ⟨oj, hoj, e, he, hb, hon⟩ := Region.waitsFor_spec hj2.2
      have hjle : j ≤ t := by have := List.mem_range.1 hj; omega
      by_cases hjt : j = t
      · subst hjt
        have : oj = ot := Option.some.inj (hoj.symm.trans hot)
        subst this
        have h2 := hall e he hb
        rw [hon, getD_both hun] at h2
        cases h2
      · cases hl : listed.getD j false with
        | true =>
          have h2 := inv.closed j oj hoj hl e he hb
          rw [hon, getD_both hun] at h2
          cases h2
        | false =>
          have hjs : j < listed.size := by rw [inv.size]; omega
          exact ih (t - j) (by omega) j rfl (by omega) (by omega) (getD_in hjs hl) t (Nat.le_refl _) hr
    · have h1 := List.all_eq_true.1 hc t (List.mem_range.2 htlt)
      simp only [Bool.or_eq_true, decide_eq_true_eq] at h1
      rcases h1 with h1 | h1
      · omega
      · rw [hot] at h1
        obtain ⟨e, he, hb⟩ := Array.any_eq_true'.1 h1
        simp only [Bool.and_eq_true, decide_eq_true_eq] at hb
        have h2 := hall e he hb.1
        rcases Nat.lt_or_ge e.on ops.size with h3 | h3
        · rw [getD_both (inv.tail e.on hb.2 h3)] at h2
          cases h2
        · have h4 : listed.getD e.on false = false := by simp [inv.size, h3]
          rw [h4] at h2
          cases h2
theorem headQ_first' {n i : Nat} {oi : Oper} {v : Value} {L : Array Bool → Act → Prop} (hi : ops[i]? = some oi) (hsel : ∀ (j : Nat) (o : Oper) cs b, ops[j]? = some o → o.op ≠ .select cs b)
    (hlt : ∀ listed, HeadInv md ops n listed → listed.getD i true = false → ∀ j ∈ Region.ready md ops listed, j < n)
    (hdone : ∀ listed a, L listed a → ∀ j ∈ Region.ready md ops listed, n ≤ j) :
    ∀ (f : Nat) (listed : Array Bool) (a : Act), HeadInv md ops n listed →
      (∀ j oj, ops[j]? = some oj → j ≠ i → listed.getD j true = false → (∀ e ∈ oj.after, Region.binds md e = true → e.on ≠ i) → oi.apart ops oj = true) →
      i ∈ Region.ready md ops listed → YieldsIn P ops C oi v a →
      headQ P md ops C n L f (listed.setIfInBounds i true) (a.put oi.dst v) → headQ P md ops C n L (f + 1) listed a := by
  intro f
  induction f with
  | zero =>
    intro listed a inv _ hr hy H
    have hun := (mem_ready.1 hr).1
    refine ⟨fun h => (by rw [h] at hr; cases hr), fun j hj => ?_⟩
    have hjn : j < n := hlt listed inv hun j hj
    refine ⟨hjn, ?_⟩
    by_cases hji : j = i
    · subst hji; exact hy.qOp hi H
    · have := hdone _ _ H j (ready_mono hj hji)
      omega
  | succ f ih =>
    intro listed a inv hfree hr hy H
    have hun := (mem_ready.1 hr).1
    refine ⟨fun h => (by rw [h] at hr; cases hr), fun j hj => ?_⟩
    have hjn : j < n := hlt listed inv hun j hj
    refine ⟨hjn, ?_⟩
    by_cases hji : j = i
    · subst hji; exact hy.qOp hi H
    · have h1 := (H.2 j (ready_mono hj hji)).2
      obtain ⟨hjun, oj, hoj, hall⟩ := mem_ready.1 hj
      have hnot : ∀ e ∈ oj.after, Region.binds md e = true → e.on ≠ i := fun e he hb heq => by
        have h1 := hall e he hb
        rw [heq, getD_both hun] at h1
        cases h1
      have h2 := qOp_put hoj (hfree j oj hoj hji hjun hnot) (fun cs b => hsel i oi cs b hi) (fun cs b => hsel j oj cs b hoj) hy h1
      have hfree' : ∀ k ok, ops[k]? = some ok → k ≠ i → (listed.setIfInBounds j true).getD k true = false →
          (∀ e ∈ ok.after, Region.binds md e = true → e.on ≠ i) → oi.apart ops ok = true := fun k ok hk hki hun hno => by
        refine hfree k ok hk hki ?_ hno
        by_cases hjk : j = k
        · subst hjk; exact hjun
        · rw [getD_set_ne true hjk] at hun; exact hun
      refine qOp_mono (fun a' h3 => ih (listed.setIfInBounds j true) a' (inv.set hj hjn) hfree' (ready_mono hr (Ne.symm hji)) h3.1 ?_) h2
      rw [Array.setIfInBounds_comm _ _ hji]
      exact h3.2
def setN : Nat → Nat → Array Bool → Array Bool
  | 0, _, l => l
  | f + 1, k, l => setN f (k + 1) (l.setIfInBounds k true)
def lexH (md : Region.Mode) (ops : Array Oper) : Nat → Nat → Array Bool → Bool
  | 0, _, _ => true
  | f + 1, k, l => (Region.ready md ops l).contains k && Region.free md ops l k && lexH md ops f (k + 1) (l.setIfInBounds k true)
theorem setN_inv {n : Nat} : ∀ (f k : Nat) (listed : Array Bool), HeadInv md ops n listed → k + f ≤ n → lexH md ops f k listed = true → HeadInv md ops n (setN f k listed)
  | 0, _, _, inv, _, _ => inv
  | f + 1, k, listed, inv, hk, hB => by
    simp only [lexH, Bool.and_eq_true] at hB
    exact setN_inv f (k + 1) _ (inv.set (by simpa using hB.1.1) (by omega)) (by omega) hB.2
theorem headQ_lex' {n : Nat} {Lq : Act → Prop} (hsel : Region.noSelect ops = true) (s : Nat) (hlt : ∀ listed, HeadInv md ops n listed → ∀ i, s ≤ i → i < n → listed.getD i true = false → ∀ j ∈ Region.ready md ops listed, j < n) :
    ∀ (l : List Oper) (k : Nat) (listed : Array Bool) (a : Act), (∀ j ∈ Region.ready md ops (setN l.length k listed), n ≤ j) → s ≤ k → (∀ j, j < l.length → l[j]? = ops[k + j]?) → k + l.length = n → HeadInv md ops n listed →
    lexH md ops l.length k listed = true → wpQuiet P ops C Lq l a →
    headQ P md ops C n (fun listed' a' => listed' = setN l.length k listed ∧ Lq a') l.length listed a
  | [], k, listed, a, _, _, _, _, _, _, h => ⟨rfl, h⟩
  | o :: l, k, listed, a, hd, hsk, hl, hk, inv, hB, h => by
    have h0 : ops[k]? = some o := by simpa using (hl 0 (by simp)).symm
    simp only [List.length_cons, lexH, Bool.and_eq_true] at hB
    obtain ⟨⟨hr, hf⟩, hB'⟩ := hB
    have hkn : k < n := by simp only [List.length_cons] at hk; omega
    have hr' : k ∈ Region.ready md ops listed := by simpa using hr
    have hst : qOp P ops C k (wpQuiet P ops C Lq l) a := by unfold qOp; simp only [h0]; exact h
    obtain ⟨v, hy, hK⟩ := yieldsIn_of_qOp h0 hst
    exact headQ_first' h0 (Region.noSelect_spec hsel) (fun listed inv h => hlt listed inv k hsk hkn h) (fun listed' a' hL j hj => hd j (by rw [hL.1] at hj; exact hj)) l.length listed a inv (Region.free_spec h0 hf) hr' hy
      (headQ_lex' hsel s hlt l (k + 1) _ _ hd (by omega) (fun j hj => by have := hl (j + 1) (by simp; omega); simpa [Nat.add_assoc, Nat.add_comm 1 j] using this) (by simp only [List.length_cons] at hk; omega) (inv.set hr' hkn) hB' hK)
/-- The stages: 'some n': a stretch of n reads; 'none': one operation. -/
def stB (md : Region.Mode) (ops : Array Oper) : List (Option Nat) → Nat → Array Bool → Bool
  | [], _, listed => (Region.ready md ops listed).isEmpty
  | some n :: s, k, listed => lexH md ops n k listed && (Region.ready md ops (setN n k listed)).all (fun j => decide (k + n ≤ j)) && (decide (ops.size ≤ k + n) || (sinkFrom md ops k (k + n) && backB md ops (k + n))) && stB md ops s (k + n) (setN n k listed)
  | none :: s, k, listed => decide (Region.ready md ops listed = [k]) && stB md ops s (k + 1) (listed.setIfInBounds k true)
def goesOn (Q : Exit → Act → World → Prop) (K : Act → World → Prop) : Exit → Act → World → Prop
  | .normal, a, w => K a w
  | e, a, w => Q e a w
@[go_sem] theorem goesOn_normal (Q : Exit → Act → World → Prop) (K : Act → World → Prop) (a : Act) (w : World) : goesOn Q K .normal a w = K a w := rfl
def wpSt (P : Program) (ops : Array Oper) (Q : Exit → Act → World → Prop) : List (Option Nat) → List Oper → Act → World → Prop
  | [], l, a, w => l = [] ∧ Q .normal a w
  | some n :: s, l, a, w => n ≤ l.length ∧ ∃ C : World → Prop, C w ∧ wpQuiet P ops C (fun a' => ∀ w', C w' → wpSt P ops Q s (l.drop n) a' w') (l.take n) a
  | none :: s, o :: l, a, w => wpOne P ops o (wpSt P ops Q s l) Q a w
  | none :: _, [], _, _ => False
where wpOne (P : Program) (ops : Array Oper) (o : Oper) (K : Act → World → Prop) (Q : Exit → Act → World → Prop) (a : Act) (w : World) : Prop := ∃ k, ops[k]? = some o ∧ wpOp P ops Q k K a w
theorem st_any {Q : Exit → Act → World → Prop} (hsel : Region.noSelect ops = true) : ∀ (s : List (Option Nat)) (l : List Oper) (k : Nat) (listed : Array Bool) (a : Act) (w : World), (∀ j, l[j]? = ops[k + j]?) → HeadInv md ops k listed → stB md ops s k listed = true →
    wpSt P ops Q s l a w → wpAny P md ops Q l.length listed a w
  | [], l, k, listed, a, w, _, _, hB, h => by
    obtain ⟨rfl, hQ⟩ := h
    exact ⟨by simpa [stB] using hB, hQ⟩
  | some n :: s, l, k, listed, a, w, hl, inv, hB, h => by
    simp only [stB, Bool.and_eq_true, Bool.or_eq_true, decide_eq_true_eq] at hB
    obtain ⟨⟨⟨h1, h2⟩, h34⟩, h5⟩ := hB
    obtain ⟨hn, C, hC, hq⟩ := h
    have htl : (l.take n).length = n := by rw [List.length_take]; omega
    have inv' : HeadInv md ops (k + n) listed := ⟨inv.size, inv.closed, fun t ht ht' => inv.tail t (by omega) ht'⟩
    have hdl : (l.drop n).length = l.length - n := by simp
    have H := headQ_lex' (md := md) (n := k + n) hsel k (fun listed inv i hi hin hun j hj => by
        rcases Nat.lt_or_ge j (k + n) with h | h
        · exact h
        · rcases h34 with h34 | ⟨h3, h4⟩
          · obtain ⟨_, o, ho, _⟩ := mem_ready.1 hj
            have := (Array.getElem?_eq_some_iff.1 ho).1
            omega
          · exact absurd hj (stage_waits rfl h3 h4 inv _ i rfl hi hin hun j h)) (l.take n) k listed a (by rw [htl]; intro j hj; simpa using List.all_eq_true.1 h2 j hj) (Nat.le_refl _) (fun j hj => by
          have hj' : j < n := by rw [htl] at hj; exact hj
          rw [List.getElem?_take_of_lt hj', hl]) (by rw [htl]) inv' (by rw [htl]; exact h1) hq
    rw [htl] at H
    have inv2 : HeadInv md ops (k + n) (setN n k listed) := setN_inv n k listed inv' (Nat.le_refl _) h1
    have := headQ_any (Q' := Q) (g := (l.drop n).length) (fun listed' a' w' hw' hL => by
      rw [hL.1]
      exact st_any hsel s (l.drop n) (k + n) _ a' w' (fun j => by rw [List.getElem?_drop, hl, Nat.add_assoc]) inv2 h5 (hL.2 w' hw')) n listed a w hC H
    rw [hdl, show n + (l.length - n) = l.length by omega] at this
    exact this
  | none :: s, [], k, listed, a, w, _, _, _, h => h.elim
  | none :: s, o :: l, k, listed, a, w, hl, inv, hB, h => by
    have h0 : ops[k]? = some o := by simpa using (hl 0).symm
    simp only [stB, Bool.and_eq_true, decide_eq_true_eq] at hB
    have hr : k ∈ Region.ready md ops listed := by rw [hB.1]; simp
    have inv' : HeadInv md ops (k + 1) listed := ⟨inv.size, inv.closed, fun t ht ht' => inv.tail t (by omega) ht'⟩
    refine ⟨fun h1 => (by rw [hB.1] at h1; cases h1), fun i hi => ?_⟩
    rw [hB.1] at hi
    have hik : i = k := by simpa using hi
    subst hik
    obtain ⟨k', h1, h2⟩ := h
    have hw : wpOp P ops Q i (wpSt P ops Q s l) a w := by
      unfold wpOp at h2 ⊢
      simp only [h0, h1] at h2 ⊢
      exact h2
    exact wpOp_mono (fun a' w' h' => st_any hsel s l (i + 1) _ a' w' (fun j => by have := hl (j + 1); simpa [Nat.add_assoc, Nat.add_comm 1 j] using this) (inv'.set hr (by omega)) hB.2 h') hw
theorem wp_region_staged {id : Nat} {Q : Exit → Act → World → Prop} {a : Act} {w : World} {l : List Oper} (s : List (Option Nat)) (hm : P.follows .mixedOrders = true) (hs : Region.noSelect l.toArray = true) (hB : stB .any l.toArray s 0 (Array.replicate l.toArray.size false) = true)
    (h : ∀ w', Below w.heap.size w w' → w'.heap = w.heap → wpSt P l.toArray Q s l a w') : (Code.region id l.toArray true).wp P Q a w := by
  refine wp_region_any hm ?_
  have := st_any (P := P) (md := .any) (Q := Q) hs s l 0 _ a { w with drawn := w.drawn + 1 } (fun j => by simp) (⟨by simp, fun j oj _ hl => (by rw [getD_replicate_false] at hl; cases hl), fun t _ ht => getD_in (by simpa using ht) (getD_replicate_false _ _)⟩) hB (h _ (Below.refl _ _).drew rfl)
  simpa using this
theorem wpSt_one {Q : Exit → Act → World → Prop} {s : List (Option Nat)} {l : List Oper} {o : Oper} {a : Act} {w : World} (k : Nat) (hk : ops[k]? = some o) (hg : o.guard = none) (h : o.wp P a w (wpSt P ops Q s l) Q) : wpSt P ops Q (none :: s) (o :: l) a w := by
  refine ⟨k, hk, ?_⟩
  unfold wpOp
  simp only [hk, Region.wanted, hg, if_true]
  exact .inl h
theorem wpSt_later {Q : Exit → Act → World → Prop} {s : List (Option Nat)} {l : List Oper} {a : Act} {w : World} {n : Nat} (m : Nat) (hn : decide (n ≤ l.length) = true)
    (h : wpQuiet P ops (fun w' => ∃ x : Later m w, w' = x.w) (fun a' => ∀ w', (∃ x : Later m w, w' = x.w) → wpSt P ops Q s (l.drop n) a' w') (l.take n) a) : wpSt P ops Q (some n :: s) l a w :=
  ⟨of_decide_eq_true hn, _, ⟨⟨w, Below.refl _ _⟩, rfl⟩, h⟩
theorem wpSt_nil {Q : Exit → Act → World → Prop} {a : Act} {w : World} (h : Q .normal a w) : wpSt P ops Q [] [] a w := ⟨rfl, h⟩
end
end Go.Proofs.Ytmpmddgledahbaa
