/- Infos: names, in plain words; rows of strings. -/
import Derived.Test.YtfldoihindbdmaaF12
namespace Go.Proofs.Ytfldoihindbdmaa
open Go.RowKit
set_option maxRecDepth 100000
set_option maxHeartbeats 1000000
/-- A string of bytes. -/
def St (l : List UInt8) : Value := .string ⟨l.toArray⟩
def jn (ls : List (List UInt8)) : List UInt8 := Lib.join ls [46]
theorem jn_cons (x : List UInt8) (r : List (List UInt8)) : jn (x :: r) = x ++ Lib.joinTail [46] r := Lib.join_cons x r [46]
theorem tail_snoc (r : List (List UInt8)) (x : List UInt8) : Lib.joinTail [46] (r ++ [x]) = Lib.joinTail [46] r ++ ([46] ++ x) := by simp [Lib.joinTail]
theorem jn_snoc {ls : List (List UInt8)} (h : ls ≠ []) (x : List UInt8) : jn (ls ++ [x]) = jn ls ++ [46] ++ x := by
  cases ls with
  | nil => exact absurd rfl h
  | cons y r => rw [List.cons_append, jn_cons, jn_cons, tail_snoc, List.append_assoc, List.append_assoc]
theorem jn_one (x : List UInt8) : jn [x] = x := Lib.join_one x [46]
theorem jn_len : ∀ ls : List (List UInt8), (jn ls).length ≤ (ls.map fun l => l.length + 1).sum := by
  intro ls
  cases ls with
  | nil => exact Nat.zero_le _
  | cons x r =>
    rw [jn_cons, List.length_append, Lib.joinTail_length]
    have h : ∀ r : List (List UInt8), [46].length * r.length + Lib.lens r = (r.map fun l => l.length + 1).sum := by
      intro r
      induction r with
      | nil => rfl
      | cons y r ih =>
        simp only [Lib.lens, List.map_cons, List.sum_cons, List.length_cons, List.length_nil] at ih ⊢
        omega
    have := h r
    have e : ([46] : List UInt8).length = 1 := rfl
    simp only [List.map_cons, List.sum_cons, List.length_cons, List.length_nil] at this ⊢
    omega
/-- The labels of a name, and what stands behind it. -/
def labs : List UInt8 → Option (List (List UInt8) × List UInt8)
  | [] => none
  | x :: r => if x.toNat ≤ 63 ∧ x.toNat ≤ r.length then (if x.toNat = 0 then some ([], r) else (labs (r.drop x.toNat)).map fun p => (r.take x.toNat :: p.1, p.2)) else none
  termination_by b => b.length
  decreasing_by simp only [List.length_drop, List.length_cons]; omega
theorem labs_nil : labs [] = none := by rw [labs]
theorem labs_bad {x : UInt8} {r : List UInt8} (h : ¬ (x.toNat ≤ 63 ∧ x.toNat ≤ r.length)) : labs (x :: r) = none := by rw [labs, if_neg h]
theorem labs_end {x : UInt8} {r : List UInt8} (h : x.toNat = 0) : labs (x :: r) = some ([], r) := by rw [labs, if_pos (by omega), if_pos h]
theorem labs_more {x : UInt8} {r : List UInt8} (h : x.toNat ≤ 63) (h1 : x.toNat ≤ r.length) (h0 : x.toNat ≠ 0) : labs (x :: r) = (labs (r.drop x.toNat)).map fun p => (r.take x.toNat :: p.1, p.2) := by rw [labs, if_pos ⟨h, h1⟩, if_neg h0]
theorem labs_sum : ∀ (n : Nat) (b : List UInt8) (ls : List (List UInt8)) (t : List UInt8), b.length ≤ n → labs b = some (ls, t) → (ls.map fun l => l.length + 1).sum + t.length + 1 = b.length ∧ ∀ l ∈ ls, l ≠ [] := by
  intro n
  induction n with
  | zero =>
    intro b ls t hb h
    have : b = [] := List.eq_nil_of_length_eq_zero (by omega)
    rw [this, labs_nil] at h
    cases h
  | succ n ih =>
    intro b ls t hb h
    cases b with
    | nil => rw [labs_nil] at h; cases h
    | cons x r =>
      by_cases h1 : x.toNat ≤ 63 ∧ x.toNat ≤ r.length
      · by_cases h0 : x.toNat = 0
        · rw [labs_end h0] at h
          cases h
          refine ⟨by simp, fun l hl => ?_⟩
          cases hl
        · rw [labs_more h1.1 h1.2 h0] at h
          cases e : labs (r.drop x.toNat) with
          | none => rw [e] at h; cases h
          | some p =>
            rw [e] at h
            cases h
            have hb' : r.length + 1 ≤ n + 1 := hb
            obtain ⟨i1, i2⟩ := ih (r.drop x.toNat) p.1 p.2 (by rw [List.length_drop]; omega) e
            rw [List.length_drop] at i1
            refine ⟨?_, fun l hl => ?_⟩
            · simp only [List.map_cons, List.sum_cons, List.length_take, List.length_cons]
              omega
            · rcases List.mem_cons.1 hl with rfl | hl
              · intro q
                have := congrArg List.length q
                rw [List.length_take, List.length_nil] at this
                omega
              · exact i2 l hl
      · rw [labs_bad h1] at h; cases h
theorem labs_len {b : List UInt8} {ls : List (List UInt8)} {t : List UInt8} (h : labs b = some (ls, t)) : t.length < b.length ∧ (jn ls).length ≤ b.length := by
  obtain ⟨h1, _⟩ := labs_sum b.length b ls t (Nat.le_refl _) h
  have := jn_len ls
  omega
/-- The names, up to the first that is none. -/
def nms (b : List UInt8) : List (List UInt8) :=
  match h : labs b with
  | none => []
  | some p => if jn p.1 = [] ∨ 255 < (jn p.1).length then [] else jn p.1 :: nms p.2
  termination_by b.length
  decreasing_by exact (labs_len (show labs b = some (p.1, p.2) from h)).1
theorem nms_none {b : List UInt8} (h : labs b = none) : nms b = [] := by
  rw [nms]
  split
  · rfl
  · rename_i p e; rw [h] at e; cases e
theorem nms_some {b t : List UInt8} {ls : List (List UInt8)} (h : labs b = some (ls, t)) : nms b = if jn ls = [] ∨ 255 < (jn ls).length then [] else jn ls :: nms t := by
  rw [nms]
  split
  · rename_i e; rw [h] at e; cases e
  · rename_i p e; rw [h] at e; cases e; rfl
theorem nms_nil : nms [] = [] := nms_none labs_nil
theorem nms_len : ∀ (n : Nat) (b : List UInt8), b.length ≤ n → (nms b).length ≤ b.length ∧ ∀ s ∈ nms b, s.length ≤ 255 := by
  intro n
  induction n with
  | zero =>
    intro b hb
    have : b = [] := List.eq_nil_of_length_eq_zero (by omega)
    rw [this, nms_nil]
    exact ⟨Nat.le_refl _, fun s hs => by cases hs⟩
  | succ n ih =>
    intro b hb
    cases h : labs b with
    | none => rw [nms_none h]; exact ⟨Nat.zero_le _, fun s hs => by cases hs⟩
    | some p =>
      have hl := (labs_len (show labs b = some (p.1, p.2) from h)).1
      rw [nms_some (show labs b = some (p.1, p.2) from h)]
      split
      · exact ⟨Nat.zero_le _, fun s hs => by cases hs⟩
      · rename_i hc
        obtain ⟨i1, i2⟩ := ih p.2 (by omega)
        refine ⟨by rw [List.length_cons]; omega, fun s hs => ?_⟩
        rcases List.mem_cons.1 hs with rfl | hs
        · omega
        · exact i2 s hs
theorem infoT : (Try.prog.info? 9).map (fun i => (i.zero, i.size, i.bytes)) = some (some (.string ByteArray.empty), 1, 16) := by kernel_rfl
/-- A row of strings of one's own. -/
def OutT (w : World) (n : Nat) (v : Value) (ss : List (List UInt8)) : Prop := w.ownsRow n 9 1 v ss.length (ss.map St)
theorem OutT.nil {w : World} {n : Nat} : OutT w n (.slice none 0 0) [] := World.ownsRow_nil _ _ _ _
theorem OutT.turn {F : Nat → Prop} {w w' : World} {n : Nat} {v : Value} {ss : List (List UInt8)} (h : OutT w n v ss) (ht : Tn F w w') (hF : ∀ k, v.ownBlock = some k → ¬ F k) : OutT w' n v ss :=
  own_turnS h fun k hk => ht.old k (h.lt k hk).2 (hF k hk)
theorem OutT.below {w w' : World} {n : Nat} {v : Value} {ss : List (List UInt8)} (h : OutT w n v ss) (hb : Below w.heap.size w w') : OutT w' n v ss := h.turn (Tn.of hb) (F := fun _ => False) (fun _ _ e => e)
theorem OutT.sl {w : World} {n : Nat} {v : Value} {ss : List (List UInt8)} (h : OutT w n v ss) : ∃ A c, v = .slice A ss.length c ∧ ss.length ≤ c := own_slS h
theorem OutT.mono {w : World} {n m : Nat} {v : Value} {ss : List (List UInt8)} (h : OutT w n v ss) (hm : m ≤ n) : OutT w m v ss := by
  refine ⟨h.1, ?_⟩
  rcases h.2 with h2 | ⟨g, cap, cur, h3, h4, h5⟩
  · exact .inl h2
  · exact .inr ⟨g, cap, cur, h3, Nat.le_trans hm h4, h5⟩
/-- One more string behind a row of one's own. -/
theorem wpList_snocT {w : World} {ops : Array Oper} {rest : List Oper} {o : Oper} {a : Act} {Q : Exit → Act → World → Prop} (hgd : o.guard = none) (s x : Operand)
    (ho : o.op = .call { callee := .builtin .append, args := #[s, x], argTypes := #[34, 34] })
    (n : Nat) (v : Value) (ss : List (List UInt8)) (hs : a.eval s = v) (hown : OutT w n v ss) (ad : Addr) (u : List UInt8) (hx : a.eval x = .slice (some ad) 1 1) (hc : w.cell? ad = some (St u)) (hn : n ≤ w.heap.size) (hl : ss.length < 2 ^ 30)
    (h : ∀ A' c' w', OutT w' n (.slice A' (ss.length + 1) c') (ss ++ [u]) → w.grownBy w' v.ownBlock → ((Value.slice A' (ss.length + 1) c').ownBlock = v.ownBlock ∨ (Value.slice A' (ss.length + 1) c').ownBlock = some w.heap.size) → wpList Try.prog ops Q rest (a.put o.dst (.slice A' (ss.length + 1) c')) w') :
    wpList Try.prog ops Q (o :: rest) a w := by
  obtain ⟨i0, hi, hz0, hz1, hz2⟩ := info_parts infoT
  obtain ⟨v', w', hr, h2, h3, _, h5⟩ := run_append_own_at (P := Try.prog) w n 34 o.type 9 i0 (.string ByteArray.empty) 1 16 Try.underlying34 hi hz0 hz1 hz2 rfl (by decide) v ss.length (ss.map St) hown ad 1 1 [St u] (by simp) (fun j y hy => by
    cases j with
    | zero =>
      simp at hy
      subst hy
      have : ad.add 0 = ad := by cases ad; simp [Addr.add]
      rw [this]; exact hc
    | succ j => simp at hy) (fun y hy => by simp at hy; subst hy; rfl) (by unfold maxLen; omega) (by omega) hn
  refine wpList_plain hgd fun K hK => ?_
  unfold Oper.wp execOp
  simp only [ho, resolve, invoke, builtin, Sem.run_bind, Sem.run_pure, Result.andThen_ok, List.map_toArray, List.map_cons, List.map_nil, hs, hx, hr]
  obtain ⟨A', c', rfl, _⟩ := own_slS h2
  refine hK _ _ (h _ _ w' ?_ h3 h5)
  unfold OutT
  rw [List.map_append, List.length_append]
  exact h2
end Go.Proofs.Ytfldoihindbdmaa
