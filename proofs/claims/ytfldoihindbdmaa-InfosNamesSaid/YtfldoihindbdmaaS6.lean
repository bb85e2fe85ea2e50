/- append of whatever bytes; what a row of one's own reads as. -/
import Derived.Test.YtfldoihindbdmaaS5
import Derived.Laws.AppendOwnNone
namespace Go.Proofs.Ytfldoihindbdmaa
open Go.RowKit
set_option maxRecDepth 100000
theorem append_rd {w : World} {ops : Array Oper} {rest : List Oper} {o : Oper} {a : Act} {Q : Exit → Act → World → Prop} (hgd : o.guard = none) (s x : Operand)
    (ho : o.op = .call { callee := .builtin .append, args := #[s, x], argTypes := #[22, 22] }) (base : Nat) (v : Value) (n : Nat) (xs : List Value) (hs : a.eval s = v) (hown : w.ownsRow base 5 1 v n xs)
    (A : Option Addr) (l : List UInt8) (c : Nat) (hx : a.eval x = .slice A l.length c) (hA : A = none → l = [] ∧ c = 0) (hr : Rd w w.heap.size A l) (hb : n + l.length < 2 ^ 47) (hbase : base ≤ w.heap.size)
    (h : ∀ v' w', w'.ownsRow base 5 1 v' (n + l.length) (xs ++ l.map B) → w.grownBy w' v.ownBlock → wpList Try.prog ops Q rest (a.put o.dst v') w') : wpList Try.prog ops Q (o :: rest) a w := by
  obtain ⟨i0, hi, hz0, hz1, hz2⟩ := info_parts infoB
  cases A with
  | none =>
    obtain ⟨rfl, rfl⟩ := hA rfl
    exact wpList_append_own_none hgd s x 22 ho base 5 i0 1 Try.underlying22 hi v n xs hs hown hx (h v w (by simpa using hown) ⟨rfl, rfl, rfl, Nat.le_refl _, fun _ _ _ => rfl⟩)
  | some ad =>
    exact wpList_append_own w hgd s x 22 ho base 5 i0 (.int .u8 0) 1 1 Try.underlying22 hi hz0 hz1 hz2 rfl (by decide) v n xs hs hown ad l.length c (l.map B) hx (by simp) hr.news (B_one l)
      (by unfold maxLen; omega) (by omega) hbase fun v' w' h1 h2 _ => h v' w' h1 h2
theorem Rd.of_own {w : World} {base n : Nat} {v : Value} {l : List UInt8} (h : w.ownsRow base 5 1 v n (l.map B)) (hn : n = l.length) : ∃ A c, v = .slice A l.length c ∧ Rd w w.heap.size A l ∧ (A = none → l = [] ∧ c = 0) ∧ l.length ≤ c := by
  subst hn
  obtain ⟨_, ⟨rfl, h0⟩ | ⟨g, cap, cur, rfl, hg, hbk, hle, _, hcs, htk⟩⟩ := h
  · have : l = [] := List.eq_nil_of_length_eq_zero h0
    subst this
    exact ⟨none, 0, rfl, Rd.nil, fun _ => ⟨rfl, rfl⟩, Nat.le_refl _⟩
  · refine ⟨_, cap, rfl, fun _ => ⟨g, 0, rfl, bk_lt hbk, fun j hj => ?_⟩, (fun e => by cases e), hle⟩
    rw [bk_cell hbk]
    have : (cur.toList.take (l.length * 1))[j]? = (l.map B)[j]? := by rw [htk]
    rw [List.getElem?_take_of_lt (by omega)] at this
    simpa [List.getElem?_eq_getElem hj] using this
end Go.Proofs.Ytfldoihindbdmaa
