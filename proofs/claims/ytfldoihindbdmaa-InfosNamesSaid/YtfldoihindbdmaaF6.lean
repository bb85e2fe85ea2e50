/- Infos: requests put one behind the other; what is due. -/
import Derived.Test.YtfldoihindbdmaaF5
import Derived.Maps.AppendAt
namespace Go.Proofs.Ytfldoihindbdmaa
open Go.RowKit
set_option maxRecDepth 100000
set_option maxHeartbeats 1000000
theorem infoS : (Try.prog.info? 22).map (fun i => (i.zero, i.size, i.bytes)) = some (some (.slice none 0 0), 1, 24) := by kernel_rfl
theorem own_turnS {w w' : World} {e : TypeId} {n s m : Nat} {v : Value} {xs : List Value} (h : w.ownsRow n e s v m xs) (hb : ∀ k, v.ownBlock = some k → bk w' k = bk w k) : w'.ownsRow n e s v m xs := by
  refine ⟨h.1, ?_⟩
  rcases h.2 with h2 | ⟨g, cap, cur, rfl, h3, h4, h5⟩
  · exact .inl h2
  · exact .inr ⟨g, cap, cur, rfl, h3, (show bk w' g = _ from (hb g rfl).trans h4), h5⟩
theorem own_slS {w : World} {e : TypeId} {s n m : Nat} {v : Value} {xs : List Value} (h : w.ownsRow n e s v m xs) : ∃ A c, v = .slice A m c ∧ m ≤ c := by
  rcases h.2 with ⟨q, q1⟩ | ⟨_, c, _, q, _, _, q2, _⟩
  · exact ⟨none, 0, by rw [q, q1], by omega⟩
  · exact ⟨_, c, q, q2⟩
/-- One more behind a row of byte slices of one's own. -/
theorem wpList_snoc {w : World} {ops : Array Oper} {rest : List Oper} {o : Oper} {a : Act} {Q : Exit → Act → World → Prop} (hgd : o.guard = none) (s x : Operand)
    (ho : o.op = .call { callee := .builtin .append, args := #[s, x], argTypes := #[40, 40] })
    (n : Nat) (v : Value) (k : Nat) (vs : List Value) (hs : a.eval s = v) (hown : w.ownsRow n 22 1 v k vs) (ad : Addr) (u : Value) (hx : a.eval x = .slice (some ad) 1 1) (hc : w.cell? ad = some u) (h1 : u.oneCell' = true) (hn : n ≤ w.heap.size) (hl : k < 2 ^ 30)
    (h : ∀ A' c' w', w'.ownsRow n 22 1 (.slice A' (k + 1) c') (k + 1) (vs ++ [u]) → w.grownBy w' v.ownBlock → ((Value.slice A' (k + 1) c').ownBlock = v.ownBlock ∨ (Value.slice A' (k + 1) c').ownBlock = some w.heap.size) → wpList Try.prog ops Q rest (a.put o.dst (.slice A' (k + 1) c')) w') :
    wpList Try.prog ops Q (o :: rest) a w := by
  obtain ⟨i0, hi, hz0, hz1, hz2⟩ := info_parts infoS
  obtain ⟨v', w', hr, h2, h3, _, h5⟩ := run_append_own_at (P := Try.prog) w n 40 o.type 22 i0 (.slice none 0 0) 1 24 Try.underlying40 hi hz0 hz1 hz2 rfl (by decide) v k vs hown ad 1 1 [u] (by simp) (fun j y hy => by
    cases j with
    | zero =>
      simp at hy
      subst hy
      have : ad.add 0 = ad := by cases ad; simp [Addr.add]
      rw [this]; exact hc
    | succ j => simp at hy) (fun y hy => by simp at hy; subst hy; exact h1) (by unfold maxLen; omega) (by omega) hn
  refine wpList_plain hgd fun K hK => ?_
  unfold Oper.wp execOp
  simp only [ho, resolve, invoke, builtin, Sem.run_bind, Sem.run_pure, Result.andThen_ok, List.map_toArray, List.map_cons, List.map_nil, hs, hx, hr]
  obtain ⟨A', c', rfl, _⟩ := own_slS h2
  exact hK _ _ (h _ _ w' h2 h3 h5)
/-- A row of requests of one's own: each lies at or above n, not where the row lies. -/
def OutL (w : World) (n : Nat) (v : Value) (os : List (List UInt8)) : Prop :=
  ∃ vs : List Value, w.ownsRow n 22 1 v os.length vs ∧ ∀ i (h : i < os.length), ∃ A c, vs[i]? = some (.slice A os[i].length c) ∧ Rd w w.heap.size A os[i] ∧ ∀ b o, A = some ⟨b, o, none⟩ → n ≤ b ∧ v.ownBlock ≠ some b ∧ b < w.heap.size
theorem OutL.nil {w : World} {n : Nat} : OutL w n (.slice none 0 0) [] := ⟨[], World.ownsRow_nil _ _ _ _, fun i h => absurd h (by simp)⟩
theorem rd_turn {w w' : World} {F : Nat → Prop} {A : Option Addr} {l : List UInt8} (h : Rd w w.heap.size A l) (ht : Tn F w w') (hA : ∀ b o, A = some ⟨b, o, none⟩ → ¬ F b) : Rd w' w'.heap.size A l := fun h0 => by
  obtain ⟨b, o, e, hlt, hc⟩ := h h0
  refine ⟨b, o, e, Nat.lt_of_lt_of_le hlt ht.size, fun j hj => ?_⟩
  rw [← hc j hj]
  have h' : w'.heap[b]? = w.heap[b]? := ht.old b hlt (hA b o e)
  simp only [World.cell?, h']
theorem OutL.turn {F : Nat → Prop} {w w' : World} {n : Nat} {v : Value} {os : List (List UInt8)} (h : OutL w n v os) (ht : Tn F w w') (hF : ∀ k, F k → k < n) : OutL w' n v os := by
  obtain ⟨vs, h1, h2⟩ := h
  refine ⟨vs, own_turnS h1 fun k hk => ht.old k (h1.lt k hk).2 fun hf => by have := hF k hf; have := (h1.lt k hk).1; omega, fun i hi => ?_⟩
  obtain ⟨A, c, e, hr, hA⟩ := h2 i hi
  exact ⟨A, c, e, rd_turn hr ht fun b o q hf => by have := hF b hf; have := (hA b o q).1; omega, fun b o q => ⟨(hA b o q).1, (hA b o q).2.1, Nat.lt_of_lt_of_le (hA b o q).2.2 ht.size⟩⟩
theorem OutL.snoc {w w' : World} {n : Nat} {v v' : Value} {os : List (List UInt8)} {vs : List Value} {A : Option Addr} {c : Nat} {b : List UInt8}
    (h2 : ∀ i (h : i < os.length), ∃ A c, vs[i]? = some (.slice A os[i].length c) ∧ Rd w w.heap.size A os[i] ∧ ∀ b o, A = some ⟨b, o, none⟩ → n ≤ b ∧ v.ownBlock ≠ some b ∧ b < w.heap.size)
    (hl : vs.length = os.length) (h1 : w'.ownsRow n 22 1 v' (os.length + 1) (vs ++ [.slice A b.length c])) (hg : w.grownBy w' v.ownBlock) (hv : v'.ownBlock = v.ownBlock ∨ v'.ownBlock = some w.heap.size) (hb : Rd w w.heap.size A b)
    (hA : ∀ g o, A = some ⟨g, o, none⟩ → n ≤ g ∧ v.ownBlock ≠ some g ∧ g < w.heap.size) : OutL w' n v' (os ++ [b]) := by
  have ht : Tn (fun k => v.ownBlock = some k) w w' := ⟨hg.os, hg.tape, hg.output, hg.size, fun k hk hn => hg.block k hk (fun e => hn e.symm)⟩
  refine ⟨vs ++ [.slice A b.length c], by rw [List.length_append]; exact h1, fun i hi => ?_⟩
  by_cases hil : i < os.length
  · obtain ⟨A1, c1, e, hr, hA1⟩ := h2 i hil
    refine ⟨A1, c1, ?_, ?_, fun g o q => ⟨(hA1 g o q).1, fun e2 => ?_, Nat.lt_of_lt_of_le (hA1 g o q).2.2 ht.size⟩⟩
    · rw [List.getElem_append_left hil, List.getElem?_append_left (by omega)]; exact e
    · rw [List.getElem_append_left hil]
      exact rd_turn hr ht fun g o q => (hA1 g o q).2.1
    · rcases hv with hv | hv
      · exact (hA1 g o q).2.1 (hv ▸ e2)
      · rw [hv] at e2
        cases e2
        have := (hA1 _ _ q).2.2
        omega
  · have e : i = os.length := by rw [List.length_append] at hi; simp at hi; omega
    subst e
    refine ⟨A, c, ?_, ?_, fun g o q => ⟨(hA g o q).1, fun e2 => ?_, Nat.lt_of_lt_of_le (hA g o q).2.2 ht.size⟩⟩
    · simp [hl]
    · simp only [List.getElem_concat_length]
      exact rd_turn hb ht fun g o q => (hA g o q).2.1
    · rcases hv with hv | hv
      · exact (hA g o q).2.1 (hv ▸ e2)
      · rw [hv] at e2
        cases e2
        have := (hA _ _ q).2.2
        omega
end Go.Proofs.Ytfldoihindbdmaa
