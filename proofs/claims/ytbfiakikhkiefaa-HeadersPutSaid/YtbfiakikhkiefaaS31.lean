/- append(b, make([]byte, n)...), b without room. -/
import Derived.Test.YtbfiakikhkiefaaS30
import Derived.Lib.AppendZeros
namespace Go.Proofs.Ytbfiakikhkiefaa
open Go.RowKit
theorem zeroCells_B (m : Nat) : Builtin.zeroCells (Value.int .u8 0).cells m = ((List.replicate m (0 : UInt8)).map B).toArray := by
  apply Array.ext'
  simp only [Builtin.zeroCells, Value.cells, Array.toList_map, Array.toList_range]
  apply List.ext_getElem
  · simp
  · intro i h1 h2
    simp [Nat.mod_one]
theorem run_zeros {w : World} (ty : TypeId) (base : Nat) (ad : Addr) (l1 : List UInt8) (h1 : Rd w w.heap.size (some ad) l1) (hown : w.ownsRow base 5 1 (.slice (some ad) l1.length l1.length) l1.length (l1.map B)) (m : Nat) (hb : l1.length + m < 2 ^ 40) (hbase : base ≤ w.heap.size) :
    ∃ v' w', (Builtin.append_ #[28, 3] ty #[.slice (some ad) l1.length l1.length, .int .i64 m]).run Try.prog w = .ok v' w' ∧ w'.ownsRow base 5 1 v' (l1.length + m) ((l1 ++ List.replicate m 0).map B) ∧ Below w.heap.size w w' := by
  obtain ⟨i0, hi, hz0, hz1, hz2⟩ := info_parts infoB
  have hw : IntKind.i64.wrap (m : Int) = m := by rw [IntKind.wrap_i64]; omega
  have hneg : ¬ ((m : Int) < 0) := by omega
  have h48i : ¬ (281474976710656 < (m : Int) * (i0.bytes : Int)) := by rw [hz2]; omega
  rcases Nat.eq_zero_or_pos m with h0 | h0
  · subst h0
    refine ⟨.slice (some ad) l1.length l1.length, w, ?_, by simpa using hown, Below.refl _ _⟩
    have hw0 : IntKind.i64.wrap 0 = 0 := by decide
    simp [Builtin.append_, run_underlying Try.underlying28, run_underlying Try.underlying3, sizeOf, typeInfo, hi, asInt, asIntOf, hw0, storeCells]
  · have hn : ¬ (l1.length + m ≤ l1.length) := by omega
    have hm : m ≠ 0 := by omega
    have h63' : ¬ (9223372036854775807 < ((l1.length : Int) + (m : Int))) := by omega
    have h48' : ¬ (281474976710656 < Builtin.nextslicecap (l1.length + m) l1.length * i0.bytes) := by
      have := growslice_fits (need := l1.length + m) (old := l1.length) (bytes := i0.bytes) (by omega) (by rw [hz2]; omega)
      omega
    have hfo := run_firstCells_some (P := Try.prog) w.drew i0.size l1.length ad l1.length l1.length (l1.map B) (by rw [hz1]; simp) (by simpa using h1.news)
    have hns : ¬ (m * i0.size = 0) := Nat.mul_ne_zero hm (by omega)
    have hr : (Builtin.append_ #[28, 3] ty #[.slice (some ad) l1.length l1.length, .int .i64 m]).run Try.prog w = .ok (.slice (some ⟨w.heap.size, 0, none⟩) (l1.length + m) (grownCap w (l1.length + m) l1.length 5))
        (w.drew.alloc (.cells ((l1.map B).toArray ++ Builtin.zeroCells (Value.int .u8 0).cells m ++ Builtin.zeroCells (Value.int .u8 0).cells (grownCap w (l1.length + m) l1.length 5 - (l1.length + m))) 5)) := by
      simp [Builtin.append_, run_underlying Try.underlying28, run_underlying Try.underlying3, sizeOf, typeInfo, zeroValue, hi, hz0, asInt, asIntOf, hw, hn, hneg, hns, h63', h48', h48i, Question.forced, hfo, newRow, grownCap]
    refine ⟨_, _, hr, ?_, (Below.refl _ _).drew.alloc (show w.heap.size ≤ w.drew.heap.size from Nat.le_refl _) _⟩
    refine World.ownsRow.mono (base := w.heap.size) ?_ hbase
    refine ⟨by simp, .inr ⟨w.heap.size, _, _, rfl, Nat.le_refl _, heap_alloc_new w.drew _, ?_, ?_, ?_, ?_⟩⟩
    · exact grownCap_ge w _ _ _
    · exact grownCap_le_maxLen w _ _ _ (by unfold maxLen; omega)
    · have hge := grownCap_ge w (l1.length + m) l1.length 5
      simp only [Array.size_append, List.size_toArray, size_zeroCells, List.length_map]
      show l1.length + m * 1 + (_ - _) * 1 = _ * 1
      omega
    · rw [zeroCells_B]
      simp only [Array.toList_append, List.append_assoc]
      rw [← List.append_assoc, ← List.map_append]
      exact List.take_left' (by simp)
theorem append_zeros {w : World} {ops : Array Oper} {rest : List Oper} {o : Oper} {a : Act} {Q : Exit → Act → World → Prop} (hgd : o.guard = none) (s x : Operand)
    (ho : o.op = .call { callee := .builtin .append, args := #[s, x], argTypes := #[28, 3] }) (base : Nat) (ad : Addr) (l1 : List UInt8) (n1 c1 : Nat) (hs : a.eval s = .slice (some ad) n1 c1) (hn1 : n1 = l1.length) (hc1 : c1 = l1.length) (h1 : Rd w w.heap.size (some ad) l1)
    (hown : w.ownsRow base 5 1 (.slice (some ad) l1.length l1.length) l1.length (l1.map B)) (m : Nat) (hx : a.eval x = .int .i64 m) (hb : l1.length + m < 2 ^ 40) (hbase : base ≤ w.heap.size)
    (h : ∀ v' w', w'.ownsRow base 5 1 v' (l1.length + m) ((l1 ++ List.replicate m 0).map B) → Below w.heap.size w w' → wpList Try.prog ops Q rest (a.put o.dst v') w') : wpList Try.prog ops Q (o :: rest) a w := by
  subst hc1 hn1
  obtain ⟨v', w', hr, h3, h4⟩ := run_zeros o.type base ad l1 h1 hown m hb hbase
  refine wpList_plain hgd fun K hK => ?_
  unfold Oper.wp execOp
  simp only [ho, resolve, invoke, builtin, Sem.run_bind, Sem.run_pure, Result.andThen_ok, List.map_toArray, List.map_cons, List.map_nil, hs, hx, hr]
  exact hK _ _ (h v' w' h3 h4)
theorem own_lit {w : World} (L : List UInt8) (hl : L.length < 2 ^ 40) : (w.alloc (.cells (L.map B).toArray 5 (0, 0))).ownsRow w.heap.size 5 1 (.slice (some ⟨w.heap.size, 0, none⟩) L.length L.length) L.length (L.map B) := by
  refine ⟨by simp, .inr ⟨w.heap.size, _, _, rfl, Nat.le_refl _, heap_alloc_new w _, Nat.le_refl _, ?_, by simp, ?_⟩⟩
  · unfold maxLen; omega
  · exact List.take_of_length_le (by simp)
end Go.Proofs.Ytbfiakikhkiefaa
