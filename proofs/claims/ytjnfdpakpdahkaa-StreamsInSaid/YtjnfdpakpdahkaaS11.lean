/- Literal slices; a cutter is kept. -/
import Derived.Test.YtjnfdpakpdahkaaS10
namespace Go.Proofs.Ytjnfdpakpdahkaa
open Go.RowKit
set_option maxRecDepth 100000
theorem Rd.lit (w : World) (l : List UInt8) (t : TypeId) : Rd (w.alloc (.cells (l.map B).toArray t (0, 0))) (w.alloc (.cells (l.map B).toArray t (0, 0))).heap.size (some ⟨w.heap.size, 0, none⟩) l :=
  Rd.of_bk (bk_alloc_at _ _ _ rfl) (by simp [World.size_alloc]) fun j hj => by rw [Nat.zero_add, List.getElem?_eq_getElem hj]
theorem Rd.of_take {w : World} {g n m : Nat} {cur : Array Value} {l : List UInt8} {t : TypeId} {fr : Nat × Nat} (h : bk w g = some (.cells cur t fr)) (ht : cur.toList.take m = l.map B) (hg : g < n) : Rd w n (some ⟨g, 0, none⟩) l := fun _ => ⟨g, 0, rfl, hg, fun j hj => by
  rw [bk_cell h, Nat.zero_add]
  have e : (cur.toList.take m)[j]? = (l.map B)[j]? := by rw [ht]
  have hm : j < m := by
    rcases Nat.lt_or_ge j m with h' | h'
    · exact h'
    · rw [List.getElem?_eq_none (by rw [List.length_take]; omega), List.getElem?_map, List.getElem?_eq_getElem hj] at e; cases e
  rw [List.getElem?_take_of_lt hm, List.getElem?_map, List.getElem?_eq_getElem hj] at e
  rw [← Array.getElem?_toList]
  exact e⟩
end Go.Proofs.Ytjnfdpakpdahkaa
