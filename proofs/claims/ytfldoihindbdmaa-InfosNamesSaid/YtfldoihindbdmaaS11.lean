/- Literal slices; a cutter is kept. -/
import Derived.Test.YtfldoihindbdmaaS10
namespace Go.Proofs.Ytfldoihindbdmaa
open Go.RowKit
set_option maxRecDepth 100000
theorem Rd.lit (w : World) (l : List UInt8) (t : TypeId) : Rd (w.alloc (.cells (l.map B).toArray t (0, 0))) (w.alloc (.cells (l.map B).toArray t (0, 0))).heap.size (some ⟨w.heap.size, 0, none⟩) l :=
  Rd.of_bk (bk_alloc_at _ _ _ rfl) (by simp [World.size_alloc]) fun j hj => by rw [Nat.zero_add, List.getElem?_eq_getElem hj]
theorem Rd.of_take {w : World} {g n m : Nat} {cur : Array Value} {l : List UInt8} {t : TypeId} {fr : Nat × Nat} (h : bk w g = some (.cells cur t fr)) (ht : cur.toList.take m = l.map B) (hg : g < n) : Rd w n (some ⟨g, 0, none⟩) l := fun _ => ⟨g, 0, rfl, hg, fun j hj => by
  rw [bk_cell h, Nat.zero_add]
  have e : (cur.toList.take m)[j]? = (l.map B)[j]? := by rw [ht]
  have hm : j < m := by
    rcases Nat.lt_or_ge j m with h' | h'
    · exact h'
    · rw [List.getElem?_eq_none (by rw [List.length_take]; omega), List.getElem?_map, List.getElem?_eq_getElem hj] at e; cases e
  rw [List.getElem?_take_of_lt hm, List.getElem?_map, List.getElem?_eq_getElem hj] at e
  rw [← Array.getElem?_toList]
  exact e⟩
theorem KC.keep {w w' : World} {g n : Nat} {l : List UInt8} (h : KC w g l) (hb : Below n w w') (hn : g < n) : KC w' g l := by
  obtain ⟨A, c, h1, h2, h3⟩ := h
  exact ⟨A, c, bk_keep hb hn h1, h2.below hb (by omega), h3⟩
theorem KB.keep {w w' : World} {g n : Nat} (h : KB w g) (hb : Below n w w') (hn : g < n) : KB w' g := by
  obtain ⟨A, N, c, h1⟩ := h
  exact ⟨A, N, c, bk_keep hb hn h1⟩
theorem KC.lt {w : World} {g : Nat} {l : List UInt8} (h : KC w g l) : g < w.heap.size := by
  obtain ⟨A, c, h1, _⟩ := h
  exact bk_lt h1
end Go.Proofs.Ytfldoihindbdmaa
