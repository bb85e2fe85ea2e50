/- The cutter. -/
import Derived.Test.YtjnfdpakpdahkaaS6
namespace Go.Proofs.Ytjnfdpakpdahkaa
open Go.RowKit
set_option maxRecDepth 100000
/-- One block alone is another one. -/
structure Chg (g : Nat) (o : Obj) (w w' : World) : Prop where
  os : w'.os = w.os
  tape : w'.tape = w.tape
  output : w'.output = w.output
  size : w'.heap.size = w.heap.size
  new : bk w' g = some o
  old : ∀ k, k ≠ g → bk w' k = bk w k
  drawn : w'.drawn = w.drawn
theorem Chg.refl {g : Nat} {o : Obj} {w : World} (h : bk w g = some o) : Chg g o w w := ⟨rfl, rfl, rfl, rfl, h, fun _ _ => rfl, rfl⟩
theorem Chg.eq {g : Nat} {o : Obj} {w w' : World} (h : Chg g o w w') (hg : bk w g = some o) : w = w' := by
  obtain ⟨h1, h2, h3, h4, h5, h6, h7⟩ := h
  have hh : w'.heap = w.heap := Array.ext_getElem? fun i => by
    by_cases e : i = g
    · subst e; exact h5.trans hg.symm
    · exact h6 i e
  cases w; cases w'
  simp only at h1 h2 h3 h7 hh
  subst h1; subst h2; subst h3; subst h7; subst hh
  rfl
theorem Chg.set {g i : Nat} {c : Array Value} {t : TypeId} {w w1 : World} (h : Chg g (.cells c t (0, 0)) w w1) (v : Value) : Chg g (.cells (c.setIfInBounds i v) t (0, 0)) w (w1.setCell ⟨g, i, none⟩ v) :=
  ⟨h.os, h.tape, h.output, by rw [show (w1.setCell ⟨g, i, none⟩ v).heap.size = w1.heap.size by simp [World.setCell]]; exact h.size, by rw [bk_setCell_same, h.new]; rfl, fun k hk => (bk_setCell_other _ _ _ _ _ hk).trans (h.old k hk), h.drawn⟩
theorem Chg.below {g n : Nat} {o : Obj} {w w' : World} (h : Chg g o w w') (hn : n ≤ g) : Below n w w' :=
  ⟨h.os, h.tape, h.output, by rw [h.size]; exact Nat.le_refl _, fun k hk => h.old k (by omega)⟩
/-- Where a slice goes on behind m of its elements (the model lets it stand where it has no room). -/
def adv (A : Option Addr) (c m : Nat) : Option Addr := if c = m then A else A.map (·.add m)
end Go.Proofs.Ytjnfdpakpdahkaa
