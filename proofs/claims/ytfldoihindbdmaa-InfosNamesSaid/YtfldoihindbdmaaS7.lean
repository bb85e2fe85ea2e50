/- The cutter. -/
import Derived.Test.YtfldoihindbdmaaS6
namespace Go.Proofs.Ytfldoihindbdmaa
open Go.RowKit
set_option maxRecDepth 100000
/-- One block alone is another one. -/
structure Chg (g : Nat) (o : Obj) (w w' : World) : Prop where
  os : w'.os = w.os
  tape : w'.tape = w.tape
  output : w'.output = w.output
  size : w'.heap.size = w.heap.size
  new : bk w' g = some o
  old : ∀ k, k ≠ g → bk w' k = bk w k
  drawn : w'.drawn = w.drawn
theorem Chg.refl {g : Nat} {o : Obj} {w : World} (h : bk w g = some o) : Chg g o w w := ⟨rfl, rfl, rfl, rfl, h, fun _ _ => rfl, rfl⟩
theorem Chg.eq {g : Nat} {o : Obj} {w w' : World} (h : Chg g o w w') (hg : bk w g = some o) : w = w' := by
  obtain ⟨h1, h2, h3, h4, h5, h6, h7⟩ := h
  have hh : w'.heap = w.heap := Array.ext_getElem? fun i => by
    by_cases e : i = g
    · subst e; exact h5.trans hg.symm
    · exact h6 i e
  cases w; cases w'
  simp only at h1 h2 h3 h7 hh
  subst h1; subst h2; subst h3; subst h7; subst hh
  rfl
theorem Chg.set {g i : Nat} {c : Array Value} {t : TypeId} {w w1 : World} (h : Chg g (.cells c t (0, 0)) w w1) (v : Value) : Chg g (.cells (c.setIfInBounds i v) t (0, 0)) w (w1.setCell ⟨g, i, none⟩ v) :=
  ⟨h.os, h.tape, h.output, by rw [show (w1.setCell ⟨g, i, none⟩ v).heap.size = w1.heap.size by simp [World.setCell]]; exact h.size, by rw [bk_setCell_same, h.new]; rfl, fun k hk => (bk_setCell_other _ _ _ _ _ hk).trans (h.old k hk), h.drawn⟩
theorem Chg.below {g n : Nat} {o : Obj} {w w' : World} (h : Chg g o w w') (hn : n ≤ g) : Below n w w' :=
  ⟨h.os, h.tape, h.output, by rw [h.size]; exact Nat.le_refl _, fun k hk => h.old k (by omega)⟩
/-- A cutter's block. -/
def cut (A : Option Addr) (n c : Nat) (f : Bool) : Obj := .cells #[.slice A n c, .bool f] 136 (0, 0)
theorem bad_any (g n c : Nat) (A : Option Addr) (f : Bool) (w : World) (h : bk w g = some (cut A n c f)) :
    Calls Try.prog 55 #[.pointer (some ⟨g, 0, none⟩)] w fun e w' => e = .returned (.bool (!f)) ∧ w = w' := by
  have h0 := bk_cell h 0
  have h1 := bk_cell h 1
  simp at h0 h1
  clear h
  go_enter Try.func55, Try.ntmps55
  go_wp2
  go_ret
  exact ⟨rfl, rfl⟩
theorem left_cut (g n c : Nat) (A : Option Addr) (f : Bool) (w : World) (h : bk w g = some (cut A n c f)) :
    Calls Try.prog 54 #[.pointer (some ⟨g, 0, none⟩)] w fun e w' => e = .returned (.int .i64 (if f then n else 0 : Nat)) ∧ w = w' := by
  have B := Lib.hid (bad_any g n c A f w h)
  have h0 := bk_cell h 0
  simp at h0
  clear h
  go_enter Try.func54, Try.ntmps54
  go_wp2_with fail
  refine B.out.mono ?_
  rintro e w1 ⟨rfl, rfl⟩
  cases f
  all_goals
    simp only [Bool.not_true, Bool.not_false]
    go_wp2
    go_ret
    exact ⟨rfl, rfl⟩
/-- Where a slice goes on behind m of its elements (the model lets it stand where it has no room). -/
def adv (A : Option Addr) (c m : Nat) : Option Addr := if c = m then A else A.map (·.add m)
theorem take_good (g N c : Nat) (A : Option Addr) (m : Nat) (w : World) (h : bk w g = some (cut A N c true)) (hm : m ≤ N) (hN : N ≤ c) :
    Calls Try.prog 78 #[.pointer (some ⟨g, 0, none⟩), .int .i64 m] w fun e w' => e = .returned (.slice A m m) ∧
      Chg g (cut (adv A c m) (N - m) (c - m) true) w w' := by
  unfold adv
  have h0 := bk_cell h 0
  have h1 := bk_cell h 1
  have hf := bk_frozen h 0
  simp at h0 h1
  have HG := Lib.hid h
  clear h
  have d1 : decide ((m : Int) < 0) = false := by simp
  have d2 : decide (N < m) = false := by simp; omega
  have d3 : decide ((N : Int) < (m : Int)) = false := by simp; omega
  by_cases hc : c = m
  · subst hc
    obtain rfl : N = c := by omega
    simp only [if_true]
    go_enter Try.func78, Try.ntmps78
    go_wp2
    go_ret
    exact ⟨rfl, by simpa [cut] using (Chg.refl HG.out).set (i := 0) (.slice A (N - N) (N - N))⟩
  · simp only [if_neg hc]
    go_enter Try.func78, Try.ntmps78
    go_wp2
    go_ret
    exact ⟨rfl, (Chg.refl HG.out).set (i := 0) _⟩
theorem take_bad (g N c : Nat) (A : Option Addr) (f : Bool) (m : Int) (w : World) (h : bk w g = some (cut A N c f)) (hm : f = false ∨ m < 0 ∨ (N : Int) < m) :
    Calls Try.prog 78 #[.pointer (some ⟨g, 0, none⟩), .int .i64 m] w fun e w' => e = .returned (.slice none 0 0) ∧ Chg g (cut none 0 0 false) w w' := by
  have h0 := bk_cell h 0
  have h1 := bk_cell h 1
  have hf := bk_frozen h 0
  have hf1 := bk_frozen h 1
  simp at h0 h1
  have HG := Lib.hid h
  clear h
  have hfin : Chg g (cut none 0 0 false) w ((w.setCell ⟨g, 0, none⟩ (.slice none 0 0)).setCell ⟨g, 1, none⟩ (.bool false)) := ((Chg.refl HG.out).set (i := 0) (.slice none 0 0)).set (i := 1) (.bool false)
  have HF := Lib.hid hfin
  clear hfin HG
  by_cases h1' : m < 0
  · have d1 : decide (m < 0) = true := by simpa using h1'
    clear hm
    go_enter Try.func78, Try.ntmps78
    go_wp2
    go_ret
    exact ⟨rfl, HF.out⟩
  · have d1 : decide (m < 0) = false := by simpa using h1'
    by_cases h2' : (N : Int) < m
    · have d2 : decide ((N : Int) < m) = true := by simpa using h2'
      clear hm
      go_enter Try.func78, Try.ntmps78
      go_wp2
      go_ret
      exact ⟨rfl, HF.out⟩
    · have d2 : decide ((N : Int) < m) = false := by simpa using h2'
      obtain rfl : f = false := by rcases hm with h | h | h; exact h; exact absurd h h1'; exact absurd h h2'
      clear hm
      go_enter Try.func78, Try.ntmps78
      go_wp2
      go_ret
      exact ⟨rfl, HF.out⟩
end Go.Proofs.Ytfldoihindbdmaa
