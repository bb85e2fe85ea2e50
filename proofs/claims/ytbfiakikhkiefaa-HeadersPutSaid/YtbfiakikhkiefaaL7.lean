/- Regions whose calls hand back slices of bytes. -/
import Derived.Test.YtbfiakikhkiefaaS6
import Derived.Test.YtbfiakikhkiefaaS11
namespace Go.Proofs.Ytbfiakikhkiefaa
open Go.RowKit
/-- A slice of the call's own that reads as l. -/
def Made.sl (m : Nat) (l : List UInt8) : Made m where
  T v := ∃ A c, v = .slice A l.length c
  R v w := ∃ A c, v = .slice A l.length c ∧ Rd w w.heap.size A l
  mono := fun _ _ _ hb ⟨A, c, h1, h2⟩ => ⟨A, c, h1, (h2.below hb (Nat.le_refl _)).mono hb.size⟩
  gives := fun w _ => ⟨.slice (some ⟨w.heap.size, 0, none⟩) l.length l.length, w.alloc (.cells (l.map B).toArray 5 (0, 0)), (Below.refl _ _).alloc (Nat.le_refl _) _, ⟨_, _, rfl⟩, _, _, rfl, Rd.lit w l 5⟩
theorem sl_T {m : Nat} {M : Made m} {l : List UInt8} {v : Value} (HM : Hid (M = Made.sl m l)) (h : M.T v) : ∃ A c, v = .slice A l.length c := by
  have := HM.out
  subst this
  exact h
theorem sl_R {m : Nat} {M : Made m} {l : List UInt8} {A : Option Addr} {n c : Nat} {w : World} (HM : Hid (M = Made.sl m l)) (h : M.R (.slice A n c) w) : n = l.length ∧ Rd w w.heap.size A l := by
  have := HM.out
  subst this
  obtain ⟨A', c', e, hr⟩ := h
  cases e
  exact ⟨rfl, hr⟩
theorem sl_end {m : Nat} {M : Made m} {l : List UInt8} (HM : Hid (M = Made.sl m l)) {w w' : World} {A : Option Addr} {c : Nat} (hb : Below w.heap.size w w') (h : Rd w' w'.heap.size A l) : madeEnd M w (.returned (.slice A l.length c)) w' := by
  have := HM.out
  subst this
  exact ⟨_, rfl, hb, ⟨A, c, rfl⟩, A, c, rfl, h⟩
theorem own_room {w : World} {base n c : Nat} {A : Option Addr} {xs : List Value} {e : TypeId} (h : w.ownsRow base e 1 (.slice A n c) n xs) : (0 < c → ∃ b cur, A = some ⟨b, 0, none⟩ ∧ base ≤ b ∧ bk w b = some (.cells cur e (0, 0)) ∧ c ≤ cur.size) ∧ n ≤ c ∧ c ≤ 9223372036854775807 := by
  obtain ⟨_, ⟨h1, h0⟩ | ⟨g, cap, cur, h1, hg, hb, hle, hm, hs, _⟩⟩ := h
  · cases h1; exact ⟨fun h => absurd h (by omega), by omega, by omega⟩
  · cases h1; unfold maxLen at hm
    exact ⟨fun _ => ⟨g, cur, rfl, hg, hb, by omega⟩, hle, by omega⟩
end Go.Proofs.Ytbfiakikhkiefaa
