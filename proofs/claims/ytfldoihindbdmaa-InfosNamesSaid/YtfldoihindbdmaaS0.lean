/- Slices of bytes: what one reads as. Over any program. -/
import Derived.Test.YtfldoihindbdmaaL3
namespace Go.Proofs.Ytfldoihindbdmaa
open Go.RowKit
/-- The slice with the address A reads as the bytes l, below block n. -/
def Rd (w : World) (n : Nat) (A : Option Addr) (l : List UInt8) : Prop :=
  0 < l.length → ∃ b o, A = some ⟨b, o, none⟩ ∧ b < n ∧ ∀ j (h : j < l.length), w.cell? ⟨b, o + j, none⟩ = some (B l[j])
section
variable {w w' : World} {n : Nat} {A : Option Addr} {l : List UInt8}
theorem Rd.nil : Rd w n A [] := fun h => absurd h (by simp)
theorem Rd.below {m : Nat} (h : Rd w n A l) (hb : Below m w w') (hn : n ≤ m) : Rd w' n A l := fun h0 => by
  obtain ⟨b, o, e, hlt, hc⟩ := h h0
  exact ⟨b, o, e, hlt, fun j hj => (hb.cell (p := ⟨b, o + j, none⟩) (by show b < m; omega)).trans (hc j hj)⟩
theorem Rd.mono {m : Nat} (h : Rd w n A l) (hn : n ≤ m) : Rd w m A l := fun h0 => by
  obtain ⟨b, o, e, hlt, hc⟩ := h h0
  exact ⟨b, o, e, by omega, hc⟩
theorem Rd.at (h : Rd w n A l) {k : Nat} (hk : k < l.length) : ∃ b o, A = some ⟨b, o, none⟩ ∧ b < n ∧ w.cell? ⟨b, o + k, none⟩ = some (B l[k]) := by
  obtain ⟨b, o, e, hlt, hc⟩ := h (by omega)
  exact ⟨b, o, e, hlt, hc k hk⟩
end
theorem B_inj {a b : UInt8} (h : (a.toNat : Int) = (b.toNat : Int)) : a = b := UInt8.toNat_inj.1 (by exact_mod_cast h)
theorem take_eq_step {l m : List UInt8} {k : Nat} (h : l.take k = m.take k) (h1 : k < l.length) (h2 : k < m.length) (he : l[k] = m[k]) : l.take (k + 1) = m.take (k + 1) := by
  rw [List.take_succ_eq_append_getElem h1, List.take_succ_eq_append_getElem h2, h, he]
theorem beq_of_take {l m : List UInt8} {k : Nat} (h : l.take k = m.take k) (hk1 : k ≤ l.length) (hk2 : k ≤ m.length) (hk : ¬ (k < l.length ∧ k < m.length)) : (l == m) = ((l.length : Int) == (m.length : Int)) := by
  rw [Bool.eq_iff_iff, beq_iff_eq, beq_iff_eq]
  constructor
  · rintro rfl; rfl
  · intro e
    have e' : l.length = m.length := by omega
    have hk' : k = l.length := by omega
    subst hk'
    rw [List.take_length, e', List.take_length] at h
    exact h
theorem beq_of_ne {l m : List UInt8} {k : Nat} (h1 : k < l.length) (h2 : k < m.length) (he : l[k] ≠ m[k]) : (l == m) = false := by
  rw [beq_eq_false_iff_ne]
  rintro rfl
  exact he rfl
end Go.Proofs.Ytfldoihindbdmaa
