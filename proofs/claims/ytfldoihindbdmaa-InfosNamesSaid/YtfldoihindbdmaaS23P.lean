/- What a cutter gives: plain. -/
import Derived.Test.YtfldoihindbdmaaS11
namespace Go.Proofs.Ytfldoihindbdmaa
open Go.RowKit
/-- What is cut, and what is left, when n bytes are asked for. -/
def cutB (n : Int) : Option (List UInt8) → List UInt8 × Option (List UInt8)
  | none => ([], none)
  | some l => if n < 0 ∨ (l.length : Int) < n then ([], none) else (l.take n.toNat, some (l.drop n.toNat))
theorem cutB_none (n : Int) : cutB n none = ([], none) := rfl
theorem cutB_bad {n : Int} {l : List UInt8} (h : n < 0 ∨ (l.length : Int) < n) : cutB n (some l) = ([], none) := by simp [cutB, h]
theorem cutB_good {n : Nat} {l : List UInt8} (h : n ≤ l.length) : cutB n (some l) = (l.take n, some (l.drop n)) := by
  simp only [cutB]
  rw [if_neg (by omega)]
  simp
/-- How many bytes a number asks for. -/
def ask (n : Int) : Int := if n < 1 ∨ 8 < n then -1 else n
theorem cutB_len (n : Int) (st : Option (List UInt8)) : (cutB (ask n) st).1.length ≤ 8 := by
  cases st with
  | none => simp [cutB]
  | some l =>
    unfold ask
    split
    · rw [cutB_bad (.inl (by omega))]; simp
    · by_cases hb : n < 0 ∨ (l.length : Int) < n
      · rw [cutB_bad hb]; simp
      · obtain ⟨m, rfl⟩ := Int.eq_ofNat_of_zero_le (show 0 ≤ n by omega)
        have := cutB_good (n := m) (l := l) (by omega)
        rw [show ((m : Nat) : Int) = (m : Int) from rfl] at this
        rw [this, List.length_take]; omega
end Go.Proofs.Ytfldoihindbdmaa
