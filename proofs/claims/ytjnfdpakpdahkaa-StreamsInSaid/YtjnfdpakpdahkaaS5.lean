/- A number behind bytes: the program's Put. -/
import Derived.Test.YtjnfdpakpdahkaaS4
import Derived.Laws.ShiftsVarLaws
import Derived.Deep.DeepCutAuto
namespace Go.Proofs.Ytjnfdpakpdahkaa
open Go.RowKit
set_option maxRecDepth 100000
theorem clone_both (A : Option Addr) (l : List UInt8) (c : Nat) (w : World) (h : Rd w w.heap.size A l) (hA : A = none → l = [] ∧ c = 0) (hl : l.length < 2 ^ 46) :
    Calls Try.prog 41 #[.slice A l.length c] w fun e w' => ∃ v, e = .returned v ∧ w'.ownsRow w.heap.size 5 1 v l.length (l.map B) ∧ Below w.heap.size w w' := by
  cases A with
  | none =>
    obtain ⟨rfl, rfl⟩ := hA rfl
    refine (clone_nil w).mono ?_
    rintro e w' ⟨rfl, hb⟩
    exact ⟨_, rfl, World.ownsRow_nil _ _ _ _, hb⟩
  | some ad =>
    refine (clone_any ad l c w h hl).mono ?_
    rintro e w' ⟨v, rfl, ho, _, hb⟩
    exact ⟨v, rfl, ho, hb⟩
/-- In how many bytes a number is put. -/
def wid (m : Int) : Nat := if 1 ≤ m ∧ m ≤ 8 then m.toNat else 8
theorem wid_le (m : Int) : 1 ≤ wid m ∧ wid m ≤ 8 := by unfold wid; split <;> omega
/-- The number's bytes, the greatest first. -/
def nb (m n : Nat) : List UInt8 := (List.range m).map fun i => UInt8.ofNat (n / 256 ^ (m - 1 - i))
theorem nb_length (m n : Nat) : (nb m n).length = m := by simp [nb]
theorem nb_take (m n k : Nat) (h : k < m) : (nb m n).take (k + 1) = (nb m n).take k ++ [UInt8.ofNat (n / 256 ^ (m - 1 - k))] := by
  rw [List.take_succ_eq_append_getElem (by rw [nb_length]; exact h)]
  simp [nb]
theorem nb_step (l : List UInt8) (M n k s : Nat) (hk : k < M) (hs : s = M - 1 - k) :
    (l ++ (nb M n).take (k + 1)).map B = List.map B l ++ (List.take k (List.map B (nb M n)) ++ [Value.int .u8 ((n : Int) / 2 ^ (8 * s) % 256)]) := by
  rw [nb_take _ _ _ hk, ← hs]
  have e : B (UInt8.ofNat (n / 256 ^ s)) = Value.int .u8 ((n : Int) / 2 ^ (8 * s) % 256) := by
    unfold B
    rw [UInt8.toNat_ofNat', show (256 : Nat) = 2 ^ 8 from rfl, ← Nat.pow_mul]
    congr 1
  simp [List.map_take, e]
end Go.Proofs.Ytjnfdpakpdahkaa
