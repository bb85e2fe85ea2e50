/- The cutter's numbers. -/
import Derived.Test.YtjnfdpakpdahkaaS8
import Derived.Laws.BitsAllLaws
namespace Go.Proofs.Ytjnfdpakpdahkaa
open Go.RowKit
set_option maxRecDepth 100000
/-- The number of bytes, the greatest first. -/
def val (l : List UInt8) : Nat := l.foldl (fun n b => 256 * n + b.toNat) 0
theorem val_take (l : List UInt8) (k : Nat) (h : k < l.length) : val (l.take (k + 1)) = 256 * val (l.take k) + (l[k]).toNat := by
  rw [List.take_succ_eq_append_getElem h, val, List.foldl_append]
  rfl
theorem or8 (v b : Nat) (hv : v < 2 ^ 56) (hb : b < 256) : bits .or .u64 ((v : Int) * 256) (b : Int) = ((256 * v + b : Nat) : Int) := by
  have h := u64_or_nat (v * 256) b (by omega) (by omega)
  rw [nat_join 8 (v * 256) b (by omega) (by omega)] at h
  rw [show ((v : Int) * 256) = ((v * 256 : Nat) : Int) by omega, h]
  congr 1; omega
theorem val_lt (l : List UInt8) : val l < 256 ^ l.length := by
  have key : ∀ (l : List UInt8) (n : Nat), l.foldl (fun n b => 256 * n + b.toNat) n < 256 ^ l.length * (n + 1) := by
    intro l
    induction l with
    | nil => intro n; simp
    | cons b l ih =>
      intro n
      have := ih (256 * n + b.toNat)
      have hb := b.toNat_lt
      simp only [List.foldl_cons, List.length_cons, Nat.pow_succ]
      refine Nat.lt_of_lt_of_le this ?_
      rw [Nat.mul_assoc]
      exact Nat.mul_le_mul_left _ (by omega)
  have := key l 0
  simpa [val] using this
end Go.Proofs.Ytjnfdpakpdahkaa
