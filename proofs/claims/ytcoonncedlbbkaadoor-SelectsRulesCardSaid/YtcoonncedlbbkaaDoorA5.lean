/- Addresses masked. -/
import Derived.Test.YtcoonncedlbbkaaDoorA4
namespace Go.Proofs.YtcoonncedlbbkaaDoor
open Go.RowKit Ad
set_option maxRecDepth 100000
namespace Ad
def mstep (l : List UInt8) (n k : Nat) : List UInt8 := (List.range 16).map fun j => if j < k then mb (l.getD j 0) (n - 8 * j) else l.getD j 0
theorem mstep_length (l : List UInt8) (n k : Nat) : (mstep l n k).length = 16 := by simp [mstep]
theorem mstep_get (l : List UInt8) (n k j : Nat) (h : j < 16) : (mstep l n k)[j]? = some (if j < k then mb (l.getD j 0) (n - 8 * j) else l.getD j 0) := by
  unfold mstep; rw [List.getElem?_map, List.getElem?_range h]; rfl
theorem mstep_zero (l : List UInt8) (n : Nat) (h : l.length = 16) : mstep l n 0 = l := by
  apply List.ext_getElem?
  intro j
  by_cases hj : j < 16
  · rw [mstep_get l n 0 j hj]; simp [List.getD_eq_getElem?_getD, List.getElem?_eq_getElem (show j < l.length by omega)]
  · rw [List.getElem?_eq_none (by rw [mstep_length]; omega), List.getElem?_eq_none (by omega)]
theorem mstep_all (l : List UInt8) (n : Nat) : mstep l n 16 = masked l n := by
  unfold mstep masked
  apply List.map_congr_left
  intro j hj
  rw [if_pos (by simpa using hj)]
theorem mstep_succ (l : List UInt8) (n k : Nat) (hk : k < 16) : (mstep l n k).set k (mb (l.getD k 0) (n - 8 * k)) = mstep l n (k + 1) := by
  apply List.ext_getElem?
  intro j
  by_cases hj : j < 16
  · rw [List.getElem?_set, mstep_get l n (k + 1) j hj, mstep_get l n k j hj]
    by_cases e : k = j
    · subst e; simp [mstep_length, hk]
    · by_cases e2 : j < k
      · simp [e, e2, show j < k + 1 by omega]
      · simp [e, e2, show ¬ j < k + 1 by omega]
  · rw [List.getElem?_eq_none (by simp [mstep_length]; omega), List.getElem?_eq_none (by rw [mstep_length]; omega)]
theorem mask_num : ∀ m : Fin 9, ∀ x : Fin 256, bits .and .u8 (x.val : Int) (bits .xor .u8 (if IntKind.u8.signed = true then -1 else IntKind.u8.max) (255 / 2 ^ m.val)) = ((x.val / 2 ^ (8 - m.val) * 2 ^ (8 - m.val) : Nat) : Int) := by decide +kernel
theorem mask_val (x n : UInt8) (k : Nat) : bits .and .u8 (x.toNat : Int) (bits .xor .u8 (if IntKind.u8.signed = true then -1 else IntKind.u8.max) (255 / 2 ^ (min 8 (max 0 ((n.toNat : Int) - 8 * (k : Int)))).toNat)) = ((mb x (n.toNat - 8 * k)).toNat : Int) := by
  have e : (min 8 (max 0 ((n.toNat : Int) - 8 * (k : Int)))).toNat = min 8 (n.toNat - 8 * k) := by omega
  rw [e, mb_toNat, mask_num ⟨min 8 (n.toNat - 8 * k), by omega⟩ ⟨x.toNat, x.toNat_lt⟩]
  simp only
  rw [show 8 - min 8 (n.toNat - 8 * k) = 8 - (n.toNat - 8 * k) by omega]
end Ad
end Go.Proofs.YtcoonncedlbbkaaDoor
