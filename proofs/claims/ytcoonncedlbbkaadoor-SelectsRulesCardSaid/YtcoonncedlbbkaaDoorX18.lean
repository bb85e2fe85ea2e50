/- SelectsRules, plain: bits turned, and what two addresses have in common then. -/
import Derived.Test.YtcoonncedlbbkaaDoorX17
namespace Go.Proofs.YtcoonncedlbbkaaDoor
open Go.RowKit Ad
set_option maxRecDepth 100000
set_option maxHeartbeats 2000000
def flipB (a : UInt8) (k : Nat) : UInt8 := a ^^^ (1 <<< UInt8.ofNat k)
theorem bits_flip (x : UInt8) (r : Nat) (hr : r < 8) : bits BinOp.xor IntKind.u8 (x.toNat : Int) (2 ^ r % 256) = ((flipB x r).toNat : Int) := by
  have : ∀ a : Fin 256, ∀ k : Fin 8, bits BinOp.xor IntKind.u8 (a.1 : Int) (2 ^ k.1 % 256) = ((flipB (UInt8.ofNat a.1) k.1).toNat : Int) := by decide +kernel
  have h := this ⟨x.toNat, x.toNat_lt⟩ ⟨r, hr⟩
  simpa using h
theorem bits_one (x : UInt8) : bits BinOp.xor IntKind.u8 (x.toNat : Int) 1 = ((flipB x 0).toNat : Int) := by
  have h := bits_flip x 0 (by omega)
  exact h
theorem bitB_flip (x : UInt8) (m k : Nat) (hm : m < 8) (hk : k < 8) : bitB (flipB x (7 - m)) k = if k = m then 1 - bitB x k else bitB x k := by
  have : ∀ a : Fin 256, ∀ m : Fin 8, ∀ k : Fin 8, bitB (flipB (UInt8.ofNat a.1) (7 - m.1)) k.1 = if k.1 = m.1 then 1 - bitB (UInt8.ofNat a.1) k.1 else bitB (UInt8.ofNat a.1) k.1 := by decide +kernel
  have h := this ⟨x.toNat, x.toNat_lt⟩ ⟨m, hm⟩ ⟨k, hk⟩
  simpa using h
/-- An address with a bit turned. -/
def flipAt (a : List UInt8) (k : Nat) : List UInt8 := a.set (k / 8) (flipB (a.getD (k / 8) 0) (7 - k % 8))
theorem flipAt_length (a : List UInt8) (k : Nat) : (flipAt a k).length = a.length := by simp [flipAt]
theorem bitN_flip (a : List UInt8) (m j : Nat) (hm : m < 8 * a.length) : bitN (flipAt a m) j = if j = m then 1 - bitN a j else bitN a j := by
  unfold bitN flipAt
  by_cases h : j / 8 = m / 8
  · rw [h]
    have e : (a.set (m / 8) (flipB (a.getD (m / 8) 0) (7 - m % 8))).getD (m / 8) 0 = flipB (a.getD (m / 8) 0) (7 - m % 8) := by
      simp only [List.getD_eq_getElem?_getD, List.getElem?_set_self (show m / 8 < a.length by omega)]
      rfl
    rw [e, bitB_flip _ _ _ (Nat.mod_lt _ (by omega)) (Nat.mod_lt _ (by omega))]
    by_cases h2 : j = m
    · rw [if_pos (by rw [h2]), if_pos h2]
    · rw [if_neg (by omega), if_neg h2]
  · have e : (a.set (m / 8) (flipB (a.getD (m / 8) 0) (7 - m % 8))).getD (j / 8) 0 = a.getD (j / 8) 0 := by
      simp only [List.getD_eq_getElem?_getD, List.getElem?_set_ne (Ne.symm h)]
    rw [e, if_neg (fun e => h (by rw [e]))]
theorem common_flips (a : List UInt8) (ha : a.length = 16) (k : Nat) (hk : k < 127) : common (flipAt (flipAt a 127) k) a = k := by
  have h1 : (flipAt a 127).length = 16 := by rw [flipAt_length, ha]
  have key : ∀ j, bitN (flipAt (flipAt a 127) k) j = if j = k then 1 - bitN (flipAt a 127) j else bitN (flipAt a 127) j := fun j => bitN_flip _ _ _ (by omega)
  have key2 : ∀ j, bitN (flipAt a 127) j = if j = 127 then 1 - bitN a j else bitN a j := fun j => bitN_flip _ _ _ (by omega)
  refine common_eq ⟨by omega, fun j hj => ?_, fun _ => ?_⟩
  · rw [key, if_neg (by omega), key2, if_neg (by omega)]
  · rw [key, if_pos rfl, key2, if_neg (by omega)]
    have := bitN_lt a k
    omega
def bare (a : List UInt8) (h : a.length = 16) : Cd := ⟨a, false, false, h⟩
theorem near_far (dst : List UInt8) (hd : dst.length = 16) (k : Nat) (h1 : k < 63) (a b : Cd) (ha : a.a = flipAt (flipAt dst 127) (k + 1)) (hb : b.a = flipAt (flipAt dst 127) k) (e1 : a.d = b.d) (e2 : a.t = b.t) (hl : label a.a = label b.a) (hs : scope a.a = scope b.a) : better dst a b = true := by
  have c1 : common a.a dst = k + 1 := by rw [ha]; exact common_flips dst hd (k + 1) (by omega)
  have c2 : common b.a dst = k := by rw [hb]; exact common_flips dst hd k (by omega)
  have n1 : (a.a == dst) = false := by
    rw [beq_eq_false_iff_ne]
    intro e
    have := (common_all a.h hd).2 e
    omega
  have n2 : (b.a == dst) = false := by
    rw [beq_eq_false_iff_ne]
    intro e
    have := (common_all b.h hd).2 e
    omega
  rw [better_key]
  unfold key
  rw [n1, n2, hl, hs, c1, c2, e1, e2]
  exact decide_eq_true (by omega)
theorem better_own (dst : List UInt8) (a b : Cd) (ha : a.a = dst) (hb : b.a ≠ dst) : better dst a b = true := by
  rw [better_better2]
  unfold better2
  have e1 : (a.a == dst) = true := by rw [ha]; simp
  have e2 : (b.a == dst) = false := by rw [beq_eq_false_iff_ne]; exact hb
  rw [e1, e2]
  rfl
theorem better_old (dst : List UInt8) (a b : Cd) (h : a.a = b.a) (ha : a.d = false) (hb : b.d = true) : better dst a b = true := by
  rw [better_better2]
  unfold better2
  rw [h, ha, hb]
  simp
theorem better_temp (dst : List UInt8) (a b : Cd) (h : a.a = b.a) (hd : a.d = b.d) (ha : a.t = true) (hb : b.t = false) : better dst a b = true := by
  rw [better_better2]
  unfold better2
  rw [h, ha, hb, hd]
  simp
def Cd.old (c : Cd) (b : Bool) : Cd := ⟨c.a, b, c.t, c.h⟩
def Cd.tmp (c : Cd) (b : Bool) : Cd := ⟨c.a, c.d, b, c.h⟩
theorem Cd.row_setd (c : Cd) (b : Bool) : c.row.setIfInBounds 16 (.bool b) = (c.old b).row := by
  unfold Cd.row Cd.old
  have := c.h
  simp [this]
theorem Cd.row_sett (c : Cd) (b : Bool) : c.row.setIfInBounds 17 (.bool b) = (c.tmp b).row := by
  unfold Cd.row Cd.tmp
  have := c.h
  simp [this]
end Go.Proofs.YtcoonncedlbbkaaDoor
