/- Words: what is reckoned with them; words turned. -/
import Derived.Test.YtmdalmegogfanaaDoorS24
import Derived.Test.YtmdalmegogfanaaDoorS5
namespace Go.Proofs.YtmdalmegogfanaaDoor
open Go.RowKit
set_option maxRecDepth 100000
abbrev V (x : UInt32) : Value := .int .u32 (x.toNat : Int)
def uA (x y : UInt32) : UInt32 := x + y
def uX (x y : UInt32) : UInt32 := x ^^^ y
def uN (x y : UInt32) : UInt32 := x &&& y
def uO (x y : UInt32) : UInt32 := x ||| y
def uC (x : UInt32) : UInt32 := ~~~x
def uS (x : UInt32) (n : Nat) : UInt32 := UInt32.ofNat (x.toNat / 2 ^ n)
/-- A word turned to the right. -/
def rr (x : UInt32) (n : Nat) : UInt32 := uO (UInt32.ofNat (x.toNat * 2 ^ (32 - n))) (uS x n)
theorem bits32 (op : BinOp) (a b : Nat) (_ha : a < 4294967296) (_hb : b < 4294967296) (f : BitVec 32 → BitVec 32 → BitVec 32) (hf : ∀ x y : Int, bits op .u32 x y = IntKind.u32.wrap ((f (BitVec.ofInt 32 x) (BitVec.ofInt 32 y)).toNat : Int)) :
    bits op .u32 (a : Int) (b : Int) = ((f (BitVec.ofNat 32 a) (BitVec.ofNat 32 b)).toNat : Int) := by
  have h := (f (BitVec.ofNat 32 a) (BitVec.ofNat 32 b)).isLt
  rw [hf, BitVec.ofInt_natCast, BitVec.ofInt_natCast, IntKind.wrap_u32]
  omega
@[go_sem] theorem bits_uX (x y : UInt32) : bits .xor .u32 (x.toNat : Int) (y.toNat : Int) = ((uX x y).toNat : Int) := by
  rw [bits32 .xor _ _ x.toNat_lt y.toNat_lt (· ^^^ ·) (fun _ _ => rfl)]
  unfold uX
  rw [BitVec.toNat_xor, UInt32.toNat_xor, BitVec.toNat_ofNat, BitVec.toNat_ofNat, Nat.mod_eq_of_lt x.toNat_lt, Nat.mod_eq_of_lt y.toNat_lt]
@[go_sem] theorem bits_uN (x y : UInt32) : bits .and .u32 (x.toNat : Int) (y.toNat : Int) = ((uN x y).toNat : Int) := by
  rw [bits32 .and _ _ x.toNat_lt y.toNat_lt (· &&& ·) (fun _ _ => rfl)]
  unfold uN
  rw [BitVec.toNat_and, UInt32.toNat_and, BitVec.toNat_ofNat, BitVec.toNat_ofNat, Nat.mod_eq_of_lt x.toNat_lt, Nat.mod_eq_of_lt y.toNat_lt]
@[go_sem] theorem bits_uO (x y : UInt32) : bits .or .u32 (x.toNat : Int) (y.toNat : Int) = ((uO x y).toNat : Int) := by
  rw [bits32 .or _ _ x.toNat_lt y.toNat_lt (· ||| ·) (fun _ _ => rfl)]
  unfold uO
  rw [BitVec.toNat_or, UInt32.toNat_or, BitVec.toNat_ofNat, BitVec.toNat_ofNat, Nat.mod_eq_of_lt x.toNat_lt, Nat.mod_eq_of_lt y.toNat_lt]
@[go_sem] theorem bits_uC (x : UInt32) : bits .xor .u32 (if IntKind.u32.signed = true then -1 else IntKind.u32.max) (x.toNat : Int) = ((uC x).toNat : Int) := by
  rw [show (if IntKind.u32.signed = true then (-1 : Int) else IntKind.u32.max) = ((4294967295 : Nat) : Int) from rfl, bits32 .xor _ _ (by decide) x.toNat_lt (· ^^^ ·) (fun _ _ => rfl)]
  unfold uC
  congr 1
  rw [UInt32.toNat_not, BitVec.toNat_xor, BitVec.toNat_ofNat, BitVec.toNat_ofNat, Nat.mod_eq_of_lt x.toNat_lt]
  have h := x.toNat_lt
  have e : (x.toNat ^^^ (2 ^ 32 - 1)) = 2 ^ 32 - 1 - x.toNat := by
    have := BitVec.toNat_not (x := BitVec.ofNat 32 x.toNat)
    rw [BitVec.not_def] at this
    simpa [BitVec.toNat_xor, Nat.mod_eq_of_lt h, Nat.xor_comm] using this
  rw [Nat.xor_comm]
  exact e
@[go_sem] theorem add_uA (x y : UInt32) : ((x.toNat : Int) + (y.toNat : Int)) % 4294967296 = ((uA x y).toNat : Int) := by
  unfold uA
  rw [UInt32.toNat_add, Int.natCast_emod, Int.natCast_add]
  rfl
@[go_sem] theorem wrap_uA (x y : UInt32) : IntKind.u32.wrap ((x.toNat : Int) + (y.toNat : Int)) = ((uA x y).toNat : Int) := by
  rw [IntKind.wrap_u32, add_uA]
theorem div_uS (x : UInt32) (n : Nat) : (x.toNat : Int) / 2 ^ n = ((uS x n).toNat : Int) := by
  unfold uS
  have h : x.toNat / 2 ^ n < 4294967296 := Nat.lt_of_le_of_lt (Nat.div_le_self _ _) x.toNat_lt
  rw [UInt32.toNat_ofNat', Nat.mod_eq_of_lt h, Int.natCast_ediv, Int.natCast_pow]
  rfl
@[go_sem] theorem div_uS3 (x : UInt32) : (x.toNat : Int) / 8 = ((uS x 3).toNat : Int) := div_uS x 3
@[go_sem] theorem div_uS10 (x : UInt32) : (x.toNat : Int) / 1024 = ((uS x 10).toNat : Int) := div_uS x 10
theorem rotl_any (x : UInt32) (n : Nat) (w : World) (h1 : 1 ≤ n) (h2 : n ≤ 31) : Calls Tryd.prog 40 #[V x, .int .i64 (-(n : Int))] w fun e w' => e = .returned (V (rr x n)) ∧ w' = w := by
  have e1 : IntKind.u64.wrap (-(n : Int)) = ((18446744073709551616 - n : Nat) : Int) := by rw [IntKind.wrap_u64]; omega
  have e2 : bits .and .u64 ((18446744073709551616 - n : Nat) : Int) 31 = ((32 - n : Nat) : Int) := by
    have := bits_and_u64_nat (18446744073709551616 - n) 31 (by omega) (by omega)
    rw [show (31 : Int) = ((31 : Nat) : Int) from rfl, this]
    congr 1
    rw [show (31 : Nat) = 2 ^ 5 - 1 from rfl, Nat.and_two_pow_sub_one_eq_mod]
    omega
  have e3 : (x.toNat : Int) * 2 ^ (32 - n) % 4294967296 = ((UInt32.ofNat (x.toNat * 2 ^ (32 - n))).toNat : Int) := by
    rw [UInt32.toNat_ofNat', Int.natCast_emod, Int.natCast_mul, Int.natCast_pow]; rfl
  have e4 : (x.toNat : Int) / 2 ^ (32 - (32 - n)) = ((uS x n).toNat : Int) := by rw [show 32 - (32 - n) = n by omega]; exact div_uS x n
  obtain ⟨y, hy⟩ : ∃ y, y = UInt32.ofNat (x.toNat * 2 ^ (32 - n)) := ⟨_, rfl⟩
  rw [← hy] at e3
  have HY := Lib.hid hy
  clear hy
  go_enter Tryd.func40, Tryd.ntmps40
  go_wp2_with fail
  go_ret
  exact ⟨by rw [HY.out]; rfl, rfl⟩
theorem turned_any (x : UInt32) (n : Nat) (w : World) (h1 : 1 ≤ n) (h2 : n ≤ 31) : Calls Tryd.prog 36 #[V x, .int .i64 n] w fun e w' => e = .returned (V (rr x n)) ∧ w' = w := by
  have e1 : IntKind.i64.wrap (-(n : Int)) = -(n : Int) := by rw [IntKind.wrap_i64]; omega
  go_enter Tryd.func36, Tryd.ntmps36
  go_wp2_with fail
  refine (rotl_any x n w h1 h2).mono ?_
  rintro e w1 ⟨rfl, rfl⟩
  go_wp2_with fail
  go_ret
  exact ⟨rfl, rfl⟩
end Go.Proofs.YtmdalmegogfanaaDoor
