/- Infos: times, parts of a time. -/
import Derived.Test.YtfldoihindbdmaaS24
namespace Go.Proofs.Ytfldoihindbdmaa
open Go.RowKit
set_option maxRecDepth 100000
set_option maxHeartbeats 1000000
def far : Nat := 9223372036854775807
def addT (a b : Nat) : Nat := if a > far ∨ b > far ∨ a + b > far then far else a + b
theorem addT_le (a b : Nat) : addT a b ≤ far := by unfold addT; split <;> omega
theorem addT_eq {a b : Nat} (h : a + b ≤ far) : addT a b = a + b := by unfold addT; rw [if_neg (by omega)]
theorem cadd_any (a b : Nat) (w : World) (ha : a < 2 ^ 64) (hb : b < 2 ^ 64) : Calls Try.prog 29 #[.int .u64 (a : Int), .int .u64 (b : Int)] w fun e w' => e = .returned (.int .u64 (addT a b : Nat)) ∧ w = w' := by
  obtain ⟨r, hr⟩ : ∃ r, r = addT a b := ⟨_, rfl⟩
  rw [← hr]
  unfold addT far at hr
  by_cases h1 : a > 9223372036854775807
  · rw [if_pos (by omega)] at hr
    subst hr
    have d1 : decide ((9223372036854775807 : Int) < (a : Int)) = true := by simp; omega
    have d2 : decide (9223372036854775807 < a) = true := by simp; omega
    go_enter Try.func29, Try.ntmps29
    go_wp2_with fail
    go_ret
    exact ⟨rfl, rfl⟩
  have d1 : decide ((9223372036854775807 : Int) < (a : Int)) = false := by simp; omega
  have d2 : decide (9223372036854775807 < a) = false := by simp; omega
  by_cases h2 : b > 9223372036854775807
  · rw [if_pos (by omega)] at hr
    subst hr
    have d3 : decide ((9223372036854775807 : Int) < (b : Int)) = true := by simp; omega
    have d4 : decide (9223372036854775807 < b) = true := by simp; omega
    go_enter Try.func29, Try.ntmps29
    go_wp2_with fail
    go_ret
    exact ⟨rfl, rfl⟩
  have d3 : decide ((9223372036854775807 : Int) < (b : Int)) = false := by simp; omega
  have d4 : decide (9223372036854775807 < b) = false := by simp; omega
  obtain ⟨x, hx⟩ : ∃ x, x = 9223372036854775807 - b := ⟨_, rfl⟩
  have m1 : ((9223372036854775807 : Int) - (b : Int)) % 18446744073709551616 = (x : Int) := by omega
  by_cases h3 : a + b > 9223372036854775807
  · rw [if_pos (by omega)] at hr
    subst hr
    have d5 : decide ((x : Int) < (a : Int)) = true := by simp; omega
    have d6 : decide (x < a) = true := by simp; omega
    clear hx
    go_enter Try.func29, Try.ntmps29
    go_wp2_with fail
    go_ret
    exact ⟨rfl, rfl⟩
  · rw [if_neg (by omega)] at hr
    have d5 : decide ((x : Int) < (a : Int)) = false := by simp; omega
    have d6 : decide (x < a) = false := by simp; omega
    clear hx
    go_enter Try.func29, Try.ntmps29
    go_wp2_with fail
    go_ret
    subst hr
    exact ⟨rfl, rfl⟩
def secT (n : Nat) : Nat := if n = 4294967295 then far else 1000 * n
theorem csecs_any (n : Nat) (w : World) (hn : n < 4294967296) : Calls Try.prog 30 #[.int .u32 (n : Int)] w fun e w' => e = .returned (.int .u64 (secT n : Nat)) ∧ w = w' := by
  obtain ⟨r, hr⟩ : ∃ r, r = secT n := ⟨_, rfl⟩
  rw [← hr]
  unfold secT far at hr
  by_cases h1 : n = 4294967295
  · rw [if_pos h1] at hr
    subst hr h1
    go_enter Try.func30, Try.ntmps30
    go_wp2_with fail
    go_ret
    exact ⟨rfl, rfl⟩
  · rw [if_neg h1] at hr
    have d1 : ((n : Int) == 4294967295) = false := beq_eq_false_iff_ne.2 (by omega)
    go_enter Try.func30, Try.ntmps30
    go_wp2_with fail
    go_ret
    exact ⟨by rw [hr, show ((1000 * n : Nat) : Int) = (n : Int) * 1000 by omega]; rfl, rfl⟩
/-- A part of a time: r thousandths more. -/
def partT (t : Nat) (r : Int) : Nat := ((t : Int) + ((t : Int) * r).tdiv 1000).toNat
theorem partT_eq (t : Nat) (r : Int) (hr : -100 ≤ r ∧ r ≤ 100) : ((t : Int) + ((t : Int) * r).tdiv 1000) = (partT t r : Int) ∧ 9 * t ≤ 10 * partT t r ∧ 10 * partT t r ≤ 11 * t := by
  have h1 : (t : Int) * r ≤ (t : Int) * 100 := Int.mul_le_mul_of_nonneg_left hr.2 (by omega)
  have h2 : (t : Int) * (-100) ≤ (t : Int) * r := Int.mul_le_mul_of_nonneg_left hr.1 (by omega)
  obtain ⟨z, hz⟩ : ∃ z, z = (t : Int) * r := ⟨_, rfl⟩
  unfold partT
  rw [← hz] at h1 h2 ⊢
  rcases Int.le_total 0 z with h | h
  · rw [Int.tdiv_eq_ediv_of_nonneg h]
    omega
  · obtain ⟨y, hy⟩ := Int.exists_eq_neg_ofNat h
    rw [hy, Int.neg_tdiv, Int.tdiv_eq_ediv_of_nonneg (by omega)]
    omega
theorem part_any (t : Nat) (r : Int) (w : World) (ht : t ≤ 3600000) (hr : -100 ≤ r ∧ r ≤ 100) : Calls Try.prog 63 #[.int .u64 (t : Int), .int .i64 r] w fun e w' => e = .returned (.int .u64 (partT t r : Nat)) ∧ w = w' := by
  have hp := partT_eq t r hr
  have h1 : (t : Int) * r ≤ (t : Int) * 100 := Int.mul_le_mul_of_nonneg_left hr.2 (by omega)
  have h2 : (t : Int) * (-100) ≤ (t : Int) * r := Int.mul_le_mul_of_nonneg_left hr.1 (by omega)
  obtain ⟨z, hz⟩ : ∃ z, z = (t : Int) * r := ⟨_, rfl⟩
  obtain ⟨p, hpp⟩ : ∃ p, p = partT t r := ⟨_, rfl⟩
  rw [← hz] at h1 h2 hp
  rw [← hpp] at hp ⊢
  obtain ⟨y, hy⟩ : ∃ y, y = z.tdiv 1000 := ⟨_, rfl⟩
  rw [← hy] at hp
  have w0 : wrap64 (t : Int) = (t : Int) := by unfold wrap64; omega
  have w1 : wrap64 ((t : Int) * r) = z := by rw [← hz]; unfold wrap64; omega
  have w2 : wrap64 y = y := by unfold wrap64; omega
  have w3 : wrap64 ((t : Int) + y) = (p : Int) := by unfold wrap64; omega
  have w4 : (p : Int) % 18446744073709551616 = (p : Int) := by omega
  have HY := Lib.hid hy
  clear hz hpp hy h1 h2 hp
  have w5 := HY.out.symm
  go_enter Try.func63, Try.ntmps63
  go_wp2_with fail
  go_ret
  exact ⟨rfl, rfl⟩
end Go.Proofs.Ytfldoihindbdmaa
