/- The cutter's numbers. -/
import Derived.Test.YtfldoihindbdmaaS8
import Derived.Laws.BitsAllLaws
namespace Go.Proofs.Ytfldoihindbdmaa
open Go.RowKit
set_option maxRecDepth 100000
/-- The number of bytes, the greatest first. -/
def val (l : List UInt8) : Nat := l.foldl (fun n b => 256 * n + b.toNat) 0
theorem val_take (l : List UInt8) (k : Nat) (h : k < l.length) : val (l.take (k + 1)) = 256 * val (l.take k) + (l[k]).toNat := by
  rw [List.take_succ_eq_append_getElem h, val, List.foldl_append]
  rfl
theorem or8 (v b : Nat) (hv : v < 2 ^ 56) (hb : b < 256) : bits .or .u64 ((v : Int) * 256) (b : Int) = ((256 * v + b : Nat) : Int) := by
  have h := u64_or_nat (v * 256) b (by omega) (by omega)
  rw [nat_join 8 (v * 256) b (by omega) (by omega)] at h
  rw [show ((v : Int) * 256) = ((v * 256 : Nat) : Int) by omega, h]
  congr 1; omega
theorem val_lt (l : List UInt8) : val l < 256 ^ l.length := by
  have key : ∀ (l : List UInt8) (n : Nat), l.foldl (fun n b => 256 * n + b.toNat) n < 256 ^ l.length * (n + 1) := by
    intro l
    induction l with
    | nil => intro n; simp
    | cons b l ih =>
      intro n
      have := ih (256 * n + b.toNat)
      have hb := b.toNat_lt
      simp only [List.foldl_cons, List.length_cons, Nat.pow_succ]
      refine Nat.lt_of_lt_of_le this ?_
      rw [Nat.mul_assoc]
      exact Nat.mul_le_mul_left _ (by omega)
  have := key l 0
  simpa [val] using this
theorem num_good (g N c : Nat) (A : Option Addr) (l : List UInt8) (m : Nat) (w : World) (h : bk w g = some (cut A N c true)) (hr : Rd w g A l) (hl : l.length = m) (h1 : 1 ≤ m) (h8 : m ≤ 8) (hm : m ≤ N) (hN : N ≤ c) :
    Calls Try.prog 56 #[.pointer (some ⟨g, 0, none⟩), .int .i64 m] w fun e w' => e = .returned (.int .u64 (val l)) ∧
      Chg g (cut (adv A c m) (N - m) (c - m) true) w w' := by
  have C := Lib.hid (take_good g N c A m w h hm hN)
  have HR := Lib.hid hr
  have HL := Lib.hid hl
  clear h hr hm hN hl
  have d1 : decide ((m : Int) < 1) = false := by simp; omega
  have d2 : decide (8 < (m : Int)) = false := by simp; omega
  have d3 : decide (m < 1) = false := by simp; omega
  have d4 : decide (8 < m) = false := by simp; omega
  go_enter Try.func56, Try.ntmps56
  go_wp2_with fail
  refine (C.out).mono ?_
  rintro e w1 ⟨rfl, b1⟩
  have HB := Lib.hid b1
  have hr1 : Rd w1 g A l := HR.out.below (b1.below (Nat.le_refl _)) (Nat.le_refl _)
  have HR1 := Lib.hid hr1
  clear b1 C hr1 HR
  go_wp2
  go_loopw [4, 17] (fun x i w' => ∃ k : Nat, k ≤ m ∧ i = .int .i64 k ∧ x = .int .u64 (val (l.take k)) ∧ w1 = w') (fun _ i _ => m - (intOf i).toNat)
  case atStart => exact ⟨0, by omega, by go_num, rfl, rfl⟩
  case round =>
    obtain ⟨k, hk, rfl, rfl, rfl⟩ := hrel
    by_cases hlt : k < m
    · have hkl : k < l.length := by rw [HL.out]; exact hlt
      have e5 : decide ((k : Int) < (m : Int)) = true := by simp; omega
      obtain ⟨b1, o1, rfl, hb1, hc1⟩ := HR1.out.at hkl
      obtain ⟨y, hy⟩ : ∃ y, y = l[k] := ⟨_, rfl⟩
      obtain ⟨v, hv⟩ : ∃ v, v = val (l.take k) := ⟨_, rfl⟩
      have hv2 : val (l.take (k + 1)) = 256 * v + y.toNat := by rw [hv, hy]; exact val_take l k hkl
      have hv1 : v < 256 ^ 7 := by
        rw [hv]
        refine Nat.lt_of_lt_of_le (val_lt _) (Nat.pow_le_pow_right (by omega) ?_)
        rw [List.length_take]; omega
      have hyl := y.toNat_lt
      rw [← hy] at hc1
      rw [← hv]
      simp only [Nat.reducePow] at hv1
      have HV2 := Lib.hid hv2
      clear hv2 hv hy
      go_wp2
      go_roundw
      case rel => exact ⟨k + 1, by omega, by go_num, by rw [HV2.out, or8 v y.toNat (by omega) hyl], by trivial⟩
      case measure => simp [intOf]; omega
    · have e5 : decide ((k : Int) < (m : Int)) = false := by simp; omega
      have e6 : val (l.take k) = val l := by rw [List.take_of_length_le]; have := HL.out; omega
      rw [e6]
      have e7 : decide (k < m) = false := by simp; omega
      clear e6 hlt
      go_wp2
      go_ret
      exact ⟨rfl, HB.out⟩
theorem num_take (g N c : Nat) (A : Option Addr) (f : Bool) (m : Int) (w : World) (h : bk w g = some (cut A N c f)) (hm : f = false ∨ m < 1 ∨ 8 < m ∨ (N : Int) < m) :
    Calls Try.prog 56 #[.pointer (some ⟨g, 0, none⟩), .int .i64 m] w fun e w' => e = .returned (.int .u64 0) ∧ Chg g (cut none 0 0 false) w w' := by
  obtain ⟨m', hm'⟩ : ∃ m' : Int, m' = if m < 1 ∨ 8 < m then -1 else m := ⟨_, rfl⟩
  have C := Lib.hid (take_bad g N c A f m' w h (by rcases hm with h | h | h | h <;> (rw [hm']; split <;> first | exact .inl h | (exact .inr (.inl (by omega))) | (exact .inr (.inr h)) | omega)))
  clear h hm
  by_cases h1 : m < 1
  · have d1 : decide (m < 1) = true := by simpa using h1
    rw [if_pos (.inl h1)] at hm'
    subst hm'
    go_enter Try.func56, Try.ntmps56
    go_wp2_with fail
    refine (C.out).mono ?_
    rintro e w1 ⟨rfl, b1⟩
    have HB := Lib.hid b1
    clear b1 C
    go_wp2
    go_loopw [4, 17] (fun x i w' => x = .int .u64 0 ∧ i = .int .i64 0 ∧ w1 = w') (fun _ i _ => 0)
    case atStart => exact ⟨rfl, rfl, rfl⟩
    case round =>
      obtain ⟨rfl, rfl, rfl⟩ := hrel
      go_wp2
      go_ret
      exact ⟨rfl, HB.out⟩
  · have d1 : decide (m < 1) = false := by simpa using h1
    by_cases h2 : 8 < m
    · have d2 : decide (8 < m) = true := by simpa using h2
      rw [if_pos (.inr h2)] at hm'
      subst hm'
      go_enter Try.func56, Try.ntmps56
      go_wp2_with fail
      refine (C.out).mono ?_
      rintro e w1 ⟨rfl, b1⟩
      have HB := Lib.hid b1
      clear b1 C
      go_wp2
      go_loopw [4, 17] (fun x i w' => x = .int .u64 0 ∧ i = .int .i64 0 ∧ w1 = w') (fun _ i _ => 0)
      case atStart => exact ⟨rfl, rfl, rfl⟩
      case round =>
        obtain ⟨rfl, rfl, rfl⟩ := hrel
        go_wp2
        go_ret
        exact ⟨rfl, HB.out⟩
    · have d2 : decide (8 < m) = false := by simpa using h2
      rw [if_neg (by omega)] at hm'
      subst hm'
      go_enter Try.func56, Try.ntmps56
      go_wp2_with fail
      refine (C.out).mono ?_
      rintro e w1 ⟨rfl, b1⟩
      have HB := Lib.hid b1
      clear b1 C
      go_wp2
      go_loopw [4, 17] (fun x i w' => x = .int .u64 0 ∧ i = .int .i64 0 ∧ w1 = w') (fun _ i _ => 0)
      case atStart => exact ⟨rfl, rfl, rfl⟩
      case round =>
        obtain ⟨rfl, rfl, rfl⟩ := hrel
        go_wp2
        go_ret
        exact ⟨rfl, HB.out⟩
end Go.Proofs.Ytfldoihindbdmaa
