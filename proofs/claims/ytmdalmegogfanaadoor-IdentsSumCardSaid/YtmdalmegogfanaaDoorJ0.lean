/- The document's hash: words turned; roots. -/
import Derived.Test.YtmdalmegogfanaaDoorI1
import Derived.Test.YtmdalmegogfanaaDoorShelf
namespace Go.Proofs.YtmdalmegogfanaaDoor
open Go.RowKit
set_option maxRecDepth 100000
/-- A word turned is a sum, too. -/
theorem rr_add (x : UInt32) (n : Nat) (h2 : n ≤ 32) : uA (uS x n) (UInt32.ofNat (x.toNat * 2 ^ (32 - n))) = rr x n := by
  have hx := x.toNat_lt
  obtain ⟨m, hm⟩ : ∃ m, m = 2 ^ (32 - n) := ⟨_, rfl⟩
  obtain ⟨q, hq⟩ : ∃ q, q = 2 ^ n := ⟨_, rfl⟩
  have hmq : m * q = 2 ^ 32 := by rw [hm, hq, ← Nat.pow_add]; congr 1; omega
  have hq0 : 0 < q := by rw [hq]; exact Nat.pow_pos (by decide)
  have hm0 : 0 < m := by rw [hm]; exact Nat.pow_pos (by decide)
  have hlo : x.toNat / q < m := Nat.div_lt_of_lt_mul (by rw [Nat.mul_comm, hmq]; exact hx)
  have hhi : x.toNat * m % 2 ^ 32 = m * (x.toNat % q) := by rw [← hmq, Nat.mul_comm, Nat.mul_mod_mul_left]
  have hsum : m * (x.toNat % q) + x.toNat / q < 2 ^ 32 := by
    have h1 : x.toNat % q + 1 ≤ q := Nat.mod_lt _ hq0
    have h3 := Nat.mul_le_mul_left m h1
    rw [Nat.mul_add, hmq] at h3
    omega
  have hor : m * (x.toNat % q) ||| x.toNat / q = m * (x.toNat % q) + x.toNat / q := nat_join (32 - n) _ _ (by rw [← hm]; exact Nat.mul_mod_right _ _) (by rw [← hm]; exact hlo)
  apply UInt32.toNat_inj.1
  unfold rr uA uO uS
  rw [UInt32.toNat_add, UInt32.toNat_or, UInt32.toNat_ofNat', UInt32.toNat_ofNat', ← hm, ← hq, hhi, Nat.mod_eq_of_lt (Nat.lt_of_lt_of_le (Nat.lt_of_le_of_lt (Nat.div_le_self _ _) hx) (by decide)), hor, Nat.add_comm, Nat.mod_eq_of_lt hsum]
theorem right_any (x : UInt32) (n : Nat) (w : World) (h1 : 1 ≤ n) (h2 : n ≤ 31) : Calls Tryd.prog 30 #[V x, .int .i64 n] w fun e w' => e = .returned (V (rr x n)) ∧ Below w.heap.size w w' := by
  have e1 : IntKind.i64.wrap (32 - (n : Int)) = ((32 - n : Nat) : Int) := by rw [IntKind.wrap_i64]; omega
  have e3 : (x.toNat : Int) * 2 ^ (32 - n) % 4294967296 = ((UInt32.ofNat (x.toNat * 2 ^ (32 - n))).toNat : Int) := by
    rw [UInt32.toNat_ofNat', Int.natCast_emod, Int.natCast_mul, Int.natCast_pow]; rfl
  have e4 : (x.toNat : Int) / 2 ^ n = ((uS x n).toNat : Int) := div_uS x n
  have hr := rr_add x n (by omega)
  obtain ⟨y, hy⟩ : ∃ y, y = UInt32.ofNat (x.toNat * 2 ^ (32 - n)) := ⟨_, rfl⟩
  rw [← hy] at e3 hr
  have HR := Lib.hid hr
  clear hy hr
  go_enter Tryd.func30, Tryd.ntmps30
  go_wp2_with fail
  refine wp_region_later (w.heap.size) (by kernel_rfl) (by kernel_rfl) ?_
  repeat (go_big_quiet_step (fail))
  (first | refine wpQuiet_nil ?_ | (go_big_quiet_want; (try go_big_quiet_op); trace_state; fail))
  intro w1 hw'
  have q1 := later_elim hw'
  clear hw'
  go_wp2_with fail
  go_ret
  exact ⟨by first | rfl | (rw [← HR.out]; rfl), q1⟩
/-- Roots, bit by bit. -/
def sqT (p t : Nat) : Bool := decide (t * t / 18446744073709551616 < p) || (decide (t * t / 18446744073709551616 = p) && decide (t * t % 18446744073709551616 = 0))
def root (T : Nat → Bool) : Nat → Nat → Nat
  | 0, x => x
  | k + 1, x => root T k (if T (x + 2 ^ k) then x + 2 ^ k else x)
theorem root_zero (T : Nat → Bool) (x : Nat) : root T 0 x = x := rfl
theorem root_succ (T : Nat → Bool) (k x : Nat) : root T (k + 1) x = root T k (if T (x + 2 ^ k) then x + 2 ^ k else x) := rfl
set_option maxHeartbeats 1000000 in
theorem square_any (p : Nat) (w : World) (_hp : p < 1000) : Calls Tryd.prog 29 #[.int .u64 p] w fun e w' => e = .returned (.int .u32 ((root (sqT p) 37 0 % 4294967296 : Nat) : Int)) ∧ Below w.heap.size w w' := by
  obtain ⟨Z, hZ⟩ : ∃ Z, root (sqT p) 37 0 = Z := ⟨_, rfl⟩
  rw [hZ]
  have HZ := Lib.hid hZ
  clear hZ
  go_enter Tryd.func29, Tryd.ntmps29
  go_wp2_with fail
  go_loopw [3, 4] (fun x i wr => ∃ (y k : Nat), k ≤ 37 ∧ y + 2 ^ k ≤ 2 ^ 37 ∧ Hid (root (sqT p) k y = Z) ∧ x = .int .u64 y ∧ i = .int .i64 ((k : Int) - 1) ∧ Below w.heap.size w wr) (fun _ i _ => (intOf i + 1).toNat)
  case atStart => exact ⟨0, 37, Nat.le_refl _, Nat.le_of_eq (Nat.zero_add _), HZ, rfl, rfl, Below.refl _ _⟩
  case round =>
    obtain ⟨y, k, hk, hy, HT, rfl, rfl, hbel⟩ := hrel
    cases k with
    | zero =>
      have hyl : y % 4294967296 < 4294967296 := Nat.mod_lt _ (by decide)
      have wy : (y : Int) % 4294967296 = ((y % 4294967296 : Nat) : Int) := by omega
      go_wp2_with fail
      go_ret
      have hT := HT.out
      rw [root_zero] at hT
      exact ⟨by rw [← hT, ← wy]; rfl, hbel⟩
    | succ k =>
      have e0 : ((k + 1 : Nat) : Int) - 1 = (k : Int) := by omega
      rw [e0]
      have hpk : 2 ^ (k + 1) = 2 * 2 ^ k := by rw [Nat.pow_succ, Nat.mul_comm]
      obtain ⟨b, hb⟩ : ∃ b, b = 2 ^ k := ⟨_, rfl⟩
      have hkl : k < 64 := by omega
      have e1 : (2 : Int) ^ k = (b : Int) := by rw [hb]; exact (Int.natCast_pow 2 k).symm
      rw [hpk, ← hb] at hy
      have e2 : IntKind.u64.wrap (b : Int) = (b : Int) := by rw [IntKind.wrap_u64]; omega
      obtain ⟨t, ht⟩ : ∃ t, t = y + b := ⟨_, rfl⟩
      have e3 : IntKind.u64.wrap ((y : Int) + (b : Int)) = (t : Int) := by rw [IntKind.wrap_u64]; omega
      have hT := HT.out
      rw [root_succ, ← hb, ← ht] at hT
      have htl : t < 18446744073709551616 := by omega
      have M := Tryd.bits_Mul64 t t htl htl
      have hS : sqT p t = (decide (t * t / 18446744073709551616 < p) || (decide (t * t / 18446744073709551616 = p) && decide (t * t % 18446744073709551616 = 0))) := rfl
      rw [hS] at hT
      clear hS
      generalize hhi : t * t / 18446744073709551616 = hi at M hT
      generalize hlo : t * t % 18446744073709551616 = lo at M hT
      have d0 : decide ((hi : Int) < (p : Int)) = decide (hi < p) := by congr 1; simp
      have d1 : ((hi : Int) == (p : Int)) = decide (hi = p) := by rw [Bool.eq_iff_iff]; simp <;> omega
      have d2 : ((lo : Int) == 0) = decide (lo = 0) := by rw [Bool.eq_iff_iff]; simp <;> omega
      generalize decide (hi < p) = y0 at *
      generalize decide (hi = p) = y1 at *
      generalize decide (lo = 0) = y2 at *
      have HT' := Lib.hid hT
      have HM := Lib.hid M
      have HB := Lib.hid hb
      have HTT := Lib.hid ht
      clear hb hpk e0 hT M hhi hlo HT ht
      cases y0
      · have f0 : p ≤ hi := by simpa using d0
        have f1 : ¬ hi < p := by omega
        cases y1
        ·
          go_wp2_with fail
          refine (HM.out wr).mono ?_
          rintro e w1 ⟨rfl, rfl⟩
          go_wp2_with fail
          exact ⟨⟨y, k, by omega, by have := HTT.out; rw [← HB.out]; omega, HT', rfl, rfl, hbel⟩, by simp [intOf]⟩
        · cases y2
          ·
            go_wp2_with fail
            refine (HM.out wr).mono ?_
            rintro e w1 ⟨rfl, rfl⟩
            go_wp2_with fail
            exact ⟨⟨y, k, by omega, by have := HTT.out; rw [← HB.out]; omega, HT', rfl, rfl, hbel⟩, by simp [intOf]⟩
          ·
            go_wp2_with fail
            refine (HM.out wr).mono ?_
            rintro e w1 ⟨rfl, rfl⟩
            go_wp2_with fail
            exact ⟨⟨t, k, by omega, by have := HTT.out; rw [← HB.out]; omega, HT', rfl, rfl, hbel⟩, by simp [intOf]⟩
      · have f1 : hi < p := by simpa using d0
        have f0 : ¬ p ≤ hi := by omega
        go_wp2_with fail
        refine (HM.out wr).mono ?_
        rintro e w1 ⟨rfl, rfl⟩
        go_wp2_with fail
        exact ⟨⟨t, k, by omega, by have := HTT.out; rw [← HB.out]; omega, HT', rfl, rfl, hbel⟩, by simp [intOf]⟩
def cbT (p t : Nat) : Bool :=
  let s := (t * t % 18446744073709551616) * t / 18446744073709551616 + t * t / 18446744073709551616 * t
  decide (s < p * 4294967296) || (decide (s = p * 4294967296) && decide ((t * t % 18446744073709551616) * t % 18446744073709551616 = 0))
set_option maxHeartbeats 1000000 in
theorem cube_any (p : Nat) (w : World) (hp : p < 1000) : Calls Tryd.prog 28 #[.int .u64 p] w fun e w' => e = .returned (.int .u32 ((root (cbT p) 37 0 % 4294967296 : Nat) : Int)) ∧ Below w.heap.size w w' := by
  obtain ⟨Z, hZ⟩ : ∃ Z, root (cbT p) 37 0 = Z := ⟨_, rfl⟩
  rw [hZ]
  have HZ := Lib.hid hZ
  clear hZ
  go_enter Tryd.func28, Tryd.ntmps28
  go_wp2_with fail
  go_loopw [3, 4] (fun x i wr => ∃ (y k : Nat), k ≤ 37 ∧ y + 2 ^ k ≤ 2 ^ 37 ∧ Hid (root (cbT p) k y = Z) ∧ x = .int .u64 y ∧ i = .int .i64 ((k : Int) - 1) ∧ Below w.heap.size w wr) (fun _ i _ => (intOf i + 1).toNat)
  case atStart => exact ⟨0, 37, Nat.le_refl _, Nat.le_of_eq (Nat.zero_add _), HZ, rfl, rfl, Below.refl _ _⟩
  case round =>
    obtain ⟨y, k, hk, hy, HT, rfl, rfl, hbel⟩ := hrel
    cases k with
    | zero =>
      have hyl : y % 4294967296 < 4294967296 := Nat.mod_lt _ (by decide)
      have wy : (y : Int) % 4294967296 = ((y % 4294967296 : Nat) : Int) := by omega
      go_wp2_with fail
      go_ret
      have hT := HT.out
      rw [root_zero] at hT
      exact ⟨by rw [← hT, ← wy]; rfl, hbel⟩
    | succ k =>
      have e0 : ((k + 1 : Nat) : Int) - 1 = (k : Int) := by omega
      rw [e0]
      have hpk : 2 ^ (k + 1) = 2 * 2 ^ k := by rw [Nat.pow_succ, Nat.mul_comm]
      obtain ⟨b, hb⟩ : ∃ b, b = 2 ^ k := ⟨_, rfl⟩
      have hkl : k < 64 := by omega
      have e1 : (2 : Int) ^ k = (b : Int) := by rw [hb]; exact (Int.natCast_pow 2 k).symm
      rw [hpk, ← hb] at hy
      have e2 : IntKind.u64.wrap (b : Int) = (b : Int) := by rw [IntKind.wrap_u64]; omega
      obtain ⟨t, ht⟩ : ∃ t, t = y + b := ⟨_, rfl⟩
      have e3 : IntKind.u64.wrap ((y : Int) + (b : Int)) = (t : Int) := by rw [IntKind.wrap_u64]; omega
      have hT := HT.out
      rw [root_succ, ← hb, ← ht] at hT
      have htl : t < 18446744073709551616 := by omega
      have M := Tryd.bits_Mul64 t t htl htl
      have htt : t * t ≤ 18889465931478580854784 := by
        have h1 : t ≤ 137438953472 := by omega
        have h2 := Nat.mul_le_mul h1 h1
        omega
      have hS : cbT p t = (decide ((t * t % 18446744073709551616) * t / 18446744073709551616 + t * t / 18446744073709551616 * t < p * 4294967296) || (decide ((t * t % 18446744073709551616) * t / 18446744073709551616 + t * t / 18446744073709551616 * t = p * 4294967296) && decide ((t * t % 18446744073709551616) * t % 18446744073709551616 = 0))) := rfl
      rw [hS] at hT
      clear hS
      have hhl : t * t / 18446744073709551616 ≤ 1024 := by omega
      have hll : t * t % 18446744073709551616 < 18446744073709551616 := Nat.mod_lt _ (by decide)
      generalize t * t / 18446744073709551616 = hi at M hT hhl
      generalize t * t % 18446744073709551616 = lo at M hT hll
      have M2 := Tryd.bits_Mul64 lo t hll htl
      have hl2 : lo * t / 18446744073709551616 < 137438953472 := by
        refine Nat.div_lt_of_lt_mul ?_
        have h1 : t ≤ 137438953472 := by omega
        have h2 : lo ≤ 18446744073709551615 := by omega
        have h3 := Nat.mul_le_mul h2 h1
        omega
      have hht : hi * t ≤ 140737488355328 := by
        have h1 : t ≤ 137438953472 := by omega
        have h2 : hi ≤ 1024 := by omega
        have h3 := Nat.mul_le_mul h2 h1
        omega
      generalize lo * t / 18446744073709551616 = h2 at M2 hT hl2
      generalize lo * t % 18446744073709551616 = l2 at M2 hT
      obtain ⟨m, hm⟩ : ∃ m, m = hi * t := ⟨_, rfl⟩
      obtain ⟨s, hs⟩ : ∃ s, s = h2 + m := ⟨_, rfl⟩
      rw [← hm] at hht
      rw [← hm, ← hs] at hT
      have e5 : (hi : Int) * (t : Int) = (m : Int) := by rw [hm]; exact (Int.natCast_mul hi t).symm
      have e6 : IntKind.u64.wrap (m : Int) = (m : Int) := by rw [IntKind.wrap_u64]; omega
      have e7 : IntKind.u64.wrap ((h2 : Int) + (m : Int)) = (s : Int) := by rw [IntKind.wrap_u64]; omega
      obtain ⟨q, hq⟩ : ∃ q, q = p * 4294967296 := ⟨_, rfl⟩
      have e8 : (p : Int) * 4294967296 = (q : Int) := by omega
      have e9 : IntKind.u64.wrap (q : Int) = (q : Int) := by rw [IntKind.wrap_u64]; omega
      rw [← hq] at hT
      have d0 : decide ((s : Int) < (q : Int)) = decide (s < q) := by congr 1; simp
      have d1 : ((s : Int) == (q : Int)) = decide (s = q) := by rw [Bool.eq_iff_iff]; simp <;> omega
      have d2 : ((l2 : Int) == 0) = decide (l2 = 0) := by rw [Bool.eq_iff_iff]; simp <;> omega
      generalize decide (s < q) = y0 at *
      generalize decide (s = q) = y1 at *
      generalize decide (l2 = 0) = y2 at *
      have HT' := Lib.hid hT
      have HM := Lib.hid M
      have HB := Lib.hid hb
      have HM2 := Lib.hid M2
      have HTT := Lib.hid ht
      clear hb hpk e0 hT M M2 HT ht hm hs hq htt hhl hll hl2 hht
      cases y0
      · have f0 : q ≤ s := by simpa using d0
        have f1 : ¬ s < q := by omega
        cases y1
        ·
          go_wp2_with fail
          refine (HM.out wr).mono ?_
          rintro e w1 ⟨rfl, rfl⟩
          go_wp2_with fail
          refine (HM2.out w1).mono ?_
          rintro e w2 ⟨rfl, rfl⟩
          go_wp2_with fail
          exact ⟨⟨y, k, by omega, by have := HTT.out; rw [← HB.out]; omega, HT', rfl, rfl, hbel⟩, by simp [intOf]⟩
        · cases y2
          ·
            go_wp2_with fail
            refine (HM.out wr).mono ?_
            rintro e w1 ⟨rfl, rfl⟩
            go_wp2_with fail
            refine (HM2.out w1).mono ?_
            rintro e w2 ⟨rfl, rfl⟩
            go_wp2_with fail
            exact ⟨⟨y, k, by omega, by have := HTT.out; rw [← HB.out]; omega, HT', rfl, rfl, hbel⟩, by simp [intOf]⟩
          ·
            go_wp2_with fail
            refine (HM.out wr).mono ?_
            rintro e w1 ⟨rfl, rfl⟩
            go_wp2_with fail
            refine (HM2.out w1).mono ?_
            rintro e w2 ⟨rfl, rfl⟩
            go_wp2_with fail
            exact ⟨⟨t, k, by omega, by have := HTT.out; rw [← HB.out]; omega, HT', rfl, rfl, hbel⟩, by simp [intOf]⟩
      · have f1 : s < q := by simpa using d0
        have f0 : ¬ q ≤ s := by omega
        go_wp2_with fail
        refine (HM.out wr).mono ?_
        rintro e w1 ⟨rfl, rfl⟩
        go_wp2_with fail
        refine (HM2.out w1).mono ?_
        rintro e w2 ⟨rfl, rfl⟩
        go_wp2_with fail
        exact ⟨⟨t, k, by omega, by have := HTT.out; rw [← HB.out]; omega, HT', rfl, rfl, hbel⟩, by simp [intOf]⟩
end Go.Proofs.YtmdalmegogfanaaDoor
