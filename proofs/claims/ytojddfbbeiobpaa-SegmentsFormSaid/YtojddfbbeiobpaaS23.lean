/- The document's cutter: numbers, the rest; both cutters by one state. -/
import Derived.Test.YtojddfbbeiobpaaS22
import Derived.Test.YtojddfbbeiobpaaS23P
import Derived.Test.YtojddfbbeiobpaaS18
namespace Go.Proofs.Ytojddfbbeiobpaa
open Go.RowKit
set_option maxRecDepth 100000
def RTook (lo g : Nat) (st : Option (List UInt8)) (n : Int) (w : World) (e : Ending) (w' : World) : Prop :=
  ∃ A c, e = .returned (.slice A (cutB n st).1.length c) ∧ Rd w' w'.heap.size A (cutB n st).1 ∧ Ub w' A ∧ RS lo w' g (cutB n st).2 ∧ w.grownBy w' (some g)
theorem rbytes_any (lo g : Nat) (st : Option (List UInt8)) (n : Int) (w : World) (h : RS lo w g st) (hl : ∀ l, st = some l → l.length < 2 ^ 36) :
    Calls Try.prog 48 #[.pointer (some ⟨g, 0, none⟩), .int .i64 n] w (RTook lo g st n w) := by
  cases st with
  | none =>
    refine (rbytes_bad lo g n w h).mono ?_
    rintro e w' ⟨rfl, rfl⟩
    exact ⟨none, 0, rfl, Rd.nil, (fun _ e => by cases e), h, World.grownBy.refl _ _⟩
  | some l =>
    by_cases hb : n < 0 ∨ (l.length : Int) < n
    · refine (rbytes_spoil lo g l n w h hb).mono ?_
      rintro e w' ⟨rfl, h1, h2⟩
      unfold RTook
      rw [cutB_bad hb]
      exact ⟨none, 0, rfl, Rd.nil, (fun _ e => by cases e), h1, h2⟩
    · obtain ⟨m, rfl⟩ := Int.eq_ofNat_of_zero_le (show 0 ≤ n by omega)
      have hm : m ≤ l.length := by omega
      refine (rbytes_good lo g l m w h hm (hl l rfl)).mono ?_
      rintro e w' ⟨A, c, rfl, h1, hu, h2, h3⟩
      unfold RTook
      rw [show ((m : Nat) : Int) = (m : Int) from rfl, cutB_good hm]
      refine ⟨A, c, by rw [List.length_take, Nat.min_eq_left hm], h1, hu, h2, h3⟩
def RNum (lo g : Nat) (st : Option (List UInt8)) (n : Int) (w : World) (e : Ending) (w' : World) : Prop :=
  e = .returned (.int .u64 (val (cutB (ask n) st).1)) ∧ RS lo w' g (cutB (ask n) st).2 ∧ w.grownBy w' (some g)
set_option maxHeartbeats 1000000 in
theorem rnum_any (lo g : Nat) (st : Option (List UInt8)) (n : Int) (w : World) (h : RS lo w g st) (hl : ∀ l, st = some l → l.length < 2 ^ 36) :
    Calls Try.prog 38 #[.pointer (some ⟨g, 0, none⟩), .int .i64 n] w (RNum lo g st n w) := by
  have C := Lib.hid (rbytes_any lo g st (ask n) w h hl)
  have hlen := cutB_len n st
  clear h hl
  obtain ⟨b, hb⟩ : ∃ b, b = (cutB (ask n) st).1 := ⟨_, rfl⟩
  obtain ⟨q, hq⟩ : ∃ q, q = ask n := ⟨_, rfl⟩
  rw [← hb] at hlen
  rw [← hq] at C
  have HB := Lib.hid hb; have HQ := Lib.hid hq
  clear hb hq
  go_enter Try.func38, Try.ntmps38
  apply wp_seq_k; intro _ _
  go_cut [4] (fun x wx => x = .int .u64 0 ∧ w = wx)
  case first =>
    go_wp2_with fail
    go_meet
    exact ⟨rfl, rfl⟩
  obtain ⟨rfl, rfl⟩ := hcut
  rename_i hkk
  apply hkk
  clear hkk
  apply wp_seq_k; intro _ _
  go_cut [1] (fun x wx => x = .int .i64 q ∧ w = wx)
  case first =>
    go_wp2_with fail
    all_goals
      go_meet
      refine ⟨?_, rfl⟩
      have e := HQ.out
      unfold ask at e
      split at e
      all_goals first | (refine congrArg (Value.int .i64) ?_; omega) | (exfalso; simp only [Bool.or_eq_true, decide_eq_true_eq, not_or, Bool.not_eq_true] at *; omega)
  case rest =>
    obtain ⟨rfl, rfl⟩ := hcut
    go_wp2_with fail
    refine C.out.mono ?_
    rintro e w1 ⟨A, c, rfl, hR, _, hS, hg⟩
    rw [HQ.out, ← HB.out] at hR ⊢
    have HR := Lib.hid hR; have HSG := Lib.hid (And.intro hS hg)
    clear hR hS hg C
    go_wp2
    go_loopw [6, 7] (fun x i w' => ∃ k : Nat, k ≤ b.length ∧ i = .int .i64 k ∧ x = .int .u64 (val (b.take k)) ∧ w1 = w') (fun _ i _ => b.length - (intOf i).toNat)
    case atStart => exact ⟨0, by omega, by go_num, rfl, rfl⟩
    case round =>
      obtain ⟨k, hk, rfl, rfl, rfl⟩ := hrel
      by_cases hlt : k < b.length
      · have e5 : decide ((k : Int) < (b.length : Int)) = true := by simp; omega
        obtain ⟨b1, o1, rfl, hb1, hc1⟩ := HR.out.at hlt
        obtain ⟨y, hy⟩ : ∃ y, y = b[k] := ⟨_, rfl⟩
        obtain ⟨v, hv⟩ : ∃ v, v = val (b.take k) := ⟨_, rfl⟩
        have hv2 : val (b.take (k + 1)) = 256 * v + y.toNat := by rw [hv, hy]; exact val_take b k hlt
        have hv1 : v < 256 ^ 7 := by
          rw [hv]
          refine Nat.lt_of_lt_of_le (val_lt _) (Nat.pow_le_pow_right (by omega) ?_)
          rw [List.length_take]; omega
        have hyl := y.toNat_lt
        rw [← hy] at hc1
        rw [← hv]
        simp only [Nat.reducePow] at hv1
        have HV2 := Lib.hid hv2
        clear hv2 hv hy
        go_wp2
        go_roundw
        case rel => exact ⟨k + 1, by omega, by go_num, by rw [HV2.out]; go_num, by trivial⟩
        case measure => simp [intOf]; omega
      · have e5 : decide ((k : Int) < (b.length : Int)) = false := by simp; omega
        have e6 : val (b.take k) = val b := by rw [List.take_of_length_le]; omega
        rw [e6]
        clear e6
        obtain rfl : k = b.length := by omega
        clear hlt
        go_wp2
        go_ret
        exact ⟨by rw [← HB.out]; rfl, by rw [← HQ.out]; exact HSG.out.1, HSG.out.2⟩
end Go.Proofs.Ytojddfbbeiobpaa
