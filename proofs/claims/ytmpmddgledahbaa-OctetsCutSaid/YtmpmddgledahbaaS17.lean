/- OctetsVoid, walked. -/
import Derived.Test.YtmpmddgledahbaaS11
namespace Go.Proofs.Ytmpmddgledahbaa
open Go.RowKit
set_option maxRecDepth 100000
theorem num_void (g : Nat) (m : Int) (w : World) (h : bk w g = some (cut none 0 0 false)) : Calls Try.prog 23 #[.pointer (some ⟨g, 0, none⟩), .int .i64 m] w fun e w' => e = .returned (.int .u64 0) ∧ w' = w :=
  (num_take g 0 0 none false m w h (.inl rfl)).mono fun _ _ ⟨he, hc⟩ => ⟨he, (hc.eq h).symm⟩
theorem bytes_void (g : Nat) (m : Int) (w : World) (h : bk w g = some (cut none 0 0 false)) : Calls Try.prog 24 #[.pointer (some ⟨g, 0, none⟩), .int .i64 m] w fun e w' => e = .returned (.slice none 0 0) ∧ w' = w :=
  (bytes_bad g 0 0 none false m w h (.inl rfl)).mono fun _ _ ⟨he, hc⟩ => ⟨he, (hc.eq h).symm⟩
theorem rest_void (g : Nat) (w : World) (h : bk w g = some (cut none 0 0 false)) : Calls Try.prog 17 #[.pointer (some ⟨g, 0, none⟩)] w fun e w' => e = .returned (.slice none 0 0) ∧ w' = w :=
  (rest_bad g 0 0 none w h).mono fun _ _ ⟨he, hc⟩ => ⟨he, hc.symm⟩
theorem left_void (g : Nat) (w : World) (h : bk w g = some (cut none 0 0 false)) : Calls Try.prog 14 #[.pointer (some ⟨g, 0, none⟩)] w fun e w' => e = .returned (.int .i64 0) ∧ w' = w :=
  (left_cut g 0 0 none false w h).mono fun _ _ ⟨he, hc⟩ => ⟨he, hc.symm⟩
theorem bad_void (g : Nat) (w : World) (h : bk w g = some (cut none 0 0 false)) : Calls Try.prog 15 #[.pointer (some ⟨g, 0, none⟩)] w fun e w' => e = .returned (.bool true) ∧ w' = w :=
  (bad_any g 0 0 none false w h).mono fun _ _ ⟨he, hc⟩ => ⟨he, hc.symm⟩
/-! A cutter that is not there. -/
theorem bad_nil (w : World) : Calls Try.prog 15 #[.pointer none] w fun e w' => e = .returned (.bool true) ∧ w' = w := by
  go_enter Try.func15, Try.ntmps15
  go_wp2
  go_ret
  exact ⟨rfl, rfl⟩
theorem left_nil (w : World) : Calls Try.prog 14 #[.pointer none] w fun e w' => e = .returned (.int .i64 0) ∧ w' = w := by
  go_enter Try.func14, Try.ntmps14
  go_wp2_with fail
  refine (bad_nil w).mono ?_
  rintro e w' ⟨rfl, rfl⟩
  go_wp2_with fail
  go_ret
  exact ⟨rfl, rfl⟩
theorem rest_nil (w : World) : Calls Try.prog 17 #[.pointer none] w fun e w' => e = .returned (.slice none 0 0) ∧ w' = w := by
  go_enter Try.func17, Try.ntmps17
  go_wp2_with fail
  refine (bad_nil w).mono ?_
  rintro e w' ⟨rfl, rfl⟩
  go_wp2_with fail
  go_ret
  exact ⟨rfl, rfl⟩
theorem take_nil (m : Int) (w : World) : Calls Try.prog 31 #[.pointer none, .int .i64 m] w fun e w' => e = .returned (.slice none 0 0) ∧ w' = w := by
  go_enter Try.func31, Try.ntmps31
  go_wp2
  go_ret
  exact ⟨rfl, rfl⟩
theorem bytes_nil (m : Int) (w : World) : Calls Try.prog 24 #[.pointer none, .int .i64 m] w fun e w' => e = .returned (.slice none 0 0) ∧ w' = w := by
  go_enter Try.func24, Try.ntmps24
  go_wp2_with fail
  refine (take_nil m w).mono ?_
  rintro e w' ⟨rfl, rfl⟩
  go_wp2_with fail
  go_ret
  exact ⟨rfl, rfl⟩
theorem num_nil (m : Int) (w : World) : Calls Try.prog 23 #[.pointer none, .int .i64 m] w fun e w' => e = .returned (.int .u64 0) ∧ w' = w := by
  by_cases h1 : m < 1
  · have d1 : decide (m < 1) = true := by simpa using h1
    go_enter Try.func23, Try.ntmps23
    go_wp2_with fail
    refine (take_nil _ w).mono ?_
    rintro e w' ⟨rfl, rfl⟩
    go_wp2_with fail
    go_loopw [4, 17] (fun x i wr => x = .int .u64 0 ∧ i = .int .i64 0 ∧ w' = wr) (fun _ i _ => 0)
    case atStart => exact ⟨rfl, rfl, rfl⟩
    case round =>
      obtain ⟨rfl, rfl, rfl⟩ := hrel
      go_wp2
      go_ret
      exact ⟨rfl, rfl⟩
  · have d1 : decide (m < 1) = false := by simpa using h1
    by_cases h2 : 8 < m
    all_goals
      first | (have d2 : decide (8 < m) = true := by simpa using h2) | (have d2 : decide (8 < m) = false := by simpa using h2)
      go_enter Try.func23, Try.ntmps23
      go_wp2_with fail
      refine (take_nil _ w).mono ?_
      rintro e w' ⟨rfl, rfl⟩
      go_wp2_with fail
      go_loopw [4, 17] (fun x i wr => x = .int .u64 0 ∧ i = .int .i64 0 ∧ w' = wr) (fun _ i _ => 0)
      case atStart => exact ⟨rfl, rfl, rfl⟩
      case round =>
        obtain ⟨rfl, rfl, rfl⟩ := hrel
        go_wp2
        go_ret
        exact ⟨rfl, rfl⟩
theorem octetsVoid_walk (x : UInt8) (n : Int) (w : World) : Calls Try.prog 5 #[.agg #[B x, .int .i64 n]] w fun e w' => e = .returned (.bool true) ∧ Below w.heap.size w w' := by
  go_enter Try.func5, Try.ntmps5
  go_wp2
  go_loopw [5] (fun i wr => ∃ k : Nat, k ≤ 2 ∧ i = .int .i64 k ∧ Below w.heap.size w wr ∧ w.heap.size + 3 ≤ wr.heap.size ∧ bk wr w.heap.size = some (.cells #[B x, .int .i64 n] 35 (0, 0)) ∧ bk wr (w.heap.size + 1) = some (cut none 0 0 false) ∧ bk wr (w.heap.size + 2) = some (.cells #[.pointer none, .pointer (some ⟨w.heap.size + 1, 0, none⟩)] 26 (0, 0))) (fun i _ => 2 - (intOf i).toNat)
  case atStart => exact ⟨0, by omega, rfl, (((Below.refl _ _).alloc (Nat.le_refl _) _).alloc (by simp) _).alloc (by simp; omega) _, by simp, by go_simp, by go_simp; rfl, by go_simp⟩
  case round =>
    obtain ⟨k, hk, rfl, hB, hsz, hx, hc, hl⟩ := hrel
    have x1 := bk_cell hx 1
    have l0 := bk_cell hl 0
    have l1 := bk_cell hl 1
    simp at x1 l0 l1
    have HC := Lib.hid (And.intro hx (And.intro hc hl))
    clear hx hl
    have HV := Lib.hid hc
    clear hc
    rcases (by omega : k = 0 ∨ k = 1 ∨ k = 2) with rfl | rfl | rfl
    · go_wp2
      go_quiet ((first | (go_at_call 23; exact Calls.quiet_of_same (num_nil _ _)) | (go_at_call 24; exact Calls.quiet_of_same (bytes_nil _ _)) | (go_at_call 17; exact Calls.quiet_of_same (rest_nil _)) | (go_at_call 14; exact Calls.quiet_of_same (left_nil _)) | (go_at_call 15; exact Calls.quiet_of_same (bad_nil _))))
      go_wp2
      go_roundw
      case rel => exact ⟨1, by omega, by go_num, bdrewN hB _, hsz, HC.out.1, HC.out.2.1, HC.out.2.2⟩
      case measure => simp [intOf]
    · go_wp2
      go_quiet ((first | (go_at_call 23; exact Calls.quiet_of_same (num_void _ _ _ HV.out)) | (go_at_call 24; exact Calls.quiet_of_same (bytes_void _ _ _ HV.out)) | (go_at_call 17; exact Calls.quiet_of_same (rest_void _ _ HV.out)) | (go_at_call 14; exact Calls.quiet_of_same (left_void _ _ HV.out)) | (go_at_call 15; exact Calls.quiet_of_same (bad_void _ _ HV.out))))
      go_wp2
      go_roundw
      case rel => exact ⟨2, by omega, by go_num, bdrewN hB _, hsz, HC.out.1, HC.out.2.1, HC.out.2.2⟩
      case measure => simp [intOf]
    · go_wp2_with fail
      refine (lives_any wr).mono ?_
      rintro e w1 ⟨rfl, b1⟩
      go_wp2_with fail
      go_ret
      exact ⟨rfl, hB.trans (b1.mono hB.size)⟩
end Go.Proofs.Ytmpmddgledahbaa
