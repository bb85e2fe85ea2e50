/- Are two slices of bytes the same. -/
import Derived.Test.YtfldoihindbdmaaS0
import Derived.Test.YtfldoihindbdmaaRows
namespace Go.Proofs.Ytfldoihindbdmaa
open Go.RowKit
set_option maxRecDepth 100000
theorem same_any (A1 A2 : Option Addr) (l m : List UInt8) (c1 c2 : Nat) (w : World) (h1 : Rd w w.heap.size A1 l) (h2 : Rd w w.heap.size A2 m) (hl : l.length < 2 ^ 60) (hm : m.length < 2 ^ 60) :
    Calls Try.prog 77 #[.slice A1 l.length c1, .slice A2 m.length c2] w fun e w' => e = .returned (.bool (l == m)) ∧ Below w.heap.size w w' := by
  have H1 := Lib.hid h1; have H2 := Lib.hid h2
  clear h1 h2
  obtain ⟨q, hq⟩ : ∃ q, q = (l == m) := ⟨_, rfl⟩
  rw [← hq]
  have HQ := Lib.hid hq; clear hq
  go_enter Try.func77, Try.ntmps77
  go_wp2
  go_loopw [5] (fun i w' => ∃ k : Nat, k ≤ l.length ∧ k ≤ m.length ∧ Hid (l.take k = m.take k) ∧ i = .int .i64 k ∧ Below w.heap.size w w') (fun i _ => l.length - (intOf i).toNat)
  case atStart => exact ⟨0, by omega, by omega, rfl, rfl, Below.refl _ _⟩
  case round =>
    obtain ⟨k, hk1, hk2, hT, rfl, hbel⟩ := hrel
    by_cases hlt : k < l.length ∧ k < m.length
    · obtain ⟨hl1, hl2⟩ := hlt
      obtain ⟨b1, o1, rfl, hb1, hc1⟩ := (H1.out.below hbel (Nat.le_refl _)).at hl1
      obtain ⟨b2, o2, rfl, hb2, hc2⟩ := (H2.out.below hbel (Nat.le_refl _)).at hl2
      have hbs := hbel.size
      have d1 : decide ((k : Int) < (l.length : Int)) = true := by simp; omega
      have d2 : decide ((k : Int) < (m.length : Int)) = true := by simp; omega
      obtain ⟨x1, hx1⟩ : ∃ x, x = l[k] := ⟨_, rfl⟩
      obtain ⟨x2, hx2⟩ : ∃ x, x = m[k] := ⟨_, rfl⟩
      rw [← hx1] at hc1; rw [← hx2] at hc2
      have HX1 := Lib.hid hx1; have HX2 := Lib.hid hx2
      clear hx1 hx2
      by_cases he : x1 = x2
      · subst he
        go_wp2
        refine wp_region_later (wr.heap.size) (by kernel_rfl) (by kernel_rfl) ?_
        repeat (go_big_quiet_step (fail))
        (first | refine wpQuiet_nil ?_ | (go_big_quiet_want; (try go_big_quiet_op); trace_state; fail))
        intro w1 hw'
        have q1 := later_elim hw'
        clear hw'
        go_wp2
        go_roundw
        case rel => exact ⟨k + 1, by omega, by omega, take_eq_step hT hl1 hl2 (by rw [← HX1.out, ← HX2.out]), by go_num, hbel.trans (q1.mono hbs)⟩
        case measure => simp [intOf]; omega
      · have e : ((x1.toNat : Int) != (x2.toNat : Int)) = true := by simp only [bne_iff_ne, ne_eq]; exact fun h => he (B_inj h)
        have hq : q = false := by rw [HQ.out]; exact beq_of_ne hl1 hl2 (by rw [← HX1.out, ← HX2.out]; exact he)
        clear HQ HX1 HX2 hT
        subst hq
        clear he
        go_wp2
        refine wp_region_later (wr.heap.size) (by kernel_rfl) (by kernel_rfl) ?_
        repeat (go_big_quiet_step (fail))
        (first | refine wpQuiet_nil ?_ | (go_big_quiet_want; (try go_big_quiet_op); trace_state; fail))
        intro w1 hw'
        have q1 := later_elim hw'
        clear hw'
        go_wp2
        go_ret
        exact ⟨rfl, hbel.trans (q1.mono hbs)⟩
    · have hq := beq_of_take hT hk1 hk2 hlt
      rw [← HQ.out] at hq
      have HQ' := Lib.hid hq
      clear hq HQ hT
      by_cases h1 : k < l.length
      · have d1 : decide ((k : Int) < (l.length : Int)) = true := by simp; omega
        have d2 : decide ((k : Int) < (m.length : Int)) = false := by simp; omega
        have d3 : decide (k < m.length) = false := by simp; omega
        clear hlt
        go_wp2
        go_ret
        exact ⟨by rw [HQ'.out]; rfl, hbel⟩
      · have d1 : decide ((k : Int) < (l.length : Int)) = false := by simp; omega
        clear hlt
        go_wp2
        go_ret
        exact ⟨by rw [HQ'.out]; rfl, hbel⟩
end Go.Proofs.Ytfldoihindbdmaa
