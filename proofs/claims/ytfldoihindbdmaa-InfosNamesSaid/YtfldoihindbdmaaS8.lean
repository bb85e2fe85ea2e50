/- The cutter: made, numbers, bytes, the rest. -/
import Derived.Test.YtfldoihindbdmaaS7
namespace Go.Proofs.Ytfldoihindbdmaa
open Go.RowKit
set_option maxRecDepth 100000
theorem bytes_good (g N c : Nat) (A : Option Addr) (m : Nat) (w : World) (h : bk w g = some (cut A N c true)) (hm : m ≤ N) (hN : N ≤ c) :
    Calls Try.prog 57 #[.pointer (some ⟨g, 0, none⟩), .int .i64 m] w fun e w' => e = .returned (.slice A m m) ∧
      Chg g (cut (adv A c m) (N - m) (c - m) true) w w' := by
  have C := Lib.hid (take_good g N c A m w h hm hN)
  clear h hm hN
  go_enter Try.func57, Try.ntmps57
  go_wp2_with fail
  refine (C.out).mono ?_
  rintro e w1 ⟨rfl, b1⟩
  have HB := Lib.hid b1
  clear b1 C
  go_wp2_with fail
  go_ret
  exact ⟨rfl, HB.out⟩
theorem bytes_bad (g N c : Nat) (A : Option Addr) (f : Bool) (m : Int) (w : World) (h : bk w g = some (cut A N c f)) (hm : f = false ∨ m < 0 ∨ (N : Int) < m) :
    Calls Try.prog 57 #[.pointer (some ⟨g, 0, none⟩), .int .i64 m] w fun e w' => e = .returned (.slice none 0 0) ∧ Chg g (cut none 0 0 false) w w' := by
  have C := Lib.hid (take_bad g N c A f m w h hm)
  clear h hm
  go_enter Try.func57, Try.ntmps57
  go_wp2_with fail
  refine (C.out).mono ?_
  rintro e w1 ⟨rfl, b1⟩
  have HB := Lib.hid b1
  clear b1 C
  go_wp2_with fail
  go_ret
  exact ⟨rfl, HB.out⟩


theorem of_cut (A : Option Addr) (l : List UInt8) (c : Nat) (w : World) (h : Rd w w.heap.size A l) (hA : A = none → l = [] ∧ c = 0) (hl : l.length < 2 ^ 46) :
    Calls Try.prog 53 #[.slice A l.length c] w fun e w' => ∃ g A' c', e = .returned (.pointer (some ⟨g, 0, none⟩)) ∧ w.heap.size ≤ g ∧ bk w' g = some (cut A' l.length c' true) ∧
      w'.ownsRow w.heap.size 5 1 (.slice A' l.length c') l.length (l.map B) ∧ Rd w' g A' l ∧ l.length ≤ c' ∧ Below w.heap.size w w' := by
  have C := Lib.hid (clone_both A l c w h hA hl)
  clear h hA
  go_enter Try.func53, Try.ntmps53
  go_wp2_with fail
  refine C.out.mono ?_
  rintro e w1 ⟨v, rfl, ho, hb⟩
  obtain ⟨A', c', rfl, hrd, _, hlc⟩ := Rd.of_own ho rfl
  have HO := Lib.hid ho
  have HR := Lib.hid (hrd.below ((Below.refl _ _).alloc (Nat.le_refl _) (cut A' l.length c' true)) (Nat.le_refl _))
  clear ho C hrd
  go_wp2_with fail
  go_ret
  refine ⟨w1.heap.size, A', c', rfl, hb.size, bk_alloc_at _ _ _ rfl, HO.out.alloc _, HR.out, hlc, hb.alloc hb.size _⟩
end Go.Proofs.Ytfldoihindbdmaa
