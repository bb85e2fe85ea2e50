/- The cutter: made, numbers, bytes, the rest. -/
import Derived.Test.YtmdalmegogfanaaDoorS7
namespace Go.Proofs.YtmdalmegogfanaaDoor
open Go.RowKit
set_option maxRecDepth 100000
theorem of_cut (A : Option Addr) (l : List UInt8) (c : Nat) (w : World) (h : Rd w w.heap.size A l) (hA : A = none → l = [] ∧ c = 0) (hl : l.length < 2 ^ 46) :
    Calls Tryd.prog 20 #[.slice A l.length c] w fun e w' => ∃ g A' c', e = .returned (.pointer (some ⟨g, 0, none⟩)) ∧ w.heap.size ≤ g ∧ bk w' g = some (cut A' l.length c' true) ∧
      w'.ownsRow w.heap.size 5 1 (.slice A' l.length c') l.length (l.map B) ∧ Rd w' g A' l ∧ l.length ≤ c' ∧ Below w.heap.size w w' := by
  have C := Lib.hid (clone_both A l c w h hA hl)
  clear h hA
  go_enter Tryd.func20, Tryd.ntmps20
  go_wp2_with fail
  refine C.out.mono ?_
  rintro e w1 ⟨v, rfl, ho, hb⟩
  obtain ⟨A', c', rfl, hrd, _, hlc⟩ := Rd.of_own ho rfl
  have HO := Lib.hid ho
  have HR := Lib.hid (hrd.below ((Below.refl _ _).alloc (Nat.le_refl _) (cut A' l.length c' true)) (Nat.le_refl _))
  clear ho C hrd
  go_wp2_with fail
  go_ret
  refine ⟨w1.heap.size, A', c', rfl, hb.size, bk_alloc_at _ _ _ rfl, HO.out.alloc _, HR.out, hlc, hb.alloc hb.size _⟩
end Go.Proofs.YtmdalmegogfanaaDoor
