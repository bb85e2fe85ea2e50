/- Infos: a client's box; what only asks it; that it starts; how long it waits. -/
import Derived.Test.YtfldoihindbdmaaF1
namespace Go.Proofs.Ytfldoihindbdmaa
open Go.RowKit
set_option maxRecDepth 100000
set_option maxHeartbeats 1000000
structure Cl where
  a0 : UInt8
  a1 : UInt8
  a2 : UInt8
  a3 : UInt8
  a4 : UInt8
  a5 : UInt8
  asks : Bool
  fresh : Bool
  next : Nat
  tm : Nat
  id : Nat
  since : Nat
  wait : Nat
def clC (c : Cl) : Array Value := #[B c.a0, B c.a1, B c.a2, B c.a3, B c.a4, B c.a5, .bool true, .bool c.asks, .bool c.fresh, .int .u64 (c.next : Int), .int .u64 (c.tm : Int), .int .u32 (c.id : Int), .int .u64 (c.since : Int), .int .u64 (c.wait : Int)]
structure ClB (w : World) (x : Nat) (c : Cl) : Prop where
  box : bk w x = some (.cells (clC c) 31 (0, 0))
  n64 : c.next ≤ far
  t64 : c.tm ≤ far
  i24 : c.id < 16777216
  s64 : c.since ≤ far
  w22 : c.wait ≤ 3960000
theorem ClB.keep {F : Nat → Prop} {w w' : World} {x : Nat} {c : Cl} (h : ClB w x c) (ht : Tn F w w') (hF : ¬ F x) : ClB w' x c := ⟨ht.keep hF h.box, h.n64, h.t64, h.i24, h.s64, h.w22⟩
theorem ClB.below {w w' : World} {x : Nat} {c : Cl} (h : ClB w x c) (hb : Below w.heap.size w w') : ClB w' x c := ⟨bk_keep hb (bk_lt h.box) h.box, h.n64, h.t64, h.i24, h.s64, h.w22⟩
def newCl (a0 a1 a2 a3 a4 a5 : UInt8) : Cl := ⟨a0, a1, a2, a3, a4, a5, false, false, 0, 0, 0, 0, 0⟩
theorem inew_any (a0 a1 a2 a3 a4 a5 : UInt8) (w : World) :
    Calls Try.prog 15 #[.agg #[B a0, B a1, B a2, B a3, B a4, B a5]] w fun e w' => ∃ x, e = .returned (.pointer (some ⟨x, 0, none⟩)) ∧ w.heap.size ≤ x ∧ ClB w' x (newCl a0 a1 a2 a3 a4 a5) ∧ Below w.heap.size w w' := by
  go_enter Try.func15, Try.ntmps15
  go_wp2_with fail
  have b2 : Below w.heap.size w ((w.alloc (.cells #[B a0, B a1, B a2, B a3, B a4, B a5] 28)).alloc (.cells (clC (newCl a0 a1 a2 a3 a4 a5)) 31)) := (by (repeat (first | exact Below.refl _ _ | assumption | refine Below.drew ?_ | refine bdrewN ?_ _ | refine Below.alloc ?_ (by first | omega | (simp <;> omega) | (simp only [World.size_alloc] <;> omega)) _ | refine below_setRow ?_ (by first | omega | (simp <;> omega)) _ | refine Below.setCell ?_ (by first | omega | (simp <;> omega)) _)))
  have k2 : bk ((w.alloc (.cells #[B a0, B a1, B a2, B a3, B a4, B a5] 28)).alloc (.cells (clC (newCl a0 a1 a2 a3 a4 a5)) 31)) (w.heap.size + 1) = some (.cells (clC (newCl a0 a1 a2 a3 a4 a5)) 31 (0, 0)) := bk_alloc_at _ _ _ (by simp)
  have H := Lib.hid (And.intro k2 b2)
  clear k2 b2
  go_ret
  exact ⟨_, rfl, Nat.le_succ _, ⟨H.out.1, Nat.zero_le _, Nat.zero_le _, (by show (0 : Nat) < 16777216; decide), Nat.zero_le _, Nat.zero_le _⟩, H.out.2⟩
theorem there_any (x : Nat) (c : Cl) (w : World) (h : ClB w x c) :
    Calls Try.prog 23 #[.pointer (some ⟨x, 0, none⟩)] w fun e w' => e = .returned (.bool true) ∧ w = w' := by
  have c6 := bk_cell h.box 6
  simp [clC] at c6
  have lx := bk_lt h.box
  clear h
  go_enter Try.func23, Try.ntmps23
  go_wp2_with fail
  go_ret
  exact ⟨rfl, rfl⟩
theorem busy_any (x : Nat) (c : Cl) (w : World) (h : ClB w x c) :
    Calls Try.prog 13 #[.pointer (some ⟨x, 0, none⟩)] w fun e w' => e = .returned (.bool c.asks) ∧ w = w' := by
  have C := Lib.hid (there_any x c w h)
  have c7 := bk_cell h.box 7
  simp [clC] at c7
  have lx := bk_lt h.box
  clear h
  go_enter Try.func13, Try.ntmps13
  go_wp2_with fail
  refine (C.out).mono ?_
  rintro e w1 ⟨rfl, hw⟩
  subst hw
  go_wp2_with fail
  go_ret
  exact ⟨rfl, rfl⟩
/-- When something is due. -/
def Cl.due (c : Cl) : Nat := if c.asks || c.fresh then c.next else far
theorem next_any (x : Nat) (c : Cl) (w : World) (h : ClB w x c) :
    Calls Try.prog 12 #[.pointer (some ⟨x, 0, none⟩)] w fun e w' => e = .returned (.int .u64 ((c.due : Nat) : Int)) ∧ w = w' := by
  have C := Lib.hid (there_any x c w h)
  have c7 := bk_cell h.box 7
  have c8 := bk_cell h.box 8
  have c9 := bk_cell h.box 9
  simp [clC] at c7 c8 c9
  have lx := bk_lt h.box
  clear h
  unfold Cl.due far
  obtain ⟨ks, hks⟩ : ∃ b, b = c.asks := ⟨_, rfl⟩
  obtain ⟨fr, hfr⟩ : ∃ b, b = c.fresh := ⟨_, rfl⟩
  rw [← hks] at c7 ⊢
  rw [← hfr] at c8 ⊢
  clear hks hfr
  cases ks <;> cases fr
  all_goals
    go_enter Try.func12, Try.ntmps12
    go_wp2_with fail
    refine (C.out).mono ?_
    rintro e w1 ⟨rfl, hw⟩
    subst hw
    go_wp2_with fail
    go_ret
    exact ⟨rfl, rfl⟩
theorem goes_any (x : Nat) (c : Cl) (now : Nat) (w : World) (h : ClB w x c) (hn : now ≤ far) :
    Calls Try.prog 24 #[.pointer (some ⟨x, 0, none⟩), .int .u64 (now : Int)] w fun e w' => e = .returned (.int .u64 ((max c.tm now : Nat) : Int)) ∧ ClB w' x { c with tm := max c.tm now } ∧ Tn (fun k => k = x) w w' := by
  have c10 := bk_cell h.box 10
  simp [clC] at c10
  have lx := bk_lt h.box
  have fr := bk_frozen h.box 10
  have FIN : Hid (ClB (w.setCell ⟨x, 10, none⟩ (.int .u64 ((max c.tm now : Nat) : Int))) x { c with tm := max c.tm now } ∧ Tn (fun k => k = x) w (w.setCell ⟨x, 10, none⟩ (.int .u64 ((max c.tm now : Nat) : Int)))) := Lib.hid ⟨⟨by
    rw [bk_setCell_same, h.box]; rfl, h.n64, by have := h.t64; show max c.tm now ≤ far; omega, h.i24, h.s64, h.w22⟩, (Tn.refl _ _).set (.inl rfl)⟩
  clear h
  go_enter Try.func24, Try.ntmps24
  go_wp2_with fail
  all_goals
    go_ret
    first
    | (rw [show max c.tm now = now by omega] at FIN ⊢; exact ⟨rfl, FIN.out⟩)
    | (rw [show max c.tm now = c.tm by omega] at FIN ⊢; exact ⟨rfl, FIN.out⟩)
end Go.Proofs.Ytfldoihindbdmaa
