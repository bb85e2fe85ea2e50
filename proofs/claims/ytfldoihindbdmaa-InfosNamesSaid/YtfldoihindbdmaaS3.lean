/- Is a twin of bytes as it was made; the doors to same, twin, left of bytes. -/
import Derived.Test.YtfldoihindbdmaaS2
namespace Go.Proofs.Ytfldoihindbdmaa
open Go.RowKit
set_option maxRecDepth 100000
theorem Rd.of_bk {w : World} {n g o : Nat} {L l : List UInt8} {t : TypeId} {fr : Nat × Nat} (h : bk w g = some (.cells (List.map B L).toArray t fr)) (hg : g < n) (hl : ∀ j (h : j < l.length), L[o + j]? = some l[j]) : Rd w n (some ⟨g, o, none⟩) l :=
  fun _ => ⟨g, o, rfl, hg, fun j hj => by rw [bk_cell h]; simp [hl j hj]⟩
theorem tw_head (l : List UInt8) (x : UInt8) (j : Nat) (h : j < l.length) : (tw l x)[0 + j]? = some l[j] := by
  rw [Nat.zero_add, tw, List.getElem?_append_left h, List.getElem?_eq_getElem h]
theorem tw_room (l : List UInt8) (x : UInt8) (j : Nat) (h : j < 4) : (tw l x)[l.length + j]? = some x := by
  rw [tw, List.getElem?_append_right (by omega), Nat.add_sub_cancel_left]
  rcases (by omega : j = 0 ∨ j = 1 ∨ j = 2 ∨ j = 3) with e | e | e | e <;> rw [e] <;> rfl
theorem left_any (A : Option Addr) (l : List UInt8) (c g : Nat) (x : UInt8) (w : World) (h : Rd w w.heap.size A l) (hl : l.length < 2 ^ 46) (hg : bk w g = some (.cells (List.map B (tw l x)).toArray 5 (0, 0))) :
    Calls Try.prog 72 #[.slice (some ⟨g, 0, none⟩) l.length (l.length + 4), .slice A l.length c, B x] w fun e w' => e = .returned (.bool true) ∧ Below w.heap.size w w' := by
  have CS := Lib.hid (same_any (some ⟨g, 0, none⟩) A l l (l.length + 4) c w (Rd.of_bk hg (bk_lt hg) (tw_head l x)) h (by omega) (by omega))
  rw [beq_self_eq_true] at CS
  have hr : ∀ j, j < 4 → w.cell? ⟨g, l.length + j, none⟩ = some (B x) := fun j hj => by rw [bk_cell hg]; simp [tw_room l x j hj]
  have hgl := bk_lt hg
  have HR := Lib.hid hr
  clear h hg hr
  go_enter Try.func72, Try.ntmps72
  go_wp2_with fail
  refine (CS.out).mono ?_
  rintro e w1 ⟨rfl, b1⟩
  have d1 : decide (l.length + 4 < l.length + 4) = false := by simp
  have d2 : decide ((l.length : Int) + 4 < (l.length : Int) + 4) = false := by simp
  have ht : ((l.length : Int) + 4).toNat = l.length + 4 := by omega
  go_wp2
  go_loopw [8] (fun i w' => ∃ k : Nat, k ≤ 4 ∧ i = .int .i64 k ∧ Below w.heap.size w w') (fun i _ => 4 - (intOf i).toNat)
  case atStart => exact ⟨0, by omega, rfl, b1⟩
  case round =>
    obtain ⟨k, hk, rfl, hbel⟩ := hrel
    by_cases hlt : k < 4
    · have d3 : decide ((k : Int) < 4) = true := by simp; omega
      have hc : wr.cell? ⟨g, l.length + k, none⟩ = some (B x) := (hbel.cell (p := ⟨g, l.length + k, none⟩) hgl).trans (HR.out k hlt)
      go_wp2
      go_roundw
      case rel => exact ⟨k + 1, by omega, by go_num, hbel⟩
      case measure => simp [intOf]; omega
    · have d3 : decide ((k : Int) < 4) = false := by simp; omega
      clear hlt
      go_wp2
      go_ret
      exact ⟨rfl, hbel⟩
theorem sameBytes_any (A1 A2 : Option Addr) (l m : List UInt8) (c1 c2 : Nat) (w : World) (h1 : Rd w w.heap.size A1 l) (h2 : Rd w w.heap.size A2 m) (hl : l.length < 2 ^ 60) (hm : m.length < 2 ^ 60) :
    Calls Try.prog 46 #[.slice A1 l.length c1, .slice A2 m.length c2] w fun e w' => e = .returned (.bool (l == m)) ∧ Below w.heap.size w w' := by
  have C := Lib.hid (same_any A1 A2 l m c1 c2 w h1 h2 hl hm)
  clear h1 h2
  generalize (l == m) = q at *
  go_enter Try.func46, Try.ntmps46
  go_wp2_with fail
  refine (C.out).mono ?_
  rintro e w1 ⟨rfl, b1⟩
  go_wp2_with fail
  go_ret
  exact ⟨rfl, b1⟩
theorem twinBytes_any (A : Option Addr) (l : List UInt8) (c : Nat) (w : World) (h : Rd w w.heap.size A l) (hl : l.length < 2 ^ 46) :
    Calls Try.prog 38 #[.slice A l.length c] w fun e w' => e = .returned (.slice (some ⟨w.heap.size, 0, none⟩) l.length (l.length + 4)) ∧
      bk w' w.heap.size = some (.cells (List.map B (tw l 199)).toArray 5 (0, 0)) ∧ Below w.heap.size w w' := by
  have C := Lib.hid (twin_any A l c 199 w h hl)
  clear h
  go_enter Try.func38, Try.ntmps38
  go_wp2_with fail
  refine C.out.mono ?_
  rintro e w1 ⟨rfl, h1, b1⟩
  go_wp2_with fail
  go_ret
  exact ⟨rfl, h1, b1⟩
theorem leftBytes_any (A : Option Addr) (l : List UInt8) (c g : Nat) (w : World) (h : Rd w w.heap.size A l) (hl : l.length < 2 ^ 46) (hg : bk w g = some (.cells (List.map B (tw l 199)).toArray 5 (0, 0))) :
    Calls Try.prog 41 #[.slice (some ⟨g, 0, none⟩) l.length (l.length + 4), .slice A l.length c] w fun e w' => e = .returned (.bool true) ∧ Below w.heap.size w w' := by
  have C := Lib.hid (left_any A l c g 199 w h hl hg)
  clear h hg
  go_enter Try.func41, Try.ntmps41
  go_wp2_with fail
  refine (C.out).mono ?_
  rintro e w1 ⟨rfl, b1⟩
  go_wp2_with fail
  go_ret
  exact ⟨rfl, b1⟩
end Go.Proofs.Ytfldoihindbdmaa
