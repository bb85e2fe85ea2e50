/- The reference's solicited address. -/
import Derived.Test.YtpjmpckddnjikaaDoorA14
import Derived.Test.YtpjmpckddnjikaaDoorA16
namespace Go.Proofs.YtpjmpckddnjikaaDoor
open Go.RowKit Ad
set_option maxRecDepth 100000
theorem solic_row (l : List UInt8) (h : l.length = 16) : List.map B (solic l) = [B 255, B 2, B 0, B 0, B 0, B 0, B 0, B 0, B 0, B 0, B 0, B 1, B 255, B (l.getD 13 0), B (l.getD 14 0), B (l.getD 15 0)] := by
  have : solic l = [255, 2, 0, 0, 0, 0, 0, 0, 0, 0, 0, 1, 255, l.getD 13 0, l.getD 14 0, l.getD 15 0] := by
    refine list_ext 16 (solic_length l h) rfl fun j hj => ?_
    rw [solic_getD l h j hj]
    rcases (by omega : j = 0 ∨ j = 1 ∨ j = 2 ∨ j = 3 ∨ j = 4 ∨ j = 5 ∨ j = 6 ∨ j = 7 ∨ j = 8 ∨ j = 9 ∨ j = 10 ∨ j = 11 ∨ j = 12 ∨ j = 13 ∨ j = 14 ∨ j = 15) with rfl | rfl | rfl | rfl | rfl | rfl | rfl | rfl | rfl | rfl | rfl | rfl | rfl | rfl | rfl | rfl <;> rfl
  rw [this]; rfl
theorem rsolic_any (l : List UInt8) (h : l.length = 16) (w : World) :
    Calls Tryd.prog 28 #[av l] w fun e w' => e = .returned (av (solic l)) ∧ Below w.heap.size w w' := by
  have hr := solic_row l h
  have e13 : l.getD 13 0 = l[13] := by simp [List.getD_eq_getElem?_getD, h]
  have e14 : l.getD 14 0 = l[14] := by simp [List.getD_eq_getElem?_getD, h]
  have e15 : l.getD 15 0 = l[15] := by simp [List.getD_eq_getElem?_getD, h]
  rw [e13, e14, e15] at hr
  have HR := Lib.hid hr
  clear hr e13 e14 e15
  go_enter Tryd.func28, Tryd.ntmps28
  go_wp2
  refine ret_cell (cs := (List.map B (solic l)).toArray) rfl rfl rfl ?_ Tryd.underlying23 rfl (by rw [map_size, solic_length l h]; kernel_rfl) ?_
  rotate_left
  · refine ⟨rfl, ?_⟩
    (repeat (first | exact Below.refl _ _ | assumption | refine Below.drew ?_ | refine bdrewN ?_ _ | refine Below.alloc ?_ (by first | omega | (simp <;> omega) | (simp only [World.size_alloc] <;> omega)) _ | refine below_setRow ?_ (by first | omega | (simp <;> omega)) _ | refine Below.setCell ?_ (by first | omega | (simp <;> omega)) _))
  · rw [HR.out]
    simp [go_sem]
end Go.Proofs.YtpjmpckddnjikaaDoor
