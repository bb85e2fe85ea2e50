/- What all cards of this seat share: the table of known addresses, as the program's text lays it. -/
import Derived.Test.YtcoonncedlbbkaaDoorCards
import Derived.Test.YtcoonncedlbbkaaDoorTie
import Derived.Test.YtcoonncedlbbkaaDoorX20
import Derived.Deep.DeepHandedRow
import Derived.Lib.LaidTab
namespace Go.Proofs.YtcoonncedlbbkaaDoor
open Go.ChangeShapes Go.WideShapes Go.ChangeAt Go.RowKit Ad
theorem own : ownKnob Tryd.prog.godebug = none := by kernel_rfl
theorem gKnown : Tryd.prog.globalNamed "sojourner/addrs.known" = some 0 := by kernel_rfl
theorem gKnownType : (Tryd.prog.globals[0]?).map (·.type) = some 78 := by kernel_rfl
theorem laidOut : laidOutB Tryd.prog = true := by kernel_rfl
theorem readAddr : Tryd.prog.readableRec 23 = true := by kernel_rfl
def knownRows : List (List UInt8) := (List.range 7).map knownA
theorem known_flat : knownRows.flatten = knownL := by decide
theorem known_datum : (Rows.laid_sojourner_addrs_known : DataW Unit) = .agg (knownRows.map rowD) := by rfl
theorem known_of_laid {rest : List (String × DataW Unit)} {W : World} (h : laidMet Tryd.prog (("sojourner/addrs.known", Rows.laid_sojourner_addrs_known) :: rest) W) : GK W := by
  rw [known_datum] at h
  obtain ⟨t, fr, hb⟩ := tab2_laid gKnown gKnownType Tryd.underlying78 Tryd.underlying23 Tryd.underlying5 (by kernel_rfl) (by kernel_rfl) (by kernel_rfl) (by decide) h
  rw [known_flat] at hb
  exact ⟨_, t, fr, hb, xt_whole _ _ rfl⟩
/-- A world in which the table lies as the program's text lays it. -/
noncomputable def laidWorld (os : Os) : World :=
  { World.holding Tryd.prog os ⟨#[], #[], []⟩ with heap := (World.holding Tryd.prog os ⟨#[], #[], []⟩).heap.modify 0 fun
      | .cells _ t frozen => .cells (List.map B knownL).toArray t frozen
      | o => o }
end Go.Proofs.YtcoonncedlbbkaaDoor
