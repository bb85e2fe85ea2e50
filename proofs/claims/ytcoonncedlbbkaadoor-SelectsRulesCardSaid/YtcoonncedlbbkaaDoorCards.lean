/-
  DERIVED. GIVEN WITH THE SEED: THE CARDS: each row of YtcoonncedlbbkaaDoorRows.lean that lists a variable, with what it lists TIED to the program's text (the seventh form; the later family's looks); each row that meets fmt, with fmt's text TOLD by the authors' own Lean function (tested against real Go, not proved from fmt's source: count such statements apart). THE CARD IS WHAT COUNTS. Prove the row's statement (the work); the ties are given (YtcoonncedlbbkaaDoorTie.lean); close each card by the builder's one call (the guide's Derived/Test/ToyasCard.lean, 'card_holds'). Laid BY PROGRAM, IN A SANDBOX (cutbox-door.mjs). By AI agents, Wed Nov 11 2026. No macro, syntax, notation, axiom, sorry.
-/
import Derived.Test.YtcoonncedlbbkaaDoorRows
import GoSem.ClaimSeven
namespace Go.Proofs.YtcoonncedlbbkaaDoor
namespace Rows

/-- THE TIED CARD OF 'sojournerlaw23.SelectsChoose'. -/
def selectsChooseCard : Claim7 := { stood := { row := selectsChooseRow, standIns := [], harness := (true, "dced7e3755ce3902d961ce5f5fe02f5303d4f78d4c3fde1955a63f0b4295df54"), looks := false }, kinds := [], alts := [], laidByText := true, laidKinds := [.data], laidTests := true, laidLooks := .later }
def SelectsChooseCardSaid : Prop := Claim7.holds Tryd.pinned (.plain (OpenSpec.ofChange selectsChooseSpec)) selectsChooseCard

/-- THE TIED CARD OF 'sojournerlaw23.SelectsBest'. -/
def selectsBestCard : Claim7 := { stood := { row := selectsBestRow, standIns := [], harness := (true, "dced7e3755ce3902d961ce5f5fe02f5303d4f78d4c3fde1955a63f0b4295df54"), looks := false }, kinds := [], alts := [], laidByText := true, laidKinds := [.data], laidTests := true, laidLooks := .later }
def SelectsBestCardSaid : Prop := Claim7.holds Tryd.pinned (.plain (OpenSpec.ofChange selectsBestSpec)) selectsBestCard

/-- THE TIED CARD OF 'sojournerlaw23.SelectsRules'. -/
def selectsRulesCard : Claim7 := { stood := { row := selectsRulesRow, standIns := [], harness := (true, "dced7e3755ce3902d961ce5f5fe02f5303d4f78d4c3fde1955a63f0b4295df54"), looks := false }, kinds := [], alts := [], laidByText := true, laidKinds := [.data], laidTests := true, laidLooks := .later }
def SelectsRulesCardSaid : Prop := Claim7.holds Tryd.pinned (.plain (OpenSpec.ofChange selectsRulesSpec)) selectsRulesCard

/-- THE SECOND FORM's CARD OF 'sojournerlaw23.SelectsChoose'. -/
def selectsChooseUptoCard : Claim7 := { stood := { row := selectsChooseUptoRow, standIns := [], harness := (true, "dced7e3755ce3902d961ce5f5fe02f5303d4f78d4c3fde1955a63f0b4295df54"), looks := false }, kinds := [], alts := [], laidByText := true, laidKinds := [.data], laidTests := true, laidLooks := .later }
def SelectsChooseUptoCardSaid : Prop := Claim7.holds Tryd.pinned (.plain (OpenSpec.upto selectsChooseSpec)) selectsChooseUptoCard

/-- THE SECOND FORM's CARD OF 'sojournerlaw23.SelectsBest'. -/
def selectsBestUptoCard : Claim7 := { stood := { row := selectsBestUptoRow, standIns := [], harness := (true, "dced7e3755ce3902d961ce5f5fe02f5303d4f78d4c3fde1955a63f0b4295df54"), looks := false }, kinds := [], alts := [], laidByText := true, laidKinds := [.data], laidTests := true, laidLooks := .later }
def SelectsBestUptoCardSaid : Prop := Claim7.holds Tryd.pinned (.plain (OpenSpec.upto selectsBestSpec)) selectsBestUptoCard

/-- THE SECOND FORM's CARD OF 'sojournerlaw23.SelectsRules'. -/
def selectsRulesUptoCard : Claim7 := { stood := { row := selectsRulesUptoRow, standIns := [], harness := (true, "dced7e3755ce3902d961ce5f5fe02f5303d4f78d4c3fde1955a63f0b4295df54"), looks := false }, kinds := [], alts := [], laidByText := true, laidKinds := [.data], laidTests := true, laidLooks := .later }
def SelectsRulesUptoCardSaid : Prop := Claim7.holds Tryd.pinned (.plain (OpenSpec.upto selectsRulesSpec)) selectsRulesUptoCard
end Rows
end Go.Proofs.YtcoonncedlbbkaaDoor
