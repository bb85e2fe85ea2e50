/-
  DERIVED. GIVEN WITH THE SEED: THE CARDS: each row of YtmdalmegogfanaaDoorRows.lean that lists a variable, with what it lists TIED to the program's text (the seventh form; the later family's looks); each row that meets fmt, with fmt's text TOLD by the authors' own Lean function (tested against real Go, not proved from fmt's source: count such statements apart). THE CARD IS WHAT COUNTS. Prove the row's statement (the work); the ties are given (YtmdalmegogfanaaDoorTie.lean); close each card by the builder's one call (the guide's Derived/Test/ToyasCard.lean, 'card_holds'). Laid BY PROGRAM, IN A SANDBOX (cutbox-door.mjs). By AI agents, Wed Nov 11 2026. No macro, syntax, notation, axiom, sorry.
-/
import Derived.Test.YtmdalmegogfanaaDoorRows
import GoSem.ClaimSeven
namespace Go.Proofs.YtmdalmegogfanaaDoor
namespace Rows

/-- THE TIED CARD OF 'sojournerlaw15.IdentsReserved'. -/
def identsReservedCard : Claim7 := { stood := { row := identsReservedRow, standIns := [], harness := (true, "1be1303a05961aa613d71c78843d6b2980f87c2fb0f9cba9f0b146d112728d91"), looks := false }, kinds := [], alts := [], laidByText := true, laidKinds := [.data, .data], laidTests := true, laidLooks := .later }
def IdentsReservedCardSaid : Prop := Claim7.holds Tryd.pinned (.plain (OpenSpec.ofChange identsReservedSpec)) identsReservedCard

/-- THE TIED CARD OF 'sojournerlaw15.IdentsTemp'. -/
def identsTempCard : Claim7 := { stood := { row := identsTempRow, standIns := [], harness := (true, "1be1303a05961aa613d71c78843d6b2980f87c2fb0f9cba9f0b146d112728d91"), looks := false }, kinds := [], alts := [], laidByText := true, laidKinds := [.data, .data], laidTests := true, laidLooks := .later }
def IdentsTempCardSaid : Prop := Claim7.holds Tryd.pinned (.plain (OpenSpec.ofChange identsTempSpec)) identsTempCard

/-- THE TIED CARD OF 'sojournerlaw15.IdentsSum'. -/
def identsSumCard : Claim7 := { stood := { row := identsSumRow, standIns := [], harness := (true, "1be1303a05961aa613d71c78843d6b2980f87c2fb0f9cba9f0b146d112728d91"), looks := false }, kinds := [], alts := [], laidByText := true, laidKinds := [.data, .data], laidTests := true, laidLooks := .later }
def IdentsSumCardSaid : Prop := Claim7.holds Tryd.pinned (.plain (OpenSpec.ofChange identsSumSpec)) identsSumCard

/-- THE TIED CARD OF 'sojournerlaw15.IdentsStable'. -/
def identsStableCard : Claim7 := { stood := { row := identsStableRow, standIns := [], harness := (true, "1be1303a05961aa613d71c78843d6b2980f87c2fb0f9cba9f0b146d112728d91"), looks := false }, kinds := [], alts := [], laidByText := true, laidKinds := [.data, .data], laidTests := true, laidLooks := .later }
def IdentsStableCardSaid : Prop := Claim7.holds Tryd.pinned (.plain (OpenSpec.ofChange identsStableSpec)) identsStableCard

/-- THE TIED CARD OF 'sojournerlaw15.IdentsMade'. -/
def identsMadeCard : Claim7 := { stood := { row := identsMadeRow, standIns := [], harness := (true, "1be1303a05961aa613d71c78843d6b2980f87c2fb0f9cba9f0b146d112728d91"), looks := false }, kinds := [], alts := [], laidByText := true, laidKinds := [.data, .data], laidTests := true, laidLooks := .later }
def IdentsMadeCardSaid : Prop := Claim7.holds Tryd.pinned (.plain (OpenSpec.ofChange identsMadeSpec)) identsMadeCard

/-- THE SECOND FORM's CARD OF 'sojournerlaw15.IdentsReserved'. -/
def identsReservedUptoCard : Claim7 := { stood := { row := identsReservedUptoRow, standIns := [], harness := (true, "1be1303a05961aa613d71c78843d6b2980f87c2fb0f9cba9f0b146d112728d91"), looks := false }, kinds := [], alts := [], laidByText := true, laidKinds := [.data, .data], laidTests := true, laidLooks := .later }
def IdentsReservedUptoCardSaid : Prop := Claim7.holds Tryd.pinned (.plain (OpenSpec.upto identsReservedSpec)) identsReservedUptoCard

/-- THE SECOND FORM's CARD OF 'sojournerlaw15.IdentsTemp'. -/
def identsTempUptoCard : Claim7 := { stood := { row := identsTempUptoRow, standIns := [], harness := (true, "1be1303a05961aa613d71c78843d6b2980f87c2fb0f9cba9f0b146d112728d91"), looks := false }, kinds := [], alts := [], laidByText := true, laidKinds := [.data, .data], laidTests := true, laidLooks := .later }
def IdentsTempUptoCardSaid : Prop := Claim7.holds Tryd.pinned (.plain (OpenSpec.upto identsTempSpec)) identsTempUptoCard

/-- THE SECOND FORM's CARD OF 'sojournerlaw15.IdentsSum'. -/
def identsSumUptoCard : Claim7 := { stood := { row := identsSumUptoRow, standIns := [], harness := (true, "1be1303a05961aa613d71c78843d6b2980f87c2fb0f9cba9f0b146d112728d91"), looks := false }, kinds := [], alts := [], laidByText := true, laidKinds := [.data, .data], laidTests := true, laidLooks := .later }
def IdentsSumUptoCardSaid : Prop := Claim7.holds Tryd.pinned (.plain (OpenSpec.upto identsSumSpec)) identsSumUptoCard

/-- THE SECOND FORM's CARD OF 'sojournerlaw15.IdentsStable'. -/
def identsStableUptoCard : Claim7 := { stood := { row := identsStableUptoRow, standIns := [], harness := (true, "1be1303a05961aa613d71c78843d6b2980f87c2fb0f9cba9f0b146d112728d91"), looks := false }, kinds := [], alts := [], laidByText := true, laidKinds := [.data, .data], laidTests := true, laidLooks := .later }
def IdentsStableUptoCardSaid : Prop := Claim7.holds Tryd.pinned (.plain (OpenSpec.upto identsStableSpec)) identsStableUptoCard

/-- THE SECOND FORM's CARD OF 'sojournerlaw15.IdentsMade'. -/
def identsMadeUptoCard : Claim7 := { stood := { row := identsMadeUptoRow, standIns := [], harness := (true, "1be1303a05961aa613d71c78843d6b2980f87c2fb0f9cba9f0b146d112728d91"), looks := false }, kinds := [], alts := [], laidByText := true, laidKinds := [.data, .data], laidTests := true, laidLooks := .later }
def IdentsMadeUptoCardSaid : Prop := Claim7.holds Tryd.pinned (.plain (OpenSpec.upto identsMadeSpec)) identsMadeUptoCard
end Rows
end Go.Proofs.YtmdalmegogfanaaDoor
