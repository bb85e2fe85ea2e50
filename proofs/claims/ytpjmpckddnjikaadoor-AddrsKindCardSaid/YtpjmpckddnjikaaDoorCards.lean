/-
  DERIVED. GIVEN WITH THE SEED: THE CARDS: each row of YtpjmpckddnjikaaDoorRows.lean that lists a variable, with what it lists TIED to the program's text (the seventh form; the later family's looks); each row that meets fmt, with fmt's text TOLD by the authors' own Lean function (tested against real Go, not proved from fmt's source: count such statements apart). THE CARD IS WHAT COUNTS. Prove the row's statement (the work); the ties are given (YtpjmpckddnjikaaDoorTie.lean); close each card by the builder's one call (the guide's Derived/Test/ToyasCard.lean, 'card_holds'). Laid BY PROGRAM, IN A SANDBOX (cutbox-door.mjs). By AI agents, Wed Nov 11 2026. No macro, syntax, notation, axiom, sorry.
-/
import Derived.Test.YtpjmpckddnjikaaDoorRows
import GoSem.ClaimSeven
namespace Go.Proofs.YtpjmpckddnjikaaDoor
namespace Rows

/-- THE TIED CARD OF 'sojournerlaw06.AddrsMasked'. -/
def addrsMaskedCard : Claim7 := { stood := { row := addrsMaskedRow, standIns := [], harness := (true, "df8b59d471c456ef134c2ff31ada51d4760a5e3392bcf3a1fd4b9788af12157e"), looks := false }, kinds := [], alts := [], laidByText := true, laidKinds := [.data], laidTests := true, laidLooks := .later }
def AddrsMaskedCardSaid : Prop := Claim7.holds Tryd.pinned (.plain (OpenSpec.ofChange addrsMaskedSpec)) addrsMaskedCard

/-- THE TIED CARD OF 'sojournerlaw06.AddrsScopes'. -/
def addrsScopesCard : Claim7 := { stood := { row := addrsScopesRow, standIns := [], harness := (true, "df8b59d471c456ef134c2ff31ada51d4760a5e3392bcf3a1fd4b9788af12157e"), looks := false }, kinds := [], alts := [], laidByText := true, laidKinds := [.data], laidTests := true, laidLooks := .later }
def AddrsScopesCardSaid : Prop := Claim7.holds Tryd.pinned (.plain (OpenSpec.ofChange addrsScopesSpec)) addrsScopesCard

/-- THE TIED CARD OF 'sojournerlaw06.AddrsPrefix'. -/
def addrsPrefixCard : Claim7 := { stood := { row := addrsPrefixRow, standIns := [], harness := (true, "df8b59d471c456ef134c2ff31ada51d4760a5e3392bcf3a1fd4b9788af12157e"), looks := false }, kinds := [], alts := [], laidByText := true, laidKinds := [.data], laidTests := true, laidLooks := .later }
def AddrsPrefixCardSaid : Prop := Claim7.holds Tryd.pinned (.plain (OpenSpec.ofChange addrsPrefixSpec)) addrsPrefixCard

/-- THE TIED CARD OF 'sojournerlaw06.AddrsKind'. -/
def addrsKindCard : Claim7 := { stood := { row := addrsKindRow, standIns := [], harness := (true, "df8b59d471c456ef134c2ff31ada51d4760a5e3392bcf3a1fd4b9788af12157e"), looks := false }, kinds := [], alts := [], laidByText := true, laidKinds := [.data], laidTests := true, laidLooks := .later }
def AddrsKindCardSaid : Prop := Claim7.holds Tryd.pinned (.plain (OpenSpec.ofChange addrsKindSpec)) addrsKindCard

/-- THE TIED CARD OF 'sojournerlaw06.AddrsBits'. -/
def addrsBitsCard : Claim7 := { stood := { row := addrsBitsRow, standIns := [], harness := (true, "df8b59d471c456ef134c2ff31ada51d4760a5e3392bcf3a1fd4b9788af12157e"), looks := false }, kinds := [], alts := [], laidByText := true, laidKinds := [.data], laidTests := true, laidLooks := .later }
def AddrsBitsCardSaid : Prop := Claim7.holds Tryd.pinned (.plain (OpenSpec.ofChange addrsBitsSpec)) addrsBitsCard

/-- THE TIED CARD OF 'sojournerlaw06.AddrsOf'. -/
def addrsOfCard : Claim7 := { stood := { row := addrsOfRow, standIns := [], harness := (true, "df8b59d471c456ef134c2ff31ada51d4760a5e3392bcf3a1fd4b9788af12157e"), looks := false }, kinds := [], alts := [], laidByText := true, laidKinds := [.data], laidTests := true, laidLooks := .later }
def AddrsOfCardSaid : Prop := Claim7.holds Tryd.pinned (.plain (OpenSpec.ofChange addrsOfSpec)) addrsOfCard

/-- THE SECOND FORM's CARD OF 'sojournerlaw06.AddrsMasked'. -/
def addrsMaskedUptoCard : Claim7 := { stood := { row := addrsMaskedUptoRow, standIns := [], harness := (true, "df8b59d471c456ef134c2ff31ada51d4760a5e3392bcf3a1fd4b9788af12157e"), looks := false }, kinds := [], alts := [], laidByText := true, laidKinds := [.data], laidTests := true, laidLooks := .later }
def AddrsMaskedUptoCardSaid : Prop := Claim7.holds Tryd.pinned (.plain (OpenSpec.upto addrsMaskedSpec)) addrsMaskedUptoCard

/-- THE SECOND FORM's CARD OF 'sojournerlaw06.AddrsScopes'. -/
def addrsScopesUptoCard : Claim7 := { stood := { row := addrsScopesUptoRow, standIns := [], harness := (true, "df8b59d471c456ef134c2ff31ada51d4760a5e3392bcf3a1fd4b9788af12157e"), looks := false }, kinds := [], alts := [], laidByText := true, laidKinds := [.data], laidTests := true, laidLooks := .later }
def AddrsScopesUptoCardSaid : Prop := Claim7.holds Tryd.pinned (.plain (OpenSpec.upto addrsScopesSpec)) addrsScopesUptoCard

/-- THE SECOND FORM's CARD OF 'sojournerlaw06.AddrsPrefix'. -/
def addrsPrefixUptoCard : Claim7 := { stood := { row := addrsPrefixUptoRow, standIns := [], harness := (true, "df8b59d471c456ef134c2ff31ada51d4760a5e3392bcf3a1fd4b9788af12157e"), looks := false }, kinds := [], alts := [], laidByText := true, laidKinds := [.data], laidTests := true, laidLooks := .later }
def AddrsPrefixUptoCardSaid : Prop := Claim7.holds Tryd.pinned (.plain (OpenSpec.upto addrsPrefixSpec)) addrsPrefixUptoCard

/-- THE SECOND FORM's CARD OF 'sojournerlaw06.AddrsKind'. -/
def addrsKindUptoCard : Claim7 := { stood := { row := addrsKindUptoRow, standIns := [], harness := (true, "df8b59d471c456ef134c2ff31ada51d4760a5e3392bcf3a1fd4b9788af12157e"), looks := false }, kinds := [], alts := [], laidByText := true, laidKinds := [.data], laidTests := true, laidLooks := .later }
def AddrsKindUptoCardSaid : Prop := Claim7.holds Tryd.pinned (.plain (OpenSpec.upto addrsKindSpec)) addrsKindUptoCard

/-- THE SECOND FORM's CARD OF 'sojournerlaw06.AddrsBits'. -/
def addrsBitsUptoCard : Claim7 := { stood := { row := addrsBitsUptoRow, standIns := [], harness := (true, "df8b59d471c456ef134c2ff31ada51d4760a5e3392bcf3a1fd4b9788af12157e"), looks := false }, kinds := [], alts := [], laidByText := true, laidKinds := [.data], laidTests := true, laidLooks := .later }
def AddrsBitsUptoCardSaid : Prop := Claim7.holds Tryd.pinned (.plain (OpenSpec.upto addrsBitsSpec)) addrsBitsUptoCard

/-- THE SECOND FORM's CARD OF 'sojournerlaw06.AddrsOf'. -/
def addrsOfUptoCard : Claim7 := { stood := { row := addrsOfUptoRow, standIns := [], harness := (true, "df8b59d471c456ef134c2ff31ada51d4760a5e3392bcf3a1fd4b9788af12157e"), looks := false }, kinds := [], alts := [], laidByText := true, laidKinds := [.data], laidTests := true, laidLooks := .later }
def AddrsOfUptoCardSaid : Prop := Claim7.holds Tryd.pinned (.plain (OpenSpec.upto addrsOfSpec)) addrsOfUptoCard
end Rows
end Go.Proofs.YtpjmpckddnjikaaDoor
