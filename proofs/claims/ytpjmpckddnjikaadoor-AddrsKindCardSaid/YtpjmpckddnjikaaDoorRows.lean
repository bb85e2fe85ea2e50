/-
  NARROWER THAN 'FOR EVERY INPUT', by the rows' own cells (each row's printed sentence says how): AddrsMasked: laid · AddrsScopes: laid · AddrsPrefix: laid · AddrsKind: laid · AddrsBits: laid · AddrsOf: laid.
  DERIVED. THE GIVEN ROWS OF THIS SEAT. 6 by the template 'for every input the law returns true; each argument reads behind the call as it read before'; 0 by the template 'total and deterministic' (their statements: YtpjmpckddnjikaaDoorTotals.lean).
  GIVEN WITH THE SEED: the statements are not yours to turn. If you find one false, say at which input.
  Laid BY PROGRAM, IN A SANDBOX (cutbox-rows.mjs): the forced cells as the released guide's own fill.sh prints them over the translation 7a65ea91e891d6aa… (all of the seat's roots in one cut). By AI agents, Wed Nov 11 2026. No macro, syntax, notation, axiom, sorry.
-/
import Derived.Test.YtpjmpckddnjikaaDoorChecked
import GoSem.Claim
import GoSem.ClaimJoined
import GoSem.ClaimMapViews
import Derived.JoinedTies
import Derived.KernelRfl
namespace Go.Proofs.YtpjmpckddnjikaaDoor
/- THE CELL 'sum', in the pinned program and in every row, IS THE sha256 OF THE DUMP (.gsa) THAT YtpjmpckddnjikaaDoorProg.lean LOADS. Nothing in Lean hashes anything: it is a label: what it is worth is what the hold of that sum in a sandbox is worth. -/
noncomputable def Tryd.pinned : Pinned := { name := "ytpjmpckddnjikaadoor", sum := "7a65ea91e891d6aac8a256e91bf1cd4bcf7621533ab7be8064cca4bd41de6a62", checked := Tryd.checked }
namespace Rows
def none {H : Type} : Left H := { results := [], args := [] }

/- WHAT THE LISTED PACKAGE-LEVEL VARIABLES READ AS WHEN THE CALL BEGINS. Each datum BY PROGRAM (the guide's laid-datum.mjs) off the statement by which the dump's own 'gosem.cut.vars' lays the variable. In a bare row this is a premise. The card (YtpjmpckddnjikaaDoorCards.lean) ties it to the program's text. -/
def laid_sojourner_addrs_known {H : Type} : DataW H := .agg [.agg [.lit (.int .u8 0), .lit (.int .u8 0), .lit (.int .u8 0), .lit (.int .u8 0), .lit (.int .u8 0), .lit (.int .u8 0), .lit (.int .u8 0), .lit (.int .u8 0), .lit (.int .u8 0), .lit (.int .u8 0), .lit (.int .u8 0), .lit (.int .u8 0), .lit (.int .u8 0), .lit (.int .u8 0), .lit (.int .u8 0), .lit (.int .u8 0)], .agg [.lit (.int .u8 0), .lit (.int .u8 0), .lit (.int .u8 0), .lit (.int .u8 0), .lit (.int .u8 0), .lit (.int .u8 0), .lit (.int .u8 0), .lit (.int .u8 0), .lit (.int .u8 0), .lit (.int .u8 0), .lit (.int .u8 0), .lit (.int .u8 0), .lit (.int .u8 0), .lit (.int .u8 0), .lit (.int .u8 0), .lit (.int .u8 1)], .agg [.lit (.int .u8 255), .lit (.int .u8 2), .lit (.int .u8 0), .lit (.int .u8 0), .lit (.int .u8 0), .lit (.int .u8 0), .lit (.int .u8 0), .lit (.int .u8 0), .lit (.int .u8 0), .lit (.int .u8 0), .lit (.int .u8 0), .lit (.int .u8 0), .lit (.int .u8 0), .lit (.int .u8 0), .lit (.int .u8 0), .lit (.int .u8 1)], .agg [.lit (.int .u8 255), .lit (.int .u8 2), .lit (.int .u8 0), .lit (.int .u8 0), .lit (.int .u8 0), .lit (.int .u8 0), .lit (.int .u8 0), .lit (.int .u8 0), .lit (.int .u8 0), .lit (.int .u8 0), .lit (.int .u8 0), .lit (.int .u8 0), .lit (.int .u8 0), .lit (.int .u8 0), .lit (.int .u8 0), .lit (.int .u8 2)], .agg [.lit (.int .u8 255), .lit (.int .u8 2), .lit (.int .u8 0), .lit (.int .u8 0), .lit (.int .u8 0), .lit (.int .u8 0), .lit (.int .u8 0), .lit (.int .u8 0), .lit (.int .u8 0), .lit (.int .u8 0), .lit (.int .u8 0), .lit (.int .u8 0), .lit (.int .u8 0), .lit (.int .u8 0), .lit (.int .u8 0), .lit (.int .u8 22)], .agg [.lit (.int .u8 255), .lit (.int .u8 2), .lit (.int .u8 0), .lit (.int .u8 0), .lit (.int .u8 0), .lit (.int .u8 0), .lit (.int .u8 0), .lit (.int .u8 0), .lit (.int .u8 0), .lit (.int .u8 0), .lit (.int .u8 0), .lit (.int .u8 0), .lit (.int .u8 0), .lit (.int .u8 1), .lit (.int .u8 0), .lit (.int .u8 2)], .agg [.lit (.int .u8 255), .lit (.int .u8 2), .lit (.int .u8 0), .lit (.int .u8 0), .lit (.int .u8 0), .lit (.int .u8 0), .lit (.int .u8 0), .lit (.int .u8 0), .lit (.int .u8 0), .lit (.int .u8 0), .lit (.int .u8 0), .lit (.int .u8 1), .lit (.int .u8 255), .lit (.int .u8 0), .lit (.int .u8 0), .lit (.int .u8 0)]]

/-- 'sojournerlaw06.AddrsMasked': WHATEVER THE INPUT: true; the input reads as it did. -/
def addrsMaskedSpec : ChangeSpec := { name := "addrsMasked", fn := fun _ => fun
  | [d1, d2, d3] => { results := [.lit (.bool true)], args := [d1, d2, d3] }
  | _ => none }
def addrsMaskedRow : OpenClaim := { program := "ytpjmpckddnjikaadoor", sum := "7a65ea91e891d6aac8a256e91bf1cd4bcf7621533ab7be8064cca4bd41de6a62", func := "sojourner/sojournerlaw06.AddrsMasked", spec := "addrsMasked", named := ["sojourner/addrs.known"], apart := false, laid := [("sojourner/addrs.known", laid_sojourner_addrs_known)] }
def AddrsMaskedSaid : Prop := addrsMaskedRow.holds Tryd.pinned (OpenSpec.ofChange addrsMaskedSpec)

/-- ITS FALSE NEIGHBOUR: 'it returns false'. Refute it at one input. -/
def addrsMaskedWrong : ChangeSpec := { name := "addrsMasked", fn := fun _ => fun
  | [d1, d2, d3] => { results := [.lit (.bool false)], args := [d1, d2, d3] }
  | _ => none }
def AddrsMaskedWrongFalsely : Prop := addrsMaskedRow.holds Tryd.pinned (OpenSpec.ofChange addrsMaskedWrong)

/-- 'sojournerlaw06.AddrsScopes': WHATEVER THE INPUT: true; the input reads as it did. -/
def addrsScopesSpec : ChangeSpec := { name := "addrsScopes", fn := fun _ => fun
  | [d] => { results := [.lit (.bool true)], args := [d] }
  | _ => none }
def addrsScopesRow : OpenClaim := { program := "ytpjmpckddnjikaadoor", sum := "7a65ea91e891d6aac8a256e91bf1cd4bcf7621533ab7be8064cca4bd41de6a62", func := "sojourner/sojournerlaw06.AddrsScopes", spec := "addrsScopes", named := ["sojourner/addrs.known"], apart := false, laid := [("sojourner/addrs.known", laid_sojourner_addrs_known)] }
def AddrsScopesSaid : Prop := addrsScopesRow.holds Tryd.pinned (OpenSpec.ofChange addrsScopesSpec)

/-- ITS FALSE NEIGHBOUR: 'it returns false'. Refute it at one input. -/
def addrsScopesWrong : ChangeSpec := { name := "addrsScopes", fn := fun _ => fun
  | [d] => { results := [.lit (.bool false)], args := [d] }
  | _ => none }
def AddrsScopesWrongFalsely : Prop := addrsScopesRow.holds Tryd.pinned (OpenSpec.ofChange addrsScopesWrong)

/-- 'sojournerlaw06.AddrsPrefix': WHATEVER THE INPUT: true; the input reads as it did. -/
def addrsPrefixSpec : ChangeSpec := { name := "addrsPrefix", fn := fun _ => fun
  | [d1, d2, d3] => { results := [.lit (.bool true)], args := [d1, d2, d3] }
  | _ => none }
def addrsPrefixRow : OpenClaim := { program := "ytpjmpckddnjikaadoor", sum := "7a65ea91e891d6aac8a256e91bf1cd4bcf7621533ab7be8064cca4bd41de6a62", func := "sojourner/sojournerlaw06.AddrsPrefix", spec := "addrsPrefix", named := ["sojourner/addrs.known"], apart := false, laid := [("sojourner/addrs.known", laid_sojourner_addrs_known)] }
def AddrsPrefixSaid : Prop := addrsPrefixRow.holds Tryd.pinned (OpenSpec.ofChange addrsPrefixSpec)

/-- ITS FALSE NEIGHBOUR: 'it returns false'. Refute it at one input. -/
def addrsPrefixWrong : ChangeSpec := { name := "addrsPrefix", fn := fun _ => fun
  | [d1, d2, d3] => { results := [.lit (.bool false)], args := [d1, d2, d3] }
  | _ => none }
def AddrsPrefixWrongFalsely : Prop := addrsPrefixRow.holds Tryd.pinned (OpenSpec.ofChange addrsPrefixWrong)

/-- 'sojournerlaw06.AddrsKind': WHATEVER THE INPUT: true; the input reads as it did. -/
def addrsKindSpec : ChangeSpec := { name := "addrsKind", fn := fun _ => fun
  | [d] => { results := [.lit (.bool true)], args := [d] }
  | _ => none }
def addrsKindRow : OpenClaim := { program := "ytpjmpckddnjikaadoor", sum := "7a65ea91e891d6aac8a256e91bf1cd4bcf7621533ab7be8064cca4bd41de6a62", func := "sojourner/sojournerlaw06.AddrsKind", spec := "addrsKind", named := ["sojourner/addrs.known"], apart := false, laid := [("sojourner/addrs.known", laid_sojourner_addrs_known)] }
def AddrsKindSaid : Prop := addrsKindRow.holds Tryd.pinned (OpenSpec.ofChange addrsKindSpec)

/-- ITS FALSE NEIGHBOUR: 'it returns false'. Refute it at one input. -/
def addrsKindWrong : ChangeSpec := { name := "addrsKind", fn := fun _ => fun
  | [d] => { results := [.lit (.bool false)], args := [d] }
  | _ => none }
def AddrsKindWrongFalsely : Prop := addrsKindRow.holds Tryd.pinned (OpenSpec.ofChange addrsKindWrong)

/-- 'sojournerlaw06.AddrsBits': WHATEVER THE INPUT: true; the input reads as it did. -/
def addrsBitsSpec : ChangeSpec := { name := "addrsBits", fn := fun _ => fun
  | [d1, d2, d3] => { results := [.lit (.bool true)], args := [d1, d2, d3] }
  | _ => none }
def addrsBitsRow : OpenClaim := { program := "ytpjmpckddnjikaadoor", sum := "7a65ea91e891d6aac8a256e91bf1cd4bcf7621533ab7be8064cca4bd41de6a62", func := "sojourner/sojournerlaw06.AddrsBits", spec := "addrsBits", named := ["sojourner/addrs.known"], apart := false, laid := [("sojourner/addrs.known", laid_sojourner_addrs_known)] }
def AddrsBitsSaid : Prop := addrsBitsRow.holds Tryd.pinned (OpenSpec.ofChange addrsBitsSpec)

/-- ITS FALSE NEIGHBOUR: 'it returns false'. Refute it at one input. -/
def addrsBitsWrong : ChangeSpec := { name := "addrsBits", fn := fun _ => fun
  | [d1, d2, d3] => { results := [.lit (.bool false)], args := [d1, d2, d3] }
  | _ => none }
def AddrsBitsWrongFalsely : Prop := addrsBitsRow.holds Tryd.pinned (OpenSpec.ofChange addrsBitsWrong)

/-- 'sojournerlaw06.AddrsOf': WHATEVER THE INPUT: true; the input reads as it did. -/
def addrsOfSpec : ChangeSpec := { name := "addrsOf", fn := fun _ => fun
  | [d1, d2, d3] => { results := [.lit (.bool true)], args := [d1, d2, d3] }
  | _ => none }
def addrsOfRow : OpenClaim := { program := "ytpjmpckddnjikaadoor", sum := "7a65ea91e891d6aac8a256e91bf1cd4bcf7621533ab7be8064cca4bd41de6a62", func := "sojourner/sojournerlaw06.AddrsOf", spec := "addrsOf", named := ["sojourner/addrs.known"], apart := false, laid := [("sojourner/addrs.known", laid_sojourner_addrs_known)] }
def AddrsOfSaid : Prop := addrsOfRow.holds Tryd.pinned (OpenSpec.ofChange addrsOfSpec)

/-- ITS FALSE NEIGHBOUR: 'it returns false'. Refute it at one input. -/
def addrsOfWrong : ChangeSpec := { name := "addrsOf", fn := fun _ => fun
  | [d1, d2, d3] => { results := [.lit (.bool false)], args := [d1, d2, d3] }
  | _ => none }
def AddrsOfWrongFalsely : Prop := addrsOfRow.holds Tryd.pinned (OpenSpec.ofChange addrsOfWrong)

/- THE SECOND FORM. 'bulk': how many values and letters a reading holds, each counted each time it is reached (what is shared counts as often as it is met; a slice's spare places count too). A statement '..UptoSaid' is the law's where the arguments, and the package variables that the reading takes, are together of bulk at most 1048576: NARROWER than '..Said'. Prove '..Said' where nothing that the law and all that it calls make is longer than what came in: it says more and counts as full. Else prove '..UptoSaid'. A law counts once. -/
mutual
def uptoBulk {H : Type} : DataW H → Nat
  | .lit (.string bytes) => bytes.length + 1
  | .lit _ => 1
  | .nil => 1
  | .ptr d => uptoBulk d + 1
  | .slice elems spare => uptoBulkAll elems + uptoBulkAll spare + 1
  | .agg parts => uptoBulkAll parts + 1
  | .iface _ d => uptoBulk d + 1
  | .map entries => uptoBulkEntries entries + 1
  | .held _ => 1
def uptoBulkAll {H : Type} : List (DataW H) → Nat
  | [] => 0
  | d :: r => uptoBulk d + uptoBulkAll r
def uptoBulkEntries {H : Type} : List (Lit × DataW H) → Nat
  | [] => 0
  | x :: r => uptoBulkEntry x + uptoBulkEntries r
def uptoBulkEntry {H : Type} : Lit × DataW H → Nat
  | (.string bytes, d) => bytes.length + uptoBulk d + 1
  | (_, d) => uptoBulk d + 1
 end
def uptoSmall : (H : Type) → List (DataW H) → Bool := fun _ ds => decide (uptoBulkAll ds ≤ 1048576)
def OpenSpec.upto (s : _root_.Go.ChangeSpec) : _root_.Go.OpenSpec := { _root_.Go.OpenSpec.ofChange s with cond := some uptoSmall }

/-- 'sojournerlaw06.AddrsMasked', WHERE WHAT IT READS IS OF BULK AT MOST 1048576: true; the input reads as it did. -/
def addrsMaskedUptoRow : OpenClaim := { program := "ytpjmpckddnjikaadoor", sum := "7a65ea91e891d6aac8a256e91bf1cd4bcf7621533ab7be8064cca4bd41de6a62", func := "sojourner/sojournerlaw06.AddrsMasked", spec := "addrsMasked", named := ["sojourner/addrs.known"], apart := false, laid := [("sojourner/addrs.known", laid_sojourner_addrs_known)], narrowed := true }
def AddrsMaskedUptoSaid : Prop := addrsMaskedUptoRow.holds Tryd.pinned (OpenSpec.upto addrsMaskedSpec)

/-- 'sojournerlaw06.AddrsScopes', WHERE WHAT IT READS IS OF BULK AT MOST 1048576: true; the input reads as it did. -/
def addrsScopesUptoRow : OpenClaim := { program := "ytpjmpckddnjikaadoor", sum := "7a65ea91e891d6aac8a256e91bf1cd4bcf7621533ab7be8064cca4bd41de6a62", func := "sojourner/sojournerlaw06.AddrsScopes", spec := "addrsScopes", named := ["sojourner/addrs.known"], apart := false, laid := [("sojourner/addrs.known", laid_sojourner_addrs_known)], narrowed := true }
def AddrsScopesUptoSaid : Prop := addrsScopesUptoRow.holds Tryd.pinned (OpenSpec.upto addrsScopesSpec)

/-- 'sojournerlaw06.AddrsPrefix', WHERE WHAT IT READS IS OF BULK AT MOST 1048576: true; the input reads as it did. -/
def addrsPrefixUptoRow : OpenClaim := { program := "ytpjmpckddnjikaadoor", sum := "7a65ea91e891d6aac8a256e91bf1cd4bcf7621533ab7be8064cca4bd41de6a62", func := "sojourner/sojournerlaw06.AddrsPrefix", spec := "addrsPrefix", named := ["sojourner/addrs.known"], apart := false, laid := [("sojourner/addrs.known", laid_sojourner_addrs_known)], narrowed := true }
def AddrsPrefixUptoSaid : Prop := addrsPrefixUptoRow.holds Tryd.pinned (OpenSpec.upto addrsPrefixSpec)

/-- 'sojournerlaw06.AddrsKind', WHERE WHAT IT READS IS OF BULK AT MOST 1048576: true; the input reads as it did. -/
def addrsKindUptoRow : OpenClaim := { program := "ytpjmpckddnjikaadoor", sum := "7a65ea91e891d6aac8a256e91bf1cd4bcf7621533ab7be8064cca4bd41de6a62", func := "sojourner/sojournerlaw06.AddrsKind", spec := "addrsKind", named := ["sojourner/addrs.known"], apart := false, laid := [("sojourner/addrs.known", laid_sojourner_addrs_known)], narrowed := true }
def AddrsKindUptoSaid : Prop := addrsKindUptoRow.holds Tryd.pinned (OpenSpec.upto addrsKindSpec)

/-- 'sojournerlaw06.AddrsBits', WHERE WHAT IT READS IS OF BULK AT MOST 1048576: true; the input reads as it did. -/
def addrsBitsUptoRow : OpenClaim := { program := "ytpjmpckddnjikaadoor", sum := "7a65ea91e891d6aac8a256e91bf1cd4bcf7621533ab7be8064cca4bd41de6a62", func := "sojourner/sojournerlaw06.AddrsBits", spec := "addrsBits", named := ["sojourner/addrs.known"], apart := false, laid := [("sojourner/addrs.known", laid_sojourner_addrs_known)], narrowed := true }
def AddrsBitsUptoSaid : Prop := addrsBitsUptoRow.holds Tryd.pinned (OpenSpec.upto addrsBitsSpec)

/-- 'sojournerlaw06.AddrsOf', WHERE WHAT IT READS IS OF BULK AT MOST 1048576: true; the input reads as it did. -/
def addrsOfUptoRow : OpenClaim := { program := "ytpjmpckddnjikaadoor", sum := "7a65ea91e891d6aac8a256e91bf1cd4bcf7621533ab7be8064cca4bd41de6a62", func := "sojourner/sojournerlaw06.AddrsOf", spec := "addrsOf", named := ["sojourner/addrs.known"], apart := false, laid := [("sojourner/addrs.known", laid_sojourner_addrs_known)], narrowed := true }
def AddrsOfUptoSaid : Prop := addrsOfUptoRow.holds Tryd.pinned (OpenSpec.upto addrsOfSpec)

end Rows
end Go.Proofs.YtpjmpckddnjikaaDoor
