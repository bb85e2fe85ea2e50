/-
  NARROWER THAN 'FOR EVERY INPUT', by the rows' own cells (each row's printed sentence says how): IdentsReserved: laid · IdentsTemp: laid · IdentsSum: laid · IdentsStable: laid · IdentsMade: laid.
  DERIVED. THE GIVEN ROWS OF THIS SEAT. 5 by the template 'for every input the law returns true; each argument reads behind the call as it read before'; 0 by the template 'total and deterministic' (their statements: YtmdalmegogfanaaDoorTotals.lean).
  GIVEN WITH THE SEED: the statements are not yours to turn. If you find one false, say at which input.
  Laid BY PROGRAM, IN A SANDBOX (cutbox-rows.mjs): the forced cells as the released guide's own fill.sh prints them over the translation 38311449d925f534… (all of the seat's roots in one cut). By AI agents, Wed Nov 11 2026. No macro, syntax, notation, axiom, sorry.
-/
import Derived.Test.YtmdalmegogfanaaDoorChecked
import GoSem.Claim
import GoSem.ClaimJoined
import GoSem.ClaimMapViews
import Derived.JoinedTies
import Derived.KernelRfl
namespace Go.Proofs.YtmdalmegogfanaaDoor
/- THE CELL 'sum', in the pinned program and in every row, IS THE sha256 OF THE DUMP (.gsa) THAT YtmdalmegogfanaaDoorProg.lean LOADS. Nothing in Lean hashes anything: it is a label: what it is worth is what the hold of that sum in a sandbox is worth. -/
noncomputable def Tryd.pinned : Pinned := { name := "ytmdalmegogfanaadoor", sum := "38311449d925f5346884cad6a1966d49d69a94393d356dbab1b13eafb4aefad8", checked := Tryd.checked }
namespace Rows
def none {H : Type} : Left H := { results := [], args := [] }

/- WHAT THE LISTED PACKAGE-LEVEL VARIABLES READ AS WHEN THE CALL BEGINS. Each datum BY PROGRAM (the guide's laid-datum.mjs) off the statement by which the dump's own 'gosem.cut.vars' lays the variable. In a bare row this is a premise. The card (YtmdalmegogfanaaDoorCards.lean) ties it to the program's text. -/
def laid_sojourner_idents_first {H : Type} : DataW H := .agg [.lit (.int .u32 1779033703), .lit (.int .u32 3144134277), .lit (.int .u32 1013904242), .lit (.int .u32 2773480762), .lit (.int .u32 1359893119), .lit (.int .u32 2600822924), .lit (.int .u32 528734635), .lit (.int .u32 1541459225)]
def laid_sojourner_idents_each {H : Type} : DataW H := .agg [.lit (.int .u32 1116352408), .lit (.int .u32 1899447441), .lit (.int .u32 3049323471), .lit (.int .u32 3921009573), .lit (.int .u32 961987163), .lit (.int .u32 1508970993), .lit (.int .u32 2453635748), .lit (.int .u32 2870763221), .lit (.int .u32 3624381080), .lit (.int .u32 310598401), .lit (.int .u32 607225278), .lit (.int .u32 1426881987), .lit (.int .u32 1925078388), .lit (.int .u32 2162078206), .lit (.int .u32 2614888103), .lit (.int .u32 3248222580), .lit (.int .u32 3835390401), .lit (.int .u32 4022224774), .lit (.int .u32 264347078), .lit (.int .u32 604807628), .lit (.int .u32 770255983), .lit (.int .u32 1249150122), .lit (.int .u32 1555081692), .lit (.int .u32 1996064986), .lit (.int .u32 2554220882), .lit (.int .u32 2821834349), .lit (.int .u32 2952996808), .lit (.int .u32 3210313671), .lit (.int .u32 3336571891), .lit (.int .u32 3584528711), .lit (.int .u32 113926993), .lit (.int .u32 338241895), .lit (.int .u32 666307205), .lit (.int .u32 773529912), .lit (.int .u32 1294757372), .lit (.int .u32 1396182291), .lit (.int .u32 1695183700), .lit (.int .u32 1986661051), .lit (.int .u32 2177026350), .lit (.int .u32 2456956037), .lit (.int .u32 2730485921), .lit (.int .u32 2820302411), .lit (.int .u32 3259730800), .lit (.int .u32 3345764771), .lit (.int .u32 3516065817), .lit (.int .u32 3600352804), .lit (.int .u32 4094571909), .lit (.int .u32 275423344), .lit (.int .u32 430227734), .lit (.int .u32 506948616), .lit (.int .u32 659060556), .lit (.int .u32 883997877), .lit (.int .u32 958139571), .lit (.int .u32 1322822218), .lit (.int .u32 1537002063), .lit (.int .u32 1747873779), .lit (.int .u32 1955562222), .lit (.int .u32 2024104815), .lit (.int .u32 2227730452), .lit (.int .u32 2361852424), .lit (.int .u32 2428436474), .lit (.int .u32 2756734187), .lit (.int .u32 3204031479), .lit (.int .u32 3329325298)]

/-- 'sojournerlaw15.IdentsReserved': WHATEVER THE INPUT: true; the input reads as it did. -/
def identsReservedSpec : ChangeSpec := { name := "identsReserved", fn := fun _ => fun
  | [d1, d2] => { results := [.lit (.bool true)], args := [d1, d2] }
  | _ => none }
def identsReservedRow : OpenClaim := { program := "ytmdalmegogfanaadoor", sum := "38311449d925f5346884cad6a1966d49d69a94393d356dbab1b13eafb4aefad8", func := "sojourner/sojournerlaw15.IdentsReserved", spec := "identsReserved", unfollowed := true, recurses := true, named := ["sojourner/idents.first", "sojourner/idents.each"], apart := false, laid := [("sojourner/idents.first", laid_sojourner_idents_first), ("sojourner/idents.each", laid_sojourner_idents_each)] }
def IdentsReservedSaid : Prop := identsReservedRow.holds Tryd.pinned (OpenSpec.ofChange identsReservedSpec)

/-- ITS FALSE NEIGHBOUR: 'it returns false'. Refute it at one input. -/
def identsReservedWrong : ChangeSpec := { name := "identsReserved", fn := fun _ => fun
  | [d1, d2] => { results := [.lit (.bool false)], args := [d1, d2] }
  | _ => none }
def IdentsReservedWrongFalsely : Prop := identsReservedRow.holds Tryd.pinned (OpenSpec.ofChange identsReservedWrong)

/-- 'sojournerlaw15.IdentsTemp': WHATEVER THE INPUT: true; the input reads as it did. -/
def identsTempSpec : ChangeSpec := { name := "identsTemp", fn := fun _ => fun
  | [d1, d2] => { results := [.lit (.bool true)], args := [d1, d2] }
  | _ => none }
def identsTempRow : OpenClaim := { program := "ytmdalmegogfanaadoor", sum := "38311449d925f5346884cad6a1966d49d69a94393d356dbab1b13eafb4aefad8", func := "sojourner/sojournerlaw15.IdentsTemp", spec := "identsTemp", unfollowed := true, recurses := true, named := ["sojourner/idents.first", "sojourner/idents.each"], apart := false, laid := [("sojourner/idents.first", laid_sojourner_idents_first), ("sojourner/idents.each", laid_sojourner_idents_each)] }
def IdentsTempSaid : Prop := identsTempRow.holds Tryd.pinned (OpenSpec.ofChange identsTempSpec)

/-- ITS FALSE NEIGHBOUR: 'it returns false'. Refute it at one input. -/
def identsTempWrong : ChangeSpec := { name := "identsTemp", fn := fun _ => fun
  | [d1, d2] => { results := [.lit (.bool false)], args := [d1, d2] }
  | _ => none }
def IdentsTempWrongFalsely : Prop := identsTempRow.holds Tryd.pinned (OpenSpec.ofChange identsTempWrong)

/-- 'sojournerlaw15.IdentsSum': WHATEVER THE INPUT: true; the input reads as it did. -/
def identsSumSpec : ChangeSpec := { name := "identsSum", fn := fun _ => fun
  | [d] => { results := [.lit (.bool true)], args := [d] }
  | _ => none }
def identsSumRow : OpenClaim := { program := "ytmdalmegogfanaadoor", sum := "38311449d925f5346884cad6a1966d49d69a94393d356dbab1b13eafb4aefad8", func := "sojourner/sojournerlaw15.IdentsSum", spec := "identsSum", unfollowed := true, recurses := true, named := ["sojourner/idents.first", "sojourner/idents.each"], apart := false, laid := [("sojourner/idents.first", laid_sojourner_idents_first), ("sojourner/idents.each", laid_sojourner_idents_each)] }
def IdentsSumSaid : Prop := identsSumRow.holds Tryd.pinned (OpenSpec.ofChange identsSumSpec)

/-- ITS FALSE NEIGHBOUR: 'it returns false'. Refute it at one input. -/
def identsSumWrong : ChangeSpec := { name := "identsSum", fn := fun _ => fun
  | [d] => { results := [.lit (.bool false)], args := [d] }
  | _ => none }
def IdentsSumWrongFalsely : Prop := identsSumRow.holds Tryd.pinned (OpenSpec.ofChange identsSumWrong)

/-- 'sojournerlaw15.IdentsStable': WHATEVER THE INPUT: true; the input reads as it did. -/
def identsStableSpec : ChangeSpec := { name := "identsStable", fn := fun _ => fun
  | [d1, d2, d3] => { results := [.lit (.bool true)], args := [d1, d2, d3] }
  | _ => none }
def identsStableRow : OpenClaim := { program := "ytmdalmegogfanaadoor", sum := "38311449d925f5346884cad6a1966d49d69a94393d356dbab1b13eafb4aefad8", func := "sojourner/sojournerlaw15.IdentsStable", spec := "identsStable", unfollowed := true, recurses := true, named := ["sojourner/idents.first", "sojourner/idents.each"], apart := false, laid := [("sojourner/idents.first", laid_sojourner_idents_first), ("sojourner/idents.each", laid_sojourner_idents_each)] }
def IdentsStableSaid : Prop := identsStableRow.holds Tryd.pinned (OpenSpec.ofChange identsStableSpec)

/-- ITS FALSE NEIGHBOUR: 'it returns false'. Refute it at one input. -/
def identsStableWrong : ChangeSpec := { name := "identsStable", fn := fun _ => fun
  | [d1, d2, d3] => { results := [.lit (.bool false)], args := [d1, d2, d3] }
  | _ => none }
def IdentsStableWrongFalsely : Prop := identsStableRow.holds Tryd.pinned (OpenSpec.ofChange identsStableWrong)

/-- 'sojournerlaw15.IdentsMade': WHATEVER THE INPUT: true; the input reads as it did. -/
def identsMadeSpec : ChangeSpec := { name := "identsMade", fn := fun _ => fun
  | [d1, d2, d3] => { results := [.lit (.bool true)], args := [d1, d2, d3] }
  | _ => none }
def identsMadeRow : OpenClaim := { program := "ytmdalmegogfanaadoor", sum := "38311449d925f5346884cad6a1966d49d69a94393d356dbab1b13eafb4aefad8", func := "sojourner/sojournerlaw15.IdentsMade", spec := "identsMade", unfollowed := true, recurses := true, named := ["sojourner/idents.first", "sojourner/idents.each"], apart := false, laid := [("sojourner/idents.first", laid_sojourner_idents_first), ("sojourner/idents.each", laid_sojourner_idents_each)] }
def IdentsMadeSaid : Prop := identsMadeRow.holds Tryd.pinned (OpenSpec.ofChange identsMadeSpec)

/-- ITS FALSE NEIGHBOUR: 'it returns false'. Refute it at one input. -/
def identsMadeWrong : ChangeSpec := { name := "identsMade", fn := fun _ => fun
  | [d1, d2, d3] => { results := [.lit (.bool false)], args := [d1, d2, d3] }
  | _ => none }
def IdentsMadeWrongFalsely : Prop := identsMadeRow.holds Tryd.pinned (OpenSpec.ofChange identsMadeWrong)

/- THE SECOND FORM. 'bulk': how many values and letters a reading holds, each counted each time it is reached (what is shared counts as often as it is met; a slice's spare places count too). A statement '..UptoSaid' is the law's where the arguments, and the package variables that the reading takes, are together of bulk at most 1048576: NARROWER than '..Said'. Prove '..Said' where nothing that the law and all that it calls make is longer than what came in: it says more and counts as full. Else prove '..UptoSaid'. A law counts once. -/
mutual
def uptoBulk {H : Type} : DataW H → Nat
  | .lit (.string bytes) => bytes.length + 1
  | .lit _ => 1
  | .nil => 1
  | .ptr d => uptoBulk d + 1
  | .slice elems spare => uptoBulkAll elems + uptoBulkAll spare + 1
  | .agg parts => uptoBulkAll parts + 1
  | .iface _ d => uptoBulk d + 1
  | .map entries => uptoBulkEntries entries + 1
  | .held _ => 1
def uptoBulkAll {H : Type} : List (DataW H) → Nat
  | [] => 0
  | d :: r => uptoBulk d + uptoBulkAll r
def uptoBulkEntries {H : Type} : List (Lit × DataW H) → Nat
  | [] => 0
  | x :: r => uptoBulkEntry x + uptoBulkEntries r
def uptoBulkEntry {H : Type} : Lit × DataW H → Nat
  | (.string bytes, d) => bytes.length + uptoBulk d + 1
  | (_, d) => uptoBulk d + 1
 end
def uptoSmall : (H : Type) → List (DataW H) → Bool := fun _ ds => decide (uptoBulkAll ds ≤ 1048576)
def OpenSpec.upto (s : _root_.Go.ChangeSpec) : _root_.Go.OpenSpec := { _root_.Go.OpenSpec.ofChange s with cond := some uptoSmall }

/-- 'sojournerlaw15.IdentsReserved', WHERE WHAT IT READS IS OF BULK AT MOST 1048576: true; the input reads as it did. -/
def identsReservedUptoRow : OpenClaim := { program := "ytmdalmegogfanaadoor", sum := "38311449d925f5346884cad6a1966d49d69a94393d356dbab1b13eafb4aefad8", func := "sojourner/sojournerlaw15.IdentsReserved", spec := "identsReserved", unfollowed := true, recurses := true, named := ["sojourner/idents.first", "sojourner/idents.each"], apart := false, laid := [("sojourner/idents.first", laid_sojourner_idents_first), ("sojourner/idents.each", laid_sojourner_idents_each)], narrowed := true }
def IdentsReservedUptoSaid : Prop := identsReservedUptoRow.holds Tryd.pinned (OpenSpec.upto identsReservedSpec)

/-- 'sojournerlaw15.IdentsTemp', WHERE WHAT IT READS IS OF BULK AT MOST 1048576: true; the input reads as it did. -/
def identsTempUptoRow : OpenClaim := { program := "ytmdalmegogfanaadoor", sum := "38311449d925f5346884cad6a1966d49d69a94393d356dbab1b13eafb4aefad8", func := "sojourner/sojournerlaw15.IdentsTemp", spec := "identsTemp", unfollowed := true, recurses := true, named := ["sojourner/idents.first", "sojourner/idents.each"], apart := false, laid := [("sojourner/idents.first", laid_sojourner_idents_first), ("sojourner/idents.each", laid_sojourner_idents_each)], narrowed := true }
def IdentsTempUptoSaid : Prop := identsTempUptoRow.holds Tryd.pinned (OpenSpec.upto identsTempSpec)

/-- 'sojournerlaw15.IdentsSum', WHERE WHAT IT READS IS OF BULK AT MOST 1048576: true; the input reads as it did. -/
def identsSumUptoRow : OpenClaim := { program := "ytmdalmegogfanaadoor", sum := "38311449d925f5346884cad6a1966d49d69a94393d356dbab1b13eafb4aefad8", func := "sojourner/sojournerlaw15.IdentsSum", spec := "identsSum", unfollowed := true, recurses := true, named := ["sojourner/idents.first", "sojourner/idents.each"], apart := false, laid := [("sojourner/idents.first", laid_sojourner_idents_first), ("sojourner/idents.each", laid_sojourner_idents_each)], narrowed := true }
def IdentsSumUptoSaid : Prop := identsSumUptoRow.holds Tryd.pinned (OpenSpec.upto identsSumSpec)

/-- 'sojournerlaw15.IdentsStable', WHERE WHAT IT READS IS OF BULK AT MOST 1048576: true; the input reads as it did. -/
def identsStableUptoRow : OpenClaim := { program := "ytmdalmegogfanaadoor", sum := "38311449d925f5346884cad6a1966d49d69a94393d356dbab1b13eafb4aefad8", func := "sojourner/sojournerlaw15.IdentsStable", spec := "identsStable", unfollowed := true, recurses := true, named := ["sojourner/idents.first", "sojourner/idents.each"], apart := false, laid := [("sojourner/idents.first", laid_sojourner_idents_first), ("sojourner/idents.each", laid_sojourner_idents_each)], narrowed := true }
def IdentsStableUptoSaid : Prop := identsStableUptoRow.holds Tryd.pinned (OpenSpec.upto identsStableSpec)

/-- 'sojournerlaw15.IdentsMade', WHERE WHAT IT READS IS OF BULK AT MOST 1048576: true; the input reads as it did. -/
def identsMadeUptoRow : OpenClaim := { program := "ytmdalmegogfanaadoor", sum := "38311449d925f5346884cad6a1966d49d69a94393d356dbab1b13eafb4aefad8", func := "sojourner/sojournerlaw15.IdentsMade", spec := "identsMade", unfollowed := true, recurses := true, named := ["sojourner/idents.first", "sojourner/idents.each"], apart := false, laid := [("sojourner/idents.first", laid_sojourner_idents_first), ("sojourner/idents.each", laid_sojourner_idents_each)], narrowed := true }
def IdentsMadeUptoSaid : Prop := identsMadeUptoRow.holds Tryd.pinned (OpenSpec.upto identsMadeSpec)

end Rows
end Go.Proofs.YtmdalmegogfanaaDoor
