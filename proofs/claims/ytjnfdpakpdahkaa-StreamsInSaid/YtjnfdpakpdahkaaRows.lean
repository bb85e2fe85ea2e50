/-
  No cell of these rows narrows 'for every input' (looked for: loops, veiled, ifaces, maps, wideKeys, modest, calm, conditions, laid).
  DERIVED. THE GIVEN ROWS OF THIS SEAT. 4 by the template 'for every input the law returns true; each argument reads behind the call as it read before'; 0 by the template 'total and deterministic' (their statements: YtjnfdpakpdahkaaTotals.lean).
  GIVEN WITH THE SEED: the statements are not yours to turn. If you find one false, say at which input.
  Laid BY PROGRAM, IN A SANDBOX (cutbox-rows.mjs): the forced cells as the released guide's own fill.sh prints them over the translation 1d7bbfa5f988ff0c… (all of the seat's roots in one cut). By AI agents, Wed Nov 11 2026. No macro, syntax, notation, axiom, sorry.
-/
import Derived.Test.YtjnfdpakpdahkaaChecked
import GoSem.Claim
import GoSem.ClaimJoined
import GoSem.ClaimMapViews
import Derived.JoinedTies
import Derived.KernelRfl
namespace Go.Proofs.Ytjnfdpakpdahkaa
/- THE CELL 'sum', in the pinned program and in every row, IS THE sha256 OF THE DUMP (.gsa) THAT YtjnfdpakpdahkaaProg.lean LOADS. Nothing in Lean hashes anything: it is a label: what it is worth is what the hold of that sum in a sandbox is worth. -/
noncomputable def Try.pinned : Pinned := { name := "ytjnfdpakpdahkaa", sum := "1d7bbfa5f988ff0ce2d8dcc74310f70ee7b370a2e1e68e9b1a7e69652c4d2576", checked := Try.checked }
namespace Rows
def none {H : Type} : Left H := { results := [], args := [] }

/-- 'sojournerlaw27.StreamsEnd': WHATEVER THE INPUT: true; the input reads as it did. -/
def streamsEndSpec : ChangeSpec := { name := "streamsEnd", fn := fun _ => fun
  | [d1, d2, d3] => { results := [.lit (.bool true)], args := [d1, d2, d3] }
  | _ => none }
def streamsEndRow : OpenClaim := { program := "ytjnfdpakpdahkaa", sum := "1d7bbfa5f988ff0ce2d8dcc74310f70ee7b370a2e1e68e9b1a7e69652c4d2576", func := "sojourner/sojournerlaw27.StreamsEnd", spec := "streamsEnd", apart := false }
def StreamsEndSaid : Prop := streamsEndRow.holds Try.pinned (OpenSpec.ofChange streamsEndSpec)

/-- ITS FALSE NEIGHBOUR: 'it returns false'. Refute it at one input. -/
def streamsEndWrong : ChangeSpec := { name := "streamsEnd", fn := fun _ => fun
  | [d1, d2, d3] => { results := [.lit (.bool false)], args := [d1, d2, d3] }
  | _ => none }
def StreamsEndWrongFalsely : Prop := streamsEndRow.holds Try.pinned (OpenSpec.ofChange streamsEndWrong)

/-- 'sojournerlaw27.StreamsTrue': WHATEVER THE INPUT: true; the input reads as it did. -/
def streamsTrueSpec : ChangeSpec := { name := "streamsTrue", fn := fun _ => fun
  | [d1, d2, d3] => { results := [.lit (.bool true)], args := [d1, d2, d3] }
  | _ => none }
def streamsTrueRow : OpenClaim := { program := "ytjnfdpakpdahkaa", sum := "1d7bbfa5f988ff0ce2d8dcc74310f70ee7b370a2e1e68e9b1a7e69652c4d2576", func := "sojourner/sojournerlaw27.StreamsTrue", spec := "streamsTrue", apart := false }
def StreamsTrueSaid : Prop := streamsTrueRow.holds Try.pinned (OpenSpec.ofChange streamsTrueSpec)

/-- ITS FALSE NEIGHBOUR: 'it returns false'. Refute it at one input. -/
def streamsTrueWrong : ChangeSpec := { name := "streamsTrue", fn := fun _ => fun
  | [d1, d2, d3] => { results := [.lit (.bool false)], args := [d1, d2, d3] }
  | _ => none }
def StreamsTrueWrongFalsely : Prop := streamsTrueRow.holds Try.pinned (OpenSpec.ofChange streamsTrueWrong)

/-- 'sojournerlaw27.StreamsHeld': WHATEVER THE INPUT: true; the input reads as it did. -/
def streamsHeldSpec : ChangeSpec := { name := "streamsHeld", fn := fun _ => fun
  | [d1, d2, d3] => { results := [.lit (.bool true)], args := [d1, d2, d3] }
  | _ => none }
def streamsHeldRow : OpenClaim := { program := "ytjnfdpakpdahkaa", sum := "1d7bbfa5f988ff0ce2d8dcc74310f70ee7b370a2e1e68e9b1a7e69652c4d2576", func := "sojourner/sojournerlaw27.StreamsHeld", spec := "streamsHeld", apart := false }
def StreamsHeldSaid : Prop := streamsHeldRow.holds Try.pinned (OpenSpec.ofChange streamsHeldSpec)

/-- ITS FALSE NEIGHBOUR: 'it returns false'. Refute it at one input. -/
def streamsHeldWrong : ChangeSpec := { name := "streamsHeld", fn := fun _ => fun
  | [d1, d2, d3] => { results := [.lit (.bool false)], args := [d1, d2, d3] }
  | _ => none }
def StreamsHeldWrongFalsely : Prop := streamsHeldRow.holds Try.pinned (OpenSpec.ofChange streamsHeldWrong)

/-- 'sojournerlaw27.StreamsIn': WHATEVER THE INPUT: true; the input reads as it did. -/
def streamsInSpec : ChangeSpec := { name := "streamsIn", fn := fun _ => fun
  | [d1, d2] => { results := [.lit (.bool true)], args := [d1, d2] }
  | _ => none }
def streamsInRow : OpenClaim := { program := "ytjnfdpakpdahkaa", sum := "1d7bbfa5f988ff0ce2d8dcc74310f70ee7b370a2e1e68e9b1a7e69652c4d2576", func := "sojourner/sojournerlaw27.StreamsIn", spec := "streamsIn", unfollowed := true, recurses := true, apart := false }
def StreamsInSaid : Prop := streamsInRow.holds Try.pinned (OpenSpec.ofChange streamsInSpec)

/-- ITS FALSE NEIGHBOUR: 'it returns false'. Refute it at one input. -/
def streamsInWrong : ChangeSpec := { name := "streamsIn", fn := fun _ => fun
  | [d1, d2] => { results := [.lit (.bool false)], args := [d1, d2] }
  | _ => none }
def StreamsInWrongFalsely : Prop := streamsInRow.holds Try.pinned (OpenSpec.ofChange streamsInWrong)

/- THE SECOND FORM. 'bulk': how many values and letters a reading holds, each counted each time it is reached (what is shared counts as often as it is met; a slice's spare places count too). A statement '..UptoSaid' is the law's where the arguments, and the package variables that the reading takes, are together of bulk at most 1048576: NARROWER than '..Said'. Prove '..Said' where nothing that the law and all that it calls make is longer than what came in: it says more and counts as full. Else prove '..UptoSaid'. A law counts once. -/
mutual
def uptoBulk {H : Type} : DataW H → Nat
  | .lit (.string bytes) => bytes.length + 1
  | .lit _ => 1
  | .nil => 1
  | .ptr d => uptoBulk d + 1
  | .slice elems spare => uptoBulkAll elems + uptoBulkAll spare + 1
  | .agg parts => uptoBulkAll parts + 1
  | .iface _ d => uptoBulk d + 1
  | .map entries => uptoBulkEntries entries + 1
  | .held _ => 1
def uptoBulkAll {H : Type} : List (DataW H) → Nat
  | [] => 0
  | d :: r => uptoBulk d + uptoBulkAll r
def uptoBulkEntries {H : Type} : List (Lit × DataW H) → Nat
  | [] => 0
  | x :: r => uptoBulkEntry x + uptoBulkEntries r
def uptoBulkEntry {H : Type} : Lit × DataW H → Nat
  | (.string bytes, d) => bytes.length + uptoBulk d + 1
  | (_, d) => uptoBulk d + 1
 end
def uptoSmall : (H : Type) → List (DataW H) → Bool := fun _ ds => decide (uptoBulkAll ds ≤ 1048576)
def OpenSpec.upto (s : _root_.Go.ChangeSpec) : _root_.Go.OpenSpec := { _root_.Go.OpenSpec.ofChange s with cond := some uptoSmall }

/-- 'sojournerlaw27.StreamsEnd', WHERE WHAT IT READS IS OF BULK AT MOST 1048576: true; the input reads as it did. -/
def streamsEndUptoRow : OpenClaim := { program := "ytjnfdpakpdahkaa", sum := "1d7bbfa5f988ff0ce2d8dcc74310f70ee7b370a2e1e68e9b1a7e69652c4d2576", func := "sojourner/sojournerlaw27.StreamsEnd", spec := "streamsEnd", apart := false, narrowed := true }
def StreamsEndUptoSaid : Prop := streamsEndUptoRow.holds Try.pinned (OpenSpec.upto streamsEndSpec)

/-- 'sojournerlaw27.StreamsTrue', WHERE WHAT IT READS IS OF BULK AT MOST 1048576: true; the input reads as it did. -/
def streamsTrueUptoRow : OpenClaim := { program := "ytjnfdpakpdahkaa", sum := "1d7bbfa5f988ff0ce2d8dcc74310f70ee7b370a2e1e68e9b1a7e69652c4d2576", func := "sojourner/sojournerlaw27.StreamsTrue", spec := "streamsTrue", apart := false, narrowed := true }
def StreamsTrueUptoSaid : Prop := streamsTrueUptoRow.holds Try.pinned (OpenSpec.upto streamsTrueSpec)

/-- 'sojournerlaw27.StreamsHeld', WHERE WHAT IT READS IS OF BULK AT MOST 1048576: true; the input reads as it did. -/
def streamsHeldUptoRow : OpenClaim := { program := "ytjnfdpakpdahkaa", sum := "1d7bbfa5f988ff0ce2d8dcc74310f70ee7b370a2e1e68e9b1a7e69652c4d2576", func := "sojourner/sojournerlaw27.StreamsHeld", spec := "streamsHeld", apart := false, narrowed := true }
def StreamsHeldUptoSaid : Prop := streamsHeldUptoRow.holds Try.pinned (OpenSpec.upto streamsHeldSpec)

/-- 'sojournerlaw27.StreamsIn', WHERE WHAT IT READS IS OF BULK AT MOST 1048576: true; the input reads as it did. -/
def streamsInUptoRow : OpenClaim := { program := "ytjnfdpakpdahkaa", sum := "1d7bbfa5f988ff0ce2d8dcc74310f70ee7b370a2e1e68e9b1a7e69652c4d2576", func := "sojourner/sojournerlaw27.StreamsIn", spec := "streamsIn", unfollowed := true, recurses := true, apart := false, narrowed := true }
def StreamsInUptoSaid : Prop := streamsInUptoRow.holds Try.pinned (OpenSpec.upto streamsInSpec)

end Rows
end Go.Proofs.Ytjnfdpakpdahkaa
