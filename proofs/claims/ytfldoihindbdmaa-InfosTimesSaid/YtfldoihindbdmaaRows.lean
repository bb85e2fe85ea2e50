/-
  No cell of these rows narrows 'for every input' (looked for: loops, veiled, ifaces, maps, wideKeys, modest, calm, conditions, laid).
  DERIVED. THE GIVEN ROWS OF THIS SEAT. 6 by the template 'for every input the law returns true; each argument reads behind the call as it read before'; 0 by the template 'total and deterministic' (their statements: YtfldoihindbdmaaTotals.lean).
  GIVEN WITH THE SEED: the statements are not yours to turn. If you find one false, say at which input.
  Laid BY PROGRAM, IN A SANDBOX (cutbox-rows.mjs): the forced cells as the released guide's own fill.sh prints them over the translation 64a56f53ae959119… (all of the seat's roots in one cut). By AI agents, Wed Nov 11 2026. No macro, syntax, notation, axiom, sorry.
-/
import Derived.Test.YtfldoihindbdmaaChecked
import GoSem.Claim
import GoSem.ClaimJoined
import GoSem.ClaimMapViews
import Derived.JoinedTies
import Derived.KernelRfl
namespace Go.Proofs.Ytfldoihindbdmaa
/- THE CELL 'sum', in the pinned program and in every row, IS THE sha256 OF THE DUMP (.gsa) THAT YtfldoihindbdmaaProg.lean LOADS. Nothing in Lean hashes anything: it is a label: what it is worth is what the hold of that sum in a sandbox is worth. -/
noncomputable def Try.pinned : Pinned := { name := "ytfldoihindbdmaa", sum := "64a56f53ae959119557c58d9ee0cbfa55eb48de5f4f659eb27e3253ddb7ab0ca", checked := Try.checked }
namespace Rows
def none {H : Type} : Left H := { results := [], args := [] }

/-- 'sojournerlaw26.InfosNone': WHATEVER THE INPUT: true; the input reads as it did. -/
def infosNoneSpec : ChangeSpec := { name := "infosNone", fn := fun _ => fun
  | [d] => { results := [.lit (.bool true)], args := [d] }
  | _ => none }
def infosNoneRow : OpenClaim := { program := "ytfldoihindbdmaa", sum := "64a56f53ae959119557c58d9ee0cbfa55eb48de5f4f659eb27e3253ddb7ab0ca", func := "sojourner/sojournerlaw26.InfosNone", spec := "infosNone", inPlace := ["internal/abi.NoEscape", "internal/bytealg.MakeNoZero"], unfollowed := true, recurses := true, apart := false }
def InfosNoneSaid : Prop := infosNoneRow.holds Try.pinned (OpenSpec.ofChange infosNoneSpec)

/-- ITS FALSE NEIGHBOUR: 'it returns false'. Refute it at one input. -/
def infosNoneWrong : ChangeSpec := { name := "infosNone", fn := fun _ => fun
  | [d] => { results := [.lit (.bool false)], args := [d] }
  | _ => none }
def InfosNoneWrongFalsely : Prop := infosNoneRow.holds Try.pinned (OpenSpec.ofChange infosNoneWrong)

/-- 'sojournerlaw26.InfosNames': WHATEVER THE INPUT: true; the input reads as it did. -/
def infosNamesSpec : ChangeSpec := { name := "infosNames", fn := fun _ => fun
  | [d1, d2] => { results := [.lit (.bool true)], args := [d1, d2] }
  | _ => none }
def infosNamesRow : OpenClaim := { program := "ytfldoihindbdmaa", sum := "64a56f53ae959119557c58d9ee0cbfa55eb48de5f4f659eb27e3253ddb7ab0ca", func := "sojourner/sojournerlaw26.InfosNames", spec := "infosNames", inPlace := ["internal/abi.NoEscape", "internal/bytealg.MakeNoZero"], unfollowed := true, recurses := true, apart := false }
def InfosNamesSaid : Prop := infosNamesRow.holds Try.pinned (OpenSpec.ofChange infosNamesSpec)

/-- ITS FALSE NEIGHBOUR: 'it returns false'. Refute it at one input. -/
def infosNamesWrong : ChangeSpec := { name := "infosNames", fn := fun _ => fun
  | [d1, d2] => { results := [.lit (.bool false)], args := [d1, d2] }
  | _ => none }
def InfosNamesWrongFalsely : Prop := infosNamesRow.holds Try.pinned (OpenSpec.ofChange infosNamesWrong)

/-- 'sojournerlaw26.InfosAgain': WHATEVER THE INPUT: true; the input reads as it did. -/
def infosAgainSpec : ChangeSpec := { name := "infosAgain", fn := fun _ => fun
  | [d1, d2] => { results := [.lit (.bool true)], args := [d1, d2] }
  | _ => none }
def infosAgainRow : OpenClaim := { program := "ytfldoihindbdmaa", sum := "64a56f53ae959119557c58d9ee0cbfa55eb48de5f4f659eb27e3253ddb7ab0ca", func := "sojourner/sojournerlaw26.InfosAgain", spec := "infosAgain", inPlace := ["internal/abi.NoEscape", "internal/bytealg.MakeNoZero"], unfollowed := true, recurses := true, apart := false }
def InfosAgainSaid : Prop := infosAgainRow.holds Try.pinned (OpenSpec.ofChange infosAgainSpec)

/-- ITS FALSE NEIGHBOUR: 'it returns false'. Refute it at one input. -/
def infosAgainWrong : ChangeSpec := { name := "infosAgain", fn := fun _ => fun
  | [d1, d2] => { results := [.lit (.bool false)], args := [d1, d2] }
  | _ => none }
def InfosAgainWrongFalsely : Prop := infosAgainRow.holds Try.pinned (OpenSpec.ofChange infosAgainWrong)

/-- 'sojournerlaw26.InfosOther': WHATEVER THE INPUT: true; the input reads as it did. -/
def infosOtherSpec : ChangeSpec := { name := "infosOther", fn := fun _ => fun
  | [d1, d2, d3] => { results := [.lit (.bool true)], args := [d1, d2, d3] }
  | _ => none }
def infosOtherRow : OpenClaim := { program := "ytfldoihindbdmaa", sum := "64a56f53ae959119557c58d9ee0cbfa55eb48de5f4f659eb27e3253ddb7ab0ca", func := "sojourner/sojournerlaw26.InfosOther", spec := "infosOther", inPlace := ["internal/abi.NoEscape", "internal/bytealg.MakeNoZero"], unfollowed := true, recurses := true, apart := false }
def InfosOtherSaid : Prop := infosOtherRow.holds Try.pinned (OpenSpec.ofChange infosOtherSpec)

/-- ITS FALSE NEIGHBOUR: 'it returns false'. Refute it at one input. -/
def infosOtherWrong : ChangeSpec := { name := "infosOther", fn := fun _ => fun
  | [d1, d2, d3] => { results := [.lit (.bool false)], args := [d1, d2, d3] }
  | _ => none }
def InfosOtherWrongFalsely : Prop := infosOtherRow.holds Try.pinned (OpenSpec.ofChange infosOtherWrong)

/-- 'sojournerlaw26.InfosTimes': WHATEVER THE INPUT: true; the input reads as it did. -/
def infosTimesSpec : ChangeSpec := { name := "infosTimes", fn := fun _ => fun
  | [d1, d2] => { results := [.lit (.bool true)], args := [d1, d2] }
  | _ => none }
def infosTimesRow : OpenClaim := { program := "ytfldoihindbdmaa", sum := "64a56f53ae959119557c58d9ee0cbfa55eb48de5f4f659eb27e3253ddb7ab0ca", func := "sojourner/sojournerlaw26.InfosTimes", spec := "infosTimes", inPlace := ["internal/abi.NoEscape", "internal/bytealg.MakeNoZero"], unfollowed := true, recurses := true, apart := false }
def InfosTimesSaid : Prop := infosTimesRow.holds Try.pinned (OpenSpec.ofChange infosTimesSpec)

/-- ITS FALSE NEIGHBOUR: 'it returns false'. Refute it at one input. -/
def infosTimesWrong : ChangeSpec := { name := "infosTimes", fn := fun _ => fun
  | [d1, d2] => { results := [.lit (.bool false)], args := [d1, d2] }
  | _ => none }
def InfosTimesWrongFalsely : Prop := infosTimesRow.holds Try.pinned (OpenSpec.ofChange infosTimesWrong)

/-- 'sojournerlaw26.InfosPlay': WHATEVER THE INPUT: true; the input reads as it did. -/
def infosPlaySpec : ChangeSpec := { name := "infosPlay", fn := fun _ => fun
  | [d1, d2, d3] => { results := [.lit (.bool true)], args := [d1, d2, d3] }
  | _ => none }
def infosPlayRow : OpenClaim := { program := "ytfldoihindbdmaa", sum := "64a56f53ae959119557c58d9ee0cbfa55eb48de5f4f659eb27e3253ddb7ab0ca", func := "sojourner/sojournerlaw26.InfosPlay", spec := "infosPlay", inPlace := ["internal/abi.NoEscape", "internal/bytealg.MakeNoZero"], unfollowed := true, recurses := true, apart := false }
def InfosPlaySaid : Prop := infosPlayRow.holds Try.pinned (OpenSpec.ofChange infosPlaySpec)

/-- ITS FALSE NEIGHBOUR: 'it returns false'. Refute it at one input. -/
def infosPlayWrong : ChangeSpec := { name := "infosPlay", fn := fun _ => fun
  | [d1, d2, d3] => { results := [.lit (.bool false)], args := [d1, d2, d3] }
  | _ => none }
def InfosPlayWrongFalsely : Prop := infosPlayRow.holds Try.pinned (OpenSpec.ofChange infosPlayWrong)

/- THE SECOND FORM. 'bulk': how many values and letters a reading holds, each counted each time it is reached (what is shared counts as often as it is met; a slice's spare places count too). A statement '..UptoSaid' is the law's where the arguments, and the package variables that the reading takes, are together of bulk at most 1048576: NARROWER than '..Said'. Prove '..Said' where nothing that the law and all that it calls make is longer than what came in: it says more and counts as full. Else prove '..UptoSaid'. A law counts once. -/
mutual
def uptoBulk {H : Type} : DataW H → Nat
  | .lit (.string bytes) => bytes.length + 1
  | .lit _ => 1
  | .nil => 1
  | .ptr d => uptoBulk d + 1
  | .slice elems spare => uptoBulkAll elems + uptoBulkAll spare + 1
  | .agg parts => uptoBulkAll parts + 1
  | .iface _ d => uptoBulk d + 1
  | .map entries => uptoBulkEntries entries + 1
  | .held _ => 1
def uptoBulkAll {H : Type} : List (DataW H) → Nat
  | [] => 0
  | d :: r => uptoBulk d + uptoBulkAll r
def uptoBulkEntries {H : Type} : List (Lit × DataW H) → Nat
  | [] => 0
  | x :: r => uptoBulkEntry x + uptoBulkEntries r
def uptoBulkEntry {H : Type} : Lit × DataW H → Nat
  | (.string bytes, d) => bytes.length + uptoBulk d + 1
  | (_, d) => uptoBulk d + 1
 end
def uptoSmall : (H : Type) → List (DataW H) → Bool := fun _ ds => decide (uptoBulkAll ds ≤ 1048576)
def OpenSpec.upto (s : _root_.Go.ChangeSpec) : _root_.Go.OpenSpec := { _root_.Go.OpenSpec.ofChange s with cond := some uptoSmall }

/-- 'sojournerlaw26.InfosNone', WHERE WHAT IT READS IS OF BULK AT MOST 1048576: true; the input reads as it did. -/
def infosNoneUptoRow : OpenClaim := { program := "ytfldoihindbdmaa", sum := "64a56f53ae959119557c58d9ee0cbfa55eb48de5f4f659eb27e3253ddb7ab0ca", func := "sojourner/sojournerlaw26.InfosNone", spec := "infosNone", inPlace := ["internal/abi.NoEscape", "internal/bytealg.MakeNoZero"], unfollowed := true, recurses := true, apart := false, narrowed := true }
def InfosNoneUptoSaid : Prop := infosNoneUptoRow.holds Try.pinned (OpenSpec.upto infosNoneSpec)

/-- 'sojournerlaw26.InfosNames', WHERE WHAT IT READS IS OF BULK AT MOST 1048576: true; the input reads as it did. -/
def infosNamesUptoRow : OpenClaim := { program := "ytfldoihindbdmaa", sum := "64a56f53ae959119557c58d9ee0cbfa55eb48de5f4f659eb27e3253ddb7ab0ca", func := "sojourner/sojournerlaw26.InfosNames", spec := "infosNames", inPlace := ["internal/abi.NoEscape", "internal/bytealg.MakeNoZero"], unfollowed := true, recurses := true, apart := false, narrowed := true }
def InfosNamesUptoSaid : Prop := infosNamesUptoRow.holds Try.pinned (OpenSpec.upto infosNamesSpec)

/-- 'sojournerlaw26.InfosAgain', WHERE WHAT IT READS IS OF BULK AT MOST 1048576: true; the input reads as it did. -/
def infosAgainUptoRow : OpenClaim := { program := "ytfldoihindbdmaa", sum := "64a56f53ae959119557c58d9ee0cbfa55eb48de5f4f659eb27e3253ddb7ab0ca", func := "sojourner/sojournerlaw26.InfosAgain", spec := "infosAgain", inPlace := ["internal/abi.NoEscape", "internal/bytealg.MakeNoZero"], unfollowed := true, recurses := true, apart := false, narrowed := true }
def InfosAgainUptoSaid : Prop := infosAgainUptoRow.holds Try.pinned (OpenSpec.upto infosAgainSpec)

/-- 'sojournerlaw26.InfosOther', WHERE WHAT IT READS IS OF BULK AT MOST 1048576: true; the input reads as it did. -/
def infosOtherUptoRow : OpenClaim := { program := "ytfldoihindbdmaa", sum := "64a56f53ae959119557c58d9ee0cbfa55eb48de5f4f659eb27e3253ddb7ab0ca", func := "sojourner/sojournerlaw26.InfosOther", spec := "infosOther", inPlace := ["internal/abi.NoEscape", "internal/bytealg.MakeNoZero"], unfollowed := true, recurses := true, apart := false, narrowed := true }
def InfosOtherUptoSaid : Prop := infosOtherUptoRow.holds Try.pinned (OpenSpec.upto infosOtherSpec)

/-- 'sojournerlaw26.InfosTimes', WHERE WHAT IT READS IS OF BULK AT MOST 1048576: true; the input reads as it did. -/
def infosTimesUptoRow : OpenClaim := { program := "ytfldoihindbdmaa", sum := "64a56f53ae959119557c58d9ee0cbfa55eb48de5f4f659eb27e3253ddb7ab0ca", func := "sojourner/sojournerlaw26.InfosTimes", spec := "infosTimes", inPlace := ["internal/abi.NoEscape", "internal/bytealg.MakeNoZero"], unfollowed := true, recurses := true, apart := false, narrowed := true }
def InfosTimesUptoSaid : Prop := infosTimesUptoRow.holds Try.pinned (OpenSpec.upto infosTimesSpec)

/-- 'sojournerlaw26.InfosPlay', WHERE WHAT IT READS IS OF BULK AT MOST 1048576: true; the input reads as it did. -/
def infosPlayUptoRow : OpenClaim := { program := "ytfldoihindbdmaa", sum := "64a56f53ae959119557c58d9ee0cbfa55eb48de5f4f659eb27e3253ddb7ab0ca", func := "sojourner/sojournerlaw26.InfosPlay", spec := "infosPlay", inPlace := ["internal/abi.NoEscape", "internal/bytealg.MakeNoZero"], unfollowed := true, recurses := true, apart := false, narrowed := true }
def InfosPlayUptoSaid : Prop := infosPlayUptoRow.holds Try.pinned (OpenSpec.upto infosPlaySpec)

end Rows
end Go.Proofs.Ytfldoihindbdmaa
