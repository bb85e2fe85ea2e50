/-
  No cell of these rows narrows 'for every input' (looked for: loops, veiled, ifaces, maps, wideKeys, modest, calm, conditions, laid).
  DERIVED. THE GIVEN ROWS OF THIS SEAT. 4 by the template 'for every input the law returns true; each argument reads behind the call as it read before'; 0 by the template 'total and deterministic' (their statements: YteeiihfbnkgcaaaTotals.lean).
  GIVEN WITH THE SEED: the statements are not yours to turn. If you find one false, say at which input.
  Laid BY PROGRAM, IN A SANDBOX (cutbox-rows.mjs): the forced cells as the released guide's own fill.sh prints them over the translation 1bbc874307969f54… (all of the seat's roots in one cut). By AI agents, Wed Nov 11 2026. No macro, syntax, notation, axiom, sorry.
-/
import Derived.Test.YteeiihfbnkgcaaaChecked
import GoSem.Claim
import GoSem.ClaimJoined
import GoSem.ClaimMapViews
import Derived.JoinedTies
import Derived.KernelRfl
namespace Go.Proofs.Yteeiihfbnkgcaaa
/- THE CELL 'sum', in the pinned program and in every row, IS THE sha256 OF THE DUMP (.gsa) THAT YteeiihfbnkgcaaaProg.lean LOADS. Nothing in Lean hashes anything: it is a label: what it is worth is what the hold of that sum in a sandbox is worth. -/
noncomputable def Try.pinned : Pinned := { name := "yteeiihfbnkgcaaa", sum := "1bbc874307969f541a3e85ffe4d3713f762f42c7b0e09d818b8fb3271d685790", checked := Try.checked }
namespace Rows
def none {H : Type} : Left H := { results := [], args := [] }

/-- 'sojournerlaw16.DatagramsPut': WHATEVER THE INPUT: true; the input reads as it did. -/
def datagramsPutSpec : ChangeSpec := { name := "datagramsPut", fn := fun _ => fun
  | [d1, d2] => { results := [.lit (.bool true)], args := [d1, d2] }
  | _ => none }
def datagramsPutRow : OpenClaim := { program := "yteeiihfbnkgcaaa", sum := "1bbc874307969f541a3e85ffe4d3713f762f42c7b0e09d818b8fb3271d685790", func := "sojourner/sojournerlaw16.DatagramsPut", spec := "datagramsPut", unfollowed := true, recurses := true, apart := false }
def DatagramsPutSaid : Prop := datagramsPutRow.holds Try.pinned (OpenSpec.ofChange datagramsPutSpec)

/-- ITS FALSE NEIGHBOUR: 'it returns false'. Refute it at one input. -/
def datagramsPutWrong : ChangeSpec := { name := "datagramsPut", fn := fun _ => fun
  | [d1, d2] => { results := [.lit (.bool false)], args := [d1, d2] }
  | _ => none }
def DatagramsPutWrongFalsely : Prop := datagramsPutRow.holds Try.pinned (OpenSpec.ofChange datagramsPutWrong)

/-- 'sojournerlaw16.DatagramsGet': WHATEVER THE INPUT: true; the input reads as it did. -/
def datagramsGetSpec : ChangeSpec := { name := "datagramsGet", fn := fun _ => fun
  | [d1, d2] => { results := [.lit (.bool true)], args := [d1, d2] }
  | _ => none }
def datagramsGetRow : OpenClaim := { program := "yteeiihfbnkgcaaa", sum := "1bbc874307969f541a3e85ffe4d3713f762f42c7b0e09d818b8fb3271d685790", func := "sojourner/sojournerlaw16.DatagramsGet", spec := "datagramsGet", unfollowed := true, recurses := true, apart := false }
def DatagramsGetSaid : Prop := datagramsGetRow.holds Try.pinned (OpenSpec.ofChange datagramsGetSpec)

/-- ITS FALSE NEIGHBOUR: 'it returns false'. Refute it at one input. -/
def datagramsGetWrong : ChangeSpec := { name := "datagramsGet", fn := fun _ => fun
  | [d1, d2] => { results := [.lit (.bool false)], args := [d1, d2] }
  | _ => none }
def DatagramsGetWrongFalsely : Prop := datagramsGetRow.holds Try.pinned (OpenSpec.ofChange datagramsGetWrong)

/-- 'sojournerlaw16.DatagramsBack': WHATEVER THE INPUT: true; the input reads as it did. -/
def datagramsBackSpec : ChangeSpec := { name := "datagramsBack", fn := fun _ => fun
  | [d1, d2, d3] => { results := [.lit (.bool true)], args := [d1, d2, d3] }
  | _ => none }
def datagramsBackRow : OpenClaim := { program := "yteeiihfbnkgcaaa", sum := "1bbc874307969f541a3e85ffe4d3713f762f42c7b0e09d818b8fb3271d685790", func := "sojourner/sojournerlaw16.DatagramsBack", spec := "datagramsBack", unfollowed := true, recurses := true, apart := false }
def DatagramsBackSaid : Prop := datagramsBackRow.holds Try.pinned (OpenSpec.ofChange datagramsBackSpec)

/-- ITS FALSE NEIGHBOUR: 'it returns false'. Refute it at one input. -/
def datagramsBackWrong : ChangeSpec := { name := "datagramsBack", fn := fun _ => fun
  | [d1, d2, d3] => { results := [.lit (.bool false)], args := [d1, d2, d3] }
  | _ => none }
def DatagramsBackWrongFalsely : Prop := datagramsBackRow.holds Try.pinned (OpenSpec.ofChange datagramsBackWrong)

/-- 'sojournerlaw16.DatagramsSum': WHATEVER THE INPUT: true; the input reads as it did. -/
def datagramsSumSpec : ChangeSpec := { name := "datagramsSum", fn := fun _ => fun
  | [d1, d2] => { results := [.lit (.bool true)], args := [d1, d2] }
  | _ => none }
def datagramsSumRow : OpenClaim := { program := "yteeiihfbnkgcaaa", sum := "1bbc874307969f541a3e85ffe4d3713f762f42c7b0e09d818b8fb3271d685790", func := "sojourner/sojournerlaw16.DatagramsSum", spec := "datagramsSum", unfollowed := true, recurses := true, apart := false }
def DatagramsSumSaid : Prop := datagramsSumRow.holds Try.pinned (OpenSpec.ofChange datagramsSumSpec)

/-- ITS FALSE NEIGHBOUR: 'it returns false'. Refute it at one input. -/
def datagramsSumWrong : ChangeSpec := { name := "datagramsSum", fn := fun _ => fun
  | [d1, d2] => { results := [.lit (.bool false)], args := [d1, d2] }
  | _ => none }
def DatagramsSumWrongFalsely : Prop := datagramsSumRow.holds Try.pinned (OpenSpec.ofChange datagramsSumWrong)

/- THE SECOND FORM. 'bulk': how many values and letters a reading holds, each counted each time it is reached (what is shared counts as often as it is met; a slice's spare places count too). A statement '..UptoSaid' is the law's where the arguments, and the package variables that the reading takes, are together of bulk at most 1048576: NARROWER than '..Said'. Prove '..Said' where nothing that the law and all that it calls make is longer than what came in: it says more and counts as full. Else prove '..UptoSaid'. A law counts once. -/
mutual
def uptoBulk {H : Type} : DataW H → Nat
  | .lit (.string bytes) => bytes.length + 1
  | .lit _ => 1
  | .nil => 1
  | .ptr d => uptoBulk d + 1
  | .slice elems spare => uptoBulkAll elems + uptoBulkAll spare + 1
  | .agg parts => uptoBulkAll parts + 1
  | .iface _ d => uptoBulk d + 1
  | .map entries => uptoBulkEntries entries + 1
  | .held _ => 1
def uptoBulkAll {H : Type} : List (DataW H) → Nat
  | [] => 0
  | d :: r => uptoBulk d + uptoBulkAll r
def uptoBulkEntries {H : Type} : List (Lit × DataW H) → Nat
  | [] => 0
  | x :: r => uptoBulkEntry x + uptoBulkEntries r
def uptoBulkEntry {H : Type} : Lit × DataW H → Nat
  | (.string bytes, d) => bytes.length + uptoBulk d + 1
  | (_, d) => uptoBulk d + 1
 end
def uptoSmall : (H : Type) → List (DataW H) → Bool := fun _ ds => decide (uptoBulkAll ds ≤ 1048576)
def OpenSpec.upto (s : _root_.Go.ChangeSpec) : _root_.Go.OpenSpec := { _root_.Go.OpenSpec.ofChange s with cond := some uptoSmall }

/-- 'sojournerlaw16.DatagramsPut', WHERE WHAT IT READS IS OF BULK AT MOST 1048576: true; the input reads as it did. -/
def datagramsPutUptoRow : OpenClaim := { program := "yteeiihfbnkgcaaa", sum := "1bbc874307969f541a3e85ffe4d3713f762f42c7b0e09d818b8fb3271d685790", func := "sojourner/sojournerlaw16.DatagramsPut", spec := "datagramsPut", unfollowed := true, recurses := true, apart := false, narrowed := true }
def DatagramsPutUptoSaid : Prop := datagramsPutUptoRow.holds Try.pinned (OpenSpec.upto datagramsPutSpec)

/-- 'sojournerlaw16.DatagramsGet', WHERE WHAT IT READS IS OF BULK AT MOST 1048576: true; the input reads as it did. -/
def datagramsGetUptoRow : OpenClaim := { program := "yteeiihfbnkgcaaa", sum := "1bbc874307969f541a3e85ffe4d3713f762f42c7b0e09d818b8fb3271d685790", func := "sojourner/sojournerlaw16.DatagramsGet", spec := "datagramsGet", unfollowed := true, recurses := true, apart := false, narrowed := true }
def DatagramsGetUptoSaid : Prop := datagramsGetUptoRow.holds Try.pinned (OpenSpec.upto datagramsGetSpec)

/-- 'sojournerlaw16.DatagramsBack', WHERE WHAT IT READS IS OF BULK AT MOST 1048576: true; the input reads as it did. -/
def datagramsBackUptoRow : OpenClaim := { program := "yteeiihfbnkgcaaa", sum := "1bbc874307969f541a3e85ffe4d3713f762f42c7b0e09d818b8fb3271d685790", func := "sojourner/sojournerlaw16.DatagramsBack", spec := "datagramsBack", unfollowed := true, recurses := true, apart := false, narrowed := true }
def DatagramsBackUptoSaid : Prop := datagramsBackUptoRow.holds Try.pinned (OpenSpec.upto datagramsBackSpec)

/-- 'sojournerlaw16.DatagramsSum', WHERE WHAT IT READS IS OF BULK AT MOST 1048576: true; the input reads as it did. -/
def datagramsSumUptoRow : OpenClaim := { program := "yteeiihfbnkgcaaa", sum := "1bbc874307969f541a3e85ffe4d3713f762f42c7b0e09d818b8fb3271d685790", func := "sojourner/sojournerlaw16.DatagramsSum", spec := "datagramsSum", unfollowed := true, recurses := true, apart := false, narrowed := true }
def DatagramsSumUptoSaid : Prop := datagramsSumUptoRow.holds Try.pinned (OpenSpec.upto datagramsSumSpec)

end Rows
end Go.Proofs.Yteeiihfbnkgcaaa
