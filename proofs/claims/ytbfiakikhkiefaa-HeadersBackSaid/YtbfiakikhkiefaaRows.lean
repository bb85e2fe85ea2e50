/-
  No cell of these rows narrows 'for every input' (looked for: loops, veiled, ifaces, maps, wideKeys, modest, calm, conditions, laid).
  DERIVED. THE GIVEN ROWS OF THIS SEAT. 6 by the template 'for every input the law returns true; each argument reads behind the call as it read before'; 0 by the template 'total and deterministic' (their statements: YtbfiakikhkiefaaTotals.lean).
  GIVEN WITH THE SEED: the statements are not yours to turn. If you find one false, say at which input.
  Laid BY PROGRAM, IN A SANDBOX (cutbox-rows.mjs): the forced cells as the released guide's own fill.sh prints them over the translation a22e3ace716762f1… (all of the seat's roots in one cut). By AI agents, Wed Nov 11 2026. No macro, syntax, notation, axiom, sorry.
-/
import Derived.Test.YtbfiakikhkiefaaChecked
import GoSem.Claim
import GoSem.ClaimJoined
import GoSem.ClaimMapViews
import Derived.JoinedTies
import Derived.KernelRfl
namespace Go.Proofs.Ytbfiakikhkiefaa
/- THE CELL 'sum', in the pinned program and in every row, IS THE sha256 OF THE DUMP (.gsa) THAT YtbfiakikhkiefaaProg.lean LOADS. Nothing in Lean hashes anything: it is a label: what it is worth is what the hold of that sum in a sandbox is worth. -/
noncomputable def Try.pinned : Pinned := { name := "ytbfiakikhkiefaa", sum := "a22e3ace716762f1e3c7a016c7ac548c6d7b069f30982414d429255db2d09391", checked := Try.checked }
namespace Rows
def none {H : Type} : Left H := { results := [], args := [] }

/-- 'sojournerlaw09.HeadersPut': WHATEVER THE INPUT: true; the input reads as it did. -/
def headersPutSpec : ChangeSpec := { name := "headersPut", fn := fun _ => fun
  | [d] => { results := [.lit (.bool true)], args := [d] }
  | _ => none }
def headersPutRow : OpenClaim := { program := "ytbfiakikhkiefaa", sum := "a22e3ace716762f1e3c7a016c7ac548c6d7b069f30982414d429255db2d09391", func := "sojourner/sojournerlaw09.HeadersPut", spec := "headersPut", unfollowed := true, recurses := true, apart := false }
def HeadersPutSaid : Prop := headersPutRow.holds Try.pinned (OpenSpec.ofChange headersPutSpec)

/-- ITS FALSE NEIGHBOUR: 'it returns false'. Refute it at one input. -/
def headersPutWrong : ChangeSpec := { name := "headersPut", fn := fun _ => fun
  | [d] => { results := [.lit (.bool false)], args := [d] }
  | _ => none }
def HeadersPutWrongFalsely : Prop := headersPutRow.holds Try.pinned (OpenSpec.ofChange headersPutWrong)

/-- 'sojournerlaw09.HeadersChain': WHATEVER THE INPUT: true; the input reads as it did. -/
def headersChainSpec : ChangeSpec := { name := "headersChain", fn := fun _ => fun
  | [d1, d2] => { results := [.lit (.bool true)], args := [d1, d2] }
  | _ => none }
def headersChainRow : OpenClaim := { program := "ytbfiakikhkiefaa", sum := "a22e3ace716762f1e3c7a016c7ac548c6d7b069f30982414d429255db2d09391", func := "sojourner/sojournerlaw09.HeadersChain", spec := "headersChain", unfollowed := true, recurses := true, apart := false }
def HeadersChainSaid : Prop := headersChainRow.holds Try.pinned (OpenSpec.ofChange headersChainSpec)

/-- ITS FALSE NEIGHBOUR: 'it returns false'. Refute it at one input. -/
def headersChainWrong : ChangeSpec := { name := "headersChain", fn := fun _ => fun
  | [d1, d2] => { results := [.lit (.bool false)], args := [d1, d2] }
  | _ => none }
def HeadersChainWrongFalsely : Prop := headersChainRow.holds Try.pinned (OpenSpec.ofChange headersChainWrong)

/-- 'sojournerlaw09.HeadersOver': WHATEVER THE INPUT: true; the input reads as it did. -/
def headersOverSpec : ChangeSpec := { name := "headersOver", fn := fun _ => fun
  | [d1, d2, d3] => { results := [.lit (.bool true)], args := [d1, d2, d3] }
  | _ => none }
def headersOverRow : OpenClaim := { program := "ytbfiakikhkiefaa", sum := "a22e3ace716762f1e3c7a016c7ac548c6d7b069f30982414d429255db2d09391", func := "sojourner/sojournerlaw09.HeadersOver", spec := "headersOver", unfollowed := true, recurses := true, apart := false }
def HeadersOverSaid : Prop := headersOverRow.holds Try.pinned (OpenSpec.ofChange headersOverSpec)

/-- ITS FALSE NEIGHBOUR: 'it returns false'. Refute it at one input. -/
def headersOverWrong : ChangeSpec := { name := "headersOver", fn := fun _ => fun
  | [d1, d2, d3] => { results := [.lit (.bool false)], args := [d1, d2, d3] }
  | _ => none }
def HeadersOverWrongFalsely : Prop := headersOverRow.holds Try.pinned (OpenSpec.ofChange headersOverWrong)

/-- 'sojournerlaw09.HeadersOption': WHATEVER THE INPUT: true; the input reads as it did. -/
def headersOptionSpec : ChangeSpec := { name := "headersOption", fn := fun _ => fun
  | [d1, d2, d3] => { results := [.lit (.bool true)], args := [d1, d2, d3] }
  | _ => none }
def headersOptionRow : OpenClaim := { program := "ytbfiakikhkiefaa", sum := "a22e3ace716762f1e3c7a016c7ac548c6d7b069f30982414d429255db2d09391", func := "sojourner/sojournerlaw09.HeadersOption", spec := "headersOption", unfollowed := true, recurses := true, apart := false }
def HeadersOptionSaid : Prop := headersOptionRow.holds Try.pinned (OpenSpec.ofChange headersOptionSpec)

/-- ITS FALSE NEIGHBOUR: 'it returns false'. Refute it at one input. -/
def headersOptionWrong : ChangeSpec := { name := "headersOption", fn := fun _ => fun
  | [d1, d2, d3] => { results := [.lit (.bool false)], args := [d1, d2, d3] }
  | _ => none }
def HeadersOptionWrongFalsely : Prop := headersOptionRow.holds Try.pinned (OpenSpec.ofChange headersOptionWrong)

/-- 'sojournerlaw09.HeadersGet': WHATEVER THE INPUT: true; the input reads as it did. -/
def headersGetSpec : ChangeSpec := { name := "headersGet", fn := fun _ => fun
  | [d] => { results := [.lit (.bool true)], args := [d] }
  | _ => none }
def headersGetRow : OpenClaim := { program := "ytbfiakikhkiefaa", sum := "a22e3ace716762f1e3c7a016c7ac548c6d7b069f30982414d429255db2d09391", func := "sojourner/sojournerlaw09.HeadersGet", spec := "headersGet", unfollowed := true, recurses := true, apart := false }
def HeadersGetSaid : Prop := headersGetRow.holds Try.pinned (OpenSpec.ofChange headersGetSpec)

/-- ITS FALSE NEIGHBOUR: 'it returns false'. Refute it at one input. -/
def headersGetWrong : ChangeSpec := { name := "headersGet", fn := fun _ => fun
  | [d] => { results := [.lit (.bool false)], args := [d] }
  | _ => none }
def HeadersGetWrongFalsely : Prop := headersGetRow.holds Try.pinned (OpenSpec.ofChange headersGetWrong)

/-- 'sojournerlaw09.HeadersBack': WHATEVER THE INPUT: true; the input reads as it did. -/
def headersBackSpec : ChangeSpec := { name := "headersBack", fn := fun _ => fun
  | [d1, d2, d3] => { results := [.lit (.bool true)], args := [d1, d2, d3] }
  | _ => none }
def headersBackRow : OpenClaim := { program := "ytbfiakikhkiefaa", sum := "a22e3ace716762f1e3c7a016c7ac548c6d7b069f30982414d429255db2d09391", func := "sojourner/sojournerlaw09.HeadersBack", spec := "headersBack", unfollowed := true, recurses := true, apart := false }
def HeadersBackSaid : Prop := headersBackRow.holds Try.pinned (OpenSpec.ofChange headersBackSpec)

/-- ITS FALSE NEIGHBOUR: 'it returns false'. Refute it at one input. -/
def headersBackWrong : ChangeSpec := { name := "headersBack", fn := fun _ => fun
  | [d1, d2, d3] => { results := [.lit (.bool false)], args := [d1, d2, d3] }
  | _ => none }
def HeadersBackWrongFalsely : Prop := headersBackRow.holds Try.pinned (OpenSpec.ofChange headersBackWrong)

/- THE SECOND FORM. 'bulk': how many values and letters a reading holds, each counted each time it is reached (what is shared counts as often as it is met; a slice's spare places count too). A statement '..UptoSaid' is the law's where the arguments, and the package variables that the reading takes, are together of bulk at most 1048576: NARROWER than '..Said'. Prove '..Said' where nothing that the law and all that it calls make is longer than what came in: it says more and counts as full. Else prove '..UptoSaid'. A law counts once. -/
mutual
def uptoBulk {H : Type} : DataW H → Nat
  | .lit (.string bytes) => bytes.length + 1
  | .lit _ => 1
  | .nil => 1
  | .ptr d => uptoBulk d + 1
  | .slice elems spare => uptoBulkAll elems + uptoBulkAll spare + 1
  | .agg parts => uptoBulkAll parts + 1
  | .iface _ d => uptoBulk d + 1
  | .map entries => uptoBulkEntries entries + 1
  | .held _ => 1
def uptoBulkAll {H : Type} : List (DataW H) → Nat
  | [] => 0
  | d :: r => uptoBulk d + uptoBulkAll r
def uptoBulkEntries {H : Type} : List (Lit × DataW H) → Nat
  | [] => 0
  | x :: r => uptoBulkEntry x + uptoBulkEntries r
def uptoBulkEntry {H : Type} : Lit × DataW H → Nat
  | (.string bytes, d) => bytes.length + uptoBulk d + 1
  | (_, d) => uptoBulk d + 1
 end
def uptoSmall : (H : Type) → List (DataW H) → Bool := fun _ ds => decide (uptoBulkAll ds ≤ 1048576)
def OpenSpec.upto (s : _root_.Go.ChangeSpec) : _root_.Go.OpenSpec := { _root_.Go.OpenSpec.ofChange s with cond := some uptoSmall }

/-- 'sojournerlaw09.HeadersPut', WHERE WHAT IT READS IS OF BULK AT MOST 1048576: true; the input reads as it did. -/
def headersPutUptoRow : OpenClaim := { program := "ytbfiakikhkiefaa", sum := "a22e3ace716762f1e3c7a016c7ac548c6d7b069f30982414d429255db2d09391", func := "sojourner/sojournerlaw09.HeadersPut", spec := "headersPut", unfollowed := true, recurses := true, apart := false, narrowed := true }
def HeadersPutUptoSaid : Prop := headersPutUptoRow.holds Try.pinned (OpenSpec.upto headersPutSpec)

/-- 'sojournerlaw09.HeadersChain', WHERE WHAT IT READS IS OF BULK AT MOST 1048576: true; the input reads as it did. -/
def headersChainUptoRow : OpenClaim := { program := "ytbfiakikhkiefaa", sum := "a22e3ace716762f1e3c7a016c7ac548c6d7b069f30982414d429255db2d09391", func := "sojourner/sojournerlaw09.HeadersChain", spec := "headersChain", unfollowed := true, recurses := true, apart := false, narrowed := true }
def HeadersChainUptoSaid : Prop := headersChainUptoRow.holds Try.pinned (OpenSpec.upto headersChainSpec)

/-- 'sojournerlaw09.HeadersOver', WHERE WHAT IT READS IS OF BULK AT MOST 1048576: true; the input reads as it did. -/
def headersOverUptoRow : OpenClaim := { program := "ytbfiakikhkiefaa", sum := "a22e3ace716762f1e3c7a016c7ac548c6d7b069f30982414d429255db2d09391", func := "sojourner/sojournerlaw09.HeadersOver", spec := "headersOver", unfollowed := true, recurses := true, apart := false, narrowed := true }
def HeadersOverUptoSaid : Prop := headersOverUptoRow.holds Try.pinned (OpenSpec.upto headersOverSpec)

/-- 'sojournerlaw09.HeadersOption', WHERE WHAT IT READS IS OF BULK AT MOST 1048576: true; the input reads as it did. -/
def headersOptionUptoRow : OpenClaim := { program := "ytbfiakikhkiefaa", sum := "a22e3ace716762f1e3c7a016c7ac548c6d7b069f30982414d429255db2d09391", func := "sojourner/sojournerlaw09.HeadersOption", spec := "headersOption", unfollowed := true, recurses := true, apart := false, narrowed := true }
def HeadersOptionUptoSaid : Prop := headersOptionUptoRow.holds Try.pinned (OpenSpec.upto headersOptionSpec)

/-- 'sojournerlaw09.HeadersGet', WHERE WHAT IT READS IS OF BULK AT MOST 1048576: true; the input reads as it did. -/
def headersGetUptoRow : OpenClaim := { program := "ytbfiakikhkiefaa", sum := "a22e3ace716762f1e3c7a016c7ac548c6d7b069f30982414d429255db2d09391", func := "sojourner/sojournerlaw09.HeadersGet", spec := "headersGet", unfollowed := true, recurses := true, apart := false, narrowed := true }
def HeadersGetUptoSaid : Prop := headersGetUptoRow.holds Try.pinned (OpenSpec.upto headersGetSpec)

/-- 'sojournerlaw09.HeadersBack', WHERE WHAT IT READS IS OF BULK AT MOST 1048576: true; the input reads as it did. -/
def headersBackUptoRow : OpenClaim := { program := "ytbfiakikhkiefaa", sum := "a22e3ace716762f1e3c7a016c7ac548c6d7b069f30982414d429255db2d09391", func := "sojourner/sojournerlaw09.HeadersBack", spec := "headersBack", unfollowed := true, recurses := true, apart := false, narrowed := true }
def HeadersBackUptoSaid : Prop := headersBackUptoRow.holds Try.pinned (OpenSpec.upto headersBackSpec)

end Rows
end Go.Proofs.Ytbfiakikhkiefaa
