/-
  No cell of these rows narrows 'for every input' (looked for: loops, veiled, ifaces, maps, wideKeys, modest, calm, conditions, laid).
  DERIVED. THE GIVEN ROWS OF THIS SEAT. 5 by the template 'for every input the law returns true; each argument reads behind the call as it read before'; 0 by the template 'total and deterministic' (their statements: YtdmmfffoikelgaaTotals.lean).
  GIVEN WITH THE SEED: the statements are not yours to turn. If you find one false, say at which input.
  Laid BY PROGRAM, IN A SANDBOX (cutbox-rows.mjs): the forced cells as the released guide's own fill.sh prints them over the translation 7526d2a1323fd8cc… (all of the seat's roots in one cut). By AI agents, Wed Nov 11 2026. No macro, syntax, notation, axiom, sorry.
-/
import Derived.Test.YtdmmfffoikelgaaChecked
import GoSem.Claim
import GoSem.ClaimJoined
import GoSem.ClaimMapViews
import Derived.JoinedTies
import Derived.KernelRfl
namespace Go.Proofs.Ytdmmfffoikelgaa
/- THE CELL 'sum', in the pinned program and in every row, IS THE sha256 OF THE DUMP (.gsa) THAT YtdmmfffoikelgaaProg.lean LOADS. Nothing in Lean hashes anything: it is a label: what it is worth is what the hold of that sum in a sandbox is worth. -/
noncomputable def Try.pinned : Pinned := { name := "ytdmmfffoikelgaa", sum := "7526d2a1323fd8cc6d72e2fc1f346d4715e6651a1372defce940ff440d5f7bbc", checked := Try.checked }
namespace Rows
def none {H : Type} : Left H := { results := [], args := [] }

/-- 'sojournerlaw08.EthersPut': WHATEVER THE INPUT: true; the input reads as it did. -/
def ethersPutSpec : ChangeSpec := { name := "ethersPut", fn := fun _ => fun
  | [d1, d2] => { results := [.lit (.bool true)], args := [d1, d2] }
  | _ => none }
def ethersPutRow : OpenClaim := { program := "ytdmmfffoikelgaa", sum := "7526d2a1323fd8cc6d72e2fc1f346d4715e6651a1372defce940ff440d5f7bbc", func := "sojourner/sojournerlaw08.EthersPut", spec := "ethersPut", unfollowed := true, recurses := true, apart := false }
def EthersPutSaid : Prop := ethersPutRow.holds Try.pinned (OpenSpec.ofChange ethersPutSpec)

/-- ITS FALSE NEIGHBOUR: 'it returns false'. Refute it at one input. -/
def ethersPutWrong : ChangeSpec := { name := "ethersPut", fn := fun _ => fun
  | [d1, d2] => { results := [.lit (.bool false)], args := [d1, d2] }
  | _ => none }
def EthersPutWrongFalsely : Prop := ethersPutRow.holds Try.pinned (OpenSpec.ofChange ethersPutWrong)

/-- 'sojournerlaw08.EthersGroup': WHATEVER THE INPUT: true; the input reads as it did. -/
def ethersGroupSpec : ChangeSpec := { name := "ethersGroup", fn := fun _ => fun
  | [d1, d2] => { results := [.lit (.bool true)], args := [d1, d2] }
  | _ => none }
def ethersGroupRow : OpenClaim := { program := "ytdmmfffoikelgaa", sum := "7526d2a1323fd8cc6d72e2fc1f346d4715e6651a1372defce940ff440d5f7bbc", func := "sojourner/sojournerlaw08.EthersGroup", spec := "ethersGroup", apart := false }
def EthersGroupSaid : Prop := ethersGroupRow.holds Try.pinned (OpenSpec.ofChange ethersGroupSpec)

/-- ITS FALSE NEIGHBOUR: 'it returns false'. Refute it at one input. -/
def ethersGroupWrong : ChangeSpec := { name := "ethersGroup", fn := fun _ => fun
  | [d1, d2] => { results := [.lit (.bool false)], args := [d1, d2] }
  | _ => none }
def EthersGroupWrongFalsely : Prop := ethersGroupRow.holds Try.pinned (OpenSpec.ofChange ethersGroupWrong)

/-- 'sojournerlaw08.EthersGet': WHATEVER THE INPUT: true; the input reads as it did. -/
def ethersGetSpec : ChangeSpec := { name := "ethersGet", fn := fun _ => fun
  | [d] => { results := [.lit (.bool true)], args := [d] }
  | _ => none }
def ethersGetRow : OpenClaim := { program := "ytdmmfffoikelgaa", sum := "7526d2a1323fd8cc6d72e2fc1f346d4715e6651a1372defce940ff440d5f7bbc", func := "sojourner/sojournerlaw08.EthersGet", spec := "ethersGet", unfollowed := true, recurses := true, apart := false }
def EthersGetSaid : Prop := ethersGetRow.holds Try.pinned (OpenSpec.ofChange ethersGetSpec)

/-- ITS FALSE NEIGHBOUR: 'it returns false'. Refute it at one input. -/
def ethersGetWrong : ChangeSpec := { name := "ethersGet", fn := fun _ => fun
  | [d] => { results := [.lit (.bool false)], args := [d] }
  | _ => none }
def EthersGetWrongFalsely : Prop := ethersGetRow.holds Try.pinned (OpenSpec.ofChange ethersGetWrong)

/-- 'sojournerlaw08.EthersBack': WHATEVER THE INPUT: true; the input reads as it did. -/
def ethersBackSpec : ChangeSpec := { name := "ethersBack", fn := fun _ => fun
  | [d1, d2] => { results := [.lit (.bool true)], args := [d1, d2] }
  | _ => none }
def ethersBackRow : OpenClaim := { program := "ytdmmfffoikelgaa", sum := "7526d2a1323fd8cc6d72e2fc1f346d4715e6651a1372defce940ff440d5f7bbc", func := "sojourner/sojournerlaw08.EthersBack", spec := "ethersBack", apart := false }
def EthersBackSaid : Prop := ethersBackRow.holds Try.pinned (OpenSpec.ofChange ethersBackSpec)

/-- ITS FALSE NEIGHBOUR: 'it returns false'. Refute it at one input. -/
def ethersBackWrong : ChangeSpec := { name := "ethersBack", fn := fun _ => fun
  | [d1, d2] => { results := [.lit (.bool false)], args := [d1, d2] }
  | _ => none }
def EthersBackWrongFalsely : Prop := ethersBackRow.holds Try.pinned (OpenSpec.ofChange ethersBackWrong)

/-- 'sojournerlaw08.EthersOnly': WHATEVER THE INPUT: true; the input reads as it did. -/
def ethersOnlySpec : ChangeSpec := { name := "ethersOnly", fn := fun _ => fun
  | [d] => { results := [.lit (.bool true)], args := [d] }
  | _ => none }
def ethersOnlyRow : OpenClaim := { program := "ytdmmfffoikelgaa", sum := "7526d2a1323fd8cc6d72e2fc1f346d4715e6651a1372defce940ff440d5f7bbc", func := "sojourner/sojournerlaw08.EthersOnly", spec := "ethersOnly", apart := false }
def EthersOnlySaid : Prop := ethersOnlyRow.holds Try.pinned (OpenSpec.ofChange ethersOnlySpec)

/-- ITS FALSE NEIGHBOUR: 'it returns false'. Refute it at one input. -/
def ethersOnlyWrong : ChangeSpec := { name := "ethersOnly", fn := fun _ => fun
  | [d] => { results := [.lit (.bool false)], args := [d] }
  | _ => none }
def EthersOnlyWrongFalsely : Prop := ethersOnlyRow.holds Try.pinned (OpenSpec.ofChange ethersOnlyWrong)

/- THE SECOND FORM. 'bulk': how many values and letters a reading holds, each counted each time it is reached (what is shared counts as often as it is met; a slice's spare places count too). A statement '..UptoSaid' is the law's where the arguments, and the package variables that the reading takes, are together of bulk at most 1048576: NARROWER than '..Said'. Prove '..Said' where nothing that the law and all that it calls make is longer than what came in: it says more and counts as full. Else prove '..UptoSaid'. A law counts once. -/
mutual
def uptoBulk {H : Type} : DataW H → Nat
  | .lit (.string bytes) => bytes.length + 1
  | .lit _ => 1
  | .nil => 1
  | .ptr d => uptoBulk d + 1
  | .slice elems spare => uptoBulkAll elems + uptoBulkAll spare + 1
  | .agg parts => uptoBulkAll parts + 1
  | .iface _ d => uptoBulk d + 1
  | .map entries => uptoBulkEntries entries + 1
  | .held _ => 1
def uptoBulkAll {H : Type} : List (DataW H) → Nat
  | [] => 0
  | d :: r => uptoBulk d + uptoBulkAll r
def uptoBulkEntries {H : Type} : List (Lit × DataW H) → Nat
  | [] => 0
  | x :: r => uptoBulkEntry x + uptoBulkEntries r
def uptoBulkEntry {H : Type} : Lit × DataW H → Nat
  | (.string bytes, d) => bytes.length + uptoBulk d + 1
  | (_, d) => uptoBulk d + 1
 end
def uptoSmall : (H : Type) → List (DataW H) → Bool := fun _ ds => decide (uptoBulkAll ds ≤ 1048576)
def OpenSpec.upto (s : _root_.Go.ChangeSpec) : _root_.Go.OpenSpec := { _root_.Go.OpenSpec.ofChange s with cond := some uptoSmall }

/-- 'sojournerlaw08.EthersPut', WHERE WHAT IT READS IS OF BULK AT MOST 1048576: true; the input reads as it did. -/
def ethersPutUptoRow : OpenClaim := { program := "ytdmmfffoikelgaa", sum := "7526d2a1323fd8cc6d72e2fc1f346d4715e6651a1372defce940ff440d5f7bbc", func := "sojourner/sojournerlaw08.EthersPut", spec := "ethersPut", unfollowed := true, recurses := true, apart := false, narrowed := true }
def EthersPutUptoSaid : Prop := ethersPutUptoRow.holds Try.pinned (OpenSpec.upto ethersPutSpec)

/-- 'sojournerlaw08.EthersGroup', WHERE WHAT IT READS IS OF BULK AT MOST 1048576: true; the input reads as it did. -/
def ethersGroupUptoRow : OpenClaim := { program := "ytdmmfffoikelgaa", sum := "7526d2a1323fd8cc6d72e2fc1f346d4715e6651a1372defce940ff440d5f7bbc", func := "sojourner/sojournerlaw08.EthersGroup", spec := "ethersGroup", apart := false, narrowed := true }
def EthersGroupUptoSaid : Prop := ethersGroupUptoRow.holds Try.pinned (OpenSpec.upto ethersGroupSpec)

/-- 'sojournerlaw08.EthersGet', WHERE WHAT IT READS IS OF BULK AT MOST 1048576: true; the input reads as it did. -/
def ethersGetUptoRow : OpenClaim := { program := "ytdmmfffoikelgaa", sum := "7526d2a1323fd8cc6d72e2fc1f346d4715e6651a1372defce940ff440d5f7bbc", func := "sojourner/sojournerlaw08.EthersGet", spec := "ethersGet", unfollowed := true, recurses := true, apart := false, narrowed := true }
def EthersGetUptoSaid : Prop := ethersGetUptoRow.holds Try.pinned (OpenSpec.upto ethersGetSpec)

/-- 'sojournerlaw08.EthersBack', WHERE WHAT IT READS IS OF BULK AT MOST 1048576: true; the input reads as it did. -/
def ethersBackUptoRow : OpenClaim := { program := "ytdmmfffoikelgaa", sum := "7526d2a1323fd8cc6d72e2fc1f346d4715e6651a1372defce940ff440d5f7bbc", func := "sojourner/sojournerlaw08.EthersBack", spec := "ethersBack", apart := false, narrowed := true }
def EthersBackUptoSaid : Prop := ethersBackUptoRow.holds Try.pinned (OpenSpec.upto ethersBackSpec)

/-- 'sojournerlaw08.EthersOnly', WHERE WHAT IT READS IS OF BULK AT MOST 1048576: true; the input reads as it did. -/
def ethersOnlyUptoRow : OpenClaim := { program := "ytdmmfffoikelgaa", sum := "7526d2a1323fd8cc6d72e2fc1f346d4715e6651a1372defce940ff440d5f7bbc", func := "sojourner/sojournerlaw08.EthersOnly", spec := "ethersOnly", apart := false, narrowed := true }
def EthersOnlyUptoSaid : Prop := ethersOnlyUptoRow.holds Try.pinned (OpenSpec.upto ethersOnlySpec)

end Rows
end Go.Proofs.Ytdmmfffoikelgaa
