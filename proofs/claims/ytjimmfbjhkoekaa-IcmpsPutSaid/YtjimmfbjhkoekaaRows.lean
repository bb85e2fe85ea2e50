/-
  No cell of these rows narrows 'for every input' (looked for: loops, veiled, ifaces, maps, wideKeys, modest, calm, conditions, laid).
  DERIVED. THE GIVEN ROWS OF THIS SEAT. 5 by the template 'for every input the law returns true; each argument reads behind the call as it read before'; 0 by the template 'total and deterministic' (their statements: YtjimmfbjhkoekaaTotals.lean).
  GIVEN WITH THE SEED: the statements are not yours to turn. If you find one false, say at which input.
  Laid BY PROGRAM, IN A SANDBOX (cutbox-rows.mjs): the forced cells as the released guide's own fill.sh prints them over the translation 07ba2919d03e2a61… (all of the seat's roots in one cut). By AI agents, Wed Nov 11 2026. No macro, syntax, notation, axiom, sorry.
-/
import Derived.Test.YtjimmfbjhkoekaaChecked
import GoSem.Claim
import GoSem.ClaimJoined
import GoSem.ClaimMapViews
import Derived.JoinedTies
import Derived.KernelRfl
namespace Go.Proofs.Ytjimmfbjhkoekaa
/- THE CELL 'sum', in the pinned program and in every row, IS THE sha256 OF THE DUMP (.gsa) THAT YtjimmfbjhkoekaaProg.lean LOADS. Nothing in Lean hashes anything: it is a label: what it is worth is what the hold of that sum in a sandbox is worth. -/
noncomputable def Try.pinned : Pinned := { name := "ytjimmfbjhkoekaa", sum := "07ba2919d03e2a616c28ae9e9633949a657ecb671d8a0c7dea32b57f5eedc306", checked := Try.checked }
namespace Rows
def none {H : Type} : Left H := { results := [], args := [] }

/-- 'sojournerlaw11.IcmpsPut': WHATEVER THE INPUT: true; the input reads as it did. -/
def icmpsPutSpec : ChangeSpec := { name := "icmpsPut", fn := fun _ => fun
  | [d1, d2] => { results := [.lit (.bool true)], args := [d1, d2] }
  | _ => none }
def icmpsPutRow : OpenClaim := { program := "ytjimmfbjhkoekaa", sum := "07ba2919d03e2a616c28ae9e9633949a657ecb671d8a0c7dea32b57f5eedc306", func := "sojourner/sojournerlaw11.IcmpsPut", spec := "icmpsPut", unfollowed := true, recurses := true, apart := false }
def IcmpsPutSaid : Prop := icmpsPutRow.holds Try.pinned (OpenSpec.ofChange icmpsPutSpec)

/-- ITS FALSE NEIGHBOUR: 'it returns false'. Refute it at one input. -/
def icmpsPutWrong : ChangeSpec := { name := "icmpsPut", fn := fun _ => fun
  | [d1, d2] => { results := [.lit (.bool false)], args := [d1, d2] }
  | _ => none }
def IcmpsPutWrongFalsely : Prop := icmpsPutRow.holds Try.pinned (OpenSpec.ofChange icmpsPutWrong)

/-- 'sojournerlaw11.IcmpsGet': WHATEVER THE INPUT: true; the input reads as it did. -/
def icmpsGetSpec : ChangeSpec := { name := "icmpsGet", fn := fun _ => fun
  | [d1, d2] => { results := [.lit (.bool true)], args := [d1, d2] }
  | _ => none }
def icmpsGetRow : OpenClaim := { program := "ytjimmfbjhkoekaa", sum := "07ba2919d03e2a616c28ae9e9633949a657ecb671d8a0c7dea32b57f5eedc306", func := "sojourner/sojournerlaw11.IcmpsGet", spec := "icmpsGet", unfollowed := true, recurses := true, apart := false }
def IcmpsGetSaid : Prop := icmpsGetRow.holds Try.pinned (OpenSpec.ofChange icmpsGetSpec)

/-- ITS FALSE NEIGHBOUR: 'it returns false'. Refute it at one input. -/
def icmpsGetWrong : ChangeSpec := { name := "icmpsGet", fn := fun _ => fun
  | [d1, d2] => { results := [.lit (.bool false)], args := [d1, d2] }
  | _ => none }
def IcmpsGetWrongFalsely : Prop := icmpsGetRow.holds Try.pinned (OpenSpec.ofChange icmpsGetWrong)

/-- 'sojournerlaw11.IcmpsBack': WHATEVER THE INPUT: true; the input reads as it did. -/
def icmpsBackSpec : ChangeSpec := { name := "icmpsBack", fn := fun _ => fun
  | [d1, d2, d3] => { results := [.lit (.bool true)], args := [d1, d2, d3] }
  | _ => none }
def icmpsBackRow : OpenClaim := { program := "ytjimmfbjhkoekaa", sum := "07ba2919d03e2a616c28ae9e9633949a657ecb671d8a0c7dea32b57f5eedc306", func := "sojourner/sojournerlaw11.IcmpsBack", spec := "icmpsBack", unfollowed := true, recurses := true, apart := false }
def IcmpsBackSaid : Prop := icmpsBackRow.holds Try.pinned (OpenSpec.ofChange icmpsBackSpec)

/-- ITS FALSE NEIGHBOUR: 'it returns false'. Refute it at one input. -/
def icmpsBackWrong : ChangeSpec := { name := "icmpsBack", fn := fun _ => fun
  | [d1, d2, d3] => { results := [.lit (.bool false)], args := [d1, d2, d3] }
  | _ => none }
def IcmpsBackWrongFalsely : Prop := icmpsBackRow.holds Try.pinned (OpenSpec.ofChange icmpsBackWrong)

/-- 'sojournerlaw11.IcmpsAgain': WHATEVER THE INPUT: true; the input reads as it did. -/
def icmpsAgainSpec : ChangeSpec := { name := "icmpsAgain", fn := fun _ => fun
  | [d1, d2] => { results := [.lit (.bool true)], args := [d1, d2] }
  | _ => none }
def icmpsAgainRow : OpenClaim := { program := "ytjimmfbjhkoekaa", sum := "07ba2919d03e2a616c28ae9e9633949a657ecb671d8a0c7dea32b57f5eedc306", func := "sojourner/sojournerlaw11.IcmpsAgain", spec := "icmpsAgain", unfollowed := true, recurses := true, apart := false }
def IcmpsAgainSaid : Prop := icmpsAgainRow.holds Try.pinned (OpenSpec.ofChange icmpsAgainSpec)

/-- ITS FALSE NEIGHBOUR: 'it returns false'. Refute it at one input. -/
def icmpsAgainWrong : ChangeSpec := { name := "icmpsAgain", fn := fun _ => fun
  | [d1, d2] => { results := [.lit (.bool false)], args := [d1, d2] }
  | _ => none }
def IcmpsAgainWrongFalsely : Prop := icmpsAgainRow.holds Try.pinned (OpenSpec.ofChange icmpsAgainWrong)

/-- 'sojournerlaw11.IcmpsCut': WHATEVER THE INPUT: true; the input reads as it did. -/
def icmpsCutSpec : ChangeSpec := { name := "icmpsCut", fn := fun _ => fun
  | [d1, d2, d3] => { results := [.lit (.bool true)], args := [d1, d2, d3] }
  | _ => none }
def icmpsCutRow : OpenClaim := { program := "ytjimmfbjhkoekaa", sum := "07ba2919d03e2a616c28ae9e9633949a657ecb671d8a0c7dea32b57f5eedc306", func := "sojourner/sojournerlaw11.IcmpsCut", spec := "icmpsCut", unfollowed := true, recurses := true, apart := false }
def IcmpsCutSaid : Prop := icmpsCutRow.holds Try.pinned (OpenSpec.ofChange icmpsCutSpec)

/-- ITS FALSE NEIGHBOUR: 'it returns false'. Refute it at one input. -/
def icmpsCutWrong : ChangeSpec := { name := "icmpsCut", fn := fun _ => fun
  | [d1, d2, d3] => { results := [.lit (.bool false)], args := [d1, d2, d3] }
  | _ => none }
def IcmpsCutWrongFalsely : Prop := icmpsCutRow.holds Try.pinned (OpenSpec.ofChange icmpsCutWrong)

/- THE SECOND FORM. 'bulk': how many values and letters a reading holds, each counted each time it is reached (what is shared counts as often as it is met; a slice's spare places count too). A statement '..UptoSaid' is the law's where the arguments, and the package variables that the reading takes, are together of bulk at most 1048576: NARROWER than '..Said'. Prove '..Said' where nothing that the law and all that it calls make is longer than what came in: it says more and counts as full. Else prove '..UptoSaid'. A law counts once. -/
mutual
def uptoBulk {H : Type} : DataW H → Nat
  | .lit (.string bytes) => bytes.length + 1
  | .lit _ => 1
  | .nil => 1
  | .ptr d => uptoBulk d + 1
  | .slice elems spare => uptoBulkAll elems + uptoBulkAll spare + 1
  | .agg parts => uptoBulkAll parts + 1
  | .iface _ d => uptoBulk d + 1
  | .map entries => uptoBulkEntries entries + 1
  | .held _ => 1
def uptoBulkAll {H : Type} : List (DataW H) → Nat
  | [] => 0
  | d :: r => uptoBulk d + uptoBulkAll r
def uptoBulkEntries {H : Type} : List (Lit × DataW H) → Nat
  | [] => 0
  | x :: r => uptoBulkEntry x + uptoBulkEntries r
def uptoBulkEntry {H : Type} : Lit × DataW H → Nat
  | (.string bytes, d) => bytes.length + uptoBulk d + 1
  | (_, d) => uptoBulk d + 1
 end
def uptoSmall : (H : Type) → List (DataW H) → Bool := fun _ ds => decide (uptoBulkAll ds ≤ 1048576)
def OpenSpec.upto (s : _root_.Go.ChangeSpec) : _root_.Go.OpenSpec := { _root_.Go.OpenSpec.ofChange s with cond := some uptoSmall }

/-- 'sojournerlaw11.IcmpsPut', WHERE WHAT IT READS IS OF BULK AT MOST 1048576: true; the input reads as it did. -/
def icmpsPutUptoRow : OpenClaim := { program := "ytjimmfbjhkoekaa", sum := "07ba2919d03e2a616c28ae9e9633949a657ecb671d8a0c7dea32b57f5eedc306", func := "sojourner/sojournerlaw11.IcmpsPut", spec := "icmpsPut", unfollowed := true, recurses := true, apart := false, narrowed := true }
def IcmpsPutUptoSaid : Prop := icmpsPutUptoRow.holds Try.pinned (OpenSpec.upto icmpsPutSpec)

/-- 'sojournerlaw11.IcmpsGet', WHERE WHAT IT READS IS OF BULK AT MOST 1048576: true; the input reads as it did. -/
def icmpsGetUptoRow : OpenClaim := { program := "ytjimmfbjhkoekaa", sum := "07ba2919d03e2a616c28ae9e9633949a657ecb671d8a0c7dea32b57f5eedc306", func := "sojourner/sojournerlaw11.IcmpsGet", spec := "icmpsGet", unfollowed := true, recurses := true, apart := false, narrowed := true }
def IcmpsGetUptoSaid : Prop := icmpsGetUptoRow.holds Try.pinned (OpenSpec.upto icmpsGetSpec)

/-- 'sojournerlaw11.IcmpsBack', WHERE WHAT IT READS IS OF BULK AT MOST 1048576: true; the input reads as it did. -/
def icmpsBackUptoRow : OpenClaim := { program := "ytjimmfbjhkoekaa", sum := "07ba2919d03e2a616c28ae9e9633949a657ecb671d8a0c7dea32b57f5eedc306", func := "sojourner/sojournerlaw11.IcmpsBack", spec := "icmpsBack", unfollowed := true, recurses := true, apart := false, narrowed := true }
def IcmpsBackUptoSaid : Prop := icmpsBackUptoRow.holds Try.pinned (OpenSpec.upto icmpsBackSpec)

/-- 'sojournerlaw11.IcmpsAgain', WHERE WHAT IT READS IS OF BULK AT MOST 1048576: true; the input reads as it did. -/
def icmpsAgainUptoRow : OpenClaim := { program := "ytjimmfbjhkoekaa", sum := "07ba2919d03e2a616c28ae9e9633949a657ecb671d8a0c7dea32b57f5eedc306", func := "sojourner/sojournerlaw11.IcmpsAgain", spec := "icmpsAgain", unfollowed := true, recurses := true, apart := false, narrowed := true }
def IcmpsAgainUptoSaid : Prop := icmpsAgainUptoRow.holds Try.pinned (OpenSpec.upto icmpsAgainSpec)

/-- 'sojournerlaw11.IcmpsCut', WHERE WHAT IT READS IS OF BULK AT MOST 1048576: true; the input reads as it did. -/
def icmpsCutUptoRow : OpenClaim := { program := "ytjimmfbjhkoekaa", sum := "07ba2919d03e2a616c28ae9e9633949a657ecb671d8a0c7dea32b57f5eedc306", func := "sojourner/sojournerlaw11.IcmpsCut", spec := "icmpsCut", unfollowed := true, recurses := true, apart := false, narrowed := true }
def IcmpsCutUptoSaid : Prop := icmpsCutUptoRow.holds Try.pinned (OpenSpec.upto icmpsCutSpec)

end Rows
end Go.Proofs.Ytjimmfbjhkoekaa
