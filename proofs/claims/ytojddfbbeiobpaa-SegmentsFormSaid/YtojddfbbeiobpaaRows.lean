/-
  No cell of these rows narrows 'for every input' (looked for: loops, veiled, ifaces, maps, wideKeys, modest, calm, conditions, laid).
  DERIVED. THE GIVEN ROWS OF THIS SEAT. 5 by the template 'for every input the law returns true; each argument reads behind the call as it read before'; 0 by the template 'total and deterministic' (their statements: YtojddfbbeiobpaaTotals.lean).
  GIVEN WITH THE SEED: the statements are not yours to turn. If you find one false, say at which input.
  Laid BY PROGRAM, IN A SANDBOX (cutbox-rows.mjs): the forced cells as the released guide's own fill.sh prints them over the translation 7b6d7a50cc90e965… (all of the seat's roots in one cut). By AI agents, Wed Nov 11 2026. No macro, syntax, notation, axiom, sorry.
-/
import Derived.Test.YtojddfbbeiobpaaChecked
import GoSem.Claim
import GoSem.ClaimJoined
import GoSem.ClaimMapViews
import Derived.JoinedTies
import Derived.KernelRfl
namespace Go.Proofs.Ytojddfbbeiobpaa
/- THE CELL 'sum', in the pinned program and in every row, IS THE sha256 OF THE DUMP (.gsa) THAT YtojddfbbeiobpaaProg.lean LOADS. Nothing in Lean hashes anything: it is a label: what it is worth is what the hold of that sum in a sandbox is worth. -/
noncomputable def Try.pinned : Pinned := { name := "ytojddfbbeiobpaa", sum := "7b6d7a50cc90e96537409653d44feb4b2f374dc79e60d3b3807a566db087bcb6", checked := Try.checked }
namespace Rows
def none {H : Type} : Left H := { results := [], args := [] }

/-- 'sojournerlaw17.SegmentsPut': WHATEVER THE INPUT: true; the input reads as it did. -/
def segmentsPutSpec : ChangeSpec := { name := "segmentsPut", fn := fun _ => fun
  | [d1, d2] => { results := [.lit (.bool true)], args := [d1, d2] }
  | _ => none }
def segmentsPutRow : OpenClaim := { program := "ytojddfbbeiobpaa", sum := "7b6d7a50cc90e96537409653d44feb4b2f374dc79e60d3b3807a566db087bcb6", func := "sojourner/sojournerlaw17.SegmentsPut", spec := "segmentsPut", unfollowed := true, recurses := true, apart := false }
def SegmentsPutSaid : Prop := segmentsPutRow.holds Try.pinned (OpenSpec.ofChange segmentsPutSpec)

/-- ITS FALSE NEIGHBOUR: 'it returns false'. Refute it at one input. -/
def segmentsPutWrong : ChangeSpec := { name := "segmentsPut", fn := fun _ => fun
  | [d1, d2] => { results := [.lit (.bool false)], args := [d1, d2] }
  | _ => none }
def SegmentsPutWrongFalsely : Prop := segmentsPutRow.holds Try.pinned (OpenSpec.ofChange segmentsPutWrong)

/-- 'sojournerlaw17.SegmentsGet': WHATEVER THE INPUT: true; the input reads as it did. -/
def segmentsGetSpec : ChangeSpec := { name := "segmentsGet", fn := fun _ => fun
  | [d1, d2] => { results := [.lit (.bool true)], args := [d1, d2] }
  | _ => none }
def segmentsGetRow : OpenClaim := { program := "ytojddfbbeiobpaa", sum := "7b6d7a50cc90e96537409653d44feb4b2f374dc79e60d3b3807a566db087bcb6", func := "sojourner/sojournerlaw17.SegmentsGet", spec := "segmentsGet", unfollowed := true, recurses := true, apart := false }
def SegmentsGetSaid : Prop := segmentsGetRow.holds Try.pinned (OpenSpec.ofChange segmentsGetSpec)

/-- ITS FALSE NEIGHBOUR: 'it returns false'. Refute it at one input. -/
def segmentsGetWrong : ChangeSpec := { name := "segmentsGet", fn := fun _ => fun
  | [d1, d2] => { results := [.lit (.bool false)], args := [d1, d2] }
  | _ => none }
def SegmentsGetWrongFalsely : Prop := segmentsGetRow.holds Try.pinned (OpenSpec.ofChange segmentsGetWrong)

/-- 'sojournerlaw17.SegmentsBack': WHATEVER THE INPUT: true; the input reads as it did. -/
def segmentsBackSpec : ChangeSpec := { name := "segmentsBack", fn := fun _ => fun
  | [d1, d2, d3] => { results := [.lit (.bool true)], args := [d1, d2, d3] }
  | _ => none }
def segmentsBackRow : OpenClaim := { program := "ytojddfbbeiobpaa", sum := "7b6d7a50cc90e96537409653d44feb4b2f374dc79e60d3b3807a566db087bcb6", func := "sojourner/sojournerlaw17.SegmentsBack", spec := "segmentsBack", unfollowed := true, recurses := true, apart := false }
def SegmentsBackSaid : Prop := segmentsBackRow.holds Try.pinned (OpenSpec.ofChange segmentsBackSpec)

/-- ITS FALSE NEIGHBOUR: 'it returns false'. Refute it at one input. -/
def segmentsBackWrong : ChangeSpec := { name := "segmentsBack", fn := fun _ => fun
  | [d1, d2, d3] => { results := [.lit (.bool false)], args := [d1, d2, d3] }
  | _ => none }
def SegmentsBackWrongFalsely : Prop := segmentsBackRow.holds Try.pinned (OpenSpec.ofChange segmentsBackWrong)

/-- 'sojournerlaw17.SegmentsOptions': WHATEVER THE INPUT: true; the input reads as it did. -/
def segmentsOptionsSpec : ChangeSpec := { name := "segmentsOptions", fn := fun _ => fun
  | [d1, d2, d3] => { results := [.lit (.bool true)], args := [d1, d2, d3] }
  | _ => none }
def segmentsOptionsRow : OpenClaim := { program := "ytojddfbbeiobpaa", sum := "7b6d7a50cc90e96537409653d44feb4b2f374dc79e60d3b3807a566db087bcb6", func := "sojourner/sojournerlaw17.SegmentsOptions", spec := "segmentsOptions", unfollowed := true, recurses := true, apart := false }
def SegmentsOptionsSaid : Prop := segmentsOptionsRow.holds Try.pinned (OpenSpec.ofChange segmentsOptionsSpec)

/-- ITS FALSE NEIGHBOUR: 'it returns false'. Refute it at one input. -/
def segmentsOptionsWrong : ChangeSpec := { name := "segmentsOptions", fn := fun _ => fun
  | [d1, d2, d3] => { results := [.lit (.bool false)], args := [d1, d2, d3] }
  | _ => none }
def SegmentsOptionsWrongFalsely : Prop := segmentsOptionsRow.holds Try.pinned (OpenSpec.ofChange segmentsOptionsWrong)

/-- 'sojournerlaw17.SegmentsForm': WHATEVER THE INPUT: true; the input reads as it did. -/
def segmentsFormSpec : ChangeSpec := { name := "segmentsForm", fn := fun _ => fun
  | [d1, d2, d3] => { results := [.lit (.bool true)], args := [d1, d2, d3] }
  | _ => none }
def segmentsFormRow : OpenClaim := { program := "ytojddfbbeiobpaa", sum := "7b6d7a50cc90e96537409653d44feb4b2f374dc79e60d3b3807a566db087bcb6", func := "sojourner/sojournerlaw17.SegmentsForm", spec := "segmentsForm", unfollowed := true, recurses := true, apart := false }
def SegmentsFormSaid : Prop := segmentsFormRow.holds Try.pinned (OpenSpec.ofChange segmentsFormSpec)

/-- ITS FALSE NEIGHBOUR: 'it returns false'. Refute it at one input. -/
def segmentsFormWrong : ChangeSpec := { name := "segmentsForm", fn := fun _ => fun
  | [d1, d2, d3] => { results := [.lit (.bool false)], args := [d1, d2, d3] }
  | _ => none }
def SegmentsFormWrongFalsely : Prop := segmentsFormRow.holds Try.pinned (OpenSpec.ofChange segmentsFormWrong)

/- THE SECOND FORM. 'bulk': how many values and letters a reading holds, each counted each time it is reached (what is shared counts as often as it is met; a slice's spare places count too). A statement '..UptoSaid' is the law's where the arguments, and the package variables that the reading takes, are together of bulk at most 1048576: NARROWER than '..Said'. Prove '..Said' where nothing that the law and all that it calls make is longer than what came in: it says more and counts as full. Else prove '..UptoSaid'. A law counts once. -/
mutual
def uptoBulk {H : Type} : DataW H → Nat
  | .lit (.string bytes) => bytes.length + 1
  | .lit _ => 1
  | .nil => 1
  | .ptr d => uptoBulk d + 1
  | .slice elems spare => uptoBulkAll elems + uptoBulkAll spare + 1
  | .agg parts => uptoBulkAll parts + 1
  | .iface _ d => uptoBulk d + 1
  | .map entries => uptoBulkEntries entries + 1
  | .held _ => 1
def uptoBulkAll {H : Type} : List (DataW H) → Nat
  | [] => 0
  | d :: r => uptoBulk d + uptoBulkAll r
def uptoBulkEntries {H : Type} : List (Lit × DataW H) → Nat
  | [] => 0
  | x :: r => uptoBulkEntry x + uptoBulkEntries r
def uptoBulkEntry {H : Type} : Lit × DataW H → Nat
  | (.string bytes, d) => bytes.length + uptoBulk d + 1
  | (_, d) => uptoBulk d + 1
 end
def uptoSmall : (H : Type) → List (DataW H) → Bool := fun _ ds => decide (uptoBulkAll ds ≤ 1048576)
def OpenSpec.upto (s : _root_.Go.ChangeSpec) : _root_.Go.OpenSpec := { _root_.Go.OpenSpec.ofChange s with cond := some uptoSmall }

/-- 'sojournerlaw17.SegmentsPut', WHERE WHAT IT READS IS OF BULK AT MOST 1048576: true; the input reads as it did. -/
def segmentsPutUptoRow : OpenClaim := { program := "ytojddfbbeiobpaa", sum := "7b6d7a50cc90e96537409653d44feb4b2f374dc79e60d3b3807a566db087bcb6", func := "sojourner/sojournerlaw17.SegmentsPut", spec := "segmentsPut", unfollowed := true, recurses := true, apart := false, narrowed := true }
def SegmentsPutUptoSaid : Prop := segmentsPutUptoRow.holds Try.pinned (OpenSpec.upto segmentsPutSpec)

/-- 'sojournerlaw17.SegmentsGet', WHERE WHAT IT READS IS OF BULK AT MOST 1048576: true; the input reads as it did. -/
def segmentsGetUptoRow : OpenClaim := { program := "ytojddfbbeiobpaa", sum := "7b6d7a50cc90e96537409653d44feb4b2f374dc79e60d3b3807a566db087bcb6", func := "sojourner/sojournerlaw17.SegmentsGet", spec := "segmentsGet", unfollowed := true, recurses := true, apart := false, narrowed := true }
def SegmentsGetUptoSaid : Prop := segmentsGetUptoRow.holds Try.pinned (OpenSpec.upto segmentsGetSpec)

/-- 'sojournerlaw17.SegmentsBack', WHERE WHAT IT READS IS OF BULK AT MOST 1048576: true; the input reads as it did. -/
def segmentsBackUptoRow : OpenClaim := { program := "ytojddfbbeiobpaa", sum := "7b6d7a50cc90e96537409653d44feb4b2f374dc79e60d3b3807a566db087bcb6", func := "sojourner/sojournerlaw17.SegmentsBack", spec := "segmentsBack", unfollowed := true, recurses := true, apart := false, narrowed := true }
def SegmentsBackUptoSaid : Prop := segmentsBackUptoRow.holds Try.pinned (OpenSpec.upto segmentsBackSpec)

/-- 'sojournerlaw17.SegmentsOptions', WHERE WHAT IT READS IS OF BULK AT MOST 1048576: true; the input reads as it did. -/
def segmentsOptionsUptoRow : OpenClaim := { program := "ytojddfbbeiobpaa", sum := "7b6d7a50cc90e96537409653d44feb4b2f374dc79e60d3b3807a566db087bcb6", func := "sojourner/sojournerlaw17.SegmentsOptions", spec := "segmentsOptions", unfollowed := true, recurses := true, apart := false, narrowed := true }
def SegmentsOptionsUptoSaid : Prop := segmentsOptionsUptoRow.holds Try.pinned (OpenSpec.upto segmentsOptionsSpec)

/-- 'sojournerlaw17.SegmentsForm', WHERE WHAT IT READS IS OF BULK AT MOST 1048576: true; the input reads as it did. -/
def segmentsFormUptoRow : OpenClaim := { program := "ytojddfbbeiobpaa", sum := "7b6d7a50cc90e96537409653d44feb4b2f374dc79e60d3b3807a566db087bcb6", func := "sojourner/sojournerlaw17.SegmentsForm", spec := "segmentsForm", unfollowed := true, recurses := true, apart := false, narrowed := true }
def SegmentsFormUptoSaid : Prop := segmentsFormUptoRow.holds Try.pinned (OpenSpec.upto segmentsFormSpec)

end Rows
end Go.Proofs.Ytojddfbbeiobpaa
