/-
  No cell of these rows narrows 'for every input' (looked for: loops, veiled, ifaces, maps, wideKeys, modest, calm, conditions, laid).
  DERIVED. THE GIVEN ROWS OF THIS SEAT. 6 by the template 'for every input the law returns true; each argument reads behind the call as it read before'; 0 by the template 'total and deterministic' (their statements: YtmpmddgledahbaaTotals.lean).
  GIVEN WITH THE SEED: the statements are not yours to turn. If you find one false, say at which input.
  Laid BY PROGRAM, IN A SANDBOX (cutbox-rows.mjs): the forced cells as the released guide's own fill.sh prints them over the translation f5e5c4713bf27808… (all of the seat's roots in one cut). By AI agents, Wed Nov 11 2026. No macro, syntax, notation, axiom, sorry.
-/
import Derived.Test.YtmpmddgledahbaaChecked
import GoSem.Claim
import GoSem.ClaimJoined
import GoSem.ClaimMapViews
import Derived.JoinedTies
import Derived.KernelRfl
namespace Go.Proofs.Ytmpmddgledahbaa
/- THE CELL 'sum', in the pinned program and in every row, IS THE sha256 OF THE DUMP (.gsa) THAT YtmpmddgledahbaaProg.lean LOADS. Nothing in Lean hashes anything: it is a label: what it is worth is what the hold of that sum in a sandbox is worth. -/
noncomputable def Try.pinned : Pinned := { name := "ytmpmddgledahbaa", sum := "f5e5c4713bf2780808b53a449e75fe49db4a481d3d832a46446335f132ae43c9", checked := Try.checked }
namespace Rows
def none {H : Type} : Left H := { results := [], args := [] }

/-- 'sojournerlaw01.OctetsCut': WHATEVER THE INPUT: true; the input reads as it did. -/
def octetsCutSpec : ChangeSpec := { name := "octetsCut", fn := fun _ => fun
  | [d1, d2] => { results := [.lit (.bool true)], args := [d1, d2] }
  | _ => none }
def octetsCutRow : OpenClaim := { program := "ytmpmddgledahbaa", sum := "f5e5c4713bf2780808b53a449e75fe49db4a481d3d832a46446335f132ae43c9", func := "sojourner/sojournerlaw01.OctetsCut", spec := "octetsCut", unfollowed := true, recurses := true, apart := false }
def OctetsCutSaid : Prop := octetsCutRow.holds Try.pinned (OpenSpec.ofChange octetsCutSpec)

/-- ITS FALSE NEIGHBOUR: 'it returns false'. Refute it at one input. -/
def octetsCutWrong : ChangeSpec := { name := "octetsCut", fn := fun _ => fun
  | [d1, d2] => { results := [.lit (.bool false)], args := [d1, d2] }
  | _ => none }
def OctetsCutWrongFalsely : Prop := octetsCutRow.holds Try.pinned (OpenSpec.ofChange octetsCutWrong)

/-- 'sojournerlaw01.OctetsPut': WHATEVER THE INPUT: true; the input reads as it did. -/
def octetsPutSpec : ChangeSpec := { name := "octetsPut", fn := fun _ => fun
  | [d1, d2, d3] => { results := [.lit (.bool true)], args := [d1, d2, d3] }
  | _ => none }
def octetsPutRow : OpenClaim := { program := "ytmpmddgledahbaa", sum := "f5e5c4713bf2780808b53a449e75fe49db4a481d3d832a46446335f132ae43c9", func := "sojourner/sojournerlaw01.OctetsPut", spec := "octetsPut", unfollowed := true, recurses := true, apart := false }
def OctetsPutSaid : Prop := octetsPutRow.holds Try.pinned (OpenSpec.ofChange octetsPutSpec)

/-- ITS FALSE NEIGHBOUR: 'it returns false'. Refute it at one input. -/
def octetsPutWrong : ChangeSpec := { name := "octetsPut", fn := fun _ => fun
  | [d1, d2, d3] => { results := [.lit (.bool false)], args := [d1, d2, d3] }
  | _ => none }
def OctetsPutWrongFalsely : Prop := octetsPutRow.holds Try.pinned (OpenSpec.ofChange octetsPutWrong)

/-- 'sojournerlaw01.OctetsVoid': WHATEVER THE INPUT: true; the input reads as it did. -/
def octetsVoidSpec : ChangeSpec := { name := "octetsVoid", fn := fun _ => fun
  | [d] => { results := [.lit (.bool true)], args := [d] }
  | _ => none }
def octetsVoidRow : OpenClaim := { program := "ytmpmddgledahbaa", sum := "f5e5c4713bf2780808b53a449e75fe49db4a481d3d832a46446335f132ae43c9", func := "sojourner/sojournerlaw01.OctetsVoid", spec := "octetsVoid", apart := false }
def OctetsVoidSaid : Prop := octetsVoidRow.holds Try.pinned (OpenSpec.ofChange octetsVoidSpec)

/-- ITS FALSE NEIGHBOUR: 'it returns false'. Refute it at one input. -/
def octetsVoidWrong : ChangeSpec := { name := "octetsVoid", fn := fun _ => fun
  | [d] => { results := [.lit (.bool false)], args := [d] }
  | _ => none }
def OctetsVoidWrongFalsely : Prop := octetsVoidRow.holds Try.pinned (OpenSpec.ofChange octetsVoidWrong)

/-- 'sojournerlaw01.OctetsBack': WHATEVER THE INPUT: true; the input reads as it did. -/
def octetsBackSpec : ChangeSpec := { name := "octetsBack", fn := fun _ => fun
  | [d1, d2] => { results := [.lit (.bool true)], args := [d1, d2] }
  | _ => none }
def octetsBackRow : OpenClaim := { program := "ytmpmddgledahbaa", sum := "f5e5c4713bf2780808b53a449e75fe49db4a481d3d832a46446335f132ae43c9", func := "sojourner/sojournerlaw01.OctetsBack", spec := "octetsBack", apart := false }
def OctetsBackSaid : Prop := octetsBackRow.holds Try.pinned (OpenSpec.ofChange octetsBackSpec)

/-- ITS FALSE NEIGHBOUR: 'it returns false'. Refute it at one input. -/
def octetsBackWrong : ChangeSpec := { name := "octetsBack", fn := fun _ => fun
  | [d1, d2] => { results := [.lit (.bool false)], args := [d1, d2] }
  | _ => none }
def OctetsBackWrongFalsely : Prop := octetsBackRow.holds Try.pinned (OpenSpec.ofChange octetsBackWrong)

/-- 'sojournerlaw01.OctetsParts': WHATEVER THE INPUT: true; the input reads as it did. -/
def octetsPartsSpec : ChangeSpec := { name := "octetsParts", fn := fun _ => fun
  | [d1, d2, d3] => { results := [.lit (.bool true)], args := [d1, d2, d3] }
  | _ => none }
def octetsPartsRow : OpenClaim := { program := "ytmpmddgledahbaa", sum := "f5e5c4713bf2780808b53a449e75fe49db4a481d3d832a46446335f132ae43c9", func := "sojourner/sojournerlaw01.OctetsParts", spec := "octetsParts", apart := false }
def OctetsPartsSaid : Prop := octetsPartsRow.holds Try.pinned (OpenSpec.ofChange octetsPartsSpec)

/-- ITS FALSE NEIGHBOUR: 'it returns false'. Refute it at one input. -/
def octetsPartsWrong : ChangeSpec := { name := "octetsParts", fn := fun _ => fun
  | [d1, d2, d3] => { results := [.lit (.bool false)], args := [d1, d2, d3] }
  | _ => none }
def OctetsPartsWrongFalsely : Prop := octetsPartsRow.holds Try.pinned (OpenSpec.ofChange octetsPartsWrong)

/-- 'sojournerlaw01.OctetsOrder': WHATEVER THE INPUT: true; the input reads as it did. -/
def octetsOrderSpec : ChangeSpec := { name := "octetsOrder", fn := fun _ => fun
  | [d1, d2, d3] => { results := [.lit (.bool true)], args := [d1, d2, d3] }
  | _ => none }
def octetsOrderRow : OpenClaim := { program := "ytmpmddgledahbaa", sum := "f5e5c4713bf2780808b53a449e75fe49db4a481d3d832a46446335f132ae43c9", func := "sojourner/sojournerlaw01.OctetsOrder", spec := "octetsOrder", apart := false }
def OctetsOrderSaid : Prop := octetsOrderRow.holds Try.pinned (OpenSpec.ofChange octetsOrderSpec)

/-- ITS FALSE NEIGHBOUR: 'it returns false'. Refute it at one input. -/
def octetsOrderWrong : ChangeSpec := { name := "octetsOrder", fn := fun _ => fun
  | [d1, d2, d3] => { results := [.lit (.bool false)], args := [d1, d2, d3] }
  | _ => none }
def OctetsOrderWrongFalsely : Prop := octetsOrderRow.holds Try.pinned (OpenSpec.ofChange octetsOrderWrong)

/- THE SECOND FORM. 'bulk': how many values and letters a reading holds, each counted each time it is reached (what is shared counts as often as it is met; a slice's spare places count too). A statement '..UptoSaid' is the law's where the arguments, and the package variables that the reading takes, are together of bulk at most 1048576: NARROWER than '..Said'. Prove '..Said' where nothing that the law and all that it calls make is longer than what came in: it says more and counts as full. Else prove '..UptoSaid'. A law counts once. -/
mutual
def uptoBulk {H : Type} : DataW H → Nat
  | .lit (.string bytes) => bytes.length + 1
  | .lit _ => 1
  | .nil => 1
  | .ptr d => uptoBulk d + 1
  | .slice elems spare => uptoBulkAll elems + uptoBulkAll spare + 1
  | .agg parts => uptoBulkAll parts + 1
  | .iface _ d => uptoBulk d + 1
  | .map entries => uptoBulkEntries entries + 1
  | .held _ => 1
def uptoBulkAll {H : Type} : List (DataW H) → Nat
  | [] => 0
  | d :: r => uptoBulk d + uptoBulkAll r
def uptoBulkEntries {H : Type} : List (Lit × DataW H) → Nat
  | [] => 0
  | x :: r => uptoBulkEntry x + uptoBulkEntries r
def uptoBulkEntry {H : Type} : Lit × DataW H → Nat
  | (.string bytes, d) => bytes.length + uptoBulk d + 1
  | (_, d) => uptoBulk d + 1
 end
def uptoSmall : (H : Type) → List (DataW H) → Bool := fun _ ds => decide (uptoBulkAll ds ≤ 1048576)
def OpenSpec.upto (s : _root_.Go.ChangeSpec) : _root_.Go.OpenSpec := { _root_.Go.OpenSpec.ofChange s with cond := some uptoSmall }

/-- 'sojournerlaw01.OctetsCut', WHERE WHAT IT READS IS OF BULK AT MOST 1048576: true; the input reads as it did. -/
def octetsCutUptoRow : OpenClaim := { program := "ytmpmddgledahbaa", sum := "f5e5c4713bf2780808b53a449e75fe49db4a481d3d832a46446335f132ae43c9", func := "sojourner/sojournerlaw01.OctetsCut", spec := "octetsCut", unfollowed := true, recurses := true, apart := false, narrowed := true }
def OctetsCutUptoSaid : Prop := octetsCutUptoRow.holds Try.pinned (OpenSpec.upto octetsCutSpec)

/-- 'sojournerlaw01.OctetsPut', WHERE WHAT IT READS IS OF BULK AT MOST 1048576: true; the input reads as it did. -/
def octetsPutUptoRow : OpenClaim := { program := "ytmpmddgledahbaa", sum := "f5e5c4713bf2780808b53a449e75fe49db4a481d3d832a46446335f132ae43c9", func := "sojourner/sojournerlaw01.OctetsPut", spec := "octetsPut", unfollowed := true, recurses := true, apart := false, narrowed := true }
def OctetsPutUptoSaid : Prop := octetsPutUptoRow.holds Try.pinned (OpenSpec.upto octetsPutSpec)

/-- 'sojournerlaw01.OctetsVoid', WHERE WHAT IT READS IS OF BULK AT MOST 1048576: true; the input reads as it did. -/
def octetsVoidUptoRow : OpenClaim := { program := "ytmpmddgledahbaa", sum := "f5e5c4713bf2780808b53a449e75fe49db4a481d3d832a46446335f132ae43c9", func := "sojourner/sojournerlaw01.OctetsVoid", spec := "octetsVoid", apart := false, narrowed := true }
def OctetsVoidUptoSaid : Prop := octetsVoidUptoRow.holds Try.pinned (OpenSpec.upto octetsVoidSpec)

/-- 'sojournerlaw01.OctetsBack', WHERE WHAT IT READS IS OF BULK AT MOST 1048576: true; the input reads as it did. -/
def octetsBackUptoRow : OpenClaim := { program := "ytmpmddgledahbaa", sum := "f5e5c4713bf2780808b53a449e75fe49db4a481d3d832a46446335f132ae43c9", func := "sojourner/sojournerlaw01.OctetsBack", spec := "octetsBack", apart := false, narrowed := true }
def OctetsBackUptoSaid : Prop := octetsBackUptoRow.holds Try.pinned (OpenSpec.upto octetsBackSpec)

/-- 'sojournerlaw01.OctetsParts', WHERE WHAT IT READS IS OF BULK AT MOST 1048576: true; the input reads as it did. -/
def octetsPartsUptoRow : OpenClaim := { program := "ytmpmddgledahbaa", sum := "f5e5c4713bf2780808b53a449e75fe49db4a481d3d832a46446335f132ae43c9", func := "sojourner/sojournerlaw01.OctetsParts", spec := "octetsParts", apart := false, narrowed := true }
def OctetsPartsUptoSaid : Prop := octetsPartsUptoRow.holds Try.pinned (OpenSpec.upto octetsPartsSpec)

/-- 'sojournerlaw01.OctetsOrder', WHERE WHAT IT READS IS OF BULK AT MOST 1048576: true; the input reads as it did. -/
def octetsOrderUptoRow : OpenClaim := { program := "ytmpmddgledahbaa", sum := "f5e5c4713bf2780808b53a449e75fe49db4a481d3d832a46446335f132ae43c9", func := "sojourner/sojournerlaw01.OctetsOrder", spec := "octetsOrder", apart := false, narrowed := true }
def OctetsOrderUptoSaid : Prop := octetsOrderUptoRow.holds Try.pinned (OpenSpec.upto octetsOrderSpec)

end Rows
end Go.Proofs.Ytmpmddgledahbaa
