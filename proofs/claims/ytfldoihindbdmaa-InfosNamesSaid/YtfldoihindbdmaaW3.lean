/-
  A region that draws its order, told by a list; behind it operations in one forced order. Over any program.
-/
import Derived.Test.YtfldoihindbdmaaW1
namespace Go.Proofs.Ytfldoihindbdmaa
open Go.RowKit
theorem wp_region_e_tail {P : Program} {id : Nat} {Q : Exit → Act → World → Prop} {a : Act} {w : World} {l : List Oper} (m n : Nat) (es : List (Ent m)) (U : Nat → List Nat) (fs : Fs) (hmw : m ≤ w.heap.size) (hm : P.follows .mixedOrders = true)
    (hB : Region.lexTailB .any l.toArray n = true) (hU : (EnvW.mk P .any l.toArray m w (fun _ => none) (entX es) (entD es) (entO es) U).okU = true) (hX : (EnvW.mk P .any l.toArray m w (fun _ => none) (entX es) (entD es) (entO es) U).okX = true)
    (hI : (EnvW.mk P .any l.toArray m w (entN es) (entX es) (entD es) (entO es) U).Ini fs)
    (h : (EnvW.mk P .any l.toArray m w (entN es) (entX es) (entD es) (entO es) U).walk (fun fs a' => ∀ w', Below m w w' → (∀ j, (EnvW.mk P .any l.toArray m w (fun _ => none) (entX es) (entD es) (entO es) U).fin j = true → fs j w') → wpList P l.toArray Q (l.drop n) a' w') 0 (l.take n) fs a) : (Code.region id l.toArray true).wp P Q a w :=
  wp_region_w_tail m n (entN es) (entX es) (entD es) (entO es) U fs hmw hm hB hU hX (ent_told es U) hI h
end Go.Proofs.Ytfldoihindbdmaa
