/- Bytes that a call hands back: read, with a room of their own. -/
import Derived.Test.YtjnfdpakpdahkaaS18
namespace Go.Proofs.Ytjnfdpakpdahkaa
open Go.RowKit
structure Gots (d : List UInt8) (n : Nat) (A : Option Addr) (w : World) : Prop where
  rd : Rd w w.heap.size A d
  room : Room w A d.length 5
  lo : ∀ b j, rg A 0 d.length b j → n ≤ b
  nn : A = none → d = [] ∧ d.length = 0
theorem Gots.nil {n : Nat} {w : World} : Gots [] n none w :=
  ⟨Rd.nil, fun h => absurd h (by simp), fun _ _ ⟨_, e, _⟩ => (by cases e), fun _ => ⟨rfl, rfl⟩⟩
theorem Gots.below {d : List UInt8} {n : Nat} {A : Option Addr} {w w' : World} (h : Gots d n A w) (hb : Below w.heap.size w w') : Gots d n A w' :=
  ⟨(h.rd.below hb (Nat.le_refl _)).mono hb.size, h.room.below hb, h.lo, h.nn⟩
/-- A row and a value are returned. -/
theorem ret_two {P : Program} {fn : Func} {R : Ending → World → Prop} {a : Act} {w : World} {p u : Tmp} {ty : TypeId} {g : Nat} {cs : Array Value} {d : TypeDesc} {y : Value}
    (h : fn.results = #[.cell p ty, .tmp u]) (hd' : a.defers = []) (hp : a.tmps.getD p undef = .pointer (some ⟨g, 0, none⟩)) (hy : a.tmps.getD u undef = y) (hg : (bk w g).bind rowOf = some cs)
    (hu : P.underlying ty = some d) (hd : d.isRow = true) (hi : (P.info? ty).map (·.size) = some cs.size) (hR : R (.returned (.tuple #[.agg cs, y])) w) : bodyPost P fn R .ret a w := by
  cases hb : bk w g with
  | none => rw [hb] at hg; simp at hg
  | some o =>
    rw [hb] at hg
    cases o with
    | cells c t fr =>
      simp [rowOf] at hg
      subst hg
      refine bodyPost_ret ?_ hd' hR
      rw [results_cell_tmp h, hp, hy]
      simp [asAddr, Result.andThen, run_loadVar_row w g t ty c fr d hb hu (by cases d <;> simp_all) hi]
    | _ => simp [rowOf] at hg
end Go.Proofs.Ytjnfdpakpdahkaa
