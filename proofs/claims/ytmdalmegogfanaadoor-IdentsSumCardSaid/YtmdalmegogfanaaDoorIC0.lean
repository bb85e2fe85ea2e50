/- What all cards of this seat share: the tables of the hash, as the program's text lays them; arrays of words, opened. -/
import Derived.Test.YtmdalmegogfanaaDoorCards
import Derived.Test.YtmdalmegogfanaaDoorTie
import Derived.Test.YtmdalmegogfanaaDoorI1
import Derived.Test.YtmdalmegogfanaaDoorL1
import Derived.Deep.DeepHandedRow
import Derived.Lib.LaidTab
import Derived.Stop.LaidErr
namespace Go.Proofs.YtmdalmegogfanaaDoor
open Go.ChangeShapes Go.WideShapes Go.ChangeAt Go.RowKit
theorem own : ownKnob Tryd.prog.godebug = none := by kernel_rfl
theorem laidOut : laidOutB Tryd.prog = true := by kernel_rfl
theorem gFirst : Tryd.prog.globalNamed "sojourner/idents.first" = some 0 := by kernel_rfl
theorem gFirstType : (Tryd.prog.globals[0]?).map (·.type) = some 56 := by kernel_rfl
theorem gEach : Tryd.prog.globalNamed "sojourner/idents.each" = some 1 := by kernel_rfl
theorem gEachType : (Tryd.prog.globals[1]?).map (·.type) = some 62 := by kernel_rfl
def words (l : List UInt32) : List Int := l.map fun x => (x.toNat : Int)
theorem first_datum : (Rows.laid_sojourner_idents_first : DataW Unit) = Lib.tabData .u32 (words H0.ls) := by rfl
theorem each_datum : (Rows.laid_sojourner_idents_each : DataW Unit) = Lib.tabData .u32 (words K0) := by rfl
theorem bk_of_tab {W : World} {name : String} {k : IntKind} {zs : List Int} {g : Nat} (hg : Tryd.prog.globalNamed name = some g) (h : Lib.TabIs Tryd.prog W name k zs) : ∃ t fr, bk W g = some (.cells (zs.map fun z => Value.int k z).toArray t fr) := by
  unfold Lib.TabIs at h
  simp only [World.var?, hg, Option.bind_some] at h
  cases hb : W.heap[g]? with
  | none => rw [hb] at h; cases h
  | some o =>
    rw [hb] at h
    cases o with
    | cells c t fr =>
      simp only [Option.some.injEq] at h
      exact ⟨t, fr, by unfold bk; rw [hb, h]⟩
    | _ => cases h
theorem ge_of_laid {rest : List (String × DataW Unit)} {W : World} (h : laidMet Tryd.prog (("sojourner/idents.first", Rows.laid_sojourner_idents_first) :: ("sojourner/idents.each", Rows.laid_sojourner_idents_each) :: rest) W) : GE W := by
  rw [first_datum, each_datum] at h
  obtain ⟨t, fr, h1⟩ := bk_of_tab gFirst (Lib.tabIs_of_head gFirst gFirstType Tryd.underlying56 Tryd.underlying28 (by kernel_rfl) (by kernel_rfl) h)
  obtain ⟨t', fr', h2⟩ := bk_of_tab gEach (Lib.tabIs_of_head gEach gEachType Tryd.underlying62 Tryd.underlying28 (by kernel_rfl) (by kernel_rfl) h.tail)
  exact ⟨⟨t, fr, h1⟩, t', fr', h2⟩
/-- A world in which the tables lie as the program's text lays them. -/
noncomputable def laidWorld (os : Os) : World :=
  let w := World.holding Tryd.prog os ⟨#[], #[], []⟩
  { w with heap := (w.heap.modify 0 (fun o => match o with
      | .cells _ t frozen => .cells H0.row t frozen
      | o => o)).modify 1 (fun o => match o with
      | .cells _ t frozen => .cells eachR t frozen
      | o => o) }
section
variable {P : Program} {H : Type} {enc : TypeId × Value → H}
/-- An array of words, opened. -/
theorem open_words {w : World} {base b0 : Nat} {r : Reach} {sp : Nat → Bool} {held : Bool} {n : Nat} {t e : TypeId} {v : Value} {d : DataW H} {ps : List MemPlace}
    (ht : P.underlying t = some (.array n e)) (he : P.underlying e = some (.int .u32)) (hc : P.cellsOf e = 1) (hct : P.cellsOf t = n)
    (hval : Value.okWide P w r b0 t v) (hd : DataW.Trod enc P w base sp held t v d ps) : ∃ l : List Nat, l.length = n ∧ (∀ x ∈ l, x < 4294967296) ∧ v = .agg (l.map fun x : Nat => Value.int .u32 (x : Int)).toArray := by
  obtain ⟨fuel, h⟩ := hd
  unfold Value.okWide at hval
  rw [ht] at hval
  obtain ⟨cs, rfl, _⟩ := hval
  simp only [Value.cells] at h
  obtain ⟨xs, m, rfl, hx, hlen, hxl, hf⟩ := DataW.trod_array ht h
  rw [hct] at hlen
  rw [hc] at hf
  have key : ∀ i, i < n → ∃ b : Nat, b < 4294967296 ∧ cs.toList[i]? = some (.int .u32 (b : Int)) := fun i hi => by
    have h1 := hf i hi
    rw [Nat.mul_one] at h1
    obtain ⟨y, hy⟩ : ∃ y, xs[i]? = some y := ⟨xs[i]'(by omega), List.getElem?_eq_getElem (by omega)⟩
    rw [hy] at h1
    obtain ⟨z, h2, rfl, hw⟩ := DataW.trod_int he h1
    have h3 : cs.toList[i]? = some (.int .u32 z) := by
      have := congrArg (·[0]?) h2
      simpa [List.getElem?_take, List.getElem?_drop] using this
    have hb : 0 ≤ z ∧ z ≤ 4294967295 := by simpa [Lit.wf, IntKind.min, IntKind.max, IntKind.signed, IntKind.bits] using hw
    exact ⟨z.toNat, by omega, by rw [h3]; congr 2; omega⟩
  have hch : ∃ g : Nat → Nat, ∀ i, i < n → g i < 4294967296 ∧ cs.toList[i]? = some (.int .u32 (g i : Int)) :=
    ⟨fun i => if h : i < n then Classical.choose (key i h) else 0, fun i hi => by simp only [dif_pos hi]; exact Classical.choose_spec (key i hi)⟩
  obtain ⟨g, hg⟩ := hch
  refine ⟨(List.range n).map g, by simp, fun x hx => ?_, ?_⟩
  · obtain ⟨i, hi, rfl⟩ := List.mem_map.1 hx
    exact (hg i (by simpa using hi)).1
  · congr 1
    apply Array.ext'
    apply List.ext_getElem?
    intro i
    by_cases hi : i < n
    · rw [(hg i hi).2, List.map_map, List.getElem?_map, List.getElem?_range hi]; rfl
    · rw [List.getElem?_eq_none (by omega), List.getElem?_eq_none (by simp; omega)]
end
end Go.Proofs.YtmdalmegogfanaaDoor
