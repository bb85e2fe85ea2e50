/- IdentsTemp: two words are told by their id. For any words; the tables of the hash start as the program's text lays them. -/
import Derived.Test.YtmdalmegogfanaaDoorIC0
import Derived.Test.YtmdalmegogfanaaDoorI7
namespace Go.Proofs.YtmdalmegogfanaaDoor
open Go.ChangeShapes Go.WideShapes Go.ChangeAt Go.RowKit
theorem open_pair {l : List Nat} (h : l.length = 2) (hb : ∀ x ∈ l, x < 4294967296) : ∃ a b : Nat, a < 4294967296 ∧ b < 4294967296 ∧ Value.agg (l.map fun x : Nat => Value.int .u32 (x : Int)).toArray = .agg #[.int .u32 a, .int .u32 b] := by
  match l, h with
  | [a, b], _ => exact ⟨a, b, hb a (by simp), hb b (by simp), rfl⟩
theorem readIdentsTemp : ∀ t ∈ Tryd.f4.params.toList, Tryd.prog.readableRec t = true ∧ t < Tryd.prog.types.size := fun t ht => by
  have h := List.all_eq_true.1 (show (Tryd.f4.params.toList.all fun t => Tryd.prog.readableRec t && decide (t < Tryd.prog.types.size)) = true by kernel_rfl) t ht
  simpa using h
theorem contractIdentsTemp (H : Type) (enc : TypeId × Value → H) (W : World) (base : Nat) (args : Array Value) (ds gs : List (DataW H)) (before : List MemPlace)
    (hval : ∀ (j : Nat) t v, Tryd.f4.params[j]? = some t → args[j]? = some v → Value.okWide Tryd.prog W .any base t v)
    (hW : DataW.Whole enc Tryd.prog Tryd.f4.params.toList Rows.identsTempSpec.vars false W args.toList ds gs before) (hg : GE W) :
    Calls Tryd.prog 4 args W fun e W' => ∃ v, e = .returned v ∧ Rows.identsTempSpec.post enc Tryd.prog Tryd.f4 false true false false W args v W' := by
  have hW' := hW
  obtain ⟨p, q, hA0, hV, _, _, _⟩ := hW
  have hA : DataW.TrodAll enc Tryd.prog W 0 (fun _ => true) true Tryd.f4.params.toList args.toList ds p := hA0
  rw [Tryd.params4] at hA hval
  obtain ⟨v0, vs0, d0, ds0, p0, q0, hargs, rfl, rfl, h0, r0⟩ := trodAll_cons hA
  obtain ⟨v1, vs1, d1, ds1, p1, q1, rfl, rfl, rfl, h1, r1⟩ := trodAll_cons r0
  obtain ⟨rfl, rfl, rfl⟩ := trodAll_nil r1
  obtain rfl : args = #[v0, v1] := by cases args; simp_all
  obtain ⟨l, hl, hb, rfl⟩ := open_words Tryd.underlying33 Tryd.underlying28 (by kernel_rfl) (by kernel_rfl) (hval 0 33 v0 rfl rfl) h0
  obtain ⟨m, hm, hc, rfl⟩ := open_words Tryd.underlying33 Tryd.underlying28 (by kernel_rfl) (by kernel_rfl) (hval 1 33 v1 rfl rfl) h1
  obtain ⟨a, b, ha, hb', e1⟩ := open_pair hl hb
  obtain ⟨c, d, hc', hd, e2⟩ := open_pair hm hc
  rw [e1, e2] at hW' ⊢
  exact law_calls hW' rfl rfl rfl rfl rfl Tryd.underlying4 laidOut readIdentsTemp (identsTemp_walk a b c d ha hb' hc' hd W hg)
theorem laid_metIdentsTemp (os : Os) : laidMet Tryd.prog Rows.identsTempRow.laid ((laidWorld os).forCall (fun _ _ => 0) ⟨#[], #[Value.agg #[.int .u32 0, .int .u32 0], Value.agg #[.int .u32 0, .int .u32 0]], []⟩).memory :=
  laidMet_of_run' 8 (by kernel_rfl) (by kernel_rfl)
theorem readsIdentsTemp (os : Os) {H : Type} (enc : TypeId × Value → H) : ∃ places, DataW.whole enc Tryd.prog ((laidWorld os).forCall (fun _ _ => 0) ⟨#[], #[Value.agg #[.int .u32 0, .int .u32 0], Value.agg #[.int .u32 0, .int .u32 0]], []⟩).memory Tryd.f4.params.toList Rows.identsTempSpec.vars false (#[Value.agg #[.int .u32 0, .int .u32 0], Value.agg #[.int .u32 0, .int .u32 0]]).toList 8 = some ([.agg [.lit (.int .u32 0), .lit (.int .u32 0)], .agg [.lit (.int .u32 0), .lit (.int .u32 0)]], [], places) :=
  ⟨[], by kernel_rfl⟩
set_option maxRecDepth 100000 in
theorem liftedIdentsTemp (os : Os) (started : os.Started) (H : Type) (enc : TypeId × Value → H) (F : Stop.Interp) :
    ReturnsInHanded {} Tryd.checked os 4 .any ((OpenSpec.ofChange Rows.identsTempSpec).preRow enc Tryd.prog Tryd.f4 Rows.identsTempRow.domain false Rows.identsTempRow.laid) (((OpenSpec.ofChange Rows.identsTempSpec).at F).post enc Tryd.prog Tryd.f4 false true false false) := by
  obtain ⟨places, hx⟩ := readsIdentsTemp os enc
  refine returnsInHanded_of_row (C := Tryd.checked) (s := OpenSpec.ofChange Rows.identsTempSpec) own started (by kernel_rfl) Tryd.func4
    (witness_row_at (enc := enc) (C := Tryd.checked) false (laidWorld os) #[Value.agg #[.int .u32 0, .int .u32 0], Value.agg #[.int .u32 0, .int .u32 0]] rfl (by kernel_rfl) (by kernel_rfl) (by kernel_rfl)
      (OpenSpec.preRow_of_cond 8 hx (by kernel_rfl) (fun k hk => by cases hk) (by kernel_rfl) (laid_metIdentsTemp os))) ?_
  intro W base args ds gs before hval hW _ _ _ hL _ _
  exact contractIdentsTemp H enc W base args ds gs before hval hW (ge_of_laid hL)
theorem saidIdentsTemp : Rows.IdentsTempSaid :=
  OpenClaim.holds_of_cond 4 Tryd.f4 rfl rfl rfl rfl rfl rfl rfl ⟨rfl, rfl, rfl, rfl, rfl⟩ rfl rfl rfl rfl rfl (by kernel_rfl) Tryd.func4 (by kernel_rfl)
    (of_decide_eq_true (by kernel_rfl)) (by unfold Func.isWrapper; first | (rw [if_pos (by decide +kernel)]; kernel_rfl) | (rw [if_neg (by decide +kernel)]; exact ⟨rfl, rfl⟩))
    (fun os started H enc _ F => by rw [OpenClaim.pre_eq_preRow]; exact liftedIdentsTemp os started H enc F)
theorem plainIdentsTemp (f : FuncId) (fn : Func) (hf : Tryd.pinned.checked.prog.funcNamed "sojourner/sojournerlaw15.IdentsTemp" = some f) (hfn : Tryd.pinned.checked.prog.funcs[f]? = some fn) :
    false = Tryd.pinned.checked.prog.looks [] ∧ ∀ (j : Nat) t, fn.params[j]? = some t → Tryd.pinned.checked.prog.wantsStandIn t = false := by
  obtain rfl : f = 4 := Option.some.inj ((show Tryd.prog.funcNamed "sojourner/sojournerlaw15.IdentsTemp" = some 4 by kernel_rfl).symm.trans hf) |>.symm
  obtain rfl : fn = Tryd.f4 := (Option.some.inj (Tryd.func4.symm.trans hfn)).symm
  refine ⟨by kernel_rfl, fun j t ht => ?_⟩
  rw [Tryd.params4] at ht
  have hm := Array.mem_of_getElem? ht
  have hall : ∀ t ∈ Tryd.f4.params, Tryd.prog.wantsStandIn t = false := Array.all_eq_true_iff_forall_mem.1 (show Tryd.f4.params.all (fun t => Tryd.prog.wantsStandIn t == false) = true by kernel_rfl) |> fun h t ht => by simpa using h t ht
  exact hall t (by rw [Tryd.params4]; exact hm)
theorem cardIdentsTemp : Rows.IdentsTempCardSaid :=
  Claim7.holds_tied_plain_at .later [] _ _ _ _ saidIdentsTemp (fun _ h => by cases h) (by kernel_rfl) (fun _ h => by cases h) identsTemp_row_tie rfl ⟨rfl, rfl⟩ (by kernel_rfl) rfl plainIdentsTemp (by kernel_rfl)
#print axioms saidIdentsTemp
end Go.Proofs.YtmdalmegogfanaaDoor
