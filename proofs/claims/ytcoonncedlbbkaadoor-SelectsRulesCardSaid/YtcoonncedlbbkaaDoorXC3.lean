/- SelectsRules: of two that differ in one thing alone: the destination itself, one that is not deprecated, a temporary one, one with more of its bits is better. For every destination, candidate and bit; the table of known addresses starts as the program's text lays it. -/
import Derived.Test.YtcoonncedlbbkaaDoorXC0
import Derived.Test.YtcoonncedlbbkaaDoorX19
namespace Go.Proofs.YtcoonncedlbbkaaDoor
open Go.ChangeShapes Go.WideShapes Go.ChangeAt Go.RowKit Ad
theorem readSelectsRules : ∀ t ∈ Tryd.f5.params.toList, Tryd.prog.readableRec t = true ∧ t < Tryd.prog.types.size := fun t ht => by
  have h := List.all_eq_true.1 (show (Tryd.f5.params.toList.all fun t => Tryd.prog.readableRec t && decide (t < Tryd.prog.types.size)) = true by kernel_rfl) t ht
  simpa using h
theorem contractSelectsRules (H : Type) (enc : TypeId × Value → H) (W : World) (base : Nat) (args : Array Value) (ds gs : List (DataW H)) (before : List MemPlace)
    (hval : ∀ (j : Nat) t v, Tryd.f5.params[j]? = some t → args[j]? = some v → Value.okWide Tryd.prog W .any base t v)
    (hW : DataW.Whole enc Tryd.prog Tryd.f5.params.toList Rows.selectsRulesSpec.vars false W args.toList ds gs before) (hg : GK W) :
    Calls Tryd.prog 5 args W fun e W' => ∃ v, e = .returned v ∧ Rows.selectsRulesSpec.post enc Tryd.prog Tryd.f5 false true false false W args v W' := by
  have hW' := hW
  obtain ⟨p, q, hA0, hV, _, _, _⟩ := hW
  have hA : DataW.TrodAll enc Tryd.prog W 0 (fun _ => true) true Tryd.f5.params.toList args.toList ds p := hA0
  rw [Tryd.params5] at hA hval
  obtain ⟨v0, vs0, d0, ds0, p0, q0, hargs, rfl, rfl, h0, r0⟩ := trodAll_cons hA
  obtain ⟨v1, vs1, d1, ds1, p1, q1, rfl, rfl, rfl, h1, r1⟩ := trodAll_cons r0
  obtain ⟨v2, vs2, d2, ds2, p2, q2, rfl, rfl, rfl, h2, r2⟩ := trodAll_cons r1
  obtain ⟨rfl, rfl, rfl⟩ := trodAll_nil r2
  obtain rfl : args = #[v0, v1, v2] := by cases args; simp_all
  obtain ⟨dst, hd, rfl⟩ := open_bytes Tryd.underlying23 Tryd.underlying5 (by kernel_rfl) (by kernel_rfl) (hval 0 23 v0 rfl rfl) h0
  obtain ⟨c, rfl⟩ := open_candidate (hval 1 33 v1 rfl rfl) h1
  obtain ⟨bit, rfl⟩ := open_u8 Tryd.underlying5 (hval 2 5 v2 rfl rfl) h2
  exact law_calls hW' rfl rfl rfl rfl rfl Tryd.underlying4 laidOut readSelectsRules (selectsRules_walk dst hd c bit W hg)
theorem laid_metSelectsRules (os : Os) : laidMet Tryd.prog Rows.selectsRulesRow.laid ((laidWorld os).forCall (fun _ _ => 0) ⟨#[], #[Value.agg #[Value.int IntKind.u8 0, Value.int IntKind.u8 0, Value.int IntKind.u8 0, Value.int IntKind.u8 0, Value.int IntKind.u8 0, Value.int IntKind.u8 0, Value.int IntKind.u8 0, Value.int IntKind.u8 0, Value.int IntKind.u8 0, Value.int IntKind.u8 0, Value.int IntKind.u8 0, Value.int IntKind.u8 0, Value.int IntKind.u8 0, Value.int IntKind.u8 0, Value.int IntKind.u8 0, Value.int IntKind.u8 0], Value.agg (List.replicate 16 (Value.int .u8 0) ++ [Value.bool false, Value.bool false]).toArray, Value.int .u8 0], []⟩).memory :=
  laidMet_of_run' 8 (by kernel_rfl) (by kernel_rfl)
theorem readsSelectsRules (os : Os) {H : Type} (enc : TypeId × Value → H) : ∃ places, DataW.whole enc Tryd.prog ((laidWorld os).forCall (fun _ _ => 0) ⟨#[], #[Value.agg #[Value.int IntKind.u8 0, Value.int IntKind.u8 0, Value.int IntKind.u8 0, Value.int IntKind.u8 0, Value.int IntKind.u8 0, Value.int IntKind.u8 0, Value.int IntKind.u8 0, Value.int IntKind.u8 0, Value.int IntKind.u8 0, Value.int IntKind.u8 0, Value.int IntKind.u8 0, Value.int IntKind.u8 0, Value.int IntKind.u8 0, Value.int IntKind.u8 0, Value.int IntKind.u8 0, Value.int IntKind.u8 0], Value.agg (List.replicate 16 (Value.int .u8 0) ++ [Value.bool false, Value.bool false]).toArray, Value.int .u8 0], []⟩).memory Tryd.f5.params.toList Rows.selectsRulesSpec.vars false (#[Value.agg #[Value.int IntKind.u8 0, Value.int IntKind.u8 0, Value.int IntKind.u8 0, Value.int IntKind.u8 0, Value.int IntKind.u8 0, Value.int IntKind.u8 0, Value.int IntKind.u8 0, Value.int IntKind.u8 0, Value.int IntKind.u8 0, Value.int IntKind.u8 0, Value.int IntKind.u8 0, Value.int IntKind.u8 0, Value.int IntKind.u8 0, Value.int IntKind.u8 0, Value.int IntKind.u8 0, Value.int IntKind.u8 0], Value.agg (List.replicate 16 (Value.int .u8 0) ++ [Value.bool false, Value.bool false]).toArray, Value.int .u8 0]).toList 8 = some ([rowD [0, 0, 0, 0, 0, 0, 0, 0, 0, 0, 0, 0, 0, 0, 0, 0], .agg [rowD [0, 0, 0, 0, 0, 0, 0, 0, 0, 0, 0, 0, 0, 0, 0, 0], .lit (.bool false), .lit (.bool false)], .lit (.int .u8 0)], [], places) :=
  ⟨[], by kernel_rfl⟩
set_option maxRecDepth 100000 in
theorem liftedSelectsRules (os : Os) (started : os.Started) (H : Type) (enc : TypeId × Value → H) (F : Stop.Interp) :
    ReturnsInHanded {} Tryd.checked os 5 .any ((OpenSpec.ofChange Rows.selectsRulesSpec).preRow enc Tryd.prog Tryd.f5 Rows.selectsRulesRow.domain false Rows.selectsRulesRow.laid) (((OpenSpec.ofChange Rows.selectsRulesSpec).at F).post enc Tryd.prog Tryd.f5 false true false false) := by
  obtain ⟨places, hx⟩ := readsSelectsRules os enc
  refine returnsInHanded_of_row (C := Tryd.checked) (s := OpenSpec.ofChange Rows.selectsRulesSpec) own started (by kernel_rfl) Tryd.func5
    (witness_row_at (enc := enc) (C := Tryd.checked) false (laidWorld os) #[Value.agg #[Value.int IntKind.u8 0, Value.int IntKind.u8 0, Value.int IntKind.u8 0, Value.int IntKind.u8 0, Value.int IntKind.u8 0, Value.int IntKind.u8 0, Value.int IntKind.u8 0, Value.int IntKind.u8 0, Value.int IntKind.u8 0, Value.int IntKind.u8 0, Value.int IntKind.u8 0, Value.int IntKind.u8 0, Value.int IntKind.u8 0, Value.int IntKind.u8 0, Value.int IntKind.u8 0, Value.int IntKind.u8 0], Value.agg (List.replicate 16 (Value.int .u8 0) ++ [Value.bool false, Value.bool false]).toArray, Value.int .u8 0] rfl (by kernel_rfl) (by kernel_rfl) (by kernel_rfl)
      (OpenSpec.preRow_of_cond 8 hx (by kernel_rfl) (fun k hk => by cases hk) (by kernel_rfl) (laid_metSelectsRules os))) ?_
  intro W base args ds gs before hval hW _ _ _ hL _ _
  exact contractSelectsRules H enc W base args ds gs before hval hW (known_of_laid hL)
theorem saidSelectsRules : Rows.SelectsRulesSaid :=
  OpenClaim.holds_of_cond 5 Tryd.f5 rfl rfl rfl rfl rfl rfl rfl ⟨rfl, rfl, rfl, rfl, rfl⟩ rfl rfl rfl rfl rfl (by kernel_rfl) Tryd.func5 (by kernel_rfl)
    (of_decide_eq_true (by kernel_rfl)) (by unfold Func.isWrapper; first | (rw [if_pos (by decide +kernel)]; kernel_rfl) | (rw [if_neg (by decide +kernel)]; exact ⟨rfl, rfl⟩))
    (fun os started H enc _ F => by rw [OpenClaim.pre_eq_preRow]; exact liftedSelectsRules os started H enc F)
theorem plainSelectsRules (f : FuncId) (fn : Func) (hf : Tryd.pinned.checked.prog.funcNamed "sojourner/sojournerlaw23.SelectsRules" = some f) (hfn : Tryd.pinned.checked.prog.funcs[f]? = some fn) :
    false = Tryd.pinned.checked.prog.looks [] ∧ ∀ (j : Nat) t, fn.params[j]? = some t → Tryd.pinned.checked.prog.wantsStandIn t = false := by
  obtain rfl : f = 5 := Option.some.inj ((show Tryd.prog.funcNamed "sojourner/sojournerlaw23.SelectsRules" = some 5 by kernel_rfl).symm.trans hf) |>.symm
  obtain rfl : fn = Tryd.f5 := (Option.some.inj (Tryd.func5.symm.trans hfn)).symm
  refine ⟨by kernel_rfl, fun j t ht => ?_⟩
  rw [Tryd.params5] at ht
  have hm := Array.mem_of_getElem? ht
  have hall : ∀ t ∈ Tryd.f5.params, Tryd.prog.wantsStandIn t = false := Array.all_eq_true_iff_forall_mem.1 (show Tryd.f5.params.all (fun t => Tryd.prog.wantsStandIn t == false) = true by kernel_rfl) |> fun h t ht => by simpa using h t ht
  exact hall t (by rw [Tryd.params5]; exact hm)
theorem cardSelectsRules : Rows.SelectsRulesCardSaid :=
  Claim7.holds_tied_plain_at .later [] _ _ _ _ saidSelectsRules (fun _ h => by cases h) (by kernel_rfl) (fun _ h => by cases h) selectsRules_row_tie rfl ⟨rfl, rfl⟩ (by kernel_rfl) rfl plainSelectsRules (by kernel_rfl)
#print axioms cardSelectsRules
end Go.Proofs.YtcoonncedlbbkaaDoor
