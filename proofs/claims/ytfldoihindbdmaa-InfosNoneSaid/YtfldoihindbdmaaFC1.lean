/- InfosNone: a client that is not there, or that no call made, does nothing. For any act. -/
import Derived.Test.YtfldoihindbdmaaF13
import Derived.Test.YtfldoihindbdmaaL9
import Derived.Test.YtfldoihindbdmaaRows
namespace Go.Proofs.Ytfldoihindbdmaa
open Go.ChangeShapes Go.WideShapes Go.ChangeAt Go.RowKit Go.Deep
set_option maxRecDepth 100000
theorem open_act {H : Type} {enc : TypeId × Value → H} {w : World} {base b0 : Nat} {r : Go.Reach} {held : Bool} {v : Value} {d : DataW H} {ps : List MemPlace}
    (hval : Value.okWide Try.prog w r b0 25 v) (hd : DataW.Trod enc Try.prog w base (fun _ => true) held 25 v d ps) :
    ∃ (k : UInt8) (A : Option Addr) (n c : Nat) (m : Bool) (lt : Nat), v = .agg #[B k, .slice A n c, .bool m, .int .u32 (lt : Int)] := by
  obtain ⟨m, cs, rfl, p0, q0, y0, rfl, h0, p1, q1, y1, rfl, h1, p2, q2, y2, rfl, h2, p3, q3, y3, rfl, h3, rfl⟩ := open_parts Try.underlying25 (by kernel_rfl) hval hd
  obtain ⟨k, rfl⟩ := part_u8 Try.underlying5 h0
  obtain ⟨A, l, c, rfl, _⟩ := open_bsl_in Try.underlying22 Try.underlying5 (by kernel_rfl) h1
  obtain ⟨mn, rfl, _⟩ := DataW.trod_bool Try.underlying4 h2
  obtain ⟨lt, rfl, _⟩ := part_u32 Try.underlying23 h3
  exact ⟨k, A, l.length, c, mn, lt, rfl⟩
theorem ownInfosNone : ownKnob Try.prog.godebug = none := by kernel_rfl
theorem laidOutInfosNone : laidOutB Try.prog = true := by kernel_rfl
theorem readInfosNone : ∀ t ∈ Try.f3.params.toList, Try.prog.readableRec t = true ∧ t < Try.prog.types.size := fun t ht => by
  have h := List.all_eq_true.1 (show (Try.f3.params.toList.all fun t => Try.prog.readableRec t && decide (t < Try.prog.types.size)) = true by kernel_rfl) t ht
  simpa using h
theorem contractInfosNone (H : Type) (enc : TypeId × Value → H) (W : World) (base : Nat) (args : Array Value) (ds gs : List (DataW H)) (before : List MemPlace)
    (hval : ∀ (j : Nat) t v, Try.f3.params[j]? = some t → args[j]? = some v → Value.okWide Try.prog W .any base t v)
    (hW : DataW.Whole enc Try.prog Try.f3.params.toList Rows.infosNoneSpec.vars false W args.toList ds gs before) :
    Calls Try.prog 3 args W fun e W' => ∃ v, e = .returned v ∧ Rows.infosNoneSpec.post enc Try.prog Try.f3 false true false false W args v W' := by
  have hW' := hW
  obtain ⟨p, q, hA0, hV, _, _, _⟩ := hW
  have hA : DataW.TrodAll enc Try.prog W 0 (fun _ => true) true Try.f3.params.toList args.toList ds p := hA0
  rw [Try.params3] at hA hval
  obtain ⟨v0, vs0, d0, ds0, p0, q0, hargs, rfl, rfl, h0, r0⟩ := trodAll_cons hA
  obtain ⟨rfl, rfl, rfl⟩ := trodAll_nil r0
  obtain rfl : args = #[v0] := by cases args; simp_all
  obtain ⟨k, A, n, c, m, lt, rfl⟩ := open_act (hval 0 25 v0 rfl rfl) h0
  exact law_calls hW' rfl rfl rfl rfl rfl Try.underlying4 laidOutInfosNone readInfosNone (infosNone_walk k A n c m lt W)
set_option maxRecDepth 100000 in
theorem liftedInfosNone (os : Os) (started : os.Started) (H : Type) (enc : TypeId × Value → H) :
    ReturnsInHanded {} Try.checked os 3 .any (Rows.infosNoneSpec.pre6 enc Try.prog Try.f3 Rows.infosNoneRow.domain false) (Rows.infosNoneSpec.post enc Try.prog Try.f3 false true false false) := by
  refine returnsInHanded_of_change (C := Try.checked) ownInfosNone started (by kernel_rfl) Try.func3
    (ChangeSpec.witness6 (enc := enc) (C := Try.checked) false ⟨#[], #[.agg #[B 0, .slice none 0 0, .bool false, .int .u32 0]], []⟩ 8 (by kernel_rfl) (by kernel_rfl) (by kernel_rfl) (by kernel_rfl)) ?_
  intro W base args ds gs before hval hW _ _
  exact contractInfosNone H enc W base args ds gs before hval hW
theorem saidInfosNone : Rows.InfosNoneSaid :=
  OpenClaim.holds_of_wide 3 Try.f3 rfl rfl rfl rfl rfl rfl rfl ⟨rfl, rfl, rfl, rfl, rfl⟩ rfl rfl rfl rfl rfl (by kernel_rfl) Try.func3 (by kernel_rfl)
    (of_decide_eq_true (by kernel_rfl)) (by unfold Func.isWrapper; first | (rw [if_pos (by decide +kernel)]; kernel_rfl) | (rw [if_neg (by decide +kernel)]; exact ⟨rfl, rfl⟩))
    (fun os started H enc _ => liftedInfosNone os started H enc)
#print axioms saidInfosNone
end Go.Proofs.Ytfldoihindbdmaa
