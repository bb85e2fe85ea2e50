/-
  A region that draws its order in a round of a range over a function, inside the wide fence: what is shown of it outside holds there. Over any program.
-/
import Derived.Test.YtfldoihindbdmaaW3
import Derived.OrdersIn
import Derived.TacticsIn
import Derived.RangeFuncCalls
namespace Go.Proofs.Ytfldoihindbdmaa
open Go Go.RowKit
section
variable {l n : Nat} {P : Program} {ops : Array Oper} {md : Region.Mode} {Q : Exit → Act → World → Prop}
theorem stepsIn_round {a b : Machine} (h : Steps P a b) : StepsIn (Machine.fenced P (Fence.wide.inRound l)) P a b := by
  rw [fenced_inRound]
  exact stepsIn_wide.2 h
theorem wpOpIn_of_wpOp {i : Nat} {a : Act} {w : World} {K K' : Act → World → Prop} (hnd : ∀ (i : Nat) (o : Oper), ops[i]? = some o → ∀ c, o.op ≠ .defer c) (hQ : ¬ LetsOut Q) (hK : ∀ a w, K a w → K' a w) (h : wpOp P ops Q i K a w) :
    wpOpIn (Fence.wide.inRound l) n P ops Q i K' a w := by
  unfold wpOp at h
  unfold wpOpIn
  split
  · rename_i ho; simp only [ho] at h; exact hK _ _ h
  · rename_i o ho
    simp only [ho] at h
    split
    · rename_i hw
      simp only [hw, if_true] at h
      rcases h with h | ⟨_, h⟩
      · refine ⟨fun _ _ => trivial, ?_⟩
        rw [show (Fence.wide.inRound l).round = some l from rfl, Oper.semAt_some l _ _ (hnd i o ho)]
        unfold Oper.wp at h
        generalize (execOp a.eval o).run P w = r at *
        cases r with
        | ok x w' =>
          cases x <;> simp only [Oper.upon] at h <;> simp only [Oper.uponIn]
          case enter f args => exact ⟨fun h => (by simp [Fence.wide, Fence.inRound] at h), CallsIn.inRound l ((callsIn_wide.2 h).mono fun e w'' he => by cases e <;> first | exact hK _ _ he | exact he)⟩
          case row row args => exact ⟨fun h => (by simp [Fence.wide, Fence.inRound] at h), fun c cs _ => by
            obtain ⟨v, w'', h1, h2⟩ := h c cs
            exact ⟨v, w'', hK _ _ h1, stepsIn_round h2⟩⟩
          all_goals exact hK _ _ h
        | halt x w' => cases x <;> simp only [Oper.upon] at h <;> simp only [Oper.uponIn] <;> exact h
      · exact absurd h hQ
    · rename_i hw; simp only [hw] at h; exact ⟨fun _ _ => trivial, hK _ _ h⟩
theorem wpAnyIn_of_wpAny (hnd : ∀ (i : Nat) (o : Oper), ops[i]? = some o → ∀ c, o.op ≠ .defer c) (hQ : ¬ LetsOut Q) :
    ∀ (f : Nat) (listed : Array Bool) (a : Act) (w : World), wpAny P md ops Q f listed a w → wpAnyIn (Fence.wide.inRound l) n P md ops Q f listed a w
  | 0, _, _, _, h => h
  | f + 1, _, _, _, h => ⟨h.1, fun i hi => wpOpIn_of_wpOp hnd hQ (wpAnyIn_of_wpAny hnd hQ f _) (h.2 i hi)⟩
end
theorem wpIn_region_round {P : Program} {l n id : Nat} {Q : Exit → Act → World → Prop} {a : Act} {w : World} {L : List Oper} (m k : Nat) (es : List (Ent m)) (U : Nat → List Nat) (fs : Fs) (hnd : ∀ (i : Nat) (o : Oper), L.toArray[i]? = some o → ∀ c, o.op ≠ .defer c) (hQ : ¬ LetsOut Q) (hmw : m ≤ w.heap.size) (hm : P.follows .mixedOrders = true)
    (hB : Region.lexTailB .any L.toArray k = true) (hU : (EnvW.mk P .any L.toArray m w (fun _ => none) (entX es) (entD es) (entO es) U).okU = true) (hX : (EnvW.mk P .any L.toArray m w (fun _ => none) (entX es) (entD es) (entO es) U).okX = true)
    (hI : (EnvW.mk P .any L.toArray m w (entN es) (entX es) (entD es) (entO es) U).Ini fs)
    (h : (EnvW.mk P .any L.toArray m w (entN es) (entX es) (entD es) (entO es) U).walk (fun fs a' => ∀ w', Below m w w' → (∀ j, (EnvW.mk P .any L.toArray m w (fun _ => none) (entX es) (entD es) (entO es) U).fin j = true → fs j w') → wpList P L.toArray Q (L.drop k) a' w') 0 (L.take k) fs a) : (Code.region id L.toArray true).wpIn (Fence.wide.inRound l) n P Q a w := by
  simp only [Region.lexTailB, Bool.and_eq_true, decide_eq_true_eq] at hB
  obtain ⟨⟨⟨⟨hsel, hn⟩, hs⟩, hc⟩, hlex⟩ := hB
  have htl : (L.take k).length = k := by have : k < L.length := by simpa using hn
                                         simp; omega
  have hn' : k < L.length := by simpa using hn
  have hdl : (L.drop k).length = L.toArray.size - k := by simp
  have H := EnvW.head_lex (E := ⟨P, .any, L.toArray, m, w, entN es, entX es, entD es, entO es, U⟩) (n := k) (g := L.toArray.size - k) hU hX hsel (fun listed inv i hin hun j hj => by
      rcases Nat.lt_or_ge j k with h | h
      · exact h
      · exact absurd hj (tail_waits hs hc hn inv _ i rfl hin hun j h)) (L.take k) 0 _ fs a (fun j hj => by
    have hj' : j < k := by rw [htl] at hj; exact hj
    simp [hj']) (by simpa using htl) (inv0 _) (by rw [htl]; exact hlex) h
  refine wpIn_region_any hm (wpAnyIn_of_wpAny hnd hQ _ _ _ _ ?_)
  have hd : Kept m [] w w.drew := Kept.of_below (Below.refl _ _).drew hmw
  have := EnvW.head_any (E := ⟨P, .any, L.toArray, m, w, entN es, entX es, entD es, entO es, U⟩) (Q' := Q) (g := L.toArray.size - k) (ent_told es U) hU hmw (fun listed fs a' w' inv hw' hf hL => by
    have := wpAny_of_seq (md := .any) (Q' := Q) (L.drop k) k listed a' w' (fun j => by simp [List.getElem?_drop]) (by rw [hdl]; exact hL.1) (hL.2 w' hw' fun j hj => hf j (EnvW.fin_alive inv.size hj))
    rwa [hdl] at this) _ _ fs _ { w with drawn := w.drawn + 1 } (inv0 _) hI.mono (fun j hj _ w => hI.free j hj w) (Below.refl _ _).drew (fun j _ => hI.mono j [] w w.drew (fun t ht => by cases ht) hd (hI.now j)) H
  rw [htl, show k + (L.toArray.size - k) = L.toArray.size by omega] at this
  exact this
end Go.Proofs.Ytfldoihindbdmaa
