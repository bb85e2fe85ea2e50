/- The cutter, by what it holds. -/
import Derived.Test.YtjnfdpakpdahkaaS9
namespace Go.Proofs.Ytjnfdpakpdahkaa
open Go.RowKit
set_option maxRecDepth 100000
theorem Rd.adv {w : World} {n c m : Nat} {A : Option Addr} {l : List UInt8} (h : Rd w n A l) (hc : l.length ≤ c) : Rd w n (Go.Proofs.Ytjnfdpakpdahkaa.adv A c m) (l.drop m) := fun h0 => by
  have hlt : m < l.length := by rw [List.length_drop] at h0; omega
  obtain ⟨b, o, rfl, hb, hcell⟩ := h (by omega)
  unfold Go.Proofs.Ytjnfdpakpdahkaa.adv
  rw [if_neg (by omega)]
  refine ⟨b, o + m, ?_, hb, fun j hj => ?_⟩
  · show some (Addr.add _ m) = _
    unfold Addr.add
    split
    · rename_i h; subst h; rfl
    · rfl
  · rw [List.length_drop] at hj
    have := hcell (m + j) (by omega)
    rw [show o + m + j = o + (m + j) by omega, this]
    simp
theorem Rd.take {w : World} {n m : Nat} {A : Option Addr} {l : List UInt8} (h : Rd w n A l) : Rd w n A (l.take m) := fun h0 => by
  obtain ⟨b, o, rfl, hb, hcell⟩ := h (by rw [List.length_take] at h0; omega)
  refine ⟨b, o, rfl, hb, fun j hj => ?_⟩
  rw [List.length_take] at hj
  rw [hcell j (by omega)]
  simp
structure Only (g : Nat) (w w' : World) : Prop where
  os : w'.os = w.os
  tape : w'.tape = w.tape
  output : w'.output = w.output
  size : w'.heap.size = w.heap.size
  old : ∀ k, k ≠ g → bk w' k = bk w k
theorem Chg.only {g : Nat} {o : Obj} {w w' : World} (h : Chg g o w w') : Only g w w' := ⟨h.os, h.tape, h.output, h.size, h.old⟩
theorem Only.below {g n : Nat} {w w' : World} (h : Only g w w') (hn : n ≤ g) : Below n w w' := ⟨h.os, h.tape, h.output, by rw [h.size]; exact Nat.le_refl _, fun k hk => h.old k (by omega)⟩
theorem Only.refl (g : Nat) (w : World) : Only g w w := ⟨rfl, rfl, rfl, rfl, fun _ _ => rfl⟩
theorem Only.trans {g : Nat} {a b c : World} (h : Only g a b) (k : Only g b c) : Only g a c := ⟨k.os.trans h.os, k.tape.trans h.tape, k.output.trans h.output, k.size.trans h.size, fun j hj => (k.old j hj).trans (h.old j hj)⟩
theorem Only.grown {g : Nat} {w w' : World} (h : Only g w w') : w.grownBy w' (some g) := ⟨h.os, h.tape, h.output, by rw [h.size]; exact Nat.le_refl _, fun k _ hk => h.old k (fun e => hk (by rw [e]))⟩
theorem ownsRow_only {w w' : World} {g base : Nat} {e : TypeId} {size : Nat} {v : Value} {n : Nat} {xs : List Value} (h : w.ownsRow base e size v n xs) (ho : Only g w w') (hg : g < base) : w'.ownsRow base e size v n xs :=
  h.kept ho.grown (by
    rcases hx : v.ownBlock with _ | k
    · exact .inl rfl
    · refine .inr fun e => ?_
      have := (h.lt k hx).1
      cases e
      omega)
theorem Rd.none_nil {w : World} {n : Nat} {l : List UInt8} (h : Rd w n none l) : l = [] := by
  rcases Nat.eq_zero_or_pos l.length with h0 | h0
  · exact List.eq_nil_of_length_eq_zero h0
  · obtain ⟨b, o, e, _⟩ := h h0
    cases e
theorem Only.size_eq {g : Nat} {w w' : World} (h : Only g w w') : w'.heap.size = w.heap.size := h.size
end Go.Proofs.Ytjnfdpakpdahkaa
