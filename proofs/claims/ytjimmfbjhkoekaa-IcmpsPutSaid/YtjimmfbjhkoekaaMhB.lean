import Derived.Test.YtjimmfbjhkoekaaMgA
/-
  A row stored into a part of a block, or over all of it. Over any program.
-/
namespace Go.Proofs.Ytjimmfbjhkoekaa
open Go.RowKit
theorem run_storeVar_spl {P : Program} (w : World) (b o : Nat) (t ty : TypeId) (c0 c : Array Value) (hb : bk w b = some (.cells c0 t (0, 0))) (hi : (P.info? ty).map (·.size) = some c.size) (hfit : o + c.size ≤ c0.size) (h1 : ones c.toList = true) :
    (storeVar ty ⟨b, o, none⟩ (.agg c)).run P w = .ok () (w.setRow b (spl c0.toList o c.toList)) := by
  have hst := run_storeCells_at P b o t c.toList 0 c0 w hb (by simpa using hfit) (ones_mem h1)
  cases hq : P.info? ty with
  | none => simp [hq] at hi
  | some i =>
    have hs : c.size = i.size := by simp [hq] at hi; omega
    simp only [Nat.add_zero] at hst
    simp [storeVar, sizeOf, typeInfo, hq, Value.cells, hs, hst, spl]
def stAny (X : Prop) (n : Nat) (w : World) (b o : Nat) (c : Array Value) (K : World → Prop) : Option Obj → Prop
  | some (.cells c0 _ (0, 0)) => if o = 0 ∧ c0.size = n ∧ c.size = n ∧ ones c.toList = true then K (w.setRow b c) else if o + n ≤ c0.size ∧ c.size = n ∧ ones c.toList = true then K (w.setRow b (spl c0.toList o c.toList)) else X
  | _ => X
def stAt (X : Prop) (n : Nat) (w : World) (K : World → Prop) : Value → Value → Prop
  | .pointer (some ⟨b, o, none⟩), .agg c => stAny X n w b o c K (bk w b)
  | _, _ => X
@[go_sem] theorem stAt_ptr (X : Prop) (n : Nat) (w : World) (K : World → Prop) (b o : Nat) (c : Array Value) : stAt X n w K (.pointer (some ⟨b, o, none⟩)) (.agg c) = stAny X n w b o c K (bk w b) := rfl
@[go_sem] theorem stAny_row (X : Prop) (n : Nat) (w : World) (b : Nat) (K : World → Prop) (c c0 : Array Value) (t : TypeId) (h0 : c0.size = n) (h : c.size = n) (h1 : ones c.toList = true) :
    stAny X n w b 0 c K (some (.cells c0 t (0, 0))) = K (w.setRow b c) := by unfold stAny; simp only []; rw [if_pos ⟨trivial, h0, h, h1⟩]
@[go_sem] theorem stAny_part (X : Prop) (n : Nat) (w : World) (b o : Nat) (K : World → Prop) (c c0 : Array Value) (t : TypeId) (h0 : n < c0.size) (h2 : o + n ≤ c0.size) (h : c.size = n) (h1 : ones c.toList = true) :
    stAny X n w b o c K (some (.cells c0 t (0, 0))) = K (w.setRow b (spl c0.toList o c.toList)) := by unfold stAny; simp only []; rw [if_neg (by omega), if_pos ⟨h2, h, h1⟩]
theorem wp_store_any {P : Program} (ty : TypeId) (n : Nat) (hi : (P.info? ty).map (·.size) = some n)
    (dst : Option Tmp) (x y : Operand) (t : TypeId) (pos : String) (af : Array Edge) (g : Option (Nat × Bool)) (a : Act) (w : World) (K : Act → World → Prop) (Q : Exit → Act → World → Prop) :
    Oper.wp P ⟨dst, .store ty x y, t, pos, af, g⟩ a w K Q = stAt (wpHid P ⟨dst, .store ty x y, t, pos, af, g⟩ a w K Q) n w (fun w' => K (a.put dst undef) w') (a.eval x) (a.eval y) := by
  unfold stAt
  split
  · rename_i b o c he hv
    unfold stAny
    split
    · rename_i c0 t' hb
      split
      · rename_i hle
        obtain ⟨rfl, h0, h1, h2⟩ := hle
        have hrun := run_storeVar_row (P := P) w b t' ty c0 c hb (by rw [hi, h1]) (by omega) (Array.all_eq_true_iff_forall_mem.2 (fun v hv => ones_mem h2 v (by simpa using hv)))
        unfold Oper.wp execOp
        simp only [he, hv, Instr.storeAt, Instr.sureAddr, Sem.run_bind, Sem.run_pure, Result.andThen_ok, hrun]
        rfl
      · split
        · rename_i hle
          obtain ⟨h0, h1, h2⟩ := hle
          have hrun := run_storeVar_spl (P := P) w b o t' ty c0 c hb (by rw [hi, h1]) (by omega) h2
          unfold Oper.wp execOp
          simp only [he, hv, Instr.storeAt, Instr.sureAddr, Sem.run_bind, Sem.run_pure, Result.andThen_ok, hrun]
          rfl
        · unfold wpHid; rfl
    · unfold wpHid; rfl
  · unfold wpHid; rfl
end Go.Proofs.Ytjimmfbjhkoekaa
