/- A range over an iterator that writes a box of its own between two rounds. -/
import Derived.RangeFuncFrom
import Derived.Deep.Draws
namespace Go.Proofs.Ytojddfbbeiobpaa
open Go Go.RowKit
/-- What this law lays: the rounds' deferred calls at w.heap.size, the loop's record behind it. -/
structure Laid (w : World) (r : Loop) (W : World) : Prop where
  rec' : W.heap[w.heap.size + 1]? = some (.loop r)
  def' : W.heap[w.heap.size]? = some (.deferred (some []))
theorem Laid.others {w W W' : World} {r : Loop} (h : Laid w r W) (k : KeepsOthers W W') : Laid w r W' := ⟨k.same _ _ h.rec' rfl, k.same _ _ h.def' rfl⟩
theorem Laid.put {w W : World} {r : Loop} (h : Laid w r W) (r' : Loop) : Laid w r' (W.putObj (w.heap.size + 1) (.loop r')) :=
  ⟨World.putObj_heap_same (Array.getElem?_eq_some_iff.1 h.rec').1, (World.putObj_heap_other (by omega)).trans h.def'⟩
/-- The iterator's side: J may be carried over whatever is stored at p. -/
def SeqAt {α : Type} (F : Fence) (n : Nat) (P : Program) (g : Nat) (lb : Array Value) (row : α → Array Value) (Kp : World → World → Prop) (S Sp : List α → Prop) (Ok : List α → α → Prop) (p : Addr) (w : World) : Prop :=
  ∀ (l : Nat) (J Jx : List α → World → Prop) (W : World), Below w.heap.size w W → (∀ s A v, J s A → J s (A.setCell p v)) → (∀ s A k, J s A → J s (A.drewN k)) →
    (∀ pre x A, J pre A → Ok pre x → YieldAt F (n - 1) P l (row x) A fun e C => (e = .returned (.bool true) ∧ J (pre ++ [x]) C ∧ Kp A C) ∨ (e = .returned (.bool false) ∧ Jx (pre ++ [x]) C)) →
    J [] W → CallsIn F n P g (#[.func (.yield l) #[] #[]] ++ lb) W fun e C => (∃ v, e = .returned v) ∧ ((∃ xs, S xs ∧ J xs C) ∨ (∃ pre, Sp pre ∧ Jx pre C))
theorem wp_rangeAt {F : Fence} {n : Nat} {P : Program} {α : Type} {g : Operand} {ps : Array Tmp} {assign body : Code} {Q : Exit → Act → World → Prop} {a : Act} {w : World}
    (hro : F.round = none) (h1 : 1 ≤ n) {gf : Nat} {lb : Array Value} (hg : a.eval g = .func (.func gf) #[] lb) (hFg : F.fn gf) (eg : ∀ args w, (callFunc gf args).run P w = .ok (.enter gf args) w)
    {row : α → Array Value} {Kp : World → World → Prop} {S Sp : List α → Prop} {Ok : List α → α → Prop} {p : Addr} (hseq : SeqAt F (n - 1) P gf lb row Kp S Sp Ok p w)
    (hKt : ∀ {A B C : World}, Kp A B → Kp B C → Kp A C) (hKb : ∀ (W : World) (l : Nat) (o o' : Obj), w.heap.size ≤ l → W.heap[l]? = some o → o.isCells = false → Kp W (W.putObj l o')) (hps : ∀ x, (row x).size = ps.size)
    (I : List α → World → Prop) (X : Code → List α → World → Prop) (hI : OwnFrom w.heap.size I) (hX : ∀ c, OwnFrom w.heap.size (X c)) (hIp : ∀ s A v, I s A → I s (A.setCell p v)) (h0 : I [] w)
    (Ax : List α → α → Act → World → Prop) (hA : ∀ pre x b, OwnFrom w.heap.size (fun (_ : Unit) W => Ax pre x b W))
    (hassign : ∀ (l : Nat) (pre : List α) (x : α) (W : World), I pre W → Ok pre x →
      assign.wpIn (F.inRound l) (n - 1 - 1) P (Exit.then (fun b C => KeepsOthers W C ∧ Kp W C ∧ Ax pre x b C) (fun _ _ _ => False)) { tmps := (ps.zip (row x)).foldl (fun t (p, v) => t.setIfInBounds p v) a.tmps, defers := [] } W)
    (hbody : ∀ (l : Nat) (pre : List α) (x : α) (b : Act) (W : World), Ax pre x b W → body.wpIn (F.inRound l) (n - 1 - 1) P (ownPostK Kp I X (pre ++ [x]) W) b W)
    (hdone : ∀ (D : Nat) (xs : List α) (W : World), w.heap.size ≤ D → S xs → I xs W → W.heap[D]? = some (.deferred (some [])) → Q .normal { a with defers := { target := .collected D, args := #[] } :: a.defers } W)
    (hstop : ∀ (D : Nat) (c : Code) (pre : List α) (W : World), w.heap.size ≤ D → Sp pre → X c pre W → W.heap[D]? = some (.deferred (some [])) → c.wpIn F n P Q { a with defers := { target := .collected D, args := #[] } :: a.defers } W) :
    (Code.rangeFunc g ps assign body).wpIn F n P Q a w := by
  refine wpIn_rangeFunc fun fn hfn => ?_
  rw [hro]
  obtain ⟨R, hR⟩ : ∃ R : LoopState → Option Code → Loop, R = fun st pe => { state := st, pending := pe, fn, tmps := a.tmps, params := ps, assign, body, defers := w.heap.size } := ⟨_, rfl⟩
  obtain ⟨V, hV⟩ : ∃ V, (w.alloc (.deferred (some []))).alloc (.loop (R .ready none)) = V := ⟨_, rfl⟩
  have LV : Laid w (R .ready none) V := by
    subst hV
    exact ⟨by have := World.alloc_heap_new (w.alloc (.deferred (some []))) (.loop (R .ready none)); rwa [World.size_alloc] at this, (Below.heap_alloc _ _ _ (by simp)).trans (World.alloc_heap_new w _)⟩
  have IV : I [] V := by subst hV; exact hI.alloc _ (hI.alloc _ h0)
  have BV : Below w.heap.size w V := by subst hV; exact ((Below.refl _ w).alloc (Nat.le_refl _) _).alloc (by simp) _
  refine ⟨w.heap.size + 1, [{ target := .collected w.heap.size, args := #[] }], V, { target := .fn (.func gf) lb, args := #[.func (.yield (w.heap.size + 1)) #[] #[]] }, V, gf,
    #[.func (.yield (w.heap.size + 1)) #[] #[]] ++ lb, V, ?_, ?_, ?_, ?_, fun _ => h1, ?_⟩
  · subst hV hR; exact run_enterLoop_outer _ _ _ _ _
  · simp only [resolve, hg]
    simp [go_sem]
  · intro f' hf'; simp [Target.leads] at hf'; subst hf'; exact hFg
  · simp [invoke, go_sem, eg]
  refine (hseq (w.heap.size + 1) (fun pre W => I pre W ∧ Laid w (R .ready none) W) (fun pre W => ∃ c, X c pre W ∧ Laid w (R .done (some c)) W) V BV
    (fun s A v h => ⟨hIp s A v h.1, h.2.others (KeepsOthers.setCell _ _ _)⟩) (fun s A k h => ⟨hI s A _ none h.1 ⟨rfl, rfl, rfl, Nat.le_refl _, fun _ _ _ => rfl⟩ (fun _ e => by cases e), h.2.others ⟨Nat.le_refl _, fun _ _ h _ => h⟩⟩) ?_ ⟨IV, LV⟩).mono ?_
  · rintro pre x A ⟨hi, hl⟩ hok
    have hy := run_yield (P := P) (args := row x) hl.rec' (by rw [hR]; exact hps x)
    rw [hR] at hy
    refine ⟨fn, _, assign, body, hy, roundIn_of_wpIn hfn (wpIn_mono (hassign (w.heap.size + 1) pre x A hi hok) ?_)⟩
    intro e b C hp
    cases e with
    | normal =>
      obtain ⟨ko, kp, ax⟩ := hp
      have lc := hl.others ko
      refine ⟨_, run_beginRound lc.rec' (by rw [hR]), ?_⟩
      have lb' := lc.put { R .ready none with state := .busy }
      have kb : Kp C (C.putObj (w.heap.size + 1) (.loop { R .ready none with state := .busy })) := hKb _ _ _ _ (by omega) lc.rec' rfl
      refine wpIn_mono (hbody (w.heap.size + 1) pre x b _ ((hA pre x b).putObj (s := ()) _ ax (by omega) lc.rec' rfl)) ?_
      have leave : ∀ (c : Option Code) (W3 : World), KeepsOthers (C.putObj (w.heap.size + 1) (.loop { R .ready none with state := .busy })) W3 →
          W3.heap[w.heap.size + 1]? = some (.loop { R .ready none with state := .busy }) ∧ (Instr.endRound (w.heap.size + 1) c).run P W3 = .ok (.bool c.isNone) (W3.putObj (w.heap.size + 1) (.loop (R (if c.isNone then .ready else .done) c))) ∧
            Laid w (R (if c.isNone then .ready else .done) c) (W3.putObj (w.heap.size + 1) (.loop (R (if c.isNone then .ready else .done) c))) := fun c W3 k3 => by
        have l3 := lb'.others k3
        have hr := run_endRound (P := P) c l3.rec'
        refine ⟨l3.rec', ?_, l3.put _⟩
        rw [hR] at hr ⊢
        exact hr
      intro e3 a3 W3 hp3
      cases e3 with
      | normal =>
        obtain ⟨k3, p3, i3⟩ := hp3
        obtain ⟨hr3, he3, hl3⟩ := leave none W3 k3
        exact ⟨_, _, he3, .inl ⟨rfl, ⟨hI.putObj _ i3 (by omega) hr3 rfl, hl3⟩, hKt (hKt (hKt kp kb) p3) (hKb _ _ _ _ (by omega) hr3 rfl)⟩⟩
      | ret =>
        obtain ⟨k3, i3⟩ := hp3
        obtain ⟨hr3, he3, hl3⟩ := leave (some .ret) W3 k3
        exact ⟨_, _, he3, .inr ⟨rfl, _, (hX _).putObj _ i3 (by omega) hr3 rfl, hl3⟩⟩
      | exit id =>
        obtain ⟨k3, i3⟩ := hp3
        obtain ⟨hr3, he3, hl3⟩ := leave (some (.exit id)) W3 k3
        exact ⟨_, _, he3, .inr ⟨rfl, _, (hX _).putObj _ i3 (by omega) hr3 rfl, hl3⟩⟩
      | goto t =>
        obtain ⟨k3, i3⟩ := hp3
        obtain ⟨hr3, he3, hl3⟩ := leave (some (.goto t)) W3 k3
        exact ⟨_, _, he3, .inr ⟨rfl, _, (hX _).putObj _ i3 (by omega) hr3 rfl, hl3⟩⟩
      | panic ch => exact hp3.elim
      | outgrown => exact hp3.elim
    | _ => exact hp.elim
  · rintro e C ⟨⟨v, rfl⟩, (⟨xs, hS, hi, hl⟩ | ⟨pre, hS, c, hi, hl⟩)⟩
    · have hr := run_endLoop (P := P) hl.rec' (by rw [hR]; simp)
      rw [show (R _ _).pending = none from by rw [hR]] at hr
      exact ⟨none, _, hr, hdone _ xs _ (Nat.le_refl _) hS (hI.putObj _ hi (by omega) hl.rec' rfl) (hl.put _).def'⟩
    · have hr := run_endLoop (P := P) hl.rec' (by rw [hR]; simp)
      rw [show (R _ _).pending = some c from by rw [hR]] at hr
      exact ⟨some c, _, hr, hstop _ c pre _ (Nat.le_refl _) hS ((hX c).putObj _ hi (by omega) hl.rec' rfl) (hl.put _).def'⟩
end Go.Proofs.Ytojddfbbeiobpaa
