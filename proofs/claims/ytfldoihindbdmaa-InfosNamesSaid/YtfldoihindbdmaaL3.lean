/-
  A region that draws its order, whose calls hand back memory of their own: one walk of the lexical order serves every order. What such a call hands back is told ahead ('Made'); whatever is reckoned of it waits for it. Over any program.
-/
import Derived.Test.YtfldoihindbdmaaL2
namespace Go.Proofs.Ytfldoihindbdmaa
open Go.RowKit
/-- What is told of an operation's value, and of memory behind it. -/
structure Made (m : Nat) where
  T : Value → Prop
  R : Value → World → Prop
  mono : ∀ v w w', Below w.heap.size w w' → R v w → R v w'
  gives : ∀ w : World, m ≤ w.heap.size → ∃ v w', Below w.heap.size w w' ∧ T v ∧ R v w'
def Made.val {m : Nat} (c : Value) : Made m := ⟨fun v => v = c, fun _ _ => True, fun _ _ _ _ h => h, fun w _ => ⟨c, w, Below.refl _ _, rfl, trivial⟩⟩
def madeEnd {m : Nat} (M : Made m) (w : World) (e : Ending) (w' : World) : Prop := ∃ v, e = .returned v ∧ Below w.heap.size w w' ∧ M.T v ∧ M.R v w'
def madeUpon {m : Nat} (P : Program) (M : Made m) (w : World) : Result Next → Prop
  | .ok (.value v) w' => Below w.heap.size w w' ∧ M.T v ∧ M.R v w'
  | .ok .skip w' => Below w.heap.size w w' ∧ M.T undef ∧ M.R undef w'
  | .ok (.enter f args) w' => w' = w ∧ Calls P f args w (madeEnd M w)
  | _ => False
def madeAt {m : Nat} (P : Program) (M : Made m) (o : Oper) (a : Act) (w : World) : Prop := madeUpon P M w ((execOp a.eval o).run P w)
/-- The operations that never enter a function. -/
def plainOp : Op → Bool
  | .move .. | .assign .. | .pick .. | .alloc .. | .box .. | .build .. | .buildSlice .. | .load .. | .binOp .. | .unOp .. | .convert .. | .sliceToArrayPointer .. | .makeInterface .. | .makeFunc .. | .makeSlice ..
  | .slice .. | .nilCheck .. | .fieldAddr .. | .field .. | .indexAddr .. | .index .. | .typeAssert .. | .extract .. => true
  | _ => false
theorem run_v_enter {P : Program} {s : Sem Value} {w w' : World} {f : FuncId} {args : Array Value} : (do let x ← s; pure (Next.value x) : Sem Next).run P w ≠ .ok (.enter f args) w' := by
  simp only [Sem.run_bind]
  cases s.run P w <;> simp [Result.andThen, Sem.run_pure]
theorem nilCheck_enter {P : Program} {ρ : Operand → Value} {dst : Option Tmp} {x : Operand} {t : TypeId} {pos : String} {af : Array Edge} {g : Option (Nat × Bool)} {w w' : World} {f : FuncId} {args : Array Value} :
    (execOp ρ ⟨dst, .nilCheck x, t, pos, af, g⟩).run P w ≠ .ok (.enter f args) w' := by
  intro h
  simp only [execOp] at h
  split at h
  · simp [runtimePanic] at h
  · simp [runtimePanic] at h
  · simp [runtimePanic] at h
  · split at h
    · simp [runtimePanic] at h
    · simp only [Sem.run_bind] at h
      generalize Sem.run P program w = r1 at h
      cases r1 with
      | halt e w1 => simp [Result.andThen] at h
      | ok p1 w1 =>
        simp only [Result.andThen] at h
        generalize Sem.run P (nilAhead _ _ _ _) w1 = r2 at h
        cases r2 with
        | halt e w2 => simp at h
        | ok p2 w2 =>
          simp only at h
          split at h
          · simp [unsupported, Result.andThen] at h
          · simp [Sem.run_pure] at h
    · simp [Sem.run_pure] at h
  · simp [Sem.run_pure] at h
theorem plain_enter {P : Program} {o : Oper} {ρ : Operand → Value} {w w' : World} {f : FuncId} {args : Array Value} (h : plainOp o.op = true) : (execOp ρ o).run P w ≠ .ok (.enter f args) w' := by
  obtain ⟨dst, op, type, pos, after, guard⟩ := o
  cases op <;> simp only [plainOp] at h <;> first | cases h | skip
  all_goals first
    | exact nilCheck_enter
    | (simp only [execOp]; exact run_v_enter)
    | (simp only [execOp]; simp [Sem.run_pure]; done)
    | (simp only [execOp]; simp only [Sem.run_bind]; generalize Sem.run _ _ _ = r; cases r <;> simp [Result.andThen, Sem.run_pure])
/-- What is known of memory, by the operation that made it. -/
def Fs := Nat → World → Prop
def Fs.add (fs : Fs) (k : Nat) (F : World → Prop) : Fs := fun i w => (i = k → F w) ∧ fs i w
theorem Fs.add_comm (fs : Fs) (i j : Nat) (F G : World → Prop) : (fs.add i F).add j G = (fs.add j G).add i F := by
  funext k w
  exact propext ⟨fun ⟨a, b, c⟩ => ⟨b, a, c⟩, fun ⟨a, b, c⟩ => ⟨b, a, c⟩⟩
theorem Fs.add_true (fs : Fs) (i : Nat) : fs.add i (fun _ => True) = fs := by
  funext k w
  exact propext ⟨fun h => h.2, fun h => ⟨fun _ => trivial, h⟩⟩
def Fs.nil : Fs := fun _ _ => True
/-- Operation i waits for j, by whatever road. -/
def ancB (md : Region.Mode) (ops : Array Oper) : Nat → Nat → Nat → Bool
  | 0, _, _ => false
  | f + 1, j, i => match ops[i]? with
    | none => false
    | some o => o.after.any fun e => Region.binds md e && (e.on == j || ancB md ops f j e.on)
section
variable {P : Program} {ops : Array Oper} {md : Region.Mode} {m : Nat} {W : World} {N : Nat → Option (Made m)}
theorem anc_listed {listed : Array Bool} (hc : ∀ j oj, ops[j]? = some oj → listed.getD j false = true → ∀ e ∈ oj.after, Region.binds md e = true → listed.getD e.on false = true) :
    ∀ (f j i : Nat), ancB md ops f j i = true → (∀ oi, ops[i]? = some oi → ∀ e ∈ oi.after, Region.binds md e = true → listed.getD e.on false = true) → listed.getD j false = true
  | 0, _, _, h, _ => by simp [ancB] at h
  | f + 1, j, i, h, hi => by
    unfold ancB at h
    split at h
    · cases h
    · rename_i o ho
      obtain ⟨e, he, hb⟩ := Array.any_eq_true'.1 h
      simp only [Bool.and_eq_true, Bool.or_eq_true, beq_iff_eq] at hb
      have h1 := hi o ho e he hb.1
      rcases hb.2 with h2 | h2
      · rw [← h2]; exact h1
      · exact anc_listed hc f j e.on h2 fun oi hoi e' he' hb' => hc e.on oi hoi h1 e' he' hb'
/-- What an operation is told to yield. -/
def pk {m : Nat} (N : Nat → Option (Made m)) (i : Nat) (want : Bool) (c : Value) : Made m :=
  if want then match N i with
    | some M => M
    | none => .val c
  else .val undef
/-- Where everything is kept. -/
structure Env where
  P : Program
  md : Region.Mode
  ops : Array Oper
  m : Nat
  W : World
  N : Nat → Option (Made m)
def Env.want (E : Env) (o : Oper) (a : Act) : Bool := Region.wanted o (yielded E.ops a.tmps)
def Env.anc (E : Env) (j i : Nat) : Bool := ancB E.md E.ops E.ops.size j i
def Env.Y (E : Env) (i : Nat) (o : Oper) (c : Value) (fs : Fs) (a : Act) : Prop :=
  E.want o a = true → ((E.N i).isSome = true ∨ plainOp o.op = true) ∧ ∀ w, Below E.m E.W w → (∀ j, E.anc j i = true → fs j w) → madeAt E.P (pk E.N i true c) o a w
def Env.At (E : Env) (fs : Fs) (M : Made E.m) (v : Value) : Prop := M.T v ∧ ∃ w, Below E.m E.W w ∧ (∀ j, fs j w) ∧ M.R v w
def Env.step (E : Env) (i : Nat) (o : Oper) (K : Fs → Act → Prop) (fs : Fs) (a : Act) : Prop :=
  ∃ c, E.Y i o c fs a ∧ ∀ v, E.At fs (pk E.N i (E.want o a) c) v → K (fs.add i ((pk E.N i (E.want o a) c).R v)) (a.put o.dst v)
def Env.op (E : Env) (i : Nat) (K : Fs → Act → Prop) (fs : Fs) (a : Act) : Prop :=
  match E.ops[i]? with
  | none => K fs a
  | some o => E.step i o K fs a
def Env.head (E : Env) (n : Nat) (L : Array Bool → Fs → Act → Prop) : Nat → Array Bool → Fs → Act → Prop
  | 0, listed, fs, a => L listed fs a
  | f + 1, listed, fs, a => Region.ready E.md E.ops listed ≠ [] ∧ ∀ i ∈ Region.ready E.md E.ops listed, i < n ∧ E.op i (E.head n L f (listed.setIfInBounds i true)) fs a
def Fs.Mono (fs : Fs) : Prop := ∀ j w w', Below w.heap.size w w' → fs j w → fs j w'
theorem Fs.Mono.add {fs : Fs} (h : fs.Mono) (M : Made m) (v : Value) (i : Nat) : (fs.add i (M.R v)).Mono := fun j w w' hb hf => ⟨fun e => M.mono v w w' hb (hf.1 e), h j w w' hb hf.2⟩
def Env.Inh (E : Env) (fs : Fs) : Prop := ∃ w, Below E.m E.W w ∧ ∀ j, fs j w
theorem Env.Inh.at {E : Env} {fs : Fs} (hm : E.m ≤ E.W.heap.size) (hM : fs.Mono) (h : E.Inh fs) (M : Made E.m) : ∃ v, E.At fs M v := by
  obtain ⟨w, hb, hf⟩ := h
  obtain ⟨v, w', hb', hT, hR⟩ := M.gives w (Nat.le_trans hm hb.size)
  exact ⟨v, hT, w', hb.trans (hb'.mono (Nat.le_trans hm hb.size)), fun j => hM j w w' hb' (hf j), hR⟩
theorem Env.At.inh {E : Env} {fs : Fs} {M : Made E.m} {v : Value} (h : E.At fs M v) (i : Nat) : E.Inh (fs.add i (M.R v)) := by
  obtain ⟨_, w, hb, hf, hR⟩ := h
  exact ⟨w, hb, fun j => ⟨fun _ => hR, hf j⟩⟩
theorem Env.At.weak {E : Env} {fs : Fs} {M : Made E.m} {v : Value} {i : Nat} {F : World → Prop} (h : E.At (fs.add i F) M v) : E.At fs M v := by
  obtain ⟨hT, w, hb, hf, hR⟩ := h
  exact ⟨hT, w, hb, fun j => (hf j).2, hR⟩
theorem Env.At.swap {E : Env} {fs : Fs} {M M' : Made E.m} {v u : Value} {i j : Nat} (h : E.At (fs.add j (M'.R u)) M v) (hT : M'.T u) : E.At (fs.add i (M.R v)) M' u := by
  obtain ⟨_, w, hb, hf, hR⟩ := h
  exact ⟨hT, w, hb, fun k => ⟨fun _ => hR, (hf k).2⟩, (hf j).1 rfl⟩
theorem plain_uniq {o : Oper} {a : Act} {w : World} {c c' : Value} (hp : plainOp o.op = true) (h : madeAt P (.val (m := m) c) o a w) (h' : madeAt P (.val (m := m) c') o a w) : c = c' := by
  unfold madeAt at *
  generalize hr : (execOp a.eval o).run P w = r at h h'
  cases r with
  | ok n w' =>
    cases n <;> simp only [madeUpon, Made.val] at h h'
    case value v => exact h.2.1.symm.trans h'.2.1
    case skip => exact h.2.1.symm.trans h'.2.1
    case enter f args => exact absurd hr (plain_enter hp)
  | halt x w' => simp only [madeUpon] at h
/-- It is a wpAny. -/
theorem Env.wp_op {E : Env} {Q' : Exit → Act → World → Prop} {i : Nat} {K : Fs → Act → Prop} {K' : Act → World → Prop} {fs : Fs} {a : Act} {w : World} (hm : E.m ≤ E.W.heap.size) (hM : fs.Mono) (hw : Below E.m E.W w) (hf : ∀ j, fs j w)
    (hK : ∀ fs a w, fs.Mono → Below E.m E.W w → (∀ j, fs j w) → K fs a → K' a w) (h : E.op i K fs a) : wpOp E.P E.ops Q' i K' a w := by
  unfold Env.op at h
  unfold wpOp
  split
  · rename_i ho; simp only [ho] at h; exact hK _ _ _ hM hw hf h
  · rename_i o ho
    simp only [ho] at h
    obtain ⟨c, hy, hn⟩ := h
    split
    · rename_i hwt
      have hwt' : E.want o a = true := hwt
      refine .inl ?_
      have h1 := (hy hwt').2 w hw fun j _ => hf j
      simp only [hwt'] at hn
      generalize pk E.N i true c = M at h1 hn
      have fin : ∀ v w', Below w.heap.size w w' → M.T v → M.R v w' → K' (a.put o.dst v) w' := fun v w' hb hT hR => by
        have hb' := hw.trans (hb.mono (Nat.le_trans hm hw.size))
        have hf' : ∀ j, fs j w' := fun j => hM j w w' hb (hf j)
        exact hK _ _ _ (hM.add M v i) hb' (fun j => ⟨fun _ => hR, hf' j⟩) (hn v ⟨hT, w', hb', hf', hR⟩)
      unfold madeAt at h1
      unfold Oper.wp
      generalize (execOp a.eval o).run E.P w = r at *
      cases r with
      | ok n w' =>
        cases n <;> simp only [madeUpon] at h1 <;> simp only [Oper.upon]
        case value v => exact fin _ _ h1.1 h1.2.1 h1.2.2
        case skip => exact fin _ _ h1.1 h1.2.1 h1.2.2
        case enter f args =>
          obtain ⟨rfl, hc⟩ := h1
          exact hc.mono fun e w'' ⟨v, he, hb, hT, hR⟩ => by subst he; exact fin _ _ hb hT hR
      | halt x w' => simp only [madeUpon] at h1
    · rename_i hwt
      have hwt' : E.want o a = false := by simpa [Env.want] using hwt
      simp only [hwt', pk] at hn
      exact hK _ _ _ (hM.add (.val undef) undef i) hw (fun j => ⟨fun _ => trivial, hf j⟩) (hn undef ⟨rfl, w, hw, hf, trivial⟩)
theorem Env.head_any {E : Env} {Q' : Exit → Act → World → Prop} {n g : Nat} {L : Array Bool → Fs → Act → Prop} (hm : E.m ≤ E.W.heap.size)
    (hL : ∀ listed fs a w, Below E.m E.W w → (∀ j, fs j w) → L listed fs a → wpAny E.P E.md E.ops Q' g listed a w) :
    ∀ (f : Nat) (listed : Array Bool) (fs : Fs) (a : Act) (w : World), fs.Mono → Below E.m E.W w → (∀ j, fs j w) → E.head n L f listed fs a → wpAny E.P E.md E.ops Q' (f + g) listed a w
  | 0, listed, fs, a, w, _, hw, hf, h => by rw [Nat.zero_add]; exact hL _ _ _ _ hw hf h
  | f + 1, listed, fs, a, w, hM, hw, hf, h => by
    rw [show f + 1 + g = (f + g) + 1 by omega]
    exact ⟨fun h0 => absurd h0 h.1, fun i hi => Env.wp_op hm hM hw hf (fun fs' a' w' hM' hw' hf' h' => Env.head_any hm hL f _ fs' a' w' hM' hw' hf' h') (h.2 i hi).2⟩
theorem madeAt_put {o : Oper} {M : Made m} {a : Act} {dst : Option Tmp} {v : Value} {w : World} (hs : ∀ cs b, o.op ≠ .select cs b) (h : ∀ d, dst = some d → d ∉ o.looksAt ops) : madeAt P M o (a.put dst v) w = madeAt P M o a w := by
  unfold madeAt
  rw [execOp_put o hs a dst v h]
theorem pk_uniq {i : Nat} {c c' : Value} {want : Bool} (h : want = true → N i = none → c = c') : pk N i want c = pk N i want c' := by
  unfold pk
  cases want
  · rfl
  · simp only [if_true]
    cases hN : N i with
    | some M => rfl
    | none => rw [h rfl hN]
theorem Env.head_first {E : Env} {n i : Nat} {oi : Oper} {c : Value} {L : Array Bool → Fs → Act → Prop} (hm : E.m ≤ E.W.heap.size) (hi : E.ops[i]? = some oi) (hsel : ∀ (j : Nat) (o : Oper) cs b, E.ops[j]? = some o → o.op ≠ .select cs b)
    (hlt : ∀ listed, HeadInv E.md E.ops n listed → listed.getD i true = false → ∀ j ∈ Region.ready E.md E.ops listed, j < n)
    (hdone : ∀ listed fs a, L listed fs a → ∀ j ∈ Region.ready E.md E.ops listed, n ≤ j) :
    ∀ (f : Nat) (listed : Array Bool) (fs : Fs) (a : Act), HeadInv E.md E.ops n listed →
      (∀ j oj, E.ops[j]? = some oj → j ≠ i → listed.getD j true = false → (∀ e ∈ oj.after, Region.binds E.md e = true → e.on ≠ i) → oi.apart E.ops oj = true) →
      i ∈ Region.ready E.md E.ops listed → fs.Mono → E.Inh fs → E.Y i oi c fs a →
      (∀ v, E.At fs (pk E.N i (E.want oi a) c) v → E.head n L f (listed.setIfInBounds i true) (fs.add i ((pk E.N i (E.want oi a) c).R v)) (a.put oi.dst v)) →
      E.head n L (f + 1) listed fs a := by
  intro f
  induction f with
  | zero =>
    intro listed fs a inv _ hr hM hI hy H
    have hun := (mem_ready.1 hr).1
    refine ⟨fun h => (by rw [h] at hr; cases hr), fun j hj => ?_⟩
    have hjn : j < n := hlt listed inv hun j hj
    refine ⟨hjn, ?_⟩
    by_cases hji : j = i
    · subst hji; unfold Env.op; simp only [hi]; exact ⟨c, hy, H⟩
    · obtain ⟨v, hv⟩ := hI.at hm hM (pk E.N i (E.want oi a) c)
      have := hdone _ _ _ (H v hv) j (ready_mono hj hji)
      omega
  | succ f ih =>
    intro listed fs a inv hfree hr hM hI hy H
    have hun := (mem_ready.1 hr).1
    refine ⟨fun h => (by rw [h] at hr; cases hr), fun j hj => ?_⟩
    have hjn : j < n := hlt listed inv hun j hj
    refine ⟨hjn, ?_⟩
    by_cases hji : j = i
    · subst hji; unfold Env.op; simp only [hi]; exact ⟨c, hy, H⟩
    obtain ⟨hjun, oj, hoj, hall⟩ := mem_ready.1 hj
    have hnot : ∀ e ∈ oj.after, Region.binds E.md e = true → e.on ≠ i := fun e he hb heq => by
      have h1 := hall e he hb
      rw [heq, getD_both hun] at h1
      cases h1
    have hanc : ∀ k, E.anc k j = true → k ≠ i := fun k hk heq => by
      have h1 := anc_listed inv.closed _ _ _ hk fun o ho e he hb => by
        have : o = oj := Option.some.inj (ho.symm.trans hoj)
        subst this
        exact hall e he hb
      rw [heq, getD_both hun] at h1
      cases h1
    have hap := hfree j oj hoj hji hjun hnot
    obtain ⟨h1, h2, h3⟩ := Oper.apart_spec hap
    have hsi := fun cs b => hsel i oi cs b hi
    have hsj := fun cs b => hsel j oj cs b hoj
    have hwj : ∀ v, E.want oj (a.put oi.dst v) = E.want oj a := fun v => wanted_put oj a oi.dst v h1
    have hwi : ∀ u, E.want oi (a.put oj.dst u) = E.want oi a := fun u => wanted_put oi a oj.dst u h3
    -- operation j, behind i with whatever value
    have hstep : ∀ v, E.At fs (pk E.N i (E.want oi a) c) v → ∃ cj, E.Y j oj cj fs a ∧ ∀ u, E.At (fs.add i ((pk E.N i (E.want oi a) c).R v)) (pk E.N j (E.want oj a) cj) u →
        E.head n L f ((listed.setIfInBounds i true).setIfInBounds j true) ((fs.add i ((pk E.N i (E.want oi a) c).R v)).add j ((pk E.N j (E.want oj a) cj).R u)) ((a.put oi.dst v).put oj.dst u) := fun v hv => by
      have h4 := ((H v hv).2 j (ready_mono hj hji)).2
      unfold Env.op at h4
      simp only [hoj] at h4
      obtain ⟨cj, hyj, hnj⟩ := h4
      rw [hwj v] at hnj
      refine ⟨cj, fun hwt => ?_, hnj⟩
      obtain ⟨h5, h6⟩ := hyj (by rw [hwj]; exact hwt)
      refine ⟨h5, fun w hw hf => ?_⟩
      have h7 := h6 w hw fun k hk => ⟨fun e => absurd e (hanc k hk), hf k hk⟩
      rwa [madeAt_put hsj h1] at h7
    obtain ⟨v0, hv0⟩ := hI.at hm hM (pk E.N i (E.want oi a) c)
    obtain ⟨cj, hyj, _⟩ := hstep v0 hv0
    have huniq : ∀ cj', E.Y j oj cj' fs a → pk E.N j (E.want oj a) cj' = pk E.N j (E.want oj a) cj := fun cj' hyj' => pk_uniq fun hwt hN => by
      obtain ⟨w, hw, hf⟩ := hI
      obtain ⟨g1, g2⟩ := hyj hwt
      obtain ⟨_, g3⟩ := hyj' hwt
      have g4 := g2 w hw fun k _ => hf k
      have g5 := g3 w hw fun k _ => hf k
      simp only [pk, hN, if_true] at g4 g5
      rcases g1 with g1 | g1
      · rw [hN] at g1; cases g1
      · exact plain_uniq g1 g5 g4
    unfold Env.op
    simp only [hoj]
    refine ⟨cj, hyj, fun u hu => ?_⟩
    refine ih (listed.setIfInBounds j true) (fs.add j _) (a.put oj.dst u) (inv.set hj hjn) (fun k ok hk hki hun hno => ?_) (ready_mono hr (Ne.symm hji)) (hM.add _ u j) (hu.inh j) (fun hwt => ?_) (fun v hv => ?_)
    · refine hfree k ok hk hki ?_ hno
      by_cases hjk : j = k
      · subst hjk; exact hjun
      · rw [getD_set_ne true hjk] at hun; exact hun
    · rw [hwi] at hwt
      obtain ⟨g1, g2⟩ := hy hwt
      refine ⟨g1, fun w hw hf => ?_⟩
      rw [madeAt_put hsi h3]
      exact g2 w hw fun k hk => (hf k hk).2
    · rw [hwi] at hv ⊢
      obtain ⟨cj', hyj', H'⟩ := hstep v hv.weak
      rw [huniq cj' hyj'] at H'
      have := H' u (hv.swap hu.1)
      rw [Array.setIfInBounds_comm _ _ hji, Fs.add_comm, ← Act.put_comm a v u h2]
      exact this
/-- The lexical walk. -/
def Env.walk (E : Env) (Q : Fs → Act → Prop) : Nat → List Oper → Fs → Act → Prop
  | _, [], fs, a => Q fs a
  | k, o :: l, fs, a => E.step k o (E.walk Q (k + 1) l) fs a
theorem Env.head_lex {E : Env} {n g : Nat} {Lq : Fs → Act → Prop} (hm : E.m ≤ E.W.heap.size) (hsel : Region.noSelect E.ops = true) (hlt : ∀ listed, HeadInv E.md E.ops n listed → ∀ i, i < n → listed.getD i true = false → ∀ j ∈ Region.ready E.md E.ops listed, j < n) :
    ∀ (l : List Oper) (k : Nat) (listed : Array Bool) (fs : Fs) (a : Act), (∀ j, j < l.length → l[j]? = E.ops[k + j]?) → k + l.length = n → HeadInv E.md E.ops n listed → fs.Mono → E.Inh fs →
    Region.lexHead E.md E.ops g l.length k listed = true → E.walk Lq k l fs a →
    E.head n (fun listed' fs' a' => Region.seqB E.md E.ops g n listed' = true ∧ Lq fs' a') l.length listed fs a
  | [], k, listed, fs, a, _, hk, _, _, _, hB, h => by
    have : k = n := by simpa using hk
    subst this
    exact ⟨by simpa [Region.lexHead] using hB, h⟩
  | o :: l, k, listed, fs, a, hl, hk, inv, hM, hI, hB, h => by
    have h0 : E.ops[k]? = some o := by simpa using (hl 0 (by simp)).symm
    simp only [List.length_cons, Region.lexHead, Bool.and_eq_true] at hB
    obtain ⟨⟨hr, hf⟩, hB'⟩ := hB
    have hkn : k < n := by simp only [List.length_cons] at hk; omega
    have hr' : k ∈ Region.ready E.md E.ops listed := by simpa using hr
    obtain ⟨c, hy, hK⟩ := h
    exact Env.head_first hm h0 (Region.noSelect_spec hsel) (fun listed inv h => hlt listed inv k hkn h) (fun listed' fs' a' hL => seqB_ready hL.1) l.length listed fs a inv (Region.free_spec h0 hf) hr' hM hI hy
      fun v hv => Env.head_lex hm hsel hlt l (k + 1) _ _ _ (fun j hj => by have := hl (j + 1) (by simp; omega); simpa [Nat.add_assoc, Nat.add_comm 1 j] using this) (by simp only [List.length_cons] at hk; omega) (inv.set hr' hkn)
        (hM.add _ v k) (hv.inh k) hB' (hK v hv)
theorem inv0 (n : Nat) : HeadInv md ops n (Array.replicate ops.size false) :=
  ⟨by simp, fun j oj _ hl => (by rw [getD_replicate_false] at hl; cases hl), fun t _ ht => getD_in (by simpa using ht) (getD_replicate_false _ _)⟩
theorem Fs.nil_mono : Fs.nil.Mono := fun _ _ _ _ h => h
def lexMadeB (ops : Array Oper) : Bool := Region.noSelect ops && Region.lexHead .any ops 0 ops.size 0 (Array.replicate ops.size false)
/-- A region that draws its order, whose calls make memory: walked once. -/
theorem wp_region_made {id : Nat} {Q : Exit → Act → World → Prop} {a : Act} {w : World} {l : List Oper} (m : Nat) (N : Nat → Option (Made m)) (hmw : m ≤ w.heap.size) (hm : P.follows .mixedOrders = true) (hB : lexMadeB l.toArray = true)
    (h : (Env.mk P .any l.toArray m w N).walk (fun fs a' => ∀ w', Below m w w' → (∀ j, fs j w') → Q .normal a' w') 0 l Fs.nil a) : (Code.region id l.toArray true).wp P Q a w := by
  simp only [lexMadeB, Bool.and_eq_true] at hB
  have H := Env.head_lex (E := ⟨P, .any, l.toArray, m, w, N⟩) (n := l.toArray.size) (g := 0) hmw hB.1 (fun listed _ i _ _ j hj => by
    obtain ⟨_, o, ho, _⟩ := mem_ready.1 hj
    exact (Array.getElem?_eq_some_iff.1 ho).1) l 0 _ Fs.nil a (fun j hj => by simp) (by simp) (inv0 _) Fs.nil_mono ⟨w, Below.refl _ _, fun _ => trivial⟩ (by simpa using hB.2) h
  refine wp_region_any hm ?_
  have := Env.head_any (E := ⟨P, .any, l.toArray, m, w, N⟩) (Q' := Q) (g := 0) hmw (fun listed fs a' w' hw' hf hL => ⟨by simpa [Region.seqB] using hL.1, hL.2 w' hw' hf⟩) _ _ Fs.nil _ { w with drawn := w.drawn + 1 } Fs.nil_mono (Below.refl _ _).drew (fun _ => trivial) H
  simpa using this
/-- .. and behind them operations in one forced order. -/
theorem wp_region_made_tail {id : Nat} {Q : Exit → Act → World → Prop} {a : Act} {w : World} {l : List Oper} (m n : Nat) (N : Nat → Option (Made m)) (hmw : m ≤ w.heap.size) (hm : P.follows .mixedOrders = true) (hB : Region.lexTailB .any l.toArray n = true)
    (h : (Env.mk P .any l.toArray m w N).walk (fun fs a' => ∀ w', Below m w w' → (∀ j, fs j w') → wpList P l.toArray Q (l.drop n) a' w') 0 (l.take n) Fs.nil a) : (Code.region id l.toArray true).wp P Q a w := by
  simp only [Region.lexTailB, Bool.and_eq_true, decide_eq_true_eq] at hB
  obtain ⟨⟨⟨⟨hsel, hn⟩, hs⟩, hc⟩, hlex⟩ := hB
  have hn' : n < l.length := by simpa using hn
  have htl : (l.take n).length = n := by simp; omega
  have hdl : (l.drop n).length = l.toArray.size - n := by simp
  have H := Env.head_lex (E := ⟨P, .any, l.toArray, m, w, N⟩) (n := n) (g := l.toArray.size - n) hmw hsel (fun listed inv i hin hun j hj => by
      rcases Nat.lt_or_ge j n with h | h
      · exact h
      · exact absurd hj (tail_waits hs hc hn inv _ i rfl hin hun j h)) (l.take n) 0 _ Fs.nil a (fun j hj => by
    have hj' : j < n := by rw [htl] at hj; exact hj
    simp [hj']) (by simpa using htl) (inv0 _) Fs.nil_mono ⟨w, Below.refl _ _, fun _ => trivial⟩ (by rw [htl]; exact hlex) h
  refine wp_region_any hm ?_
  have := Env.head_any (E := ⟨P, .any, l.toArray, m, w, N⟩) (Q' := Q) (g := l.toArray.size - n) hmw (fun listed fs a' w' hw' hf hL => by
    have := wpAny_of_seq (md := .any) (Q' := Q) (l.drop n) n listed a' w' (fun j => by simp [List.getElem?_drop]) (by rw [hdl]; exact hL.1) (hL.2 w' hw' hf)
    rwa [hdl] at this) _ _ Fs.nil _ { w with drawn := w.drawn + 1 } Fs.nil_mono (Below.refl _ _).drew (fun _ => trivial) H
  rw [htl, show n + (l.toArray.size - n) = l.toArray.size by omega] at this
  exact this
/-! ### The steps -/
/-- The worlds that are 'W' below block 'm' and hold what is known. -/
structure LaterF (m : Nat) (W : World) (gs : List (Nat × (World → Prop))) where
  w : World
  h : Below m W w
  f : ∀ p ∈ gs, p.2 w
theorem Env.walk_skip {E : Env} {Q : Fs → Act → Prop} {k : Nat} {o : Oper} {l : List Oper} {fs : Fs} {a : Act} (hw : E.want o a = false) (h : E.walk Q (k + 1) l fs (a.put o.dst undef)) : E.walk Q k (o :: l) fs a := by
  refine ⟨undef, fun h1 => (by rw [hw] at h1; cases h1), fun v hv => ?_⟩
  simp only [hw, pk] at hv ⊢
  have : v = undef := hv.1
  subst this
  have h2 : (Made.val (m := E.m) undef).R undef = fun _ => True := rfl
  simp only [Bool.false_eq_true, if_false, h2]
  rw [Fs.add_true]
  exact h
/-- What the check of a stretch of reads asks. -/
def segB (E : Env) (ks : List Nat) : Nat → List Oper → Bool
  | _, [] => true
  | k, o :: l => (E.N k).isNone && plainOp o.op && ks.all (fun j => E.anc j k) && segB E ks (k + 1) l
theorem madeAt_quiet {o : Oper} {a : Act} {C : World → Prop} {w : World} {v : Value} (hp : plainOp o.op = true) (h : o.quietAt P a C w v) : madeAt P (.val (m := m) v) o a w := by
  unfold Oper.quietAt at h
  unfold madeAt
  generalize hr : (execOp a.eval o).run P w = r at h ⊢
  cases r with
  | ok n w' =>
    cases n <;> simp only [Oper.quietUpon] at h <;> simp only [madeUpon]
    case value u => obtain ⟨rfl, rfl⟩ := h; exact ⟨Below.refl _ _, rfl, trivial⟩
    case skip => obtain ⟨rfl, rfl⟩ := h; exact ⟨Below.refl _ _, rfl, trivial⟩
    case enter f args => exact absurd hr (plain_enter hp)
  | halt x w' => simp only [Oper.quietUpon] at h
theorem Env.walk_seg {E : Env} {Q : Fs → Act → Prop} {fs : Fs} (gs : List (Nat × (World → Prop))) (hg : ∀ p ∈ gs, ∀ w, fs p.1 w → p.2 w) {rest : List Oper} :
    ∀ (seg : List Oper) (k : Nat) (a : Act), segB E (gs.map (·.1)) k seg = true →
    wpQuiet E.P E.ops (fun w' => ∃ x : LaterF E.m E.W gs, w' = x.w) (fun a' => E.walk Q (k + seg.length) rest fs a') seg a → E.walk Q k (seg ++ rest) fs a
  | [], k, a, _, h => h
  | o :: seg, k, a, hB, h => by
    simp only [segB, Bool.and_eq_true, Option.isNone_iff_eq_none] at hB
    obtain ⟨⟨⟨hN, hp⟩, ha⟩, hB'⟩ := hB
    have ih := fun a => Env.walk_seg (E := E) (Q := Q) gs hg (rest := rest) seg (k + 1) a
    simp only [List.length_cons, show k + (seg.length + 1) = k + 1 + seg.length by omega, wpQuiet] at h
    rw [List.cons_append]
    split at h
    · rename_i hw
      have hw' : E.want o a = true := hw
      obtain ⟨v, h1, h2⟩ := h
      refine ⟨v, fun _ => ⟨.inr hp, fun w hb hf => ?_⟩, fun u hu => ?_⟩
      · simp only [pk, hN, if_true]
        refine madeAt_quiet hp (h1 w ⟨⟨w, hb, fun p hp' => hg p hp' w (hf p.1 ?_)⟩, rfl⟩)
        exact List.all_eq_true.1 ha p.1 (List.mem_map.2 ⟨p, hp', rfl⟩)
      · simp only [hw', pk, hN, if_true] at hu ⊢
        have : u = v := hu.1
        subst this
        have h3 : (Made.val (m := E.m) u).R u = fun _ => True := rfl
        rw [h3, Fs.add_true]
        exact ih _ hB' h2
    · rename_i hw
      exact Env.walk_skip (by simpa [Env.want] using hw) (ih _ hB' h)
theorem Env.walk_made {E : Env} {Q : Fs → Act → Prop} {k : Nat} {o : Oper} {l : List Oper} {fs : Fs} {a : Act} (M : Made E.m) (gs : List (Nat × (World → Prop))) (hg : ∀ p ∈ gs, ∀ w, fs p.1 w → p.2 w) (ha : gs.all (fun p => E.anc p.1 k) = true)
    (hw : E.want o a = true) (hN : E.N k = some M) (h1 : ∀ w, Below E.m E.W w → (∀ p ∈ gs, p.2 w) → madeAt E.P M o a w)
    (h2 : ∀ v, M.T v → E.At fs M v → E.walk Q (k + 1) l (fs.add k (M.R v)) (a.put o.dst v)) : E.walk Q k (o :: l) fs a := by
  refine ⟨undef, fun _ => ⟨.inl (by simp [hN]), fun w hb hf => ?_⟩, fun v hv => ?_⟩
  · simp only [pk, hN, if_true]
    exact h1 w hb fun p hp => hg p hp w (hf p.1 (List.all_eq_true.1 ha p hp))
  · simp only [hw, pk, hN, if_true] at hv ⊢
    exact h2 v hv.1 hv
/-- .. whose value is known. -/
theorem Env.walk_val {E : Env} {Q : Fs → Act → Prop} {k : Nat} {o : Oper} {l : List Oper} {fs : Fs} {a : Act} (c : Value) (gs : List (Nat × (World → Prop))) (hg : ∀ p ∈ gs, ∀ w, fs p.1 w → p.2 w) (ha : gs.all (fun p => E.anc p.1 k) = true)
    (hw : E.want o a = true) (hN : E.N k = some (.val c)) (h1 : ∀ w, Below E.m E.W w → (∀ p ∈ gs, p.2 w) → madeAt E.P (Made.val (m := E.m) c) o a w)
    (h2 : E.walk Q (k + 1) l fs (a.put o.dst c)) : E.walk Q k (o :: l) fs a :=
  Env.walk_made _ gs hg ha hw hN h1 fun v hv _ => by
    have : v = c := hv
    subst this
    have h3 : (Made.val (m := E.m) v).R v = fun _ => True := rfl
    rw [h3, Fs.add_true]
    exact h2
/-- At a call. -/
theorem madeAt_call {M : Made m} {o : Oper} {a : Act} {w : World} {f : FuncId} {args : Array Value} (hr : (execOp a.eval o).run P w = .ok (.enter f args) w) (h : Calls P f args w (madeEnd M w)) : madeAt P M o a w := by
  unfold madeAt
  rw [hr]
  exact ⟨rfl, h⟩

@[go_sem] theorem madeUpon_enter {M : Made m} {w : World} {f : FuncId} {args : Array Value} : madeUpon P M w (.ok (.enter f args) w) = Calls P f args w (madeEnd M w) := by simp [madeUpon]
/-- The memory that is known. -/
noncomputable def rowIn (gs : List (Nat × (World → Prop))) (b : Nat) : Option Obj := by
  classical exact if h : ∃ r, ∀ w, (∀ p ∈ gs, p.2 w) → bk w b = some r then some h.choose else none
theorem rowIn_spec {gs : List (Nat × (World → Prop))} {b : Nat} {r : Obj} (h : rowIn gs b = some r) (w : World) (hw : ∀ p ∈ gs, p.2 w) : bk w b = some r := by
  unfold rowIn at h
  split at h
  · rename_i h'
    cases h
    exact h'.choose_spec w hw
  · cases h
theorem rowIn_eq {gs : List (Nat × (World → Prop))} {b : Nat} {r : Obj} [hne : Nonempty (LaterF m W gs)] (h : ∀ w, (∀ p ∈ gs, p.2 w) → bk w b = some r) : rowIn gs b = some r := by
  unfold rowIn
  have h' : ∃ r, ∀ w, (∀ p ∈ gs, p.2 w) → bk w b = some r := ⟨r, h⟩
  rw [dif_pos h']
  obtain ⟨x⟩ := hne
  have h1 := h'.choose_spec x.w x.f
  have h2 := h x.w x.f
  exact h1.symm.trans h2
def cellRow (w : World) (b o : Nat) : Option Obj → Option Value
  | some (.cells c _ _) => c[o]?
  | _ => cellHid w b o
@[go_sem] theorem cellRow_cells (w : World) (b o : Nat) (c : Array Value) (t : TypeId) (fr : Nat × Nat) : cellRow w b o (some (.cells c t fr)) = c[o]? := rfl
theorem cell_of_row {w : World} {b o : Nat} {c : Array Value} {t : TypeId} {fr : Nat × Nat} (h : bk w b = some (.cells c t fr)) : w.cell? ⟨b, o, none⟩ = c[o]? := bk_cell h o
@[go_sem] theorem LaterF.cell {gs : List (Nat × (World → Prop))} (x : LaterF m W gs) (b o : Nat) : x.w.cell? ⟨b, o, none⟩ = if b < m then W.cell? ⟨b, o, none⟩ else cellRow x.w b o (rowIn gs b) := by
  split
  · exact x.h.cell (p := ⟨b, o, none⟩) (by assumption)
  · cases hr : rowIn gs b with
    | none => unfold cellRow cellHid; rfl
    | some r =>
      have h1 := rowIn_spec hr x.w x.f
      cases r <;> first | exact cell_of_row h1 | (unfold cellRow cellHid; rfl)
@[go_sem] theorem LaterF.frozen {gs : List (Nat × (World → Prop))} (x : LaterF m W gs) (b o : Nat) (h : b < m) : x.w.frozen? ⟨b, o, none⟩ = W.frozen? ⟨b, o, none⟩ := x.h.frozen (p := ⟨b, o, none⟩) h
@[go_sem] theorem LaterF.bk {gs : List (Nat × (World → Prop))} (x : LaterF m W gs) (b : Nat) (h : b < m) : bk x.w b = Go.Proofs.Ytfldoihindbdmaa.bk W b := x.h.block b h
noncomputable def rowAt (gs : List (Nat × (World → Prop))) (m : Nat) (W : World) (b : Nat) : Option Obj := if b < m then bk W b else rowIn gs b
@[go_sem] theorem rowAt_eq (gs : List (Nat × (World → Prop))) (m : Nat) (W : World) (b : Nat) : rowAt gs m W b = if b < m then bk W b else rowIn gs b := rfl
theorem rowAt_spec {gs : List (Nat × (World → Prop))} {b : Nat} {r : Obj} (x : LaterF m W gs) (h : rowAt gs m W b = some r) : bk x.w b = some r := by
  unfold rowAt at h
  split at h
  · exact (x.bk b (by assumption)).trans h
  · exact rowIn_spec h x.w x.f
noncomputable def ldF (X : Prop) (gs : List (Nat × (World → Prop))) (m n : Nat) (W : World) (K : Array Value → Prop) : Value → Prop
  | .pointer (some ⟨b, o, none⟩) => ldRow X n W o K (rowAt gs m W b)
  | _ => X
@[go_sem] theorem ldF_ptr (X : Prop) (gs : List (Nat × (World → Prop))) (m n : Nat) (W : World) (K : Array Value → Prop) (b o : Nat) : ldF X gs m n W K (.pointer (some ⟨b, o, none⟩)) = ldRow X n W o K (rowAt gs m W b) := rfl
theorem quiet_load_F {P : Program} (ty : TypeId) (n : Nat) (d : TypeDesc) (hu : P.underlying ty = some d) (hd : d.isRow = true) (hi : (P.info? ty).map (·.size) = some n)
    (dst : Option Tmp) (x : Operand) (t : TypeId) (pos : String) (af : Array Edge) (g : Option (Nat × Bool)) (a : Act) (m : Nat) (W : World) (gs : List (Nat × (World → Prop))) [hne : Nonempty (LaterF m W gs)] (K : Act → Prop) :
    Oper.quiet P ⟨dst, .load ty x, t, pos, af, g⟩ a (fun w' => ∃ x : LaterF m W gs, w' = x.w) K =
      ldF (quietHid P ⟨dst, .load ty x, t, pos, af, g⟩ a (fun w' => ∃ x : LaterF m W gs, w' = x.w) K) gs m n W (fun c => K (a.put dst (.agg c))) (a.eval x) := by
  unfold ldF
  split
  · rename_i b o he
    unfold ldRow
    split
    · rename_i c t' fr hb
      split
      · rename_i hle
        have key : ∀ y : LaterF m W gs, (execOp a.eval (⟨dst, .load ty x, t, pos, af, g⟩ : Oper)).run P y.w = .ok (.value (.agg (xt c o n))) y.w := fun y => by
          have hb' : bk y.w b = some (.cells c t' fr) := rowAt_spec y hb
          unfold execOp
          simp only [he, Sem.run_bind, run_load_bk ty n d hu hd hi y.w b o c t' fr hb' hle, Result.andThen_ok]
          rfl
        obtain ⟨y0⟩ := hne
        apply propext
        constructor
        · rintro ⟨v, h1, h2⟩
          have h3 := h1 y0.w ⟨y0, rfl⟩
          unfold Oper.quietAt at h3
          rw [key y0] at h3
          obtain ⟨_, rfl⟩ := h3
          exact h2
        · intro h
          refine ⟨_, fun w' hw' => ?_, h⟩
          obtain ⟨y, rfl⟩ := hw'
          unfold Oper.quietAt
          rw [key y]
          exact ⟨rfl, rfl⟩
      · unfold quietHid; rfl
    · unfold quietHid; rfl
  · unfold quietHid; rfl
theorem Env.At.later {E : Env} {fs : Fs} {M : Made E.m} {v : Value} (h : E.At fs M v) (gs : List (Nat × (World → Prop))) (hg : ∀ p ∈ gs, ∀ w, (∀ j, fs j w) → M.R v w → p.2 w) : Nonempty (LaterF E.m E.W gs) := by
  obtain ⟨_, w, hb, hf, hR⟩ := h
  exact ⟨⟨w, hb, fun p hp => hg p hp w hf hR⟩⟩
instance LaterF.nil : Nonempty (LaterF m W []) := ⟨⟨W, Below.refl _ _, fun p hp => by cases hp⟩⟩
/-- A stretch of reads. -/
theorem walk_segn {ops : Array Oper} {Q : Fs → Act → Prop} {fs : Fs} {k : Nat} {a : Act} (s : Nat) (gs : List (Nat × (World → Prop))) (hg : ∀ p ∈ gs, ∀ w, fs p.1 w → p.2 w) {l : List Oper} (hs : decide (s ≤ l.length) = true)
    (hB : segB ⟨P, md, ops, m, W, N⟩ (gs.map (·.1)) k (l.take s) = true)
    (h : wpQuiet P ops (fun w' => ∃ x : LaterF m W gs, w' = x.w) (fun a' => (Env.mk P md ops m W N).walk Q (k + s) (l.drop s) fs a') (l.take s) a) : (Env.mk P md ops m W N).walk Q k l fs a := by
  have hs' := of_decide_eq_true hs
  have hl : (l.take s).length = s := by simp; omega
  have := Env.walk_seg (E := Env.mk P md ops m W N) (Q := Q) gs hg (rest := l.drop s) (l.take s) k a hB (by rw [hl]; exact h)
  rwa [List.take_append_drop] at this
theorem walk_mkop {ops : Array Oper} {Q : Fs → Act → Prop} {k : Nat} {o : Oper} {l : List Oper} {fs : Fs} {a : Act} (M : Made m) (gs : List (Nat × (World → Prop))) (hg : ∀ p ∈ gs, ∀ w, fs p.1 w → p.2 w)
    (ha : gs.all (fun p => ancB md ops ops.size p.1 k) = true) (hw : Region.wanted o (yielded ops a.tmps) = true) (hN : N k = some M) (h1 : ∀ w, Below m W w → (∀ p ∈ gs, p.2 w) → madeAt P M o a w)
    (h2 : ∀ v, M.T v → (Env.mk P md ops m W N).At fs M v → (Env.mk P md ops m W N).walk Q (k + 1) l (fs.add k (M.R v)) (a.put o.dst v)) : (Env.mk P md ops m W N).walk Q k (o :: l) fs a :=
  Env.walk_made (E := Env.mk P md ops m W N) M gs hg ha hw hN h1 h2
theorem walk_val {ops : Array Oper} {Q : Fs → Act → Prop} {k : Nat} {o : Oper} {l : List Oper} {fs : Fs} {a : Act} (c : Value) (gs : List (Nat × (World → Prop))) (hg : ∀ p ∈ gs, ∀ w, fs p.1 w → p.2 w)
    (ha : gs.all (fun p => ancB md ops ops.size p.1 k) = true) (hw : Region.wanted o (yielded ops a.tmps) = true) (hN : N k = some (.val c)) (h1 : ∀ w, Below m W w → (∀ p ∈ gs, p.2 w) → madeAt P (Made.val (m := m) c) o a w)
    (h2 : (Env.mk P md ops m W N).walk Q (k + 1) l fs (a.put o.dst c)) : (Env.mk P md ops m W N).walk Q k (o :: l) fs a :=
  Env.walk_val (E := Env.mk P md ops m W N) c gs hg ha hw hN h1 h2
theorem walk_skip {ops : Array Oper} {Q : Fs → Act → Prop} {k : Nat} {o : Oper} {l : List Oper} {fs : Fs} {a : Act} (hw : Region.wanted o (yielded ops a.tmps) = false)
    (h2 : (Env.mk P md ops m W N).walk Q (k + 1) l fs (a.put o.dst undef)) : (Env.mk P md ops m W N).walk Q k (o :: l) fs a :=
  Env.walk_skip (E := Env.mk P md ops m W N) hw h2
/-- A block of its own, whose content is known. -/
def Made.row (m : Nat) (f : Nat → Value) (r : Obj) : Made m where
  T v := ∃ b, m ≤ b ∧ v = f b
  R v w := ∃ b, m ≤ b ∧ v = f b ∧ b < w.heap.size ∧ bk w b = some r
  mono := fun v w w' hb ⟨b, h1, h2, h3, h4⟩ => ⟨b, h1, h2, Nat.lt_of_lt_of_le h3 hb.size, bk_keep hb h3 h4⟩
  gives := fun w hm => ⟨f w.heap.size, w.alloc r, (Below.refl _ _).alloc (Nat.le_refl _) _, ⟨_, hm, rfl⟩, _, hm, rfl, by simp [World.size_alloc], bk_alloc_at _ _ _ rfl⟩
theorem made_row {E : Env} {fs : Fs} {M : Made E.m} {v : Value} {f : Nat → Value} {r : Obj} (HM : Hid (M = Made.row E.m f r)) (hf : ∀ b b', f b = f b' → b = b') (h : E.At fs M v) :
    ∃ b, E.m ≤ b ∧ v = f b ∧ ∀ w, M.R (f b) w → bk w b = some r := by
  have HM := HM.out
  subst HM
  obtain ⟨⟨b, h1, rfl⟩, _⟩ := h
  refine ⟨b, h1, rfl, fun w hw => ?_⟩
  obtain ⟨b', _, h2, _, h3⟩ := hw
  rw [hf _ _ h2]
  exact h3
theorem row_end {M : Made m} {f : Nat → Value} {r : Obj} (HM : Hid (M = Made.row m f r)) {w w' : World} {b : Nat} (hb : Below w.heap.size w w') (hm : m ≤ b) (h : bk w' b = some r) : madeEnd M w (.returned (f b)) w' := by
  have HM := HM.out
  subst HM
  exact ⟨f b, rfl, hb, ⟨b, hm, rfl⟩, b, hm, rfl, bk_lt h, h⟩
theorem val_end {c : Value} {w w' : World} (hb : Below w.heap.size w w') : madeEnd (Made.val (m := m) c) w (.returned c) w' := ⟨c, rfl, hb, rfl, trivial⟩
/-- What the facts are worth. -/
theorem facts1 {k : Nat} {F : World → Prop} {fs : Fs} (h : ∀ w, fs k w → F w) : ∀ p ∈ [(k, F)], ∀ w, fs p.1 w → p.2 w := fun p hp w hw => by
  have : p = (k, F) := by simpa using hp
  subst this
  exact h w hw
theorem facts0 {fs : Fs} : ∀ p ∈ ([] : List (Nat × (World → Prop))), ∀ w, fs p.1 w → p.2 w := fun p hp => by cases hp
theorem later1 {E : Env} {fs : Fs} {M : Made E.m} {v : Value} (h : E.At fs M v) (k : Nat) : Nonempty (LaterF E.m E.W [(k, M.R v)]) := h.later _ fun p hp w _ hR => by
  have : p = (k, M.R v) := by simpa using hp
  subst this
  exact hR
theorem row1 {k : Nat} {F : World → Prop} {b : Nat} {r : Obj} [Nonempty (LaterF m W [(k, F)])] (h : ∀ w, F w → bk w b = some r) : rowIn [(k, F)] b = some r := rowIn_eq (m := m) (W := W) fun w hw => h w (hw (k, F) (by simp))
theorem made_at {ops : Array Oper} {fs : Fs} {M : Made m} {v : Value} {f : Nat → Value} {r : Obj} (HM : Hid (M = Made.row m f r)) (hf : ∀ b b', f b = f b' → b = b') (k : Nat) (h : (Env.mk P md ops m W N).At fs M v) :
    ∃ b, m ≤ b ∧ v = f b ∧ Nonempty (LaterF m W [(k, M.R (f b))]) ∧ rowIn [(k, M.R (f b))] b = some r ∧ ∀ w, M.R (f b) w → bk w b = some r := by
  obtain ⟨b, h1, rfl, h2⟩ := made_row (E := Env.mk P md ops m W N) HM hf h
  have h3 : Nonempty (LaterF m W [(k, M.R (f b))]) := later1 h k
  exact ⟨b, h1, rfl, h3, row1 (m := m) (W := W) h2, h2⟩
theorem walk_nil {E : Env} {Q : Fs → Act → Prop} {k : Nat} {fs : Fs} {a : Act} (h : Q fs a) : E.walk Q k [] fs a := h
end
end Go.Proofs.Ytfldoihindbdmaa
