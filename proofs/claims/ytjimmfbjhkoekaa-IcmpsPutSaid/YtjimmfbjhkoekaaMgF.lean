import Derived.Test.YtjimmfbjhkoekaaMgA
import Derived.Test.YtjimmfbjhkoekaaMgD
import Derived.Test.YtjimmfbjhkoekaaMgB
/-
  A region that draws its order, whose operations make memory and write into memory that they know: one walk of the lexical order serves every order. What an operation writes, and what a fact rests on, is told by the types of the blocks. Over any program.
-/
namespace Go.Proofs.Ytjimmfbjhkoekaa
open Go.RowKit
/-- Blocks below m stay, and those of the others that are of none of the types D. -/
structure Kept (m : Nat) (D : List TypeId) (w w' : World) : Prop where
  below : Below m w w'
  block : ∀ b, b < w.heap.size → (∀ c t fr, bk w b = some (.cells c t fr) → t ∉ D) → bk w' b = bk w b
section
variable {m : Nat} {D : List TypeId} {w w' w'' : World}
theorem Kept.of_below (h : Below w.heap.size w w') (hm : m ≤ w.heap.size) : Kept m D w w' := ⟨h.mono hm, fun b hb _ => h.block b hb⟩
theorem Kept.refl (m : Nat) (D : List TypeId) (w : World) : Kept m D w w := ⟨Below.refl _ _, fun _ _ _ => rfl⟩
theorem Kept.size (h : Kept m D w w') : w.heap.size ≤ w'.heap.size := h.below.size
theorem Kept.trans (h : Kept m D w w') (k : Kept m D w' w'') : Kept m D w w'' :=
  ⟨h.below.trans k.below, fun b hb ht => by
    have e := h.block b hb ht
    exact (k.block b (Nat.lt_of_lt_of_le hb h.size) fun c t fr hc => ht c t fr (e.symm.trans hc)).trans e⟩
theorem Kept.weak {D' : List TypeId} (h : Kept m D w w') (hs : ∀ t ∈ D, t ∈ D') : Kept m D' w w' := ⟨h.below, fun b hb ht => h.block b hb fun c t fr hc h1 => ht c t fr hc (hs t h1)⟩
theorem Kept.row {b : Nat} {c : Array Value} {t : TypeId} {fr : Nat × Nat} (h : Kept m D w w') (hb : bk w b = some (.cells c t fr)) (ht : t ∉ D) : bk w' b = some (.cells c t fr) :=
  (h.block b (bk_lt hb) fun c' t' fr' hc => by rw [hb] at hc; cases hc; exact ht).trans hb
theorem Kept.setCell {b o : Nat} {c : Array Value} {t : TypeId} {fr : Nat × Nat} (hb : bk w b = some (.cells c t fr)) (hm : m ≤ b) (ht : t ∈ D) (v : Value) : Kept m D w (w.setCell ⟨b, o, none⟩ v) :=
  ⟨(Below.refl _ _).setCell (p := ⟨b, o, none⟩) hm v, fun b' hb' h => bk_setCell_other _ _ _ _ _ (by rintro rfl; exact h _ _ _ hb ht)⟩
theorem Kept.setRow {b : Nat} {c c' : Array Value} {t : TypeId} {fr : Nat × Nat} (hb : bk w b = some (.cells c t fr)) (hm : m ≤ b) (ht : t ∈ D) : Kept m D w (w.setRow b c') :=
  ⟨⟨rfl, rfl, rfl, by simp [World.setRow], fun k hk => bk_setRow_other _ _ _ _ (by omega)⟩, fun b' hb' h => bk_setRow_other _ _ _ _ (by rintro rfl; exact h _ _ _ hb ht)⟩
theorem Kept.grown {row : Option Nat} (h : w.grownBy w' row) (hm : m ≤ w.heap.size) (hr : ∀ g, row = some g → m ≤ g ∧ ∃ c t fr, bk w g = some (.cells c t fr) ∧ t ∈ D) : Kept m D w w' :=
  ⟨(Below.refl _ _).grown h hm fun k hk => (hr k hk).1, fun b hb ht => by
    refine h.block b hb fun e => ?_
    obtain ⟨_, c, t, fr, h1, h2⟩ := hr b e.symm
    exact ht c t fr h1 h2⟩
end
/-- What is told of an operation's value, and of memory behind it; what it writes, and what that fact rests on. -/
structure MadeW (m : Nat) where
  T : Value → Prop
  R : Value → World → Prop
  D : List TypeId
  O : List TypeId
  inh : ∃ v, T v
  mono : ∀ (D : List TypeId) v w w', (∀ t ∈ D, t ∉ O) → Kept m D w w' → R v w → R v w'
def MadeW.val {m : Nat} (c : Value) : MadeW m := ⟨fun v => v = c, fun _ _ => True, [], [], ⟨c, rfl⟩, fun _ _ _ _ _ _ h => h⟩
def madeEndW {m : Nat} (M : MadeW m) (w : World) (e : Ending) (w' : World) : Prop := ∃ v, e = .returned v ∧ Kept m M.D w w' ∧ M.T v ∧ M.R v w'
def madeUponW {m : Nat} (P : Program) (M : MadeW m) (w : World) : Result Next → Prop
  | .ok (.value v) w' => Kept m M.D w w' ∧ M.T v ∧ M.R v w'
  | .ok .skip w' => Kept m M.D w w' ∧ M.T undef ∧ M.R undef w'
  | .ok (.enter f args) w' => w' = w ∧ Calls P f args w (madeEndW M w)
  | _ => False
def madeAtW {m : Nat} (P : Program) (M : MadeW m) (o : Oper) (a : Act) (w : World) : Prop := madeUponW P M w ((execOp a.eval o).run P w)
@[go_sem] theorem madeUponW_enter {P : Program} {m : Nat} {M : MadeW m} {w : World} {f : FuncId} {args : Array Value} : madeUponW P M w (.ok (.enter f args) w) = Calls P f args w (madeEndW M w) := by simp [madeUponW]
@[go_sem] theorem madeUponW_value {P : Program} {m : Nat} {M : MadeW m} {w w' : World} {v : Value} : madeUponW P M w (.ok (.value v) w') = (Kept m M.D w w' ∧ M.T v ∧ M.R v w') := rfl
@[go_sem] theorem madeUponW_skip {P : Program} {m : Nat} {M : MadeW m} {w w' : World} : madeUponW P M w (.ok .skip w') = (Kept m M.D w w' ∧ M.T undef ∧ M.R undef w') := rfl
/-! ### Who waits for whom -/
section
variable (md : Region.Mode) (ops : Array Oper)
def edgesOf (o : Oper) : List Nat := (o.after.toList.filter fun e => Region.binds md e).map (·.on)
def addNew (acc : List Nat) (x : Nat) : List Nat := if acc.contains x then acc else x :: acc
def ancTab : List Oper → List (List Nat) → List (List Nat)
  | [], tab => tab
  | o :: l, tab => ancTab l (tab ++ [((edgesOf md o).flatMap fun j => j :: tab.getD j []).foldl addNew []])
inductive ReachW : Nat → Nat → Prop
  | one {i : Nat} {o : Oper} {e : Edge} : ops[i]? = some o → e ∈ o.after → Region.binds md e = true → ReachW i e.on
  | more {i j : Nat} {o : Oper} {e : Edge} : ops[i]? = some o → e ∈ o.after → Region.binds md e = true → ReachW e.on j → ReachW i j
end
section
variable {md : Region.Mode} {ops : Array Oper}
theorem foldl_addNew {x : Nat} : ∀ (l acc : List Nat), x ∈ l.foldl addNew acc → x ∈ l ∨ x ∈ acc
  | [], acc, h => .inr h
  | y :: l, acc, h => by
    rcases foldl_addNew l _ h with h | h
    · exact .inl (List.mem_cons_of_mem _ h)
    · unfold addNew at h
      split at h
      · exact .inr h
      · rcases List.mem_cons.1 h with rfl | h
        · exact .inl (List.mem_cons_self ..)
        · exact .inr h
theorem ancTab_reach : ∀ (l : List Oper) (tab : List (List Nat)), (∀ j, j < l.length → l[j]? = ops[tab.length + j]?) → (∀ i j, j ∈ tab.getD i [] → ReachW md ops i j) → ∀ i j, j ∈ (ancTab md l tab).getD i [] → ReachW md ops i j
  | [], _, _, h => h
  | o :: l, tab, hl, h => by
    refine ancTab_reach l _ (fun j hj => by have := hl (j + 1) (by simp; omega); simpa [Nat.add_assoc, Nat.add_comm 1 j] using this) fun i j hj => ?_
    rcases Nat.lt_trichotomy i tab.length with hi | hi | hi
    · rw [List.getD_eq_getElem?_getD, List.getElem?_append_left hi, ← List.getD_eq_getElem?_getD] at hj; exact h i j hj
    · subst hi
      rw [List.getD_eq_getElem?_getD, List.getElem?_append_right (Nat.le_refl _), Nat.sub_self, List.getElem?_cons_zero, Option.getD_some] at hj
      have h0 : ops[tab.length]? = some o := by simpa using (hl 0 (by simp)).symm
      rcases foldl_addNew _ _ hj with hj | hj
      · obtain ⟨k, hk, hj⟩ := List.mem_flatMap.1 hj
        unfold edgesOf at hk
        obtain ⟨e, he, rfl⟩ := List.mem_map.1 hk
        obtain ⟨he, hb⟩ := List.mem_filter.1 he
        rcases List.mem_cons.1 hj with rfl | hj
        · exact .one h0 (by simpa using he) hb
        · exact .more h0 (by simpa using he) hb (h _ _ hj)
      · cases hj
    · rw [List.getD_eq_getElem?_getD, List.getElem?_eq_none (by simp; omega)] at hj
      cases hj
/-- What operation i waits for. -/
def ancW (md : Region.Mode) (ops : Array Oper) (j i : Nat) : Bool := ((ancTab md ops.toList []).getD i []).contains j
theorem ancW_reach {j i : Nat} (h : ancW md ops j i = true) : ReachW md ops i j :=
  ancTab_reach ops.toList [] (fun j _ => by simp) (fun i j hj => by simp at hj) i j (by simpa [ancW] using h)
theorem reach_listed {listed : Array Bool} (hc : ∀ j oj, ops[j]? = some oj → listed.getD j false = true → ∀ e ∈ oj.after, Region.binds md e = true → listed.getD e.on false = true) {i j : Nat} (h : ReachW md ops i j)
    (hi : ∀ oi, ops[i]? = some oi → ∀ e ∈ oi.after, Region.binds md e = true → listed.getD e.on false = true) : listed.getD j false = true := by
  induction h with
  | one ho he hb => exact hi _ ho _ he hb
  | more ho he hb _ ih => exact ih fun oi hoi e' he' hb' => hc _ _ hoi (hi _ ho _ he hb) e' he' hb'
theorem reach_lt {i j : Nat} (h : ReachW md ops i j) : i < ops.size := by
  cases h with
  | one ho => exact (Array.getElem?_eq_some_iff.1 ho).1
  | more ho => exact (Array.getElem?_eq_some_iff.1 ho).1
end
/-- Where everything is kept. -/
structure EnvW where
  P : Program
  md : Region.Mode
  ops : Array Oper
  m : Nat
  W : World
  N : Nat → Option (List Value → MadeW m)
  X : Nat → List Tmp
  Dt : Nat → List TypeId
  Ot : Nat → List TypeId
  U : Nat → List Nat
section
variable {P : Program} {ops : Array Oper} {md : Region.Mode} {m : Nat} {W : World}
def EnvW.xs (E : EnvW) (i : Nat) (a : Act) : List Value := (E.X i).map fun t => a.tmps.getD t undef
/-- What an operation is told to yield: it may hang on slots that the operation looks at. -/
def EnvW.pk (E : EnvW) (i : Nat) (want : Bool) (c : Value) (a : Act) : MadeW E.m :=
  if want then match E.N i with
    | some f => f (E.xs i a)
    | none => .val c
  else .val undef
def EnvW.okX (E : EnvW) : Bool := (List.range E.ops.size).all fun i => match E.ops[i]? with
  | none => true
  | some o => (E.X i).all fun t => (o.looksAt E.ops).contains t
def EnvW.want (E : EnvW) (o : Oper) (a : Act) : Bool := Region.wanted o (yielded E.ops a.tmps)
def EnvW.anc (E : EnvW) (j i : Nat) : Bool := ancW E.md E.ops j i
/-- Operation k may write what fact j rests on. -/
def EnvW.conf (E : EnvW) (k j : Nat) : Bool := (E.Dt k).any fun t => (E.Ot j).contains t
def EnvW.safe (E : EnvW) (j i k : Nat) : Bool := !E.conf k j || (E.anc k j || k == j || (E.anc i k || k == i))
/-- Whatever operation i uses is there when it comes, and stays till then. -/
def EnvW.okU (E : EnvW) : Bool := (List.range E.ops.size).all fun i => (E.U i).all fun j => (decide (E.ops.size ≤ j) || E.anc j i) && (List.range E.ops.size).all fun k => E.safe j i k
/-- Fact j stays to the end. -/
def EnvW.fin (E : EnvW) (j : Nat) : Bool := (List.range E.ops.size).all fun k => !E.conf k j || (E.anc k j || k == j)
def EnvW.alive (E : EnvW) (listed : Array Bool) (j : Nat) : Prop := ∀ k, listed.getD k false = true → E.conf k j = true → E.anc k j = true ∨ k = j
structure EnvW.Told (E : EnvW) : Prop where
  dt : ∀ i f, E.N i = some f → ∀ x, (f x).D = E.Dt i
  ot : ∀ i f, E.N i = some f → ∀ x, (f x).O = E.Ot i
def EnvW.Y (E : EnvW) (i : Nat) (o : Oper) (c : Value) (fs : Fs) (a : Act) : Prop :=
  E.want o a = true → ((E.N i).isSome = true ∨ plainOp o.op = true) ∧ (E.N i = none → ∃ w, Below E.m E.W w ∧ ∀ j ∈ E.U i, fs j w) ∧
    ∀ w, Below E.m E.W w → (∀ j ∈ E.U i, fs j w) → madeAtW E.P (E.pk i true c a) o a w
def EnvW.step (E : EnvW) (i : Nat) (o : Oper) (K : Fs → Act → Prop) (fs : Fs) (a : Act) : Prop :=
  ∃ c, E.Y i o c fs a ∧ ∀ v, (E.pk i (E.want o a) c a).T v → K (fs.add i ((E.pk i (E.want o a) c a).R v)) (a.put o.dst v)
def EnvW.op (E : EnvW) (i : Nat) (K : Fs → Act → Prop) (fs : Fs) (a : Act) : Prop :=
  match E.ops[i]? with
  | none => K fs a
  | some o => E.step i o K fs a
def EnvW.head (E : EnvW) (n : Nat) (L : Array Bool → Fs → Act → Prop) : Nat → Array Bool → Fs → Act → Prop
  | 0, listed, fs, a => L listed fs a
  | f + 1, listed, fs, a => Region.ready E.md E.ops listed ≠ [] ∧ ∀ i ∈ Region.ready E.md E.ops listed, i < n ∧ E.op i (E.head n L f (listed.setIfInBounds i true)) fs a
def EnvW.Mono (E : EnvW) (fs : Fs) : Prop := ∀ j (D : List TypeId) w w', (∀ t ∈ D, t ∉ E.Ot j) → Kept E.m D w w' → fs j w → fs j w'
/-- Nothing is told of what has not come. -/
def EnvW.Free (E : EnvW) (listed : Array Bool) (fs : Fs) : Prop := ∀ j, j < E.ops.size → listed.getD j false = false → ∀ w, fs j w
theorem EnvW.pk_spec {E : EnvW} (hE : E.Told) (i : Nat) (want : Bool) (c : Value) (a : Act) : (∀ t ∈ (E.pk i want c a).D, t ∈ E.Dt i) ∧ (∀ (D : List TypeId) v w w', (∀ t ∈ D, t ∉ E.Ot i) → Kept E.m D w w' → (E.pk i want c a).R v w → (E.pk i want c a).R v w') := by
  unfold EnvW.pk
  split
  · split
    · rename_i f hM
      rw [← hE.dt i f hM (E.xs i a), ← hE.ot i f hM (E.xs i a)]
      exact ⟨fun t h => h, (f (E.xs i a)).mono⟩
    · exact ⟨fun t h => (by cases h), fun _ _ _ _ _ _ h => h⟩
  · exact ⟨fun t h => (by cases h), fun _ _ _ _ _ _ h => h⟩
theorem tmps_put {a : Act} {dst : Option Tmp} {v : Value} {t : Tmp} (h : ∀ d, dst = some d → d ≠ t) : (a.put dst v).tmps.getD t undef = a.tmps.getD t undef := by
  cases dst with
  | none => rfl
  | some d =>
    have := h d rfl
    show (a.tmps.setIfInBounds d v).getD t undef = _
    rw [Array.getD_eq_getD_getElem?, Array.getD_eq_getD_getElem?, Array.getElem?_setIfInBounds_ne this]
theorem EnvW.xs_put {E : EnvW} (hX : E.okX = true) {i : Nat} {o : Oper} (ho : E.ops[i]? = some o) {a : Act} {dst : Option Tmp} {v : Value} (h : ∀ d, dst = some d → d ∉ o.looksAt E.ops) : E.xs i (a.put dst v) = E.xs i a := by
  have h1 := List.all_eq_true.1 hX i (List.mem_range.2 (Array.getElem?_eq_some_iff.1 ho).1)
  rw [ho] at h1
  refine List.map_congr_left fun t ht => tmps_put fun d hd e => ?_
  have h2 := List.all_eq_true.1 h1 t ht
  subst e
  exact h d hd (by simpa using h2)
theorem EnvW.pk_put {E : EnvW} (hX : E.okX = true) {i : Nat} {o : Oper} (ho : E.ops[i]? = some o) {a : Act} {dst : Option Tmp} {v : Value} (h : ∀ d, dst = some d → d ∉ o.looksAt E.ops) (want : Bool) (c : Value) : E.pk i want c (a.put dst v) = E.pk i want c a := by
  unfold EnvW.pk
  rw [EnvW.xs_put hX ho h]
theorem EnvW.Mono.add {E : EnvW} (hE : E.Told) {fs : Fs} (h : E.Mono fs) (i : Nat) (want : Bool) (c v : Value) (a : Act) : E.Mono (fs.add i ((E.pk i want c a).R v)) := fun j D w w' hd hk hf =>
  ⟨fun e => by subst e; exact (EnvW.pk_spec hE j want c a).2 D v w w' hd hk (hf.1 rfl), h j D w w' hd hk hf.2⟩
theorem EnvW.Free.add {E : EnvW} {listed : Array Bool} {fs : Fs} (h : E.Free listed fs) {i : Nat} (hi : i < listed.size) (F : World → Prop) : E.Free (listed.setIfInBounds i true) (fs.add i F) := fun j hj hl w => by
  have hne : i ≠ j := by rintro rfl; simp [hi] at hl
  rw [getD_set_ne false hne] at hl
  exact ⟨fun e => absurd e.symm hne, h j hj hl w⟩
theorem EnvW.use_alive {E : EnvW} {n i j : Nat} {listed : Array Bool} (hU : E.okU = true) (inv : HeadInv E.md E.ops n listed) (hi : i ∈ Region.ready E.md E.ops listed) (hj : j ∈ E.U i) : E.alive listed j := fun k hk hc => by
  obtain ⟨hun, oi, hoi, _⟩ := mem_ready.1 hi
  have hi' := (Array.getElem?_eq_some_iff.1 hoi).1
  have hks : k < E.ops.size := by
    rcases Nat.lt_or_ge k listed.size with h | h
    · rw [← inv.size]; exact h
    · simp [Array.getElem?_eq_none h] at hk
  have h1 := List.all_eq_true.1 hU i (List.mem_range.2 hi')
  have h2 := List.all_eq_true.1 h1 j hj
  simp only [Bool.and_eq_true] at h2
  have h3 := List.all_eq_true.1 h2.2 k (List.mem_range.2 hks)
  unfold EnvW.safe at h3
  simp only [hc, Bool.not_true, Bool.false_or, Bool.or_eq_true, beq_iff_eq] at h3
  rcases h3 with (h3 | h3) | h3 | h3
  · exact .inl h3
  · exact .inr h3
  · obtain ⟨ok, hok⟩ : ∃ ok, E.ops[k]? = some ok := ⟨_, Array.getElem?_eq_getElem hks⟩
    have := reach_listed inv.closed (ancW_reach h3) fun o ho => inv.closed k o ho hk
    rw [getD_both hun] at this
    cases this
  · subst h3
    rw [getD_both hun] at hk
    cases hk
/-- It is a wpAny. -/
theorem EnvW.wp_op {E : EnvW} {Q' : Exit → Act → World → Prop} {n i : Nat} {K : Fs → Act → Prop} {K' : Act → World → Prop} {fs : Fs} {a : Act} {w : World} {listed : Array Bool} (hE : E.Told) (hU : E.okU = true) (inv : HeadInv E.md E.ops n listed)
    (hi : i ∈ Region.ready E.md E.ops listed) (_hm : E.m ≤ E.W.heap.size) (hM : E.Mono fs) (hT : E.Free listed fs) (hw : Below E.m E.W w) (hf : ∀ j, E.alive listed j → fs j w)
    (hK : ∀ fs a w, E.Mono fs → E.Free (listed.setIfInBounds i true) fs → Below E.m E.W w → (∀ j, E.alive (listed.setIfInBounds i true) j → fs j w) → K fs a → K' a w) (h : E.op i K fs a) : wpOp E.P E.ops Q' i K' a w := by
  obtain ⟨hun, oi, hoi, hall⟩ := mem_ready.1 hi
  have hi' : i < listed.size := by rw [inv.size]; exact (Array.getElem?_eq_some_iff.1 hoi).1
  have hun' := getD_both hun
  -- what is known behind the operation
  have key : ∀ w', Kept E.m (E.Dt i) w w' → ∀ j, E.alive (listed.setIfInBounds i true) j → fs j w' := fun w' hk j ha => by
    by_cases hc : E.conf i j = true
    · have h1 := ha i (by simp [hi']) hc
      have hlt : j < E.ops.size := by
        rcases h1 with h1 | h1
        · exact reach_lt (ancW_reach h1)
        · rw [← h1, ← inv.size]; exact hi'
      refine hT j hlt ?_ w'
      rcases h1 with h1 | h1
      · by_cases hl : listed.getD j false = true
        · have := reach_listed inv.closed (ancW_reach h1) fun o ho => inv.closed j o ho hl
          rw [hun'] at this
          cases this
        · simpa using hl
      · rw [← h1]; exact hun'
    · refine hM j (E.Dt i) w w' (fun t ht ht' => hc ?_) hk (hf j fun k hk' hc' => ha k (getD_set_true hk') hc')
      exact List.any_eq_true.2 ⟨t, ht, by simpa using ht'⟩
  unfold EnvW.op at h
  unfold wpOp
  rw [hoi] at h ⊢
  simp only at h ⊢
  obtain ⟨c, hy, hn⟩ := h
  have fin : ∀ want v w', Kept E.m (E.pk i want c a).D w w' → (E.pk i want c a).T v → (E.pk i want c a).R v w' → (∀ v, (E.pk i want c a).T v → K (fs.add i ((E.pk i want c a).R v)) (a.put oi.dst v)) → K' (a.put oi.dst v) w' := fun want v w' hb hT' hR hn => by
    have hk := hb.weak (EnvW.pk_spec hE i want c a).1
    refine hK _ _ _ (hM.add hE i want c v a) (hT.add hi' _) (hw.trans hb.below) (fun j hj => ⟨fun _ => hR, key w' hk j hj⟩) (hn v hT')
  split
  · rename_i hwt
    have hwt' : E.want oi a = true := hwt
    refine .inl ?_
    have h1 := (hy hwt').2.2 w hw fun j hj => hf j (use_alive hU inv hi hj)
    simp only [hwt'] at hn
    have fin' := fun v w' hb hT hR => fin true v w' hb hT hR hn
    clear fin hn
    generalize E.pk i true c a = M at h1 fin'
    unfold madeAtW at h1
    unfold Oper.wp
    generalize (execOp a.eval oi).run E.P w = r at *
    cases r with
    | ok nx w' =>
      cases nx <;> simp only [madeUponW] at h1 <;> simp only [Oper.upon]
      case value v => exact fin' _ _ h1.1 h1.2.1 h1.2.2
      case skip => exact fin' _ _ h1.1 h1.2.1 h1.2.2
      case enter f args =>
        obtain ⟨rfl, hc⟩ := h1
        exact hc.mono fun e w'' ⟨v, he, hb, hT, hR⟩ => by subst he; exact fin' _ _ hb hT hR
    | halt x w' => simp only [madeUponW] at h1
  · rename_i hwt
    have hwt' : E.want oi a = false := by simpa [EnvW.want] using hwt
    simp only [hwt'] at hn
    exact fin false undef w (Kept.refl _ _ _) rfl trivial hn
theorem EnvW.head_any {E : EnvW} {Q' : Exit → Act → World → Prop} {n g : Nat} {L : Array Bool → Fs → Act → Prop} (hE : E.Told) (hU : E.okU = true) (hm : E.m ≤ E.W.heap.size)
    (hL : ∀ listed fs a w, HeadInv E.md E.ops n listed → Below E.m E.W w → (∀ j, E.alive listed j → fs j w) → L listed fs a → wpAny E.P E.md E.ops Q' g listed a w) :
    ∀ (f : Nat) (listed : Array Bool) (fs : Fs) (a : Act) (w : World), HeadInv E.md E.ops n listed → E.Mono fs → E.Free listed fs → Below E.m E.W w → (∀ j, E.alive listed j → fs j w) → E.head n L f listed fs a → wpAny E.P E.md E.ops Q' (f + g) listed a w
  | 0, listed, fs, a, w, inv, _, _, hw, hf, h => by rw [Nat.zero_add]; exact hL _ _ _ _ inv hw hf h
  | f + 1, listed, fs, a, w, inv, hM, hT, hw, hf, h => by
    rw [show f + 1 + g = (f + g) + 1 by omega]
    exact ⟨fun h0 => absurd h0 h.1, fun i hi => EnvW.wp_op hE hU inv hi hm hM hT hw hf (fun fs' a' w' hM' hT' hw' hf' h' => EnvW.head_any hE hU hm hL f _ fs' a' w' (inv.set hi (h.2 i hi).1) hM' hT' hw' hf' h') (h.2 i hi).2⟩
theorem madeAtW_put {o : Oper} {M : MadeW m} {a : Act} {dst : Option Tmp} {v : Value} {w : World} (hs : ∀ cs b, o.op ≠ .select cs b) (h : ∀ d, dst = some d → d ∉ o.looksAt ops) : madeAtW P M o (a.put dst v) w = madeAtW P M o a w := by
  unfold madeAtW
  rw [execOp_put o hs a dst v h]
theorem plainW_uniq {o : Oper} {a : Act} {w : World} {c c' : Value} (hp : plainOp o.op = true) (h : madeAtW P (.val (m := m) c) o a w) (h' : madeAtW P (.val (m := m) c') o a w) : c = c' := by
  unfold madeAtW at *
  generalize hr : (execOp a.eval o).run P w = r at h h'
  cases r with
  | ok n w' =>
    cases n <;> simp only [madeUponW, MadeW.val] at h h'
    case value v => exact h.2.1.symm.trans h'.2.1
    case skip => exact h.2.1.symm.trans h'.2.1
    case enter f args => exact absurd hr (plain_enter hp)
  | halt x w' => simp only [madeUponW] at h
theorem EnvW.pk_inh {E : EnvW} (i : Nat) (want : Bool) (c : Value) (a : Act) : ∃ v, (E.pk i want c a).T v := by
  unfold EnvW.pk
  split
  · split
    · rename_i f _; exact (f _).inh
    · exact ⟨c, rfl⟩
  · exact ⟨undef, rfl⟩
theorem EnvW.pk_uniq {E : EnvW} {i : Nat} {c c' : Value} {want : Bool} {a : Act} (h : want = true → E.N i = none → c = c') : E.pk i want c a = E.pk i want c' a := by
  unfold EnvW.pk
  cases want
  · rfl
  · simp only [if_true]
    cases hN : E.N i with
    | some M => rfl
    | none => rw [h rfl hN]
theorem EnvW.head_first {E : EnvW} {n i : Nat} {oi : Oper} {c : Value} {L : Array Bool → Fs → Act → Prop} (hU : E.okU = true) (hX : E.okX = true) (hi : E.ops[i]? = some oi) (hsel : ∀ (j : Nat) (o : Oper) cs b, E.ops[j]? = some o → o.op ≠ .select cs b)
    (hlt : ∀ listed, HeadInv E.md E.ops n listed → listed.getD i true = false → ∀ j ∈ Region.ready E.md E.ops listed, j < n)
    (hdone : ∀ listed fs a, L listed fs a → ∀ j ∈ Region.ready E.md E.ops listed, n ≤ j) :
    ∀ (f : Nat) (listed : Array Bool) (fs : Fs) (a : Act), HeadInv E.md E.ops n listed →
      (∀ j oj, E.ops[j]? = some oj → j ≠ i → listed.getD j true = false → (∀ e ∈ oj.after, Region.binds E.md e = true → e.on ≠ i) → oi.apart E.ops oj = true) →
      i ∈ Region.ready E.md E.ops listed → E.Y i oi c fs a →
      (∀ v, (E.pk i (E.want oi a) c a).T v → E.head n L f (listed.setIfInBounds i true) (fs.add i ((E.pk i (E.want oi a) c a).R v)) (a.put oi.dst v)) →
      E.head n L (f + 1) listed fs a := by
  intro f
  induction f with
  | zero =>
    intro listed fs a inv _ hr hy H
    have hun := (mem_ready.1 hr).1
    refine ⟨fun h => (by rw [h] at hr; cases hr), fun j hj => ?_⟩
    have hjn : j < n := hlt listed inv hun j hj
    refine ⟨hjn, ?_⟩
    by_cases hji : j = i
    · subst hji; unfold EnvW.op; simp only [hi]; exact ⟨c, hy, H⟩
    · obtain ⟨v, hv⟩ := E.pk_inh i (E.want oi a) c a
      have := hdone _ _ _ (H v hv) j (ready_mono hj hji)
      omega
  | succ f ih =>
    intro listed fs a inv hfree hr hy H
    have hun := (mem_ready.1 hr).1
    refine ⟨fun h => (by rw [h] at hr; cases hr), fun j hj => ?_⟩
    have hjn : j < n := hlt listed inv hun j hj
    refine ⟨hjn, ?_⟩
    by_cases hji : j = i
    · subst hji; unfold EnvW.op; simp only [hi]; exact ⟨c, hy, H⟩
    obtain ⟨hjun, oj, hoj, hall⟩ := mem_ready.1 hj
    have hnot : ∀ e ∈ oj.after, Region.binds E.md e = true → e.on ≠ i := fun e he hb heq => by
      have h1 := hall e he hb
      rw [heq, getD_both hun] at h1
      cases h1
    have hisz := (Array.getElem?_eq_some_iff.1 hi).1
    -- what j uses is not i's
    have huse : ∀ k ∈ E.U j, k ≠ i := fun k hk heq => by
      have h1 := List.all_eq_true.1 hU j (List.mem_range.2 (Array.getElem?_eq_some_iff.1 hoj).1)
      have h2 := List.all_eq_true.1 h1 k hk
      simp only [Bool.and_eq_true, Bool.or_eq_true, decide_eq_true_eq] at h2
      rcases h2.1 with h2 | h2
      · omega
      · have := reach_listed inv.closed (ancW_reach h2) fun o ho e he hb => by
          have : o = oj := Option.some.inj (ho.symm.trans hoj)
          subst this
          exact hall e he hb
        rw [heq, getD_both hun] at this
        cases this
    have hap := hfree j oj hoj hji hjun hnot
    obtain ⟨h1, h2, h3⟩ := Oper.apart_spec hap
    have hsi := fun cs b => hsel i oi cs b hi
    have hsj := fun cs b => hsel j oj cs b hoj
    have hwj : ∀ v, E.want oj (a.put oi.dst v) = E.want oj a := fun v => wanted_put oj a oi.dst v h1
    have hwi : ∀ u, E.want oi (a.put oj.dst u) = E.want oi a := fun u => wanted_put oi a oj.dst u h3
    have hstep : ∀ v, (E.pk i (E.want oi a) c a).T v → ∃ cj, E.Y j oj cj fs a ∧ ∀ u, (E.pk j (E.want oj a) cj a).T u →
        E.head n L f ((listed.setIfInBounds i true).setIfInBounds j true) ((fs.add i ((E.pk i (E.want oi a) c a).R v)).add j ((E.pk j (E.want oj a) cj a).R u)) ((a.put oi.dst v).put oj.dst u) := fun v hv => by
      have h4 := ((H v hv).2 j (ready_mono hj hji)).2
      unfold EnvW.op at h4
      simp only [hoj] at h4
      obtain ⟨cj, hyj, hnj⟩ := h4
      rw [hwj v] at hnj
      simp only [EnvW.pk_put hX hoj h1] at hnj
      refine ⟨cj, fun hwt => ?_, hnj⟩
      obtain ⟨h5, h6, h7⟩ := hyj (by rw [hwj]; exact hwt)
      refine ⟨h5, fun hN => ?_, fun w hw hf => ?_⟩
      · obtain ⟨w, hw, hf⟩ := h6 hN
        exact ⟨w, hw, fun k hk => (hf k hk).2⟩
      · have h8 := h7 w hw fun k hk => ⟨fun e => absurd e (huse k hk), hf k hk⟩
        rwa [madeAtW_put hsj h1, EnvW.pk_put hX hoj h1] at h8
    obtain ⟨v0, hv0⟩ := E.pk_inh i (E.want oi a) c a
    obtain ⟨cj, hyj, _⟩ := hstep v0 hv0
    have huniq : ∀ cj', E.Y j oj cj' fs a → E.pk j (E.want oj a) cj' a = E.pk j (E.want oj a) cj a := fun cj' hyj' => EnvW.pk_uniq fun hwt hN => by
      obtain ⟨g1, g2, g3⟩ := hyj hwt
      obtain ⟨_, _, g4⟩ := hyj' hwt
      obtain ⟨w, hw, hf⟩ := g2 hN
      have g5 := g3 w hw hf
      have g6 := g4 w hw hf
      simp only [EnvW.pk, hN, if_true] at g5 g6
      rcases g1 with g1 | g1
      · rw [hN] at g1; cases g1
      · exact plainW_uniq g1 g6 g5
    unfold EnvW.op
    simp only [hoj]
    refine ⟨cj, hyj, fun u hu => ?_⟩
    refine ih (listed.setIfInBounds j true) (fs.add j _) (a.put oj.dst u) (inv.set hj hjn) (fun k ok hk hki hun hno => ?_) (ready_mono hr (Ne.symm hji)) (fun hwt => ?_) (fun v hv => ?_)
    · refine hfree k ok hk hki ?_ hno
      by_cases hjk : j = k
      · subst hjk; exact hjun
      · rw [getD_set_ne true hjk] at hun; exact hun
    · rw [hwi] at hwt
      obtain ⟨g1, g2, g3⟩ := hy hwt
      have huse' : ∀ k ∈ E.U i, k ≠ j := fun k hk heq => by
        have h1 := List.all_eq_true.1 hU i (List.mem_range.2 hisz)
        have h2 := List.all_eq_true.1 h1 k hk
        simp only [Bool.and_eq_true, Bool.or_eq_true, decide_eq_true_eq] at h2
        rcases h2.1 with h2 | h2
        · have := (Array.getElem?_eq_some_iff.1 hoj).1; omega
        · have := reach_listed inv.closed (ancW_reach h2) fun o ho e he hb => by
            obtain ⟨_, o', ho', hall'⟩ := mem_ready.1 hr
            have : o = o' := Option.some.inj (ho.symm.trans ho')
            subst this
            exact hall' e he hb
          rw [heq, getD_both hjun] at this
          cases this
      refine ⟨g1, fun hN => ?_, fun w hw hf => ?_⟩
      · obtain ⟨w, hw, hf⟩ := g2 hN
        exact ⟨w, hw, fun k hk => ⟨fun e => absurd e (huse' k hk), hf k hk⟩⟩
      · rw [madeAtW_put hsi h3, EnvW.pk_put hX hi h3]
        exact g3 w hw fun k hk => (hf k hk).2
    · rw [hwi, EnvW.pk_put hX hi h3] at hv ⊢
      obtain ⟨cj', hyj', H'⟩ := hstep v hv
      rw [huniq cj' hyj'] at H'
      have := H' u hu
      rw [Array.setIfInBounds_comm _ _ hji, Fs.add_comm, ← Act.put_comm a v u h2]
      exact this
/-- The lexical walk. -/
def EnvW.walk (E : EnvW) (Q : Fs → Act → Prop) : Nat → List Oper → Fs → Act → Prop
  | _, [], fs, a => Q fs a
  | k, o :: l, fs, a => E.step k o (E.walk Q (k + 1) l) fs a
theorem EnvW.head_lex {E : EnvW} {n g : Nat} {Lq : Fs → Act → Prop} (hU : E.okU = true) (hX : E.okX = true) (hsel : Region.noSelect E.ops = true) (hlt : ∀ listed, HeadInv E.md E.ops n listed → ∀ i, i < n → listed.getD i true = false → ∀ j ∈ Region.ready E.md E.ops listed, j < n) :
    ∀ (l : List Oper) (k : Nat) (listed : Array Bool) (fs : Fs) (a : Act), (∀ j, j < l.length → l[j]? = E.ops[k + j]?) → k + l.length = n → HeadInv E.md E.ops n listed →
    Region.lexHead E.md E.ops g l.length k listed = true → E.walk Lq k l fs a →
    E.head n (fun listed' fs' a' => Region.seqB E.md E.ops g n listed' = true ∧ Lq fs' a') l.length listed fs a
  | [], k, listed, fs, a, _, hk, _, hB, h => by
    have : k = n := by simpa using hk
    subst this
    exact ⟨by simpa [Region.lexHead] using hB, h⟩
  | o :: l, k, listed, fs, a, hl, hk, inv, hB, h => by
    have h0 : E.ops[k]? = some o := by simpa using (hl 0 (by simp)).symm
    simp only [List.length_cons, Region.lexHead, Bool.and_eq_true] at hB
    obtain ⟨⟨hr, hf⟩, hB'⟩ := hB
    have hkn : k < n := by simp only [List.length_cons] at hk; omega
    have hr' : k ∈ Region.ready E.md E.ops listed := by simpa using hr
    obtain ⟨c, hy, hK⟩ := h
    exact EnvW.head_first hU hX h0 (Region.noSelect_spec hsel) (fun listed inv h => hlt listed inv k hkn h) (fun listed' fs' a' hL => seqB_ready hL.1) l.length listed fs a inv (Region.free_spec h0 hf) hr' hy
      fun v hv => EnvW.head_lex hU hX hsel hlt l (k + 1) _ _ _ (fun j hj => by have := hl (j + 1) (by simp; omega); simpa [Nat.add_assoc, Nat.add_comm 1 j] using this) (by simp only [List.length_cons] at hk; omega) (inv.set hr' hkn) hB' (hK v hv)
/-- What is known ahead of the region, beyond the blocks below m: facts with numbers behind the operations'. -/
structure EnvW.Ini (E : EnvW) (fs : Fs) : Prop where
  mono : E.Mono fs
  free : ∀ j, j < E.ops.size → ∀ w, fs j w
  now : ∀ j, fs j E.W
theorem EnvW.Ini.nil {E : EnvW} : E.Ini Fs.nil := ⟨fun _ _ _ _ _ _ h => h, fun _ _ _ => trivial, fun _ => trivial⟩
theorem EnvW.fin_alive {E : EnvW} {listed : Array Bool} {j : Nat} (hs : listed.size = E.ops.size) (h : E.fin j = true) : E.alive listed j := fun k hk hc => by
  have hks : k < E.ops.size := by
    rcases Nat.lt_or_ge k listed.size with h | h
    · rw [← hs]; exact h
    · simp [Array.getElem?_eq_none h] at hk
  have := List.all_eq_true.1 h k (List.mem_range.2 hks)
  simpa [hc] using this
end
section
variable {P : Program}
/-- A region that draws its order: walked once. -/
theorem wp_region_w {id : Nat} {Q : Exit → Act → World → Prop} {a : Act} {w : World} {l : List Oper} (m : Nat) (N : Nat → Option (List Value → MadeW m)) (X : Nat → List Tmp) (Dt Ot : Nat → List TypeId) (U : Nat → List Nat) (fs : Fs) (hmw : m ≤ w.heap.size) (hm : P.follows .mixedOrders = true)
    (hB : lexMadeB l.toArray = true) (hU : (EnvW.mk P .any l.toArray m w (fun _ => none) X Dt Ot U).okU = true) (hX : (EnvW.mk P .any l.toArray m w (fun _ => none) X Dt Ot U).okX = true) (hE : (EnvW.mk P .any l.toArray m w N X Dt Ot U).Told) (hI : (EnvW.mk P .any l.toArray m w N X Dt Ot U).Ini fs)
    (h : (EnvW.mk P .any l.toArray m w N X Dt Ot U).walk (fun fs a' => ∀ w', Below m w w' → (∀ j, (EnvW.mk P .any l.toArray m w (fun _ => none) X Dt Ot U).fin j = true → fs j w') → Q .normal a' w') 0 l fs a) : (Code.region id l.toArray true).wp P Q a w := by
  simp only [lexMadeB, Bool.and_eq_true] at hB
  have hU' : (EnvW.mk P .any l.toArray m w N X Dt Ot U).okU = true := hU
  have hX' : (EnvW.mk P .any l.toArray m w N X Dt Ot U).okX = true := hX
  have H := EnvW.head_lex (E := ⟨P, .any, l.toArray, m, w, N, X, Dt, Ot, U⟩) (n := l.toArray.size) (g := 0) hU' hX' hB.1 (fun listed _ i _ _ j hj => by
    obtain ⟨_, o, ho, _⟩ := mem_ready.1 hj
    exact (Array.getElem?_eq_some_iff.1 ho).1) l 0 _ fs a (fun j hj => by simp) (by simp) (inv0 _) (by simpa using hB.2) h
  refine wp_region_any hm ?_
  have hd : Kept m [] w w.drew := Kept.of_below (Below.refl _ _).drew hmw
  have := EnvW.head_any (E := ⟨P, .any, l.toArray, m, w, N, X, Dt, Ot, U⟩) (Q' := Q) (g := 0) (n := l.toArray.size) hE hU' hmw
    (fun listed fs a' w' inv hw' hf hL => ⟨by simpa [Region.seqB] using hL.1, hL.2 w' hw' fun j hj => hf j (EnvW.fin_alive inv.size hj)⟩) _ _ fs _ { w with drawn := w.drawn + 1 } (inv0 _) hI.mono (fun j hj _ w => hI.free j hj w) (Below.refl _ _).drew
    (fun j _ => hI.mono j [] w w.drew (fun t ht => by cases ht) hd (hI.now j)) H
  simpa using this
/-- .. and behind them operations in one forced order. -/
theorem wp_region_w_tail {id : Nat} {Q : Exit → Act → World → Prop} {a : Act} {w : World} {l : List Oper} (m n : Nat) (N : Nat → Option (List Value → MadeW m)) (X : Nat → List Tmp) (Dt Ot : Nat → List TypeId) (U : Nat → List Nat) (fs : Fs) (hmw : m ≤ w.heap.size) (hm : P.follows .mixedOrders = true)
    (hB : Region.lexTailB .any l.toArray n = true) (hU : (EnvW.mk P .any l.toArray m w (fun _ => none) X Dt Ot U).okU = true) (hX : (EnvW.mk P .any l.toArray m w (fun _ => none) X Dt Ot U).okX = true) (hE : (EnvW.mk P .any l.toArray m w N X Dt Ot U).Told) (hI : (EnvW.mk P .any l.toArray m w N X Dt Ot U).Ini fs)
    (h : (EnvW.mk P .any l.toArray m w N X Dt Ot U).walk (fun fs a' => ∀ w', Below m w w' → (∀ j, (EnvW.mk P .any l.toArray m w (fun _ => none) X Dt Ot U).fin j = true → fs j w') → wpList P l.toArray Q (l.drop n) a' w') 0 (l.take n) fs a) : (Code.region id l.toArray true).wp P Q a w := by
  simp only [Region.lexTailB, Bool.and_eq_true, decide_eq_true_eq] at hB
  obtain ⟨⟨⟨⟨hsel, hn⟩, hs⟩, hc⟩, hlex⟩ := hB
  have hn' : n < l.length := by simpa using hn
  have htl : (l.take n).length = n := by simp; omega
  have hdl : (l.drop n).length = l.toArray.size - n := by simp
  have hU' : (EnvW.mk P .any l.toArray m w N X Dt Ot U).okU = true := hU
  have hX' : (EnvW.mk P .any l.toArray m w N X Dt Ot U).okX = true := hX
  have H := EnvW.head_lex (E := ⟨P, .any, l.toArray, m, w, N, X, Dt, Ot, U⟩) (n := n) (g := l.toArray.size - n) hU' hX' hsel (fun listed inv i hin hun j hj => by
      rcases Nat.lt_or_ge j n with h | h
      · exact h
      · exact absurd hj (tail_waits hs hc hn inv _ i rfl hin hun j h)) (l.take n) 0 _ fs a (fun j hj => by
    have hj' : j < n := by rw [htl] at hj; exact hj
    simp [hj']) (by simpa using htl) (inv0 _) (by rw [htl]; exact hlex) h
  refine wp_region_any hm ?_
  have hd : Kept m [] w w.drew := Kept.of_below (Below.refl _ _).drew hmw
  have := EnvW.head_any (E := ⟨P, .any, l.toArray, m, w, N, X, Dt, Ot, U⟩) (Q' := Q) (g := l.toArray.size - n) hE hU' hmw (fun listed fs a' w' inv hw' hf hL => by
    have := wpAny_of_seq (md := .any) (Q' := Q) (l.drop n) n listed a' w' (fun j => by simp [List.getElem?_drop]) (by rw [hdl]; exact hL.1) (hL.2 w' hw' fun j hj => hf j (EnvW.fin_alive inv.size hj))
    rwa [hdl] at this) _ _ fs _ { w with drawn := w.drawn + 1 } (inv0 _) hI.mono (fun j hj _ w => hI.free j hj w) (Below.refl _ _).drew (fun j _ => hI.mono j [] w w.drew (fun t ht => by cases ht) hd (hI.now j)) H
  rw [htl, show n + (l.toArray.size - n) = l.toArray.size by omega] at this
  exact this
end
end Go.Proofs.Ytjimmfbjhkoekaa
/- A region that draws its order and writes: the steps of its walk. Over any program. -/
namespace Go.Proofs.Ytjimmfbjhkoekaa
open Go.RowKit
section
variable {P : Program} {ops : Array Oper} {md : Region.Mode} {m : Nat} {W : World} {N : Nat → Option (List Value → MadeW m)} {X : Nat → List Tmp} {Dt Ot : Nat → List TypeId} {U : Nat → List Nat}
theorem walkW_skip {Q : Fs → Act → Prop} {k : Nat} {o : Oper} {l : List Oper} {fs : Fs} {a : Act} (hw : Region.wanted o (yielded ops a.tmps) = false)
    (h : (EnvW.mk P md ops m W N X Dt Ot U).walk Q (k + 1) l fs (a.put o.dst undef)) : (EnvW.mk P md ops m W N X Dt Ot U).walk Q k (o :: l) fs a := by
  have hw' : (EnvW.mk P md ops m W N X Dt Ot U).want o a = false := hw
  refine ⟨undef, fun h1 => (by rw [hw'] at h1; cases h1), fun v hv => ?_⟩
  simp only [hw', EnvW.pk, Bool.false_eq_true, if_false] at hv ⊢
  have : v = undef := hv
  subst this
  have h2 : (MadeW.val (m := m) undef).R undef = fun _ => True := rfl
  rw [h2, Fs.add_true]
  exact h
/-- What the check of a stretch of reads asks. -/
def segBW (U : Nat → List Nat) (N : Nat → Bool) (ks : List Nat) : Nat → List Oper → Bool
  | _, [] => true
  | k, o :: l => !N k && plainOp o.op && ks.all (fun j => (U k).contains j) && (U k).all (fun j => ks.contains j) && segBW U N ks (k + 1) l
theorem madeAtW_quiet {o : Oper} {a : Act} {C : World → Prop} {w : World} {v : Value} (hp : plainOp o.op = true) (h : o.quietAt P a C w v) : madeAtW P (.val (m := m) v) o a w := by
  unfold Oper.quietAt at h
  unfold madeAtW
  generalize hr : (execOp a.eval o).run P w = r at h ⊢
  cases r with
  | ok n w' =>
    cases n <;> simp only [Oper.quietUpon] at h <;> simp only [madeUponW]
    case value u => obtain ⟨rfl, rfl⟩ := h; exact ⟨Kept.refl _ _ _, rfl, trivial⟩
    case skip => obtain ⟨rfl, rfl⟩ := h; exact ⟨Kept.refl _ _ _, rfl, trivial⟩
    case enter f args => exact absurd hr (plain_enter hp)
  | halt x w' => simp only [Oper.quietUpon] at h
theorem walkW_seg {Q : Fs → Act → Prop} {fs : Fs} (gs : List (Nat × (World → Prop))) (hg : ∀ p ∈ gs, ∀ w, fs p.1 w → p.2 w) (hx : ∃ w, Below m W w ∧ ∀ p ∈ gs, fs p.1 w) {rest : List Oper} :
    ∀ (seg : List Oper) (k : Nat) (a : Act), segBW U (fun k => (N k).isSome) (gs.map (·.1)) k seg = true →
    wpQuiet P ops (fun w' => ∃ x : LaterF m W gs, w' = x.w) (fun a' => (EnvW.mk P md ops m W N X Dt Ot U).walk Q (k + seg.length) rest fs a') seg a → (EnvW.mk P md ops m W N X Dt Ot U).walk Q k (seg ++ rest) fs a
  | [], k, a, _, h => h
  | o :: seg, k, a, hB, h => by
    simp only [segBW, Bool.and_eq_true, Bool.not_eq_true'] at hB
    obtain ⟨⟨⟨⟨hN, hp⟩, ha⟩, hu⟩, hB'⟩ := hB
    have hN' : N k = none := by simpa using hN
    have ih := fun a => walkW_seg (Q := Q) (fs := fs) gs hg hx (rest := rest) seg (k + 1) a
    simp only [List.length_cons, show k + (seg.length + 1) = k + 1 + seg.length by omega, wpQuiet] at h
    rw [List.cons_append]
    split at h
    · rename_i hw
      have hw' : (EnvW.mk P md ops m W N X Dt Ot U).want o a = true := hw
      obtain ⟨v, h1, h2⟩ := h
      refine ⟨v, fun _ => ⟨.inr hp, fun _ => ?_, fun w hb hf => ?_⟩, fun u hu => ?_⟩
      · obtain ⟨w, hb, hf⟩ := hx
        refine ⟨w, hb, fun j hj => ?_⟩
        have := List.all_eq_true.1 hu j hj
        obtain ⟨p, hp, rfl⟩ := List.mem_map.1 (show j ∈ gs.map (·.1) by simpa using this)
        exact hf p hp
      · simp only [EnvW.pk, hN', if_true]
        refine madeAtW_quiet hp (h1 w ⟨⟨w, hb, fun p hp' => hg p hp' w (hf p.1 ?_)⟩, rfl⟩)
        have := List.all_eq_true.1 ha p.1 (List.mem_map.2 ⟨p, hp', rfl⟩)
        simpa using this
      · simp only [hw', EnvW.pk, hN', if_true] at hu ⊢
        have : u = v := hu
        subst this
        have h3 : (MadeW.val (m := m) u).R u = fun _ => True := rfl
        rw [h3, Fs.add_true]
        exact ih _ hB' h2
    · rename_i hw
      exact walkW_skip (by simpa using hw) (ih _ hB' h)
theorem walkW_segn {Q : Fs → Act → Prop} {fs : Fs} {k : Nat} {a : Act} (s : Nat) (gs : List (Nat × (World → Prop))) (hg : ∀ p ∈ gs, ∀ w, fs p.1 w → p.2 w) (hx : ∃ w, Below m W w ∧ ∀ p ∈ gs, fs p.1 w) {l : List Oper} (hs : decide (s ≤ l.length) = true)
    (hB : segBW U (fun k => (N k).isSome) (gs.map (·.1)) k (l.take s) = true)
    (h : wpQuiet P ops (fun w' => ∃ x : LaterF m W gs, w' = x.w) (fun a' => (EnvW.mk P md ops m W N X Dt Ot U).walk Q (k + s) (l.drop s) fs a') (l.take s) a) : (EnvW.mk P md ops m W N X Dt Ot U).walk Q k l fs a := by
  have hs' := of_decide_eq_true hs
  have hl : (l.take s).length = s := by simp; omega
  have := walkW_seg (P := P) (ops := ops) (md := md) (N := N) (X := X) (Dt := Dt) (Ot := Ot) (U := U) (Q := Q) gs hg hx (rest := l.drop s) (l.take s) k a hB (by rw [hl]; exact h)
  rwa [List.take_append_drop] at this
theorem noneHx {fs : Fs} : ∃ w, Below m W w ∧ ∀ p ∈ ([] : List (Nat × (World → Prop))), fs p.1 w := ⟨W, Below.refl _ _, fun p hp => by cases hp⟩
theorem walkW_mk {Q : Fs → Act → Prop} {k : Nat} {o : Oper} {l : List Oper} {fs : Fs} {a : Act} (f : List Value → MadeW m) (xs : List Value) (M : MadeW m) (gs : List (Nat × (World → Prop))) (hg : ∀ p ∈ gs, ∀ w, fs p.1 w → p.2 w)
    (ha : (gs.map (·.1)).all (fun j => (U k).contains j) = true) (hw : Region.wanted o (yielded ops a.tmps) = true) (hN : N k = some f) (hx : (X k).map (fun t => a.tmps.getD t undef) = xs) (hM : f xs = M) (h1 : ∀ w, Below m W w → (∀ p ∈ gs, p.2 w) → madeAtW P M o a w)
    (h2 : ∀ v, M.T v → (EnvW.mk P md ops m W N X Dt Ot U).walk Q (k + 1) l (fs.add k (M.R v)) (a.put o.dst v)) : (EnvW.mk P md ops m W N X Dt Ot U).walk Q k (o :: l) fs a := by
  have hw' : (EnvW.mk P md ops m W N X Dt Ot U).want o a = true := hw
  have hN' : (EnvW.mk P md ops m W N X Dt Ot U).N k = some f := hN
  have hp : (EnvW.mk P md ops m W N X Dt Ot U).pk k true undef a = M := by
    unfold EnvW.pk
    simp only [hN, if_true]
    rw [← hM, ← hx]
    rfl
  refine ⟨undef, fun _ => ⟨.inl (by rw [hN']; rfl), fun h => (by rw [hN'] at h; cases h), fun w hb hf => ?_⟩, fun v hv => ?_⟩
  · rw [hp]
    refine h1 w hb fun p hp => hg p hp w (hf p.1 ?_)
    have := List.all_eq_true.1 ha p.1 (List.mem_map.2 ⟨p, hp, rfl⟩)
    simpa using this
  · rw [hw', hp] at hv ⊢
    exact h2 v hv
/-- .. whose value is known. -/
theorem walkW_val {Q : Fs → Act → Prop} {k : Nat} {o : Oper} {l : List Oper} {fs : Fs} {a : Act} (c : Value) (f : List Value → MadeW m) (xs : List Value) (gs : List (Nat × (World → Prop))) (hg : ∀ p ∈ gs, ∀ w, fs p.1 w → p.2 w)
    (ha : (gs.map (·.1)).all (fun j => (U k).contains j) = true) (hw : Region.wanted o (yielded ops a.tmps) = true) (hN : N k = some f) (hx : (X k).map (fun t => a.tmps.getD t undef) = xs) (hM : f xs = .val c) (h1 : ∀ w, Below m W w → (∀ p ∈ gs, p.2 w) → madeAtW P (MadeW.val (m := m) c) o a w)
    (h2 : (EnvW.mk P md ops m W N X Dt Ot U).walk Q (k + 1) l fs (a.put o.dst c)) : (EnvW.mk P md ops m W N X Dt Ot U).walk Q k (o :: l) fs a :=
  walkW_mk f xs _ gs hg ha hw hN hx hM h1 fun v hv => by
    have : v = c := hv
    subst this
    have h3 : (MadeW.val (m := m) v).R v = fun _ => True := rfl
    rw [h3, Fs.add_true]
    exact h2
theorem walkW_nil {E : EnvW} {Q : Fs → Act → Prop} {k : Nat} {fs : Fs} {a : Act} (h : Q fs a) : E.walk Q k [] fs a := h
theorem facts2 {k k' : Nat} {F F' : World → Prop} {fs : Fs} (h : ∀ w, fs k w → F w) (h' : ∀ w, fs k' w → F' w) : ∀ p ∈ [(k, F), (k', F')], ∀ w, fs p.1 w → p.2 w := fun p hp w hw => by
  simp only [List.mem_cons, List.not_mem_nil, or_false] at hp
  rcases hp with rfl | rfl
  · exact h w hw
  · exact h' w hw
/-- A call's end. -/
theorem endW {M : MadeW m} {w w' : World} {v : Value} (hk : Kept m M.D w w') (hT : M.T v) (hR : M.R v w') : madeEndW M w (.returned v) w' := ⟨v, rfl, hk, hT, hR⟩
theorem valW {c : Value} {w w' : World} (hb : Below w.heap.size w w') (hm : m ≤ w.heap.size) : madeEndW (MadeW.val (m := m) c) w (.returned c) w' := ⟨c, rfl, Kept.of_below hb hm, rfl, trivial⟩
/-- A block of its own, whose content is known. -/
def MadeW.row (m : Nat) (f : Nat → Value) (c : Array Value) (t : TypeId) : MadeW m where
  T v := ∃ b, m ≤ b ∧ v = f b
  R v w := ∃ b, m ≤ b ∧ v = f b ∧ bk w b = some (.cells c t (0, 0))
  D := []
  O := [t]
  inh := ⟨_, m, Nat.le_refl _, rfl⟩
  mono := fun D v w w' hd hk ⟨b, h1, h2, h3⟩ => ⟨b, h1, h2, hk.row h3 fun h => hd t h (by simp)⟩
/-- A block that was there is written: its content from then on. -/
def MadeW.store (m : Nat) (b : Nat) (c : Array Value) (t : TypeId) : MadeW m where
  T _ := True
  R _ w := bk w b = some (.cells c t (0, 0))
  D := [t]
  O := [t]
  inh := ⟨undef, trivial⟩
  mono := fun D v w w' hd hk h => hk.row h fun h' => hd t h' (by simp)
/-- .. the block and the content as the operation's slots have them. -/
def MadeW.storeAt (m : Nat) (t : TypeId) : List Value → MadeW m
  | [.pointer (some ⟨b, 0, none⟩), .agg c] => .store m b c t
  | _ => .store m 0 #[] t
theorem storeAt_D (m : Nat) (t : TypeId) (x : List Value) : (MadeW.storeAt m t x).D = [t] := by unfold MadeW.storeAt; split <;> rfl
theorem storeAt_O (m : Nat) (t : TypeId) (x : List Value) : (MadeW.storeAt m t x).O = [t] := by unfold MadeW.storeAt; split <;> rfl
/-- What is told of the operations that make or write, by their numbers: each with what it writes and what its fact rests on. -/
structure Ent (m : Nat) where
  k : Nat
  f : List Value → MadeW m
  D : List TypeId
  O : List TypeId
  X : List Tmp
  ok : ∀ x, (f x).D = D ∧ (f x).O = O
def entN (l : List (Ent m)) (k : Nat) : Option (List Value → MadeW m) := (l.find? fun e => e.k == k).map (·.f)
def entD (l : List (Ent m)) (k : Nat) : List TypeId := ((l.find? fun e => e.k == k).map (·.D)).getD []
def entO (l : List (Ent m)) (k : Nat) : List TypeId := ((l.find? fun e => e.k == k).map (·.O)).getD []
def entX (l : List (Ent m)) (k : Nat) : List Tmp := ((l.find? fun e => e.k == k).map (·.X)).getD []
theorem ent_told (l : List (Ent m)) (U : Nat → List Nat) : (EnvW.mk P md ops m W (entN l) (entX l) (entD l) (entO l) U).Told := by
  refine ⟨fun i f h x => ?_, fun i f h x => ?_⟩
  · change entN l i = some f at h
    show _ = entD l i
    unfold entN at h
    unfold entD
    cases he : l.find? (fun e => e.k == i) with
    | none => rw [he] at h; cases h
    | some e => rw [he] at h; cases h; exact (e.ok x).1
  · change entN l i = some f at h
    show _ = entO l i
    unfold entN at h
    unfold entO
    cases he : l.find? (fun e => e.k == i) with
    | none => rw [he] at h; cases h
    | some e => rw [he] at h; cases h; exact (e.ok x).2
/-- A region that draws its order, told by a list. -/
theorem wp_region_e {id : Nat} {Q : Exit → Act → World → Prop} {a : Act} {w : World} {l : List Oper} (m : Nat) (es : List (Ent m)) (U : Nat → List Nat) (fs : Fs) (hmw : m ≤ w.heap.size) (hm : P.follows .mixedOrders = true)
    (hB : lexMadeB l.toArray = true) (hU : (EnvW.mk P .any l.toArray m w (fun _ => none) (entX es) (entD es) (entO es) U).okU = true) (hX : (EnvW.mk P .any l.toArray m w (fun _ => none) (entX es) (entD es) (entO es) U).okX = true)
    (hI : (EnvW.mk P .any l.toArray m w (entN es) (entX es) (entD es) (entO es) U).Ini fs)
    (h : (EnvW.mk P .any l.toArray m w (entN es) (entX es) (entD es) (entO es) U).walk (fun fs a' => ∀ w', Below m w w' → (∀ j, (EnvW.mk P .any l.toArray m w (fun _ => none) (entX es) (entD es) (entO es) U).fin j = true → fs j w') → Q .normal a' w') 0 l fs a) : (Code.region id l.toArray true).wp P Q a w :=
  wp_region_w m (entN es) (entX es) (entD es) (entO es) U fs hmw hm hB hU hX (ent_told es U) hI h
theorem row_T {M : MadeW m} {f : Nat → Value} {c : Array Value} {t : TypeId} {v : Value} (HM : Hid (M = MadeW.row m f c t)) (h : M.T v) : ∃ b, m ≤ b ∧ v = f b := by
  have := HM.out
  subst this
  exact h
def Ent.row (k : Nat) {M : MadeW m} {f : Nat → Value} {c : Array Value} {t : TypeId} (HM : Hid (M = MadeW.row m f c t)) : Ent m := ⟨k, fun _ => M, [], [t], [], fun _ => by have := HM.out; subst this; exact ⟨rfl, rfl⟩⟩
def Ent.val (m k : Nat) (c : Value) : Ent m := ⟨k, fun _ => .val c, [], [], [], fun _ => ⟨rfl, rfl⟩⟩
def Ent.store (m k : Nat) (t : TypeId) (X : List Tmp) : Ent m := ⟨k, MadeW.storeAt m t, [t], [t], X, fun x => ⟨storeAt_D m t x, storeAt_O m t x⟩⟩
/-- A value that hangs on a block; nothing is told of the block. -/
def MadeW.fresh (m : Nat) (f : Nat → Value) : MadeW m where
  T v := ∃ b, m ≤ b ∧ v = f b
  R _ _ := True
  D := []
  O := []
  inh := ⟨_, m, Nat.le_refl _, rfl⟩
  mono := fun _ _ _ _ _ _ h => h
def Ent.fresh (k : Nat) {M : MadeW m} {f : Nat → Value} (HM : Hid (M = MadeW.fresh m f)) : Ent m := ⟨k, fun _ => M, [], [], [], fun _ => by have := HM.out; subst this; exact ⟨rfl, rfl⟩⟩
theorem fresh_T {M : MadeW m} {f : Nat → Value} {v : Value} (HM : Hid (M = MadeW.fresh m f)) (h : M.T v) : ∃ b, m ≤ b ∧ v = f b := by
  have := HM.out
  subst this
  exact h
theorem fresh_mk {M : MadeW m} {f : Nat → Value} {w w' : World} {b : Nat} (HM : Hid (M = MadeW.fresh m f)) (hb : Below w.heap.size w w') (hm : m ≤ w.heap.size) (hlt : m ≤ b) : Kept m M.D w w' ∧ M.T (f b) ∧ M.R (f b) w' := by
  have := HM.out
  subst this
  exact ⟨Kept.of_below hb hm, ⟨b, hlt, rfl⟩, trivial⟩
/-- Where a pointer's or a slice's block is told by the value. -/
theorem ptr_inj (b b' : Nat) (h : Value.pointer (some ⟨b, 0, none⟩) = .pointer (some ⟨b', 0, none⟩)) : b = b' := by simpa using h
theorem row_R {M : MadeW m} {f : Nat → Value} {c : Array Value} {t : TypeId} {b : Nat} {w : World} (HM : Hid (M = MadeW.row m f c t)) (hf : ∀ b b', f b = f b' → b = b') (h : M.R (f b) w) : bk w b = some (.cells c t (0, 0)) := by
  have := HM.out
  subst this
  obtain ⟨b', _, h2, h3⟩ := h
  rw [hf _ _ h2]
  exact h3
theorem row_mk {M : MadeW m} {f : Nat → Value} {c : Array Value} {t : TypeId} {w w' : World} {b : Nat} (HM : Hid (M = MadeW.row m f c t)) (hb : Below w.heap.size w w') (hm : m ≤ w.heap.size) (hlt : m ≤ b) (h : bk w' b = some (.cells c t (0, 0))) : Kept m M.D w w' ∧ M.T (f b) ∧ M.R (f b) w' := by
  have := HM.out
  subst this
  exact ⟨Kept.of_below hb hm, ⟨b, hlt, rfl⟩, b, hlt, rfl, h⟩
theorem store_R {M : MadeW m} {b : Nat} {c : Array Value} {t : TypeId} {v : Value} {w : World} (HM : Hid (M = MadeW.store m b c t)) (h : M.R v w) : bk w b = some (.cells c t (0, 0)) := by
  have := HM.out
  subst this
  exact h
/-- A whole row is stored into a block that is known. -/
theorem storeRow_mk {M : MadeW m} {ty : TypeId} {n : Nat} (hi : (P.info? ty).map (·.size) = some n) {x y : Operand} {tt : TypeId} {pos : String} {af : Array Edge} {g : Option (Nat × Bool)} {a : Act} {w : World} {b : Nat} {c0 c : Array Value} {t : TypeId}
    (HM : Hid (M = MadeW.store m b c t)) (hb : bk w b = some (.cells c0 t (0, 0))) (hm : m ≤ b) (hx : a.eval x = .pointer (some ⟨b, 0, none⟩)) (hy : a.eval y = .agg c) (h0 : c0.size = n) (h1 : c.size = n) (h2 : ones c.toList = true) :
    madeAtW P M ⟨none, .store ty x y, tt, pos, af, g⟩ a w := by
  have := HM.out
  subst this
  have hrun := run_storeVar_row (P := P) w b t ty c0 c hb (by rw [hi, h1]) (by omega) (Array.all_eq_true_iff_forall_mem.2 (fun v hv => ones_mem h2 v (by simpa using hv)))
  unfold madeAtW execOp
  simp only [hx, hy, Instr.storeAt, Instr.sureAddr, Sem.run_bind, Sem.run_pure, Result.andThen_ok, hrun]
  exact ⟨Kept.setRow hb hm (by simp [MadeW.store]), trivial, by show bk (w.setRow b c) b = _; rw [bk_setRow_same, hb]; rfl⟩
/-- A world with a block of whatever content. -/
theorem world_with (hm : m ≤ W.heap.size) {b : Nat} (hb : m ≤ b) (r : Obj) : ∃ w, Below m W w ∧ bk w b = some r := by
  refine ⟨{ W with heap := (W.heap ++ Array.replicate (b + 1) r).setIfInBounds b r }, ⟨rfl, rfl, rfl, by simp, fun k hk => ?_⟩, ?_⟩
  · show ((W.heap ++ Array.replicate (b + 1) r).setIfInBounds b r)[k]? = _
    rw [Array.getElem?_setIfInBounds_ne (by omega), Array.getElem?_append_left (by omega)]
  · show ((W.heap ++ Array.replicate (b + 1) r).setIfInBounds b r)[b]? = _
    rw [Array.getElem?_setIfInBounds_self_of_lt (by simp; omega)]
end
end Go.Proofs.Ytjimmfbjhkoekaa
/- A region that draws its order and writes: bytes. -/
namespace Go.Proofs.Ytjimmfbjhkoekaa
open Go.RowKit
set_option maxRecDepth 100000
section
variable {m : Nat}
theorem own_kept {D : List TypeId} {w w' : World} {n : Nat} {v : Value} {xs : List Value} (h : w.ownsRow m 5 1 v n xs) (hd : 5 ∉ D) (hk : Kept m D w w') : w'.ownsRow m 5 1 v n xs := by
  obtain ⟨hl, h1 | ⟨g, cap, cur, h1, hg, hb, h2⟩⟩ := h
  · exact ⟨hl, .inl h1⟩
  · exact ⟨hl, .inr ⟨g, cap, cur, h1, hg, hk.row (show bk w g = _ from hb) hd, h2⟩⟩
/-- A row of bytes of one's own; what making it writes. -/
def MadeW.own (m : Nat) (D : List TypeId) (l : List UInt8) : MadeW m where
  T v := ∃ A c, v = .slice A l.length c ∧ (A = none → l = [] ∧ c = 0) ∧ l.length ≤ c
  R v w := w.ownsRow m 5 1 v l.length (l.map B)
  D := D
  O := [5]
  inh := ⟨.slice (some ⟨0, 0, none⟩) l.length l.length, _, _, rfl, fun h => (by cases h), Nat.le_refl _⟩
  mono := fun D v w w' hd hk h => own_kept h (fun h' => hd _ h' (by simp)) hk
theorem own_T {M : MadeW m} {D : List TypeId} {l : List UInt8} {v : Value} (HM : Hid (M = MadeW.own m D l)) (h : M.T v) : ∃ A c, v = .slice A l.length c ∧ (A = none → l = [] ∧ c = 0) ∧ l.length ≤ c := by
  have := HM.out
  subst this
  exact h
theorem own_R {M : MadeW m} {D : List TypeId} {l : List UInt8} {v : Value} {w : World} (HM : Hid (M = MadeW.own m D l)) (h : M.R v w) : w.ownsRow m 5 1 v l.length (l.map B) := by
  have := HM.out
  subst this
  exact h
theorem own_Rd {M : MadeW m} {D : List TypeId} {l : List UInt8} {A : Option Addr} {n c : Nat} {w : World} (HM : Hid (M = MadeW.own m D l)) (h : M.R (.slice A n c) w) : Rd w w.heap.size A l := by
  obtain ⟨A', c', e, hr, _⟩ := Rd.of_own (own_R HM h) rfl
  cases e
  exact hr
theorem own_mk {M : MadeW m} {D : List TypeId} {l : List UInt8} {v : Value} {w w' : World} (HM : Hid (M = MadeW.own m D l)) (hk : Kept m D w w') (h : w'.ownsRow m 5 1 v l.length (l.map B)) : Kept m M.D w w' ∧ M.T v ∧ M.R v w' := by
  obtain ⟨A, c, e, _, h1, h2⟩ := Rd.of_own h rfl
  have := HM.out
  subst this
  exact ⟨hk, ⟨A, c, e, h1, h2⟩, h⟩
/-- append to a row of one's own (or to nil: D may then be empty). -/
theorem append_mk {M : MadeW m} {D : List TypeId} {o : Oper} {a : Act} {w : World} {s x : Operand} (ho : o.op = .call { callee := .builtin .append, args := #[s, x], argTypes := #[27, 27] })
    {v : Value} {l1 l2 l : List UInt8} (HM : Hid (M = MadeW.own m D l)) (hl : l = l1 ++ l2) (hs : a.eval s = v) (hown : w.ownsRow m 5 1 v l1.length (l1.map B)) {A : Option Addr} {n c : Nat} (hx : a.eval x = .slice A n c) (hn : n = l2.length) (hA : A = none → l2 = [] ∧ c = 0) (hr : Rd w w.heap.size A l2)
    (hb : l1.length + l2.length < 2 ^ 47) (hbase : m ≤ w.heap.size) (hD : v = .slice none 0 0 ∨ 5 ∈ D) : madeAtW Try.prog M o a w := by
  subst hn
  obtain ⟨i0, hi, hz0, hz1, hz2⟩ := info_parts infoB
  have fin : ∀ v' w', w'.ownsRow m 5 1 v' (l1.length + l2.length) (l1.map B ++ l2.map B) → w.grownBy w' v.ownBlock → Kept m M.D w w' ∧ M.T v' ∧ M.R v' w' := fun v' w' h1 h2 => by
    refine own_mk HM ?_ (by rw [hl, List.length_append, List.map_append]; exact h1)
    refine Kept.grown h2 hbase fun g hg => ?_
    rcases hD with rfl | hD
    · cases hg
    · have h3 := hown.lt g hg
      obtain ⟨_, ⟨rfl, _⟩ | ⟨g', cap, cur, rfl, _, hb', _⟩⟩ := hown
      · cases hg
      · cases hg
        exact ⟨h3.1, cur, _, _, hb', hD⟩
  unfold madeAtW execOp
  cases A with
  | none =>
    obtain ⟨rfl, rfl⟩ := hA rfl
    have hrun := run_append_owned_none (P := Try.prog) (w := w) m 27 o.type 5 i0 1 Try.underlying27 hi v l1.length (l1.map B) hown
    simp only [ho, resolve, invoke, builtin, Sem.run_bind, Sem.run_pure, Result.andThen_ok, List.map_toArray, List.map_cons, List.map_nil, hs, hx, List.length_nil, hrun]
    exact fin _ _ (by simpa using hown) ⟨rfl, rfl, rfl, Nat.le_refl _, fun _ _ _ => rfl⟩
  | some ad =>
    obtain ⟨v', w', hrun, h2, h3, _⟩ := run_append_own (P := Try.prog) w m 27 o.type 5 i0 (.int .u8 0) 1 1 Try.underlying27 hi hz0 hz1 hz2 rfl (by decide) v l1.length (l1.map B) hown ad l2.length c (l2.map B) (by simp) hr.news (B_one l2) (by unfold maxLen; omega) (by omega) hbase
    simp only [ho, resolve, invoke, builtin, Sem.run_bind, Sem.run_pure, Result.andThen_ok, List.map_toArray, List.map_cons, List.map_nil, hs, hx, hrun]
    exact fin _ _ h2 h3
theorem Gots.kept {d : List UInt8} {n : Nat} {A : Option Addr} {D : List TypeId} {w w' : World} (h : Gots d n A w) (hd : 5 ∉ D) (hk : Kept m D w w') : Gots d n A w' := by
  refine ⟨fun h0 => ?_, fun h0 => ?_, h.lo, h.nn⟩
  · obtain ⟨b, o, cur, rfl, hb, hle⟩ := h.room h0
    obtain ⟨b', o', e, hlt, hj⟩ := h.rd h0
    cases e
    refine ⟨b, o, rfl, Nat.lt_of_lt_of_le hlt hk.size, fun j hj' => ?_⟩
    rw [bk_cell (hk.row hb hd), ← bk_cell hb]
    exact hj j hj'
  · obtain ⟨b, o, cur, e, hb, hle⟩ := h.room h0
    exact ⟨b, o, cur, e, hk.row hb hd, hle⟩
/-- A call hands back a value with bytes in it. -/
def MadeW.gots (m : Nat) (f : Option Addr → Value) (d : List UInt8) : MadeW m where
  T v := ∃ A, v = f A
  R v w := ∃ A, v = f A ∧ Gots d m A w
  D := []
  O := [5]
  inh := ⟨_, none, rfl⟩
  mono := fun D v w w' hd hk ⟨A, e, h⟩ => ⟨A, e, h.kept (fun h' => hd _ h' (by simp)) hk⟩
theorem gots_T {M : MadeW m} {f : Option Addr → Value} {d : List UInt8} {v : Value} (HM : Hid (M = MadeW.gots m f d)) (h : M.T v) : ∃ A, v = f A := by
  have := HM.out
  subst this
  exact h
theorem gots_R {M : MadeW m} {f : Option Addr → Value} {d : List UInt8} {A : Option Addr} {w : World} (HM : Hid (M = MadeW.gots m f d)) (hf : ∀ A A', f A = f A' → A = A') (h : M.R (f A) w) : Gots d m A w := by
  have := HM.out
  subst this
  obtain ⟨A', e, h⟩ := h
  rw [hf _ _ e]
  exact h
theorem gots_end {M : MadeW m} {f : Option Addr → Value} {d : List UInt8} {A : Option Addr} {w w' : World} (HM : Hid (M = MadeW.gots m f d)) (hb : Below w.heap.size w w') (hm : m ≤ w.heap.size) (h : Gots d m A w') : madeEndW M w (.returned (f A)) w' := by
  have := HM.out
  subst this
  exact ⟨f A, rfl, Kept.of_below hb hm, ⟨A, rfl⟩, A, rfl, h⟩
theorem make_mk {M : MadeW m} {x y : Operand} {k1 k2 : IntKind} {n c : Nat} {dst : Option Tmp} {tt : TypeId} {pos : String} {af : Array Edge} {g : Option (Nat × Bool)} {a : Act} {w : World} (HM : Hid (M = MadeW.fresh m (fun b => .slice (some ⟨b, 0, none⟩) n c)))
    (hx : a.eval x = .int k1 n) (hy : a.eval y = .int k2 c) (h1 : n ≤ c) (h2 : c ≤ 140737488355328) (hm : m ≤ w.heap.size) : madeAtW Try.prog M ⟨dst, .makeSlice 27 x y, tt, pos, af, g⟩ a w := by
  obtain ⟨i, hi1, hz, hs, hb⟩ := info_parts infoB
  have hr := run_make (P := Try.prog) w 27 5 i _ Try.underlying27 hi1 hz k1 k2 n c (by omega) (by omega) (by rw [hb]; omega) (by omega)
  unfold madeAtW execOp
  simp only [hx, hy, Sem.run_bind, hr, Result.andThen_ok]
  exact (fresh_mk (b := w.heap.size) HM ((Below.refl _ _).alloc (Nat.le_refl _) _) hm hm :)
def Ent.own (k : Nat) {M : MadeW m} {D : List TypeId} {l : List UInt8} (HM : Hid (M = MadeW.own m D l)) : Ent m := ⟨k, fun _ => M, D, [5], [], fun _ => by have := HM.out; subst this; exact ⟨rfl, rfl⟩⟩
def Ent.gots (k : Nat) {M : MadeW m} {f : Option Addr → Value} {d : List UInt8} (HM : Hid (M = MadeW.gots m f d)) : Ent m := ⟨k, fun _ => M, [], [5], [], fun _ => by have := HM.out; subst this; exact ⟨rfl, rfl⟩⟩
theorem Gots.lower {d : List UInt8} {n n' : Nat} {A : Option Addr} {w : World} (h : Gots d n A w) (hn : n' ≤ n) : Gots d n' A w := ⟨h.rd, h.room, fun b j hr => Nat.le_trans hn (h.lo b j hr), h.nn⟩
end
end Go.Proofs.Ytjimmfbjhkoekaa
