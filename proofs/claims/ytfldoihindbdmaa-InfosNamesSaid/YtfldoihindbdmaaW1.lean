/- A region that draws its order and writes: the steps of its walk. Over any program. -/
import Derived.Test.YtfldoihindbdmaaW0
namespace Go.Proofs.Ytfldoihindbdmaa
open Go.RowKit
section
variable {P : Program} {ops : Array Oper} {md : Region.Mode} {m : Nat} {W : World} {N : Nat → Option (List Value → MadeW m)} {X : Nat → List Tmp} {Dt Ot : Nat → List TypeId} {U : Nat → List Nat}
theorem walkW_skip {Q : Fs → Act → Prop} {k : Nat} {o : Oper} {l : List Oper} {fs : Fs} {a : Act} (hw : Region.wanted o (yielded ops a.tmps) = false)
    (h : (EnvW.mk P md ops m W N X Dt Ot U).walk Q (k + 1) l fs (a.put o.dst undef)) : (EnvW.mk P md ops m W N X Dt Ot U).walk Q k (o :: l) fs a := by
  have hw' : (EnvW.mk P md ops m W N X Dt Ot U).want o a = false := hw
  refine ⟨undef, fun h1 => (by rw [hw'] at h1; cases h1), fun v hv => ?_⟩
  simp only [hw', EnvW.pk, Bool.false_eq_true, if_false] at hv ⊢
  have : v = undef := hv
  subst this
  have h2 : (MadeW.val (m := m) undef).R undef = fun _ => True := rfl
  rw [h2, Fs.add_true]
  exact h
/-- What the check of a stretch of reads asks. -/
def segBW (U : Nat → List Nat) (N : Nat → Bool) (ks : List Nat) : Nat → List Oper → Bool
  | _, [] => true
  | k, o :: l => !N k && plainOp o.op && ks.all (fun j => (U k).contains j) && (U k).all (fun j => ks.contains j) && segBW U N ks (k + 1) l
theorem madeAtW_quiet {o : Oper} {a : Act} {C : World → Prop} {w : World} {v : Value} (hp : plainOp o.op = true) (h : o.quietAt P a C w v) : madeAtW P (.val (m := m) v) o a w := by
  unfold Oper.quietAt at h
  unfold madeAtW
  generalize hr : (execOp a.eval o).run P w = r at h ⊢
  cases r with
  | ok n w' =>
    cases n <;> simp only [Oper.quietUpon] at h <;> simp only [madeUponW]
    case value u => obtain ⟨rfl, rfl⟩ := h; exact ⟨Kept.refl _ _ _, rfl, trivial⟩
    case skip => obtain ⟨rfl, rfl⟩ := h; exact ⟨Kept.refl _ _ _, rfl, trivial⟩
    case enter f args => exact absurd hr (plain_enter hp)
  | halt x w' => simp only [Oper.quietUpon] at h
theorem walkW_seg {Q : Fs → Act → Prop} {fs : Fs} (gs : List (Nat × (World → Prop))) (hg : ∀ p ∈ gs, ∀ w, fs p.1 w → p.2 w) (hx : ∃ w, Below m W w ∧ ∀ p ∈ gs, fs p.1 w) {rest : List Oper} :
    ∀ (seg : List Oper) (k : Nat) (a : Act), segBW U (fun k => (N k).isSome) (gs.map (·.1)) k seg = true →
    wpQuiet P ops (fun w' => ∃ x : LaterF m W gs, w' = x.w) (fun a' => (EnvW.mk P md ops m W N X Dt Ot U).walk Q (k + seg.length) rest fs a') seg a → (EnvW.mk P md ops m W N X Dt Ot U).walk Q k (seg ++ rest) fs a
  | [], k, a, _, h => h
  | o :: seg, k, a, hB, h => by
    simp only [segBW, Bool.and_eq_true, Bool.not_eq_true'] at hB
    obtain ⟨⟨⟨⟨hN, hp⟩, ha⟩, hu⟩, hB'⟩ := hB
    have hN' : N k = none := by simpa using hN
    have ih := fun a => walkW_seg (Q := Q) (fs := fs) gs hg hx (rest := rest) seg (k + 1) a
    simp only [List.length_cons, show k + (seg.length + 1) = k + 1 + seg.length by omega, wpQuiet] at h
    rw [List.cons_append]
    split at h
    · rename_i hw
      have hw' : (EnvW.mk P md ops m W N X Dt Ot U).want o a = true := hw
      obtain ⟨v, h1, h2⟩ := h
      refine ⟨v, fun _ => ⟨.inr hp, fun _ => ?_, fun w hb hf => ?_⟩, fun u hu => ?_⟩
      · obtain ⟨w, hb, hf⟩ := hx
        refine ⟨w, hb, fun j hj => ?_⟩
        have := List.all_eq_true.1 hu j hj
        obtain ⟨p, hp, rfl⟩ := List.mem_map.1 (show j ∈ gs.map (·.1) by simpa using this)
        exact hf p hp
      · simp only [EnvW.pk, hN', if_true]
        refine madeAtW_quiet hp (h1 w ⟨⟨w, hb, fun p hp' => hg p hp' w (hf p.1 ?_)⟩, rfl⟩)
        have := List.all_eq_true.1 ha p.1 (List.mem_map.2 ⟨p, hp', rfl⟩)
        simpa using this
      · simp only [hw', EnvW.pk, hN', if_true] at hu ⊢
        have : u = v := hu
        subst this
        have h3 : (MadeW.val (m := m) u).R u = fun _ => True := rfl
        rw [h3, Fs.add_true]
        exact ih _ hB' h2
    · rename_i hw
      exact walkW_skip (by simpa using hw) (ih _ hB' h)
theorem walkW_segn {Q : Fs → Act → Prop} {fs : Fs} {k : Nat} {a : Act} (s : Nat) (gs : List (Nat × (World → Prop))) (hg : ∀ p ∈ gs, ∀ w, fs p.1 w → p.2 w) (hx : ∃ w, Below m W w ∧ ∀ p ∈ gs, fs p.1 w) {l : List Oper} (hs : decide (s ≤ l.length) = true)
    (hB : segBW U (fun k => (N k).isSome) (gs.map (·.1)) k (l.take s) = true)
    (h : wpQuiet P ops (fun w' => ∃ x : LaterF m W gs, w' = x.w) (fun a' => (EnvW.mk P md ops m W N X Dt Ot U).walk Q (k + s) (l.drop s) fs a') (l.take s) a) : (EnvW.mk P md ops m W N X Dt Ot U).walk Q k l fs a := by
  have hs' := of_decide_eq_true hs
  have hl : (l.take s).length = s := by simp; omega
  have := walkW_seg (P := P) (ops := ops) (md := md) (N := N) (X := X) (Dt := Dt) (Ot := Ot) (U := U) (Q := Q) gs hg hx (rest := l.drop s) (l.take s) k a hB (by rw [hl]; exact h)
  rwa [List.take_append_drop] at this
theorem noneHx {fs : Fs} : ∃ w, Below m W w ∧ ∀ p ∈ ([] : List (Nat × (World → Prop))), fs p.1 w := ⟨W, Below.refl _ _, fun p hp => by cases hp⟩
theorem walkW_mk {Q : Fs → Act → Prop} {k : Nat} {o : Oper} {l : List Oper} {fs : Fs} {a : Act} (f : List Value → MadeW m) (xs : List Value) (M : MadeW m) (gs : List (Nat × (World → Prop))) (hg : ∀ p ∈ gs, ∀ w, fs p.1 w → p.2 w)
    (ha : (gs.map (·.1)).all (fun j => (U k).contains j) = true) (hw : Region.wanted o (yielded ops a.tmps) = true) (hN : N k = some f) (hx : (X k).map (fun t => a.tmps.getD t undef) = xs) (hM : f xs = M) (h1 : ∀ w, Below m W w → (∀ p ∈ gs, p.2 w) → madeAtW P M o a w)
    (h2 : ∀ v, M.T v → (EnvW.mk P md ops m W N X Dt Ot U).walk Q (k + 1) l (fs.add k (M.R v)) (a.put o.dst v)) : (EnvW.mk P md ops m W N X Dt Ot U).walk Q k (o :: l) fs a := by
  have hw' : (EnvW.mk P md ops m W N X Dt Ot U).want o a = true := hw
  have hN' : (EnvW.mk P md ops m W N X Dt Ot U).N k = some f := hN
  have hp : (EnvW.mk P md ops m W N X Dt Ot U).pk k true undef a = M := by
    unfold EnvW.pk
    simp only [hN, if_true]
    rw [← hM, ← hx]
    rfl
  refine ⟨undef, fun _ => ⟨.inl (by rw [hN']; rfl), fun h => (by rw [hN'] at h; cases h), fun w hb hf => ?_⟩, fun v hv => ?_⟩
  · rw [hp]
    refine h1 w hb fun p hp => hg p hp w (hf p.1 ?_)
    have := List.all_eq_true.1 ha p.1 (List.mem_map.2 ⟨p, hp, rfl⟩)
    simpa using this
  · rw [hw', hp] at hv ⊢
    exact h2 v hv
/-- .. whose value is known. -/
theorem walkW_val {Q : Fs → Act → Prop} {k : Nat} {o : Oper} {l : List Oper} {fs : Fs} {a : Act} (c : Value) (f : List Value → MadeW m) (xs : List Value) (gs : List (Nat × (World → Prop))) (hg : ∀ p ∈ gs, ∀ w, fs p.1 w → p.2 w)
    (ha : (gs.map (·.1)).all (fun j => (U k).contains j) = true) (hw : Region.wanted o (yielded ops a.tmps) = true) (hN : N k = some f) (hx : (X k).map (fun t => a.tmps.getD t undef) = xs) (hM : f xs = .val c) (h1 : ∀ w, Below m W w → (∀ p ∈ gs, p.2 w) → madeAtW P (MadeW.val (m := m) c) o a w)
    (h2 : (EnvW.mk P md ops m W N X Dt Ot U).walk Q (k + 1) l fs (a.put o.dst c)) : (EnvW.mk P md ops m W N X Dt Ot U).walk Q k (o :: l) fs a :=
  walkW_mk f xs _ gs hg ha hw hN hx hM h1 fun v hv => by
    have : v = c := hv
    subst this
    have h3 : (MadeW.val (m := m) v).R v = fun _ => True := rfl
    rw [h3, Fs.add_true]
    exact h2
theorem walkW_nil {E : EnvW} {Q : Fs → Act → Prop} {k : Nat} {fs : Fs} {a : Act} (h : Q fs a) : E.walk Q k [] fs a := h
theorem facts2 {k k' : Nat} {F F' : World → Prop} {fs : Fs} (h : ∀ w, fs k w → F w) (h' : ∀ w, fs k' w → F' w) : ∀ p ∈ [(k, F), (k', F')], ∀ w, fs p.1 w → p.2 w := fun p hp w hw => by
  simp only [List.mem_cons, List.not_mem_nil, or_false] at hp
  rcases hp with rfl | rfl
  · exact h w hw
  · exact h' w hw
/-- A call's end. -/
theorem endW {M : MadeW m} {w w' : World} {v : Value} (hk : Kept m M.D w w') (hT : M.T v) (hR : M.R v w') : madeEndW M w (.returned v) w' := ⟨v, rfl, hk, hT, hR⟩
theorem valW {c : Value} {w w' : World} (hb : Below w.heap.size w w') (hm : m ≤ w.heap.size) : madeEndW (MadeW.val (m := m) c) w (.returned c) w' := ⟨c, rfl, Kept.of_below hb hm, rfl, trivial⟩
/-- A block of its own, whose content is known. -/
def MadeW.row (m : Nat) (f : Nat → Value) (c : Array Value) (t : TypeId) : MadeW m where
  T v := ∃ b, m ≤ b ∧ v = f b
  R v w := ∃ b, m ≤ b ∧ v = f b ∧ bk w b = some (.cells c t (0, 0))
  D := []
  O := [t]
  inh := ⟨_, m, Nat.le_refl _, rfl⟩
  mono := fun D v w w' hd hk ⟨b, h1, h2, h3⟩ => ⟨b, h1, h2, hk.row h3 fun h => hd t h (by simp)⟩
/-- A block that was there is written: its content from then on. -/
def MadeW.store (m : Nat) (b : Nat) (c : Array Value) (t : TypeId) : MadeW m where
  T _ := True
  R _ w := bk w b = some (.cells c t (0, 0))
  D := [t]
  O := [t]
  inh := ⟨undef, trivial⟩
  mono := fun D v w w' hd hk h => hk.row h fun h' => hd t h' (by simp)
/-- .. the block and the content as the operation's slots have them. -/
def MadeW.storeAt (m : Nat) (t : TypeId) : List Value → MadeW m
  | [.pointer (some ⟨b, 0, none⟩), .agg c] => .store m b c t
  | _ => .store m 0 #[] t
theorem storeAt_D (m : Nat) (t : TypeId) (x : List Value) : (MadeW.storeAt m t x).D = [t] := by unfold MadeW.storeAt; split <;> rfl
theorem storeAt_O (m : Nat) (t : TypeId) (x : List Value) : (MadeW.storeAt m t x).O = [t] := by unfold MadeW.storeAt; split <;> rfl
/-- What is told of the operations that make or write, by their numbers: each with what it writes and what its fact rests on. -/
structure Ent (m : Nat) where
  k : Nat
  f : List Value → MadeW m
  D : List TypeId
  O : List TypeId
  X : List Tmp
  ok : ∀ x, (f x).D = D ∧ (f x).O = O
def entN (l : List (Ent m)) (k : Nat) : Option (List Value → MadeW m) := (l.find? fun e => e.k == k).map (·.f)
def entD (l : List (Ent m)) (k : Nat) : List TypeId := ((l.find? fun e => e.k == k).map (·.D)).getD []
def entO (l : List (Ent m)) (k : Nat) : List TypeId := ((l.find? fun e => e.k == k).map (·.O)).getD []
def entX (l : List (Ent m)) (k : Nat) : List Tmp := ((l.find? fun e => e.k == k).map (·.X)).getD []
theorem ent_told (l : List (Ent m)) (U : Nat → List Nat) : (EnvW.mk P md ops m W (entN l) (entX l) (entD l) (entO l) U).Told := by
  refine ⟨fun i f h x => ?_, fun i f h x => ?_⟩
  · change entN l i = some f at h
    show _ = entD l i
    unfold entN at h
    unfold entD
    cases he : l.find? (fun e => e.k == i) with
    | none => rw [he] at h; cases h
    | some e => rw [he] at h; cases h; exact (e.ok x).1
  · change entN l i = some f at h
    show _ = entO l i
    unfold entN at h
    unfold entO
    cases he : l.find? (fun e => e.k == i) with
    | none => rw [he] at h; cases h
    | some e => rw [he] at h; cases h; exact (e.ok x).2
/-- A region that draws its order, told by a list. -/
theorem wp_region_e {id : Nat} {Q : Exit → Act → World → Prop} {a : Act} {w : World} {l : List Oper} (m : Nat) (es : List (Ent m)) (U : Nat → List Nat) (fs : Fs) (hmw : m ≤ w.heap.size) (hm : P.follows .mixedOrders = true)
    (hB : lexMadeB l.toArray = true) (hU : (EnvW.mk P .any l.toArray m w (fun _ => none) (entX es) (entD es) (entO es) U).okU = true) (hX : (EnvW.mk P .any l.toArray m w (fun _ => none) (entX es) (entD es) (entO es) U).okX = true)
    (hI : (EnvW.mk P .any l.toArray m w (entN es) (entX es) (entD es) (entO es) U).Ini fs)
    (h : (EnvW.mk P .any l.toArray m w (entN es) (entX es) (entD es) (entO es) U).walk (fun fs a' => ∀ w', Below m w w' → (∀ j, (EnvW.mk P .any l.toArray m w (fun _ => none) (entX es) (entD es) (entO es) U).fin j = true → fs j w') → Q .normal a' w') 0 l fs a) : (Code.region id l.toArray true).wp P Q a w :=
  wp_region_w m (entN es) (entX es) (entD es) (entO es) U fs hmw hm hB hU hX (ent_told es U) hI h
theorem row_T {M : MadeW m} {f : Nat → Value} {c : Array Value} {t : TypeId} {v : Value} (HM : Hid (M = MadeW.row m f c t)) (h : M.T v) : ∃ b, m ≤ b ∧ v = f b := by
  have := HM.out
  subst this
  exact h
def Ent.row (k : Nat) {M : MadeW m} {f : Nat → Value} {c : Array Value} {t : TypeId} (HM : Hid (M = MadeW.row m f c t)) : Ent m := ⟨k, fun _ => M, [], [t], [], fun _ => by have := HM.out; subst this; exact ⟨rfl, rfl⟩⟩
def Ent.val (m k : Nat) (c : Value) : Ent m := ⟨k, fun _ => .val c, [], [], [], fun _ => ⟨rfl, rfl⟩⟩
def Ent.store (m k : Nat) (t : TypeId) (X : List Tmp) : Ent m := ⟨k, MadeW.storeAt m t, [t], [t], X, fun x => ⟨storeAt_D m t x, storeAt_O m t x⟩⟩
/-- A value that hangs on a block; nothing is told of the block. -/
def MadeW.fresh (m : Nat) (f : Nat → Value) : MadeW m where
  T v := ∃ b, m ≤ b ∧ v = f b
  R _ _ := True
  D := []
  O := []
  inh := ⟨_, m, Nat.le_refl _, rfl⟩
  mono := fun _ _ _ _ _ _ h => h
def Ent.fresh (k : Nat) {M : MadeW m} {f : Nat → Value} (HM : Hid (M = MadeW.fresh m f)) : Ent m := ⟨k, fun _ => M, [], [], [], fun _ => by have := HM.out; subst this; exact ⟨rfl, rfl⟩⟩
theorem fresh_T {M : MadeW m} {f : Nat → Value} {v : Value} (HM : Hid (M = MadeW.fresh m f)) (h : M.T v) : ∃ b, m ≤ b ∧ v = f b := by
  have := HM.out
  subst this
  exact h
theorem fresh_mk {M : MadeW m} {f : Nat → Value} {w w' : World} {b : Nat} (HM : Hid (M = MadeW.fresh m f)) (hb : Below w.heap.size w w') (hm : m ≤ w.heap.size) (hlt : m ≤ b) : Kept m M.D w w' ∧ M.T (f b) ∧ M.R (f b) w' := by
  have := HM.out
  subst this
  exact ⟨Kept.of_below hb hm, ⟨b, hlt, rfl⟩, trivial⟩
/-- Where a pointer's or a slice's block is told by the value. -/
theorem ptr_inj (b b' : Nat) (h : Value.pointer (some ⟨b, 0, none⟩) = .pointer (some ⟨b', 0, none⟩)) : b = b' := by simpa using h
theorem row_R {M : MadeW m} {f : Nat → Value} {c : Array Value} {t : TypeId} {b : Nat} {w : World} (HM : Hid (M = MadeW.row m f c t)) (hf : ∀ b b', f b = f b' → b = b') (h : M.R (f b) w) : bk w b = some (.cells c t (0, 0)) := by
  have := HM.out
  subst this
  obtain ⟨b', _, h2, h3⟩ := h
  rw [hf _ _ h2]
  exact h3
theorem row_mk {M : MadeW m} {f : Nat → Value} {c : Array Value} {t : TypeId} {w w' : World} {b : Nat} (HM : Hid (M = MadeW.row m f c t)) (hb : Below w.heap.size w w') (hm : m ≤ w.heap.size) (hlt : m ≤ b) (h : bk w' b = some (.cells c t (0, 0))) : Kept m M.D w w' ∧ M.T (f b) ∧ M.R (f b) w' := by
  have := HM.out
  subst this
  exact ⟨Kept.of_below hb hm, ⟨b, hlt, rfl⟩, b, hlt, rfl, h⟩
theorem store_R {M : MadeW m} {b : Nat} {c : Array Value} {t : TypeId} {v : Value} {w : World} (HM : Hid (M = MadeW.store m b c t)) (h : M.R v w) : bk w b = some (.cells c t (0, 0)) := by
  have := HM.out
  subst this
  exact h
/-- A whole row is stored into a block that is known. -/
theorem storeRow_mk {M : MadeW m} {ty : TypeId} {n : Nat} (hi : (P.info? ty).map (·.size) = some n) {x y : Operand} {tt : TypeId} {pos : String} {af : Array Edge} {g : Option (Nat × Bool)} {a : Act} {w : World} {b : Nat} {c0 c : Array Value} {t : TypeId}
    (HM : Hid (M = MadeW.store m b c t)) (hb : bk w b = some (.cells c0 t (0, 0))) (hm : m ≤ b) (hx : a.eval x = .pointer (some ⟨b, 0, none⟩)) (hy : a.eval y = .agg c) (h0 : c0.size = n) (h1 : c.size = n) (h2 : ones c.toList = true) :
    madeAtW P M ⟨none, .store ty x y, tt, pos, af, g⟩ a w := by
  have := HM.out
  subst this
  have hrun := run_storeVar_row (P := P) w b t ty c0 c hb (by rw [hi, h1]) (by omega) (Array.all_eq_true_iff_forall_mem.2 (fun v hv => ones_mem h2 v (by simpa using hv)))
  unfold madeAtW execOp
  simp only [hx, hy, Instr.storeAt, Instr.sureAddr, Sem.run_bind, Sem.run_pure, Result.andThen_ok, hrun]
  exact ⟨Kept.setRow hb hm (by simp [MadeW.store]), trivial, by show bk (w.setRow b c) b = _; rw [bk_setRow_same, hb]; rfl⟩
/-- A world with a block of whatever content. -/
theorem world_with (hm : m ≤ W.heap.size) {b : Nat} (hb : m ≤ b) (r : Obj) : ∃ w, Below m W w ∧ bk w b = some r := by
  refine ⟨{ W with heap := (W.heap ++ Array.replicate (b + 1) r).setIfInBounds b r }, ⟨rfl, rfl, rfl, by simp, fun k hk => ?_⟩, ?_⟩
  · show ((W.heap ++ Array.replicate (b + 1) r).setIfInBounds b r)[k]? = _
    rw [Array.getElem?_setIfInBounds_ne (by omega), Array.getElem?_append_left (by omega)]
  · show ((W.heap ++ Array.replicate (b + 1) r).setIfInBounds b r)[b]? = _
    rw [Array.getElem?_setIfInBounds_self_of_lt (by simp; omega)]
end
end Go.Proofs.Ytfldoihindbdmaa
