import Derived.Test.YtjimmfbjhkoekaaMgD
import Derived.Test.YtjimmfbjhkoekaaMgE
import Derived.BigRegion
import Derived.Deep.Cut
import Derived.Deep.DeepCutAuto
import Derived.Deep.RegionLaw
import Derived.Deep.RegionHeld3
import Derived.ArgAppend
import Derived.Lib.AppendZeros
import Derived.Test.YtjimmfbjhkoekaaMgG
import Derived.Test.YtjimmfbjhkoekaaMgF
/- Icmps: which blocks turn; append to a row of one's own; bytes being put: their box, a number. -/
namespace Go.Proofs.Ytjimmfbjhkoekaa
open Go.RowKit
set_option maxRecDepth 100000
set_option maxHeartbeats 1000000
/-- Only these blocks turn. -/
structure Tn (F : Nat → Prop) (w w' : World) : Prop where
  os : w'.os = w.os
  tape : w'.tape = w.tape
  output : w'.output = w.output
  size : w.heap.size ≤ w'.heap.size
  old : ∀ k, k < w.heap.size → ¬ F k → bk w' k = bk w k
theorem Tn.refl (F : Nat → Prop) (w : World) : Tn F w w := ⟨rfl, rfl, rfl, Nat.le_refl _, fun _ _ _ => rfl⟩
theorem Tn.trans {F G : Nat → Prop} {w w' w'' : World} (h : Tn F w w') (k : Tn G w' w'') (hg : ∀ j, G j → F j ∨ w.heap.size ≤ j) : Tn F w w'' :=
  ⟨k.os.trans h.os, k.tape.trans h.tape, k.output.trans h.output, Nat.le_trans h.size k.size, fun i hi hn => (k.old i (Nat.lt_of_lt_of_le hi h.size) (fun hG => by
    rcases hg i hG with hF | hl
    · exact hn hF
    · omega)).trans (h.old i hi hn)⟩
theorem Tn.of {F : Nat → Prop} {w w' : World} (h : Below w.heap.size w w') : Tn F w w' := ⟨h.os, h.tape, h.output, h.size, fun i hi _ => h.block i hi⟩
theorem Tn.keep {F : Nat → Prop} {m : Nat} {w w' : World} {o : Obj} (h : Tn F w w') (hm : ¬ F m) (hk : bk w m = some o) : bk w' m = some o := (h.old m (bk_lt hk) hm).trans hk
theorem Tn.below {F : Nat → Prop} {n : Nat} {w w' : World} (h : Tn F w w') (hn : ∀ k, F k → n ≤ k) (hw : n ≤ w.heap.size) : Below n w w' :=
  ⟨h.os, h.tape, h.output, h.size, fun k hk => h.old k (by omega) (fun hF => by have := hn k hF; omega)⟩
theorem Tn.mono {F G : Nat → Prop} {w w' : World} (h : Tn F w w') (hF : ∀ k, F k → G k) : Tn G w w' := ⟨h.os, h.tape, h.output, h.size, fun k hk hn => h.old k hk fun hf => hn (hF k hf)⟩
theorem Tn.set {F : Nat → Prop} {g i : Nat} {w w' : World} {v : Value} (h : Tn F w w') (hg : F g ∨ w.heap.size ≤ g) : Tn F w (w'.setCell ⟨g, i, none⟩ v) :=
  ⟨h.os, h.tape, h.output, by simpa using h.size, fun k hk hn => (bk_setCell_other _ _ _ _ _ (fun e => by
    subst e
    rcases hg with hg | hg
    · exact hn hg
    · omega)).trans (h.old k hk hn)⟩
theorem Tn.setRow {F : Nat → Prop} {w w' : World} {m : Nat} {c : Array Value} (h : Tn F w w') (hm : F m ∨ w.heap.size ≤ m) : Tn F w (w'.setRow m c) :=
  ⟨h.os, h.tape, h.output, by simpa [World.setRow] using h.size, fun k hk hn => (bk_setRow_other _ _ _ _ (fun e => by
    subst e
    rcases hm with hm | hm
    · exact hn hm
    · omega)).trans (h.old k hk hn)⟩
theorem Tn.next {F : Nat → Prop} {w w' w'' : World} (h : Tn F w w') (b : Below w'.heap.size w' w'') : Tn F w w'' := h.trans (Tn.of (F := fun _ => False) b) fun _ e => e.elim
theorem Tn.grown {F : Nat → Prop} {w w' : World} {row : Option Nat} (h : w.grownBy w' row) (hr : ∀ k, row = some k → F k) : Tn F w w' :=
  ⟨h.os, h.tape, h.output, h.size, fun k hk hn => h.block k hk fun e => hn (hr k e.symm)⟩
theorem Tn.cell {G : Nat → Prop} {w w' : World} (h : Tn G w w') {b : Nat} (hb : b < w.heap.size) (hG : ¬ G b) (o : Nat) : w'.cell? ⟨b, o, none⟩ = w.cell? ⟨b, o, none⟩ := by
  have h' : w'.heap[b]? = w.heap[b]? := h.old b hb hG
  simp only [World.cell?, h']
theorem Rd.turnT {F : Nat → Prop} {w w' : World} {n m : Nat} {A : Option Addr} {l : List UInt8} (h : Rd w n A l) (ht : Tn F w w') (hn : n ≤ w.heap.size) (hm : n ≤ m) (hA : 0 < l.length → ∀ b o, A = some ⟨b, o, none⟩ → ¬ F b) : Rd w' m A l := fun h0 => by
  obtain ⟨b, o, e, hb, hc⟩ := h h0
  refine ⟨b, o, e, by omega, fun j hj => ?_⟩
  rw [ht.cell (by omega) (hA h0 b o e)]
  exact hc j hj
/-- Bytes of one's own: a row with all its room, or one without room. -/
def Own (w : World) (n : Nat) (v : Value) (L : List UInt8) : Prop :=
  (v = .slice none 0 0 ∧ L = []) ∨ ∃ g c cur, v = .slice (some ⟨g, 0, none⟩) L.length c ∧ n ≤ g ∧ bk w g = some (.cells cur 5 (0, 0)) ∧ L.length ≤ c ∧ c ≤ cur.size ∧ c ≤ maxLen ∧ cur.toList.take L.length = L.map B ∧ (cur.size = c ∨ c = L.length)
theorem Own.of {w : World} {n : Nat} {v : Value} {L : List UInt8} {k : Nat} (h : w.ownsRow n 5 1 v k (L.map B)) (hk : k = L.length) : Own w n v L := by
  subst hk
  obtain ⟨_, ⟨rfl, h0⟩ | ⟨g, cap, cur, rfl, hg, hbk, hle, hm, hcs, htk⟩⟩ := h
  · exact .inl ⟨rfl, List.eq_nil_of_length_eq_zero h0⟩
  · exact .inr ⟨g, cap, cur, rfl, hg, hbk, hle, by omega, hm, by simpa using htk, .inl (by omega)⟩
theorem Own.sl {w : World} {n : Nat} {v : Value} {L : List UInt8} (h : Own w n v L) : ∃ A c, v = .slice A L.length c ∧ Rd w w.heap.size A L ∧ (A = none → L = [] ∧ c = 0) ∧ L.length ≤ c := by
  rcases h with ⟨rfl, rfl⟩ | ⟨g, c, cur, rfl, _, hb, h1, _, _, ht, _⟩
  · exact ⟨none, 0, rfl, Rd.nil, fun _ => ⟨rfl, rfl⟩, Nat.le_refl _⟩
  · exact ⟨_, c, rfl, Rd.of_take hb ht (bk_lt hb), (fun e => by cases e), h1⟩
theorem Own.lt {w : World} {n k : Nat} {v : Value} {L : List UInt8} (h : Own w n v L) (hk : v.ownBlock = some k) : n ≤ k ∧ k < w.heap.size := by
  rcases h with ⟨rfl, rfl⟩ | ⟨g, c, cur, rfl, hn, hb, _⟩
  · cases hk
  · cases hk
    exact ⟨hn, bk_lt hb⟩
theorem Own.turn {w w' : World} {n : Nat} {v : Value} {L : List UInt8} (h : Own w n v L) (hb : ∀ k, v.ownBlock = some k → bk w' k = bk w k) : Own w' n v L := by
  rcases h with h | ⟨g, c, cur, rfl, hn, hk, r⟩
  · exact .inl h
  · exact .inr ⟨g, c, cur, rfl, hn, (hb g rfl).trans hk, r⟩
theorem Own.row {w : World} {n g c : Nat} {cur : Array Value} {L : List UInt8} (hn : n ≤ g) (hb : bk w g = some (.cells cur 5 (0, 0))) (h1 : L.length ≤ c) (hm : c ≤ maxLen) (ht : cur.toList.take L.length = L.map B) (hs : cur.size = c) : w.ownsRow n 5 1 (.slice (some ⟨g, 0, none⟩) L.length c) L.length (L.map B) :=
  ⟨by simp, .inr ⟨g, c, cur, rfl, hn, hb, h1, hm, by omega, by simpa using ht⟩⟩
/-- Bytes are put behind such ones. -/
theorem run_app {w : World} (n : Nat) (v : Value) (l m : List UInt8) (hown : Own w n v l) (A : Option Addr) (c : Nat) (hr : Rd w w.heap.size A m) (hA : A = none → m = [] ∧ c = 0) (hn : n ≤ w.heap.size) (hl : l.length + m.length < 2 ^ 46) (ty : TypeId) :
    ∃ v' w', (Builtin.append_ #[27, 27] ty #[v, .slice A m.length c]).run Try.prog w = .ok v' w' ∧ Own w' n v' (l ++ m) ∧ w.grownBy w' v.ownBlock ∧ (∀ k, v'.ownBlock = some k → v.ownBlock = some k ∨ w.heap.size ≤ k) := by
  obtain ⟨i0, hi, hz0, hz1, hz2⟩ := info_parts infoB
  rcases Nat.eq_zero_or_pos m.length with h0 | h0
  · have hm0 : m = [] := List.eq_nil_of_length_eq_zero h0
    subst hm0
    refine ⟨v, w, ?_, by simpa using hown, ⟨rfl, rfl, rfl, Nat.le_refl _, fun _ _ _ => rfl⟩, fun _ e => .inl e⟩
    obtain ⟨A1, c1, rfl, _, hA1, hlc⟩ := hown.sl
    cases A1 with
    | none =>
      obtain ⟨rfl, rfl⟩ := hA1 rfl
      cases A <;> simp [Builtin.append_, run_underlying (P := Try.prog) Try.underlying27, sizeOf, typeInfo, hi, Builtin.lenOf, Builtin.firstCells, loadCells, loadCellsFrom]
    | some ad => cases A <;> simp [Builtin.append_, run_underlying (P := Try.prog) Try.underlying27, sizeOf, typeInfo, hi, Builtin.lenOf, Builtin.firstCells, loadCells, loadCellsFrom, hlc, storeCells]
  obtain ⟨b2, o2, rfl, hb2, hc2⟩ := hr h0
  have hr' : Rd w w.heap.size (some ⟨b2, o2, none⟩) m := fun _ => ⟨b2, o2, rfl, hb2, hc2⟩
  rcases hown with ⟨rfl, rfl⟩ | ⟨g, c1, cur, rfl, hg, hbk, h1, h2, hmx, ht, hfull⟩
  · obtain ⟨v', w', h1, h2, h3, _, h5⟩ := run_append_own_at (P := Try.prog) w n 27 ty 5 i0 (.int .u8 0) 1 1 Try.underlying27 hi hz0 hz1 hz2 rfl (by decide) (.slice none 0 0) 0 [] (World.ownsRow_nil _ _ _ _) ⟨b2, o2, none⟩ m.length c (m.map B) (by simp) hr'.news (B_one m) (by unfold maxLen; simp at hl; omega) (by simp at hl; omega) hn
    exact ⟨v', w', h1, Own.of h2 (by simp), h3, fun k hk => by
      rcases h5 with q | q
      · exact .inl (q ▸ hk)
      · rw [q] at hk; cases hk; exact .inr (Nat.le_refl _)⟩
  · rcases hfull with hs | rfl
    · have hrow := Own.row hg hbk h1 hmx ht hs
      obtain ⟨v', w', h1, h2, h3, _, h5⟩ := run_append_own_at (P := Try.prog) w n 27 ty 5 i0 (.int .u8 0) 1 1 Try.underlying27 hi hz0 hz1 hz2 rfl (by decide) _ l.length (l.map B) hrow ⟨b2, o2, none⟩ m.length c (m.map B) (by simp) hr'.news (B_one m) (by unfold maxLen; omega) (by omega) hn
      exact ⟨v', w', h1, Own.of (by rw [List.map_append]; exact h2) (by simp), h3, fun k hk => by
      rcases h5 with q | q
      · exact .inl (q ▸ hk)
      · rw [q] at hk; cases hk; exact .inr (Nat.le_refl _)⟩
    · have hr1 : Rd w w.heap.size (some ⟨g, 0, none⟩) l := Rd.of_take hbk ht (bk_lt hbk)
      obtain ⟨v', w', hrun, r1, r2⟩ := run_append_arg_grows (P := Try.prog) w 27 ty 5 i0 (.int .u8 0) 1 1 Try.underlying27 hi hz0 hz1 hz2 rfl (by decide) ⟨g, 0, none⟩ l.length l.length (l.map B) (by simp) hr1.news ⟨b2, o2, none⟩ m.length c (m.map B) (by simp) hr'.news (by omega) (by unfold maxLen; omega) (by omega)
      obtain ⟨q1, q2 | ⟨g', cap, cur', q2, q3, q4, q5⟩⟩ := r1
      · exact absurd q2.2 (by omega)
      · have hn3 : n ≤ w.heap.size := hn
        refine ⟨v', w', hrun, Own.of (w := w') (n := n) (k := l.length + m.length) ⟨by simp, .inr ⟨g', cap, cur', q2, by omega, q4, by simpa using q5⟩⟩ (by simp), ⟨r2.os, r2.tape, r2.output, r2.size, fun k hk _ => r2.block k hk (fun e => by cases e)⟩, fun k hk => .inr (by rw [q2] at hk; cases hk; exact q3)⟩
theorem step_app {w : World} {ops : Array Oper} {o : Oper} {a : Act} {K : Act → World → Prop} {Q : Exit → Act → World → Prop} {E : Prop} (hgd : o.guard = none) (s x : Operand)
    (ho : o.op = .call { callee := .builtin .append, args := #[s, x], argTypes := #[27, 27] })
    (n : Nat) (v : Value) (l m : List UInt8) (k : Nat) (hs : a.eval s = v) (hown : Own w n v l) (A : Option Addr) (c : Nat) (hx : a.eval x = .slice A k c) (hk : k = m.length) (hr : Rd w w.heap.size A m) (hA : A = none → m = [] ∧ c = 0) (hn : n ≤ w.heap.size) (hl : l.length + m.length < 2 ^ 46)
    (h : ∀ A' N' c' w', Own w' n (.slice A' N' c') (l ++ m) → w.grownBy w' v.ownBlock → (∀ k, (Value.slice A' N' c').ownBlock = some k → v.ownBlock = some k ∨ w.heap.size ≤ k) → K (a.put o.dst (.slice A' N' c')) w') :
    if Region.wanted o (yielded ops a.tmps) = true then Oper.wp Try.prog o a w K Q else E := by
  have hw : Region.wanted o (yielded ops a.tmps) = true := by simp [Region.wanted, hgd]
  rw [if_pos hw]
  subst hk
  obtain ⟨v', w', h1, h2, h3, h4⟩ := run_app n v l m hown A c hr hA hn hl o.type
  unfold Oper.wp execOp
  simp only [ho, resolve, invoke, builtin, Sem.run_bind, Sem.run_pure, Result.andThen_ok, List.map_toArray, List.map_cons, List.map_nil, hs, hx, h1]
  obtain ⟨A', c', rfl, _⟩ := h2.sl
  exact h _ _ _ w' h2 h3 h4
/-- Blocks of bytes that are being put. -/
def Fp (gp : Nat) (v : Value) (k : Nat) : Prop := k = gp ∨ v.ownBlock = some k
/-- Bytes that are being put: their box, a row of its own. -/
structure PU (w : World) (n gp : Nat) (v : Value) (L : List UInt8) : Prop where
  box : bk w gp = some (.cells #[v] 64 (0, 0))
  row : Own w n v L
  vx : v.ownBlock ≠ some gp
  ng : n ≤ gp
theorem PU.keep {F : Nat → Prop} {w w' : World} {n gp : Nat} {v : Value} {L : List UInt8} (h : PU w n gp v L) (ht : Tn F w w') (hF : ∀ k, F k → ¬ Fp gp v k) : PU w' n gp v L :=
  ⟨ht.keep (fun hf => hF _ hf (.inl rfl)) h.box, h.row.turn fun k hk => ht.old k (h.row.lt hk).2 fun hf => hF _ hf (.inr hk), h.vx, h.ng⟩
theorem PU.below {w w' : World} {n gp : Nat} {v : Value} {L : List UInt8} (h : PU w n gp v L) (hb : Below w.heap.size w w') : PU w' n gp v L :=
  h.keep (Tn.of (F := fun _ => False) hb) fun _ hf => hf.elim
theorem PU.lt {w : World} {n gp : Nat} {v : Value} {L : List UInt8} (h : PU w n gp v L) : ∀ k, Fp gp v k → n ≤ k ∧ k < w.heap.size := fun k hk => by
  rcases hk with rfl | hk
  · exact ⟨h.ng, bk_lt h.box⟩
  · exact h.row.lt hk
/-- Bytes without room. -/
def Full (v : Value) (L : List UInt8) : Prop := ∃ g, v = .slice (some ⟨g, 0, none⟩) L.length L.length
/-- Behind bytes more; f: they have no room. -/
def Put1 (w : World) (n gp : Nat) (v : Value) (L : List UInt8) (f : Bool) (w' : World) : Prop := ∃ v', PU w' n gp v' L ∧ (f = true → Full v' L) ∧ (∀ k, v'.ownBlock = some k → v.ownBlock = some k ∨ w.heap.size ≤ k) ∧ Tn (Fp gp v) w w'
/-- From the start of a stretch on. -/
structure PS (w0 w : World) (n gp : Nat) (v0 v : Value) (L : List UInt8) : Prop where
  pu : PU w n gp v L
  nw : ∀ k, v.ownBlock = some k → v0.ownBlock = some k ∨ w0.heap.size ≤ k
  t : Tn (Fp gp v0) w0 w
  bl : Below n w0 w
theorem PS.start {w : World} {n gp : Nat} {v : Value} {L : List UInt8} (h : PU w n gp v L) : PS w w n gp v v L := ⟨h, fun _ e => .inl e, Tn.refl _ _, Below.refl _ _⟩
theorem PS.below {w0 w w' : World} {n gp : Nat} {v0 v : Value} {L : List UInt8} (h : PS w0 w n gp v0 v L) (hb : Below w.heap.size w w') : PS w0 w' n gp v0 v L :=
  ⟨h.pu.below hb, h.nw, h.t.next hb, h.bl.trans (hb.mono (by have := (h.pu.lt gp (.inl rfl)); omega))⟩
theorem PS.put {w0 w w' : World} {n gp : Nat} {v0 v : Value} {L L' : List UInt8} {f : Bool} (h : PS w0 w n gp v0 v L) (p : Put1 w n gp v L' f w') : ∃ v', PS w0 w' n gp v0 v' L' ∧ (f = true → Full v' L') := by
  obtain ⟨v', h1, h2, h3, h4⟩ := p
  have hs := h.t.size
  refine ⟨v', ⟨h1, fun k hk => ?_, h.t.trans h4 fun j hj => ?_, h.bl.trans (h4.below (fun k hk => (h.pu.lt k hk).1) (by have := (h.pu.lt gp (.inl rfl)); omega))⟩, h2⟩
  · rcases h3 k hk with q | q
    · exact h.nw k q
    · exact .inr (by omega)
  · rcases hj with rfl | hj
    · exact .inl (.inl rfl)
    · rcases h.nw j hj with q | q
      · exact .inl (.inr q)
      · exact .inr q
theorem PS.done {w0 w : World} {n gp : Nat} {v0 v : Value} {L : List UInt8} (h : PS w0 w n gp v0 v L) : Put1 w0 n gp v0 L false w := ⟨v, h.pu, (fun e => by cases e), h.nw, h.t⟩
theorem PS.box {w0 w : World} {n gp b : Nat} {v0 v : Value} {L : List UInt8} {o : Obj} (h : PS w0 w n gp v0 v L) (hb : b < n) (hk : bk w0 b = some o) : bk w b = some o := bk_keep h.bl hb hk
theorem put_app {w w1 w2 : World} {n gp : Nat} {v v' : Value} {L m : List UInt8} (h : PU w n gp v L) (hb : Below w.heap.size w w1) (hown : Own w2 n v' (L ++ m)) (hg : w1.grownBy w2 v.ownBlock) (hnew : ∀ k, v'.ownBlock = some k → v.ownBlock = some k ∨ w1.heap.size ≤ k) :
    Put1 w n gp v (L ++ m) false (w2.setCell ⟨gp, 0, none⟩ v') ∧ bk w2 gp = some (.cells #[v] 64 (0, 0)) := by
  have h1 := h.below hb
  have lx := bk_lt h1.box
  have hx' : v'.ownBlock ≠ some gp := fun e => by
    rcases hnew gp e with h2 | h2
    · exact h.vx h2
    · omega
  have k2 : bk w2 gp = some (.cells #[v] 64 (0, 0)) := (hg.block gp lx (fun e => h.vx e.symm)).trans h1.box
  refine ⟨⟨v', ⟨?_, hown.turn fun k hk => bk_setCell_other _ _ _ _ _ (fun e1 => hx' (e1 ▸ hk)), hx', h.ng⟩, (fun e => by cases e), fun k hk => (hnew k hk).imp id (fun q => Nat.le_trans hb.size q), ?_⟩, k2⟩
  · rw [bk_setCell_same, k2]; rfl
  · exact ((Tn.of hb).trans (Tn.grown (F := fun k => v.ownBlock = some k) hg fun k hk => hk) fun j hj => .inl (.inr hj)).set (.inl (.inl rfl))
/-- Bytes that a call handed back are put where these were. -/
theorem put_new {w w1 : World} {n gp : Nat} {v v' : Value} {L M : List UInt8} (f : Bool) (h : PU w n gp v L) (hb : Below w.heap.size w w1) (ho : Own w1 w.heap.size v' M) (hf : f = true → Full v' M) :
    Put1 w n gp v M f (w1.setCell ⟨gp, 0, none⟩ v') := by
  have h1 := h.below hb
  have lx := bk_lt h.box
  have hne : ∀ k, v'.ownBlock = some k → k ≠ gp := fun k hk => by have := (ho.lt hk).1; omega
  refine ⟨v', ⟨?_, ?_, fun e => hne _ e rfl, h.ng⟩, hf, fun k hk => .inr (ho.lt hk).1, (Tn.of hb).set (.inl (.inl rfl))⟩
  · rw [bk_setCell_same, h1.box]; rfl
  · have ho' : Own w1 n v' M := by
      rcases ho with ho | ⟨g, c, cur, e, hg, r⟩
      · exact .inl ho
      · exact .inr ⟨g, c, cur, e, by have := h.ng; omega, r⟩
    exact ho'.turn fun k hk => bk_setCell_other _ _ _ _ _ (hne k hk)
theorem pnum_put (n gp k N : Nat) (m : Int) (v : Value) (L : List UInt8) (w : World) (h : PU w n gp v L) (hw : wid m = k) (hm : -2 ^ 63 ≤ m ∧ m < 2 ^ 63) (hN : N < 2 ^ 64) (hl : L.length < 2 ^ 40) :
    Calls Try.prog 103 #[.pointer (some ⟨gp, 0, none⟩), .int .u64 (N : Int), .int .i64 m] w fun e w' => e = .returned (.tuple #[]) ∧ Put1 w n gp v (L ++ nb k N) true w' := by
  obtain ⟨A, c, e, hr, hA, hc⟩ := h.row.sl
  subst e
  subst hw
  have c0 : w.cell? ⟨gp, 0, none⟩ = some (.slice A L.length c) := (bk_cell h.box 0).trans rfl
  have lx := bk_lt h.box
  have C := Lib.hid (put_any A L c N m w hr hA (by omega) hN hm)
  have H := Lib.hid h
  clear h hr hA hc
  go_enter Try.func103, Try.ntmps103
  go_wp2_with fail
  refine C.out.mono ?_
  rintro e w1 ⟨g, cur, rfl, hg, hb, hs, ht, hbel⟩
  have e1 : L.length + wid m = (L ++ nb (wid m) N).length := by rw [List.length_append, nb_length]
  have h47 : (L ++ nb (wid m) N).length ≤ maxLen := by rw [← e1]; have := wid_le m; unfold maxLen; omega
  rw [e1] at ht hs ⊢
  have F := Lib.hid (put_new (M := L ++ nb (wid m) N) true H.out hbel (.inr ⟨g, _, cur, rfl, hg, hb, Nat.le_refl _, hs, h47, ht, .inr rfl⟩) (fun _ => ⟨g, rfl⟩))
  have kb := bk_keep hbel lx H.out.box
  have lx1 := bk_lt kb
  have fr := bk_frozen kb 0
  have c1 : ∃ u, w1.cell? ⟨gp, 0, none⟩ = some u := ⟨_, bk_cell kb 0⟩
  clear C hg hb hs ht hbel kb c0
  obtain ⟨u1, c1⟩ := c1
  generalize hM : (L ++ nb (wid m) N) = M at *
  have HM := Lib.hid hM
  clear e1 hM h47
  go_wp2_with fail
  go_end0
  exact ⟨rfl, by rw [HM.out]; exact F.out⟩
end Go.Proofs.Ytjimmfbjhkoekaa
/- Icmps: the parts that are put. -/
namespace Go.Proofs.Ytjimmfbjhkoekaa
open Go.RowKit
set_option maxRecDepth 100000
set_option maxHeartbeats 1000000
theorem pone_put (n gp b o : Nat) (x0 : UInt8) (v : Value) (L : List UInt8) (w : World) (h : PU w n gp v L) (hc : w.cell? ⟨b, o, none⟩ = some (.int .u8 (x0.toNat : Int))) (_hb : b < w.heap.size) (hl : L.length < 2 ^ 40) :
    Calls Try.prog 98 #[.pointer (some ⟨gp, 0, none⟩), .pointer (some ⟨b, o, none⟩)] w fun e w' => e = .returned (.tuple #[]) ∧ Put1 w n gp v (L ++ nb 1 x0.toNat) true w' := by
  have hx8 := x0.toNat_lt
  have C := Lib.hid (pnum_put n gp 1 x0.toNat 1 v L w h rfl (by omega) (by omega) hl)
  clear h
  go_enter Try.func98, Try.ntmps98
  go_wp2_with fail
  refine C.out.mono ?_
  rintro e w1 ⟨rfl, H⟩
  have H1 := Lib.hid H
  clear C H
  go_wp2_with fail
  go_end0
  exact ⟨rfl, H1.out⟩
theorem ptwo_put (n gp b o N : Nat) (v : Value) (L : List UInt8) (w : World) (h : PU w n gp v L) (hc : w.cell? ⟨b, o, none⟩ = some (.int .u16 (N : Int))) (_hb : b < w.heap.size) (hN : N < 65536) (hl : L.length < 2 ^ 40) :
    Calls Try.prog 102 #[.pointer (some ⟨gp, 0, none⟩), .pointer (some ⟨b, o, none⟩)] w fun e w' => e = .returned (.tuple #[]) ∧ Put1 w n gp v (L ++ nb 2 N) true w' := by
  have C := Lib.hid (pnum_put n gp 2 N 2 v L w h rfl (by omega) (by omega) hl)
  clear h
  go_enter Try.func102, Try.ntmps102
  go_wp2_with fail
  refine C.out.mono ?_
  rintro e w1 ⟨rfl, H⟩
  have H1 := Lib.hid H
  clear C H
  go_wp2_with fail
  go_end0
  exact ⟨rfl, H1.out⟩
theorem pfour_put (n gp b o N : Nat) (v : Value) (L : List UInt8) (w : World) (h : PU w n gp v L) (hc : w.cell? ⟨b, o, none⟩ = some (.int .u32 (N : Int))) (_hb : b < w.heap.size) (hN : N < 4294967296) (hl : L.length < 2 ^ 40) :
    Calls Try.prog 96 #[.pointer (some ⟨gp, 0, none⟩), .pointer (some ⟨b, o, none⟩)] w fun e w' => e = .returned (.tuple #[]) ∧ Put1 w n gp v (L ++ nb 4 N) true w' := by
  have C := Lib.hid (pnum_put n gp 4 N 4 v L w h rfl (by omega) (by omega) hl)
  clear h
  go_enter Try.func96, Try.ntmps96
  go_wp2_with fail
  refine C.out.mono ?_
  rintro e w1 ⟨rfl, H⟩
  have H1 := Lib.hid H
  clear C H
  go_wp2_with fail
  go_end0
  exact ⟨rfl, H1.out⟩
theorem pcount_put (n gp N : Nat) (v : Value) (L : List UInt8) (w : World) (h : PU w n gp v L) (hN : N < 2 ^ 63) (hl : L.length < 2 ^ 40) :
    Calls Try.prog 95 #[.pointer (some ⟨gp, 0, none⟩), .int .i64 (N : Int)] w fun e w' => e = .returned (.int .i64 (N : Int)) ∧ Put1 w n gp v (L ++ nb 2 N) true w' := by
  have C := Lib.hid (pnum_put n gp 2 N 2 v L w h rfl (by omega) (by omega) hl)
  have e1 : IntKind.u64.wrap (N : Int) = (N : Int) := by rw [IntKind.wrap_u64]; omega
  clear h
  go_enter Try.func95, Try.ntmps95
  go_wp2_with fail
  refine C.out.mono ?_
  rintro e w1 ⟨rfl, H⟩
  have H1 := Lib.hid H
  clear C H e1
  go_wp2_with fail
  go_ret
  exact ⟨rfl, H1.out⟩
theorem pover_put (gp : Nat) (p : Value) (w : World) : Calls Try.prog 100 #[.pointer (some ⟨gp, 0, none⟩), p] w fun e w' => e = .returned (.tuple #[]) ∧ w = w' := by
  go_enter Try.func100, Try.ntmps100
  go_wp2_with fail
  go_end0
  exact ⟨rfl, rfl⟩
end Go.Proofs.Ytjimmfbjhkoekaa
/- Icmps: noughts, an address, bytes, that are put. -/
namespace Go.Proofs.Ytjimmfbjhkoekaa
open Go.RowKit
set_option maxRecDepth 100000
set_option maxHeartbeats 1000000
theorem put_box {w w1 w2 : World} {n gp : Nat} {v : Value} {L : List UInt8} (h : PU w n gp v L) (hb : Below w.heap.size w w1) (hg : w1.grownBy w2 v.ownBlock) : gp < w2.heap.size ∧ w2.frozen? ⟨gp, 0, none⟩ = false ∧ w2.cell? ⟨gp, 0, none⟩ = some v := by
  have h1 := h.below hb
  have k2 : bk w2 gp = some (.cells #[v] 64 (0, 0)) := (hg.block gp (bk_lt h1.box) (fun e => h.vx e.symm)).trans h1.box
  exact ⟨bk_lt k2, bk_frozen k2 0, (bk_cell k2 0).trans rfl⟩
theorem paddr_put (n gp b o : Nat) (z : List UInt8) (v : Value) (L : List UInt8) (w : World) (h : PU w n gp v L) (hz : z.length = 16) (hr : Rd w w.heap.size (some ⟨b, o, none⟩) z) (hl : L.length < 2 ^ 40) :
    Calls Try.prog 94 #[.pointer (some ⟨gp, 0, none⟩), .pointer (some ⟨b, o, none⟩)] w fun e w' => e = .returned (.tuple #[]) ∧ Put1 w n gp v (L ++ z) false w' := by
  obtain ⟨A, c, e, hr1, hA, hc⟩ := h.row.sl
  subst e
  have c0 : w.cell? ⟨gp, 0, none⟩ = some (.slice A L.length c) := (bk_cell h.box 0).trans rfl
  have lx := bk_lt h.box
  have HN : Hid (n ≤ w.heap.size) := Lib.hid (by have := h.ng; omega)
  have HP := Lib.hid h; have HR := Lib.hid hr
  have HL : Hid (L.length + z.length < 2 ^ 46) := Lib.hid (by omega)
  have HZ := Lib.hid hz
  obtain ⟨b', o', e, hbl, _⟩ := hr (by omega)
  cases e
  clear h hr hr1 hA hc hz
  go_enter Try.func94, Try.ntmps94
  go_upto_region 0 with fail
  have HB : Hid (Below w.heap.size w w.drew) := Lib.hid (by (repeat (first | exact Below.refl _ _ | assumption | refine Below.drew ?_ | refine bdrewN ?_ _ | refine Below.alloc ?_ (by first | omega | (simp <;> omega) | (simp only [World.size_alloc] <;> omega)) _ | refine below_setRow ?_ (by first | omega | (simp <;> omega)) _ | refine Below.setCell ?_ (by first | omega | (simp <;> omega)) _)))
  have RD : Hid (Rd w.drew w.drew.heap.size (some ⟨b, o, none⟩) z) := HR
  go_region_law (refine step_app rfl _ _ rfl n _ L z _ rfl (HP.out.below HB.out).row (some ⟨b, o, none⟩) 16 rfl HZ.out.symm RD.out (fun e => by cases e) HN.out HL.out ?_; intro A' N' c' w2 r1 r2 r3; have FX := Lib.hid (put_app HP.out HB.out r1 r2 r3); obtain ⟨q1, q2, q3⟩ := put_box HP.out HB.out r2; clear r1 r2 r3 HP HB HL HN HR RD)
  all_goals
    go_end0
    exact ⟨rfl, FX.out.1⟩
theorem prest_put (n gp b o : Nat) (A2 : Option Addr) (m : List UInt8) (c2 : Nat) (v : Value) (L : List UInt8) (w : World) (h : PU w n gp v L) (_hb : b < w.heap.size) (hc2 : w.cell? ⟨b, o, none⟩ = some (.slice A2 m.length c2)) (hr : Rd w w.heap.size A2 m) (hA2 : A2 = none → m = [] ∧ c2 = 0) (hl : L.length + m.length < 2 ^ 40) :
    Calls Try.prog 101 #[.pointer (some ⟨gp, 0, none⟩), .pointer (some ⟨b, o, none⟩)] w fun e w' => e = .returned (.tuple #[]) ∧ Put1 w n gp v (L ++ m) false w' := by
  obtain ⟨A, c, e, hr1, hA, hc⟩ := h.row.sl
  subst e
  have c0 : w.cell? ⟨gp, 0, none⟩ = some (.slice A L.length c) := (bk_cell h.box 0).trans rfl
  have lx := bk_lt h.box
  have HN : Hid (n ≤ w.heap.size) := Lib.hid (by have := h.ng; omega)
  have HP := Lib.hid h; have HR := Lib.hid hr; have HA2 := Lib.hid hA2
  have HL : Hid (L.length + m.length < 2 ^ 46) := Lib.hid (by omega)
  clear h hr hr1 hA hc hA2
  go_enter Try.func101, Try.ntmps101
  go_upto_region 0 with fail
  have HB : Hid (Below w.heap.size w w.drew) := Lib.hid (by (repeat (first | exact Below.refl _ _ | assumption | refine Below.drew ?_ | refine bdrewN ?_ _ | refine Below.alloc ?_ (by first | omega | (simp <;> omega) | (simp only [World.size_alloc] <;> omega)) _ | refine below_setRow ?_ (by first | omega | (simp <;> omega)) _ | refine Below.setCell ?_ (by first | omega | (simp <;> omega)) _)))
  have RD : Hid (Rd w.drew w.drew.heap.size A2 m) := HR
  go_region_law (refine step_app rfl _ _ rfl n _ L m _ rfl (HP.out.below HB.out).row A2 c2 rfl rfl RD.out HA2.out HN.out HL.out ?_; intro A' N' c' w2 r1 r2 r3; have FX := Lib.hid (put_app HP.out HB.out r1 r2 r3); obtain ⟨q1, q2, q3⟩ := put_box HP.out HB.out r2; clear r1 r2 r3 HP HB HL HN HR RD HA2)
  all_goals
    go_end0
    exact ⟨rfl, FX.out.1⟩
theorem run_noughts {w : World} (ty : TypeId) (ad : Addr) (l1 : List UInt8) (h1 : Rd w w.heap.size (some ad) l1) (m : Nat) (hm0 : 0 < m) (hb : l1.length + m < 2 ^ 40) :
    ∃ v' w', (Builtin.append_ #[27, 3] ty #[.slice (some ad) l1.length l1.length, .int .i64 m]).run Try.prog w = .ok v' w' ∧ w'.ownsRow w.heap.size 5 1 v' (l1.length + m) ((l1 ++ List.replicate m 0).map B) ∧ Below w.heap.size w w' := by
  obtain ⟨i0, hi, hz0, hz1, hz2⟩ := info_parts infoB
  have hw : IntKind.i64.wrap (m : Int) = m := by rw [IntKind.wrap_i64]; omega
  have hneg : ¬ ((m : Int) < 0) := by omega
  have h48i : ¬ (281474976710656 < (m : Int) * (i0.bytes : Int)) := by rw [hz2]; omega
  have hn : ¬ (l1.length + m ≤ l1.length) := by omega
  have hm : m ≠ 0 := by omega
  have h63' : ¬ (9223372036854775807 < ((l1.length : Int) + (m : Int))) := by omega
  have h48' : ¬ (281474976710656 < Builtin.nextslicecap (l1.length + m) l1.length * i0.bytes) := by
    have := growslice_fits (need := l1.length + m) (old := l1.length) (bytes := i0.bytes) (by omega) (by rw [hz2]; omega)
    omega
  have hfo := run_firstCells_some (P := Try.prog) w.drew i0.size l1.length ad l1.length l1.length (l1.map B) (by rw [hz1]; simp) (by simpa using h1.news)
  have hns : ¬ (m * i0.size = 0) := Nat.mul_ne_zero hm (by omega)
  have hr : (Builtin.append_ #[27, 3] ty #[.slice (some ad) l1.length l1.length, .int .i64 m]).run Try.prog w = .ok (.slice (some ⟨w.heap.size, 0, none⟩) (l1.length + m) (grownCap w (l1.length + m) l1.length 5))
      (w.drew.alloc (.cells ((l1.map B).toArray ++ Builtin.zeroCells (Value.int .u8 0).cells m ++ Builtin.zeroCells (Value.int .u8 0).cells (grownCap w (l1.length + m) l1.length 5 - (l1.length + m))) 5)) := by
    simp [Builtin.append_, run_underlying Try.underlying27, run_underlying Try.underlying3, sizeOf, typeInfo, zeroValue, hi, hz0, asInt, asIntOf, hw, hn, hneg, hns, h63', h48', h48i, Question.forced, hfo, newRow, grownCap]
  refine ⟨_, _, hr, ?_, (Below.refl _ _).drew.alloc (show w.heap.size ≤ w.drew.heap.size from Nat.le_refl _) _⟩
  refine ⟨by simp, .inr ⟨w.heap.size, _, _, rfl, Nat.le_refl _, heap_alloc_new w.drew _, ?_, ?_, ?_, ?_⟩⟩
  · exact grownCap_ge w _ _ _
  · exact grownCap_le_maxLen w _ _ _ (by unfold maxLen; omega)
  · have hge := grownCap_ge w (l1.length + m) l1.length 5
    simp only [Array.size_append, List.size_toArray, size_zeroCells, List.length_map]
    show l1.length + m * 1 + (_ - _) * 1 = _ * 1
    omega
  · rw [zeroCells_B]
    simp only [Array.toList_append, List.append_assoc]
    rw [← List.append_assoc, ← List.map_append]
    exact List.take_left' (by simp)
theorem append_noughts {w : World} {ops : Array Oper} {rest : List Oper} {o : Oper} {a : Act} {Q : Exit → Act → World → Prop} (hgd : o.guard = none) (s x : Operand)
    (ho : o.op = .call { callee := .builtin .append, args := #[s, x], argTypes := #[27, 3] }) (ad : Addr) (l1 : List UInt8) (n1 c1 : Nat) (hs : a.eval s = .slice (some ad) n1 c1) (hn1 : n1 = l1.length) (hc1 : c1 = l1.length) (h1 : Rd w w.heap.size (some ad) l1)
    (m : Nat) (hx : a.eval x = .int .i64 m) (hm : 0 < m) (hb : l1.length + m < 2 ^ 40)
    (h : ∀ A' N' c' w', Own w' w.heap.size (.slice A' N' c') (l1 ++ List.replicate m 0) → Below w.heap.size w w' → wpList Try.prog ops Q rest (a.put o.dst (.slice A' N' c')) w') : wpList Try.prog ops Q (o :: rest) a w := by
  subst hc1 hn1
  obtain ⟨v', w', hr, h3, h4⟩ := run_noughts o.type ad l1 h1 m hm hb
  refine wpList_plain hgd fun K hK => ?_
  unfold Oper.wp execOp
  simp only [ho, resolve, invoke, builtin, Sem.run_bind, Sem.run_pure, Result.andThen_ok, List.map_toArray, List.map_cons, List.map_nil, hs, hx, hr]
  have ho := Own.of (w := w') (L := l1 ++ List.replicate m 0) h3 (by simp)
  obtain ⟨A', c', rfl, _⟩ := ho.sl
  exact hK _ _ (h _ _ _ w' ho h4)
theorem pnought_put (n gp m : Nat) (v : Value) (L : List UInt8) (w : World) (h : PU w n gp v L) (hf : Full v L) (hm : 0 < m) (hm2 : m < 2 ^ 20) (hl : L.length < 2 ^ 36) :
    Calls Try.prog 97 #[.pointer (some ⟨gp, 0, none⟩), .int .i64 (m : Int)] w fun e w' => e = .returned (.tuple #[]) ∧ Put1 w n gp v (L ++ List.replicate m 0) false w' := by
  obtain ⟨g, e⟩ := hf
  obtain ⟨A, c, e2, hr1, hA, hc⟩ := h.row.sl
  rw [e] at e2
  cases e2
  subst e
  have c0 : w.cell? ⟨gp, 0, none⟩ = some (.slice (some ⟨g, 0, none⟩) L.length L.length) := (bk_cell h.box 0).trans rfl
  have lx := bk_lt h.box
  have HP := Lib.hid h; have HR := Lib.hid hr1
  have HM : Hid (0 < m ∧ L.length + m < 2 ^ 40) := Lib.hid (by omega)
  clear h hr1 hA hc
  go_enter Try.func97, Try.ntmps97
  go_wp2_with (at_builtin; refine append_noughts rfl _ _ rfl ⟨g, 0, none⟩ L _ _ rfl rfl rfl HR.out m rfl HM.out.1 HM.out.2 ?_)
  intro A' N' c' w2 h2 b2
  have FX := Lib.hid (put_new false HP.out b2 h2 (fun e => by cases e))
  have kb := bk_keep b2 lx HP.out.box
  have q1 := bk_lt kb
  have q2 := bk_frozen kb 0
  have q3 : w2.cell? ⟨gp, 0, none⟩ = some (.slice (some ⟨g, 0, none⟩) L.length L.length) := (bk_cell kb 0).trans rfl
  clear kb h2 b2 HP HR HM c0
  go_wp2_with fail
  go_end0
  exact ⟨rfl, FX.out⟩
end Go.Proofs.Ytjimmfbjhkoekaa
/- Icmps: rows of whatever structs that came in; options, plain. -/
namespace Go.Proofs.Ytjimmfbjhkoekaa
open Go.RowKit
set_option maxRecDepth 100000
section
variable {α : Type}
/-- A slice of structs of C cells each. -/
def Rws (C : Nat) (row : α → Array Value) (w : World) (n : Nat) (A : Option Addr) (l : List α) : Prop :=
  l ≠ [] → ∃ g o c t fr, A = some ⟨g, o, none⟩ ∧ g < n ∧ bk w g = some (.cells c t fr) ∧ ∀ j (h : j < l.length), o + j * C + C ≤ c.size ∧ xt c (o + j * C) C = row l[j]
variable {C : Nat} {row : α → Array Value} {w w' : World} {n m : Nat} {A : Option Addr} {l : List α}
theorem Rws.nil : Rws C row w n A ([] : List α) := fun h => absurd rfl h
theorem Rws.mono (h : Rws C row w n A l) (hm : n ≤ m) : Rws C row w m A l := fun h0 => by
  obtain ⟨g, o, c, t, fr, h1, h2, h3⟩ := h h0
  exact ⟨g, o, c, t, fr, h1, by omega, h3⟩
theorem Rws.turn {F : Nat → Prop} (h : Rws C row w n A l) (ht : Tn F w w') (hm : n ≤ m) (hF : ∀ g o, A = some ⟨g, o, none⟩ → ¬ F g) : Rws C row w' m A l := fun h0 => by
  obtain ⟨g, o, c, t, fr, h1, h2, h3, h4⟩ := h h0
  exact ⟨g, o, c, t, fr, h1, by omega, ht.keep (hF g o h1) h3, h4⟩
theorem Rws.below {k : Nat} (h : Rws C row w n A l) (hb : Below k w w') (hk : n ≤ k) : Rws C row w' n A l := fun h0 => by
  obtain ⟨g, o, c, t, fr, h1, h2, h3, h4⟩ := h h0
  exact ⟨g, o, c, t, fr, h1, h2, bk_keep hb (by omega) h3, h4⟩
theorem Rws.at (h : Rws C row w n A l) {j : Nat} (hj : j < l.length) (_hC : ∀ x, (row x).size = C) : ∃ g o c t fr, A = some ⟨g, o, none⟩ ∧ g < n ∧ bk w g = some (.cells c t fr) ∧ o + j * C + C ≤ c.size ∧ xt c (o + j * C) C = row l[j] ∧
    ∀ i, i < C → w.cell? ⟨g, o + j * C + i, none⟩ = (row l[j])[i]? := by
  obtain ⟨g, o, c, t, fr, h1, h2, h3, h4⟩ := h (by intro e; rw [e] at hj; simp at hj)
  obtain ⟨h5, h6⟩ := h4 j hj
  refine ⟨g, o, c, t, fr, h1, h2, h3, h5, h6, fun i hi => ?_⟩
  rw [bk_cell h3, ← h6]
  simp [xt, Array.getElem?_extract]
  omega
end
theorem Rd.tk {w : World} {n : Nat} {A : Option Addr} {l : List UInt8} (h : Rd w n A l) (k : Nat) : Rd w n A (l.take k) := fun h0 => by
  rw [List.length_take] at h0
  obtain ⟨b, o, e, hb, hc⟩ := h (by omega)
  refine ⟨b, o, e, hb, fun j hj => ?_⟩
  rw [List.getElem_take]
  exact hc j (by rw [List.length_take] at hj; omega)
/-- An option, in memory. -/
structure Ov where
  kind : UInt8
  A : Option Addr
  d : List UInt8
  c : Nat
def Ov.row (x : Ov) : Array Value := #[B x.kind, .slice x.A x.d.length x.c]
def Ov.pl (x : Ov) : UInt8 × List UInt8 := (x.kind, x.d)
@[go_sem] theorem Ov.row_size (x : Ov) : x.row.size = 2 := rfl
@[go_sem] theorem Ov.row_ones (x : Ov) : ones x.row.toList = true := rfl
structure OvOk (w : World) (n : Nat) (x : Ov) : Prop where
  rd : Rd w n x.A x.d
  nil : x.A = none → x.d = [] ∧ x.c = 0
  le : x.d.length ≤ x.c
  lt : x.c < 2 ^ 63
def Ovs (w : World) (n : Nat) (A : Option Addr) (l : List Ov) : Prop := Rws 2 Ov.row w n A l ∧ ∀ x ∈ l, OvOk w n x
theorem OvOk.below {w w' : World} {n k : Nat} {x : Ov} (h : OvOk w n x) (hb : Below k w w') (hk : n ≤ k) : OvOk w' n x := ⟨h.rd.below hb hk, h.nil, h.le, h.lt⟩
theorem OvOk.mono {w : World} {n m : Nat} {x : Ov} (h : OvOk w n x) (hm : n ≤ m) : OvOk w m x := ⟨h.rd.mono hm, h.nil, h.le, h.lt⟩
theorem Ovs.below {w w' : World} {n k : Nat} {A : Option Addr} {l : List Ov} (h : Ovs w n A l) (hb : Below k w w') (hk : n ≤ k) : Ovs w' n A l := ⟨h.1.below hb hk, fun x hx => (h.2 x hx).below hb hk⟩
theorem Ovs.mono {w : World} {n m : Nat} {A : Option Addr} {l : List Ov} (h : Ovs w n A l) (hm : n ≤ m) : Ovs w m A l := ⟨h.1.mono hm, fun x hx => (h.2 x hx).mono hm⟩
/-- An option's bytes. -/
def optE (d : List UInt8) : List UInt8 := d.take 2038
def optM (d : List UInt8) : Nat := ((optE d).length + 9) / 8
def optB (o : UInt8 × List UInt8) : List UInt8 := [o.1, UInt8.ofNat (optM o.2)] ++ optE o.2 ++ List.replicate (optM o.2 * 8 - 2 - (optE o.2).length) 0
def optsB (l : List (UInt8 × List UInt8)) : List UInt8 := (l.map optB).flatten
theorem optE_le (d : List UInt8) : (optE d).length ≤ 2038 ∧ (optE d).length ≤ d.length := by unfold optE; rw [List.length_take]; omega
theorem optM_le (d : List UInt8) : 1 ≤ optM d ∧ optM d ≤ 255 := by have := optE_le d; unfold optM; omega
theorem optB_len (o : UInt8 × List UInt8) : (optB o).length = 8 * optM o.2 := by
  have := optM_le o.2
  unfold optB
  rw [List.length_append, List.length_append, List.length_replicate]
  have h2 : (optE o.2).length + 2 ≤ optM o.2 * 8 := by unfold optM; omega
  simp
  omega
theorem optB_sz (d : List UInt8) : (optE d).length + 2 ≤ optM d * 8 ∧ optM d * 8 ≤ (optE d).length + 9 := by unfold optM; omega
theorem optsB_snoc {l : List (UInt8 × List UInt8)} {k : Nat} (h : k < l.length) : optsB (l.take (k + 1)) = optsB (l.take k) ++ optB l[k] := by
  rw [List.take_succ_eq_append_getElem h]; unfold optsB; rw [List.map_append, List.flatten_append]; simp
theorem optsB_le {l : List (UInt8 × List UInt8)} (k : Nat) : (optsB (l.take k)).length ≤ (optsB l).length := by
  conv => rhs; rw [← List.take_append_drop k l]
  unfold optsB
  rw [List.map_append, List.flatten_append, List.length_append]
  omega
end Go.Proofs.Ytjimmfbjhkoekaa
/- Icmps: options.Put. -/
namespace Go.Proofs.Ytjimmfbjhkoekaa
open Go.RowKit
set_option maxRecDepth 100000
set_option maxHeartbeats 1000000
@[go_sem ↓] theorem ldOpt (dst : Option Tmp) (x : Operand) (t : TypeId) (pos : String) (af : Array Edge) (g : Option (Nat × Bool)) (a : Act) (w : World) (K : Act → World → Prop) (Q : Exit → Act → World → Prop) :
    Oper.wp Try.prog ⟨dst, .load 97 x, t, pos, af, g⟩ a w K Q = ldPtr (wpHid Try.prog ⟨dst, .load 97 x, t, pos, af, g⟩ a w K Q) 2 w (fun c => K (a.put dst (.agg c)) w) (a.eval x) :=
  wp_load_bk 97 2 _ Try.underlying97 rfl (by kernel_rfl) dst x t pos af g a w K Q
@[go_sem ↓] theorem stOpt (dst : Option Tmp) (x y : Operand) (t : TypeId) (pos : String) (af : Array Edge) (g : Option (Nat × Bool)) (a : Act) (w : World) (K : Act → World → Prop) (Q : Exit → Act → World → Prop) :
    Oper.wp Try.prog ⟨dst, .store 97 x y, t, pos, af, g⟩ a w K Q = stPtr (wpHid Try.prog ⟨dst, .store 97 x y, t, pos, af, g⟩ a w K Q) 2 w (fun w' => K (a.put dst undef) w') (a.eval x) (a.eval y) :=
  wp_store_bk 97 2 (by kernel_rfl) dst x y t pos af g a w K Q
@[go_sem ↓] theorem qlOpt (dst : Option Tmp) (x : Operand) (t : TypeId) (pos : String) (af : Array Edge) (g : Option (Nat × Bool)) (a : Act) (m : Nat) (W : World) (K : Act → Prop) :
    Oper.quiet Try.prog ⟨dst, .load 97 x, t, pos, af, g⟩ a (fun w' => ∃ x : Later m W, w' = x.w) K =
      ldLater (quietHid Try.prog ⟨dst, .load 97 x, t, pos, af, g⟩ a (fun w' => ∃ x : Later m W, w' = x.w) K) m 2 W (fun c => K (a.put dst (.agg c))) (a.eval x) :=
  quiet_load_bk 97 2 _ Try.underlying97 rfl (by kernel_rfl) dst x t pos af g a m W K
/-- make of bytes: their noughts, too. -/
theorem makez_mk {m : Nat} {M : MadeW m} {x y : Operand} {k1 k2 : IntKind} {n : Nat} {dst : Option Tmp} {tt : TypeId} {pos : String} {af : Array Edge} {g : Option (Nat × Bool)} {a : Act} {w : World} (HM : Hid (M = MadeW.row m (fun b => .slice (some ⟨b, 0, none⟩) n n) (List.map B (List.replicate n 0)).toArray 5))
    (hx : a.eval x = .int k1 n) (hy : a.eval y = .int k2 n) (h2 : n ≤ 140737488355328) (hm : m ≤ w.heap.size) : madeAtW Try.prog M ⟨dst, .makeSlice 27 x y, tt, pos, af, g⟩ a w := by
  obtain ⟨i, hi1, hz, hs, hb⟩ := info_parts infoB
  have hr := run_make (P := Try.prog) w 27 5 i _ Try.underlying27 hi1 hz k1 k2 n n (by omega) (by omega) (by rw [hb]; omega) (by omega)
  rw [hs, Nat.mul_one, show (Value.int .u8 0).cells = #[Value.int .u8 0] from rfl, made_bytes] at hr
  unfold madeAtW execOp
  simp only [hx, hy, Sem.run_bind, hr, Result.andThen_ok]
  exact (row_mk (b := w.heap.size) HM ((Below.refl _ _).alloc (Nat.le_refl _) _) hm hm (bk_alloc_at _ _ _ rfl) :)
/-- A block whose content hangs on slots. -/
def Ent.rowX (m k : Nat) (X : List Tmp) (f : Nat → Value) (g : List Value → Array Value) (t : TypeId) : Ent m := ⟨k, fun xs => MadeW.row m f (g xs) t, [], [t], X, fun _ => ⟨rfl, rfl⟩⟩
theorem facts3 {fs : Fs} {k k' k2 : Nat} {F F' F2 : World → Prop} (h : ∀ w, fs k w → F w) (h' : ∀ w, fs k' w → F' w) (h2 : ∀ w, fs k2 w → F2 w) : ∀ p ∈ [(k, F), (k', F'), (k2, F2)], ∀ w, fs p.1 w → p.2 w := fun p hp w hw => by
  simp only [List.mem_cons, List.not_mem_nil, or_false] at hp
  rcases hp with rfl | rfl | rfl
  · exact h w hw
  · exact h' w hw
  · exact h2 w hw
theorem oput_any (A : Option Addr) (l : List Ov) (c : Nat) (w : World) (h : Ovs w w.heap.size A l) (hl : l.length < 2 ^ 30) (hb : (optsB (l.map Ov.pl)).length < 2 ^ 36) :
    Calls Try.prog 104 #[.slice A l.length c] w fun e w' => ∃ A' , e = .returned (.slice A' (optsB (l.map Ov.pl)).length (optsB (l.map Ov.pl)).length) ∧ Own w' w.heap.size (.slice A' (optsB (l.map Ov.pl)).length (optsB (l.map Ov.pl)).length) (optsB (l.map Ov.pl)) ∧ Below w.heap.size w w' := by
  have HO := Lib.hid h
  obtain ⟨N, hN⟩ : ∃ N, N = l.length := ⟨_, rfl⟩
  obtain ⟨LL, hLL⟩ : ∃ L, L = optsB (l.map Ov.pl) := ⟨_, rfl⟩
  rw [← hLL] at hb ⊢
  rw [← hN] at hl ⊢
  have HN := Lib.hid hN; have HBL := Lib.hid hb; have HLL := Lib.hid hLL
  clear h hN hb hLL
  go_enter Try.func104, Try.ntmps104
  go_wp2_with fail
  go_loopw [2, 9] (fun v i wr => ∃ (k : Nat) (A1 : Option Addr) (c1 L1 : Nat), k ≤ N ∧ i = .int .i64 (k : Int) ∧ v = .slice A1 L1 c1 ∧ Hid (L1 = (optsB ((l.map Ov.pl).take k)).length) ∧ Hid (wr.ownsRow w.heap.size 5 1 (.slice A1 L1 c1) L1 ((optsB ((l.map Ov.pl).take k)).map B)) ∧ Hid (Below w.heap.size w wr)) (fun _ i _ => N - (intOf i).toNat)
  case atStart => exact ⟨0, none, 0, 0, by omega, rfl, rfl, Lib.hid rfl, Lib.hid (World.ownsRow_nil _ _ _ _), Lib.hid (Below.refl _ _)⟩
  case round =>
    obtain ⟨k, A1, c1, L1, hk, rfl, rfl, HL1, HW1, HB⟩ := hrel
    by_cases hlt : k < N
    · have d1 : decide ((k : Int) < (N : Int)) = true := by simp; omega
      have hkl : k < l.length := by rw [← HN.out]; exact hlt
      obtain ⟨g, o, cc, t, fr, rfl, hgn, hka, hsz, hxt, hc⟩ := ((HO.out.below HB.out (Nat.le_refl _)).1.at hkl Ov.row_size)
      have hok := (HO.out.below HB.out (Nat.le_refl _)).2 _ (List.getElem_mem hkl)
      obtain ⟨x, hx⟩ : ∃ x, x = l[k] := ⟨_, rfl⟩
      rw [← hx] at hxt hc hok
      have HX : Hid (optsB ((l.map Ov.pl).take (k + 1)) = optsB ((l.map Ov.pl).take k) ++ optB x.pl) := Lib.hid (by rw [optsB_snoc (by rw [List.length_map]; exact hkl), hx, List.getElem_map])
      have hgl := bk_lt hka
      have hle := hok.le
      have hlt' := hok.lt
      obtain ⟨E, hE⟩ : ∃ E, E = (optE x.d).length := ⟨_, rfl⟩
      have hmin : Hid ((if (2038 : Int) < (x.d.length : Int) then (2038 : Int) else (x.d.length : Int)) = (E : Int)) := Lib.hid (by rw [hE]; unfold optE; rw [List.length_take]; split <;> omega)
      have hEb : E ≤ 2038 ∧ E ≤ x.d.length := by rw [hE]; exact optE_le x.d
      have HE := Lib.hid hE
      have HOK := Lib.hid hok
      clear hx hc hok hE hkl
      go_upto_region 4 with fail
      rw [stRow_some _ _ _ _ _ _ _ _ (by simp) (Ov.row_size _) (Ov.row_ones _)]
      have B4 : Hid (Below w.heap.size w ((wr.alloc (.cells #[.int .u8 0, .slice none 0 0] 97)).setRow wr.heap.size x.row)) := Lib.hid (HB.out.trans ⟨rfl, rfl, rfl, by simp [World.setRow], fun j hj => (bk_setRow_other _ _ _ _ (by have := HB.out.size; omega)).trans (bk_alloc_past _ _ _ (by have := HB.out.size; omega))⟩)
      have B44 : Hid (Below wr.heap.size wr ((wr.alloc (.cells #[.int .u8 0, .slice none 0 0] 97)).setRow wr.heap.size x.row)) := Lib.hid ⟨rfl, rfl, rfl, by simp [World.setRow], fun j hj => (bk_setRow_other _ _ _ _ (by omega)).trans (bk_alloc_past _ _ _ (by omega))⟩
      have k4 : bk ((wr.alloc (.cells #[.int .u8 0, .slice none 0 0] 97)).setRow wr.heap.size x.row) wr.heap.size = some (.cells x.row 97 (0, 0)) := by rw [bk_setRow_same, bk_alloc_at _ _ _ rfl]; rfl
      obtain ⟨W, hW⟩ : ∃ W, W = (wr.alloc (.cells #[.int .u8 0, .slice none 0 0] 97)).setRow wr.heap.size x.row := ⟨_, rfl⟩
      rw [← hW] at B4 B44 k4 ⊢
      clear hW
      obtain ⟨bo, hbo⟩ : ∃ b, b = wr.heap.size := ⟨_, rfl⟩
      rw [← hbo] at k4 ⊢
      have y0 : W.cell? ⟨bo, 0, none⟩ = some (.int .u8 (x.kind.toNat : Int)) := (bk_cell k4 0).trans rfl
      have y1 : W.cell? ⟨bo, 1, none⟩ = some (.slice x.A x.d.length x.c) := (bk_cell k4 1).trans rfl
      have ly := bk_lt k4
      have OK4 := Lib.hid (HOK.out.below B44.out HB.out.size)
      have HW4 := Lib.hid (own_below HW1.out B44.out)
      clear hka hsz hxt hgl HW1 HB HOK B44 k4 hbo
      go_upto_region 5 with fail
      rw [hmin.out, Int.toNat_natCast]
      clear hmin
      obtain ⟨y, hy⟩ : ∃ y : UInt8, y = UInt8.ofNat (optM x.d) := ⟨_, rfl⟩
      have hyn : y.toNat = optM x.d := by rw [hy, UInt8.toNat_ofNat']; have := optM_le x.d; omega
      have HY := Lib.hid (And.intro hy hyn)
      have hyE : E + 2 ≤ y.toNat * 8 ∧ y.toNat * 8 ≤ E + 9 := by rw [hyn, HE.out]; exact optB_sz x.d
      have hy8 := y.toNat_lt
      have e5 : Hid ((2 + (E : Int) + 8 - 1) / 8 = (y.toNat : Int)) := Lib.hid (by omega)
      clear hy hyn
      go_upto_region 6 with fail
      rw [e5.out]
      clear e5
      obtain ⟨Z, hZ⟩ : ∃ Z, Z = y.toNat * 8 - 2 - E := ⟨_, rfl⟩
      have f1 : IntKind.i64.wrap ((y.toNat : Int) * 8) = ((y.toNat * 8 : Nat) : Int) := by rw [IntKind.wrap_i64]; omega
      have f2 : IntKind.i64.wrap (((y.toNat * 8 : Nat) : Int) - 2) = ((y.toNat * 8 - 2 : Nat) : Int) := by rw [IntKind.wrap_i64]; omega
      have f3 : IntKind.i64.wrap (((y.toNat * 8 - 2 : Nat) : Int) - (E : Int)) = (Z : Int) := by rw [IntKind.wrap_i64]; omega
      have HZ := Lib.hid hZ
      have HZi : Hid ((y.toNat : Int) * 8 - 2 - (E : Int) = (Z : Int)) := Lib.hid (by omega)
      have hZ9 : Z ≤ 8 := by omega
      obtain ⟨Lk, hLk⟩ : ∃ L, L = optsB ((l.map Ov.pl).take k) := ⟨_, rfl⟩
      have hL1 := HL1.out
      rw [← hLk] at hL1 HX HW4
      have HLB : Hid (Lk.length < 2 ^ 36) := Lib.hid (by rw [hLk]; have h1 := optsB_le (l := l.map Ov.pl) k; rw [← HLL.out] at h1; have := HBL.out; omega)
      have HLk := Lib.hid hLk
      subst hL1
      clear hLk HL1
      obtain ⟨M5, hM5⟩ : ∃ M : MadeW W.heap.size, M = MadeW.row _ (fun b => .slice (some ⟨b, 0, none⟩) 2 2) (List.map B [x.kind, y]).toArray 5 := ⟨_, rfl⟩
      obtain ⟨M13, hM13⟩ : ∃ M : MadeW W.heap.size, M = MadeW.row _ (fun b => .slice (some ⟨b, 0, none⟩) Z Z) (List.map B (List.replicate Z 0)).toArray 5 := ⟨_, rfl⟩
      obtain ⟨M15, hM15⟩ : ∃ M : MadeW W.heap.size, M = MadeW.own _ [] (Lk ++ optB x.pl) := ⟨_, rfl⟩
      have H5 := Lib.hid hM5; have H13 := Lib.hid hM13; have H15 := Lib.hid hM15
      clear hM5 hM13 hM15
      have hsz2 : W.heap.size = W.heap.size := rfl
      refine wp_region_e (W.heap.size) ([.row 5 H5, .val W.heap.size 11 (.int .i64 (E : Int)), .row 13 H13, .rowX W.heap.size 14 [31, 39] (fun b => .slice (some ⟨b, 0, none⟩) 4 4) (fun xs => #[.slice A1 Lk.length c1, xs.getD 0 undef, .slice x.A E x.c, xs.getD 1 undef]) 27, .own 15 H15]) (fun k => (([(15, [5, 13, 14])] : List (Nat × List Nat)).lookup k).getD []) (Fs.nil) (by first | omega | (simp <;> omega)) (by kernel_rfl) (by kernel_rfl) (by kernel_rfl) (by kernel_rfl) EnvW.Ini.nil ?_
      refine walkW_segn 5 [] facts0 noneHx (by kernel_rfl) (by kernel_rfl) ?_
      simp only [List.take_succ_cons, List.take_zero, List.drop_succ_cons, List.drop_zero, Nat.reduceAdd]
      repeat (go_big_quiet_step (fail))
      (first | refine wpQuiet_nil ?_ | (go_big_quiet_want; (try go_big_quiet_op); trace_state; fail))
      refine walkW_mk (fun _ => M5) [] M5 ([]) facts0 (by kernel_rfl) (by kernel_rfl) (by kernel_rfl) rfl rfl (fun w' hb' hg' => ?_) (fun v5 h5 => ?_)
      · unfold madeAtW
        go_simp
        ((exact (row_mk (b := w'.heap.size) H5 ((Below.refl _ _).alloc (Nat.le_refl _) _) hb'.size hb'.size (bk_alloc_at _ _ _ rfl) :)))
      obtain ⟨b5, m5, rfl⟩ := row_T H5 h5
      simp only [Act.put, List.setIfInBounds_toArray, List.set_cons_succ, List.set_cons_zero, Nat.reduceAdd]
      refine walkW_segn 5 [] facts0 noneHx (by kernel_rfl) (by kernel_rfl) ?_
      simp only [List.take_succ_cons, List.take_zero, List.drop_succ_cons, List.drop_zero, Nat.reduceAdd]
      repeat (go_big_quiet_step (fail))
      (first | refine wpQuiet_nil ?_ | (go_big_quiet_want; (try go_big_quiet_op); trace_state; fail))
      refine walkW_val (.int .i64 (E : Int)) (fun _ => .val (.int .i64 (E : Int))) [] ([]) facts0 (by kernel_rfl) (by kernel_rfl) (by kernel_rfl) rfl rfl (fun w' hb' hg' => ?_) ?_
      · unfold madeAtW
        go_simp
        ((exact (⟨Kept.refl _ _ _, rfl, trivial⟩)))
      simp only [Act.put, List.setIfInBounds_toArray, List.set_cons_succ, List.set_cons_zero, Nat.reduceAdd]
      refine walkW_segn 1 [] facts0 noneHx (by kernel_rfl) (by kernel_rfl) ?_
      simp only [List.take_succ_cons, List.take_zero, List.drop_succ_cons, List.drop_zero, Nat.reduceAdd]
      repeat (go_big_quiet_step (fail))
      (first | refine wpQuiet_nil ?_ | (go_big_quiet_want; (try go_big_quiet_op); trace_state; fail))
      refine walkW_mk (fun _ => M13) [] M13 ([]) facts0 (by kernel_rfl) (by kernel_rfl) (by kernel_rfl) rfl rfl (fun w' hb' hg' => ?_) (fun v13 h13 => ?_)
      · ((exact makez_mk H13 (congrArg (Value.int .i64) HZi.out) (congrArg (Value.int .i64) HZi.out) (by omega) hb'.size))
      obtain ⟨b13, m13, rfl⟩ := row_T H13 h13
      simp only [Act.put, List.setIfInBounds_toArray, List.set_cons_succ, List.set_cons_zero, Nat.reduceAdd]
      refine walkW_mk (fun xs => MadeW.row W.heap.size (fun b => .slice (some ⟨b, 0, none⟩) 4 4) (#[.slice A1 Lk.length c1, xs.getD 0 undef, .slice x.A E x.c, xs.getD 1 undef]) 27) [.slice (some ⟨b5, 0, none⟩) 2 2, .slice (some ⟨b13, 0, none⟩) Z Z] (MadeW.row W.heap.size (fun b => .slice (some ⟨b, 0, none⟩) 4 4) #[.slice A1 Lk.length c1, .slice (some ⟨b5, 0, none⟩) 2 2, .slice x.A E x.c, .slice (some ⟨b13, 0, none⟩) Z Z] 27) [] facts0 (by kernel_rfl) (by kernel_rfl) (by kernel_rfl) rfl rfl (fun w' hb' hg' => ?_) (fun v14 h14 => ?_)
      · unfold madeAtW
        go_simp
        exact (row_mk (b := w'.heap.size) (Lib.hid rfl) ((Below.refl _ _).alloc (Nat.le_refl _) _) hb'.size hb'.size (bk_alloc_at _ _ _ rfl) :)
      obtain ⟨b14, m14, rfl⟩ := h14
      simp only [Act.put, List.setIfInBounds_toArray, List.set_cons_succ, List.set_cons_zero, Nat.reduceAdd]
      have hEl : (optE x.d).length = E := HE.out.symm
      have HEl := Lib.hid hEl
      clear hEl f1 f2 f3
      refine walkW_mk (fun _ => M15) [] M15 [(5, M5.R (.slice (some ⟨b5, 0, none⟩) 2 2)), (13, M13.R (.slice (some ⟨b13, 0, none⟩) Z Z)), (14, (MadeW.row W.heap.size (fun b => .slice (some ⟨b, 0, none⟩) 4 4) #[.slice A1 Lk.length c1, .slice (some ⟨b5, 0, none⟩) 2 2, .slice x.A E x.c, .slice (some ⟨b13, 0, none⟩) Z Z] 27).R (.slice (some ⟨b14, 0, none⟩) 4 4))] (facts3 (fun w h => h.2.2.1 rfl) (fun w h => h.2.1 rfl) (fun w h => h.1 rfl)) (by kernel_rfl) (by kernel_rfl) (by kernel_rfl) rfl rfl (fun w' hb' hg' => ?_) (fun v15 h15 => ?_)
      · unfold madeAtW
        go_simp
        have k5 := row_R H5 (fun b b' h => by simpa using h) (hg' _ (.head _))
        have k13 := row_R H13 (fun b b' h => by simpa using h) (hg' _ (.tail _ (.head _)))
        obtain ⟨b14', _, e14, k14⟩ := hg' _ (.tail _ (.tail _ (.head _)))
        cases e14
        have hfl : flat [(A1, Lk, c1), (some ⟨b5, 0, none⟩, [x.kind, y], 2), (x.A, optE x.d, x.c), (some ⟨b13, 0, none⟩, List.replicate Z 0, Z)] = Lk ++ optB x.pl := by
          unfold optB
          rw [HY.out.1]
          simp only [flat, List.map_cons, List.map_nil, List.flatten_cons, List.flatten_nil, List.append_nil, Ov.pl, HEl.out, HZ.out, HY.out.2, List.append_assoc]
        obtain ⟨A1', c1', e1, hr1, hA1, _⟩ := Rd.of_own (own_below HW4.out hb') rfl
        cases e1
        have CC := concat_any b14 [(A1, Lk, c1), (some ⟨b5, 0, none⟩, [x.kind, y], 2), (x.A, optE x.d, x.c), (some ⟨b13, 0, none⟩, List.replicate Z 0, Z)] 27 (0, 0) w' (by rw [k14]; simp [Src.v, HEl.out]) (fun q hq => by
          simp only [List.mem_cons, List.not_mem_nil, or_false] at hq
          rcases hq with rfl | rfl | rfl | rfl
          · exact ⟨hr1, hA1⟩
          · exact ⟨Rd.of_bk (L := [x.kind, y]) k5 (bk_lt k5) (fun j h => by rw [Nat.zero_add]; exact List.getElem?_eq_getElem h), fun h => by cases h⟩
          · refine ⟨?_, fun h => ?_⟩
            · exact ((OK4.out.rd.below hb' B4.out.size).mono (by have := B4.out.size; have := hb'.size; omega)).tk 2038
            · have := OK4.out.nil h
              exact ⟨by unfold optE; rw [this.1]; rfl, this.2⟩
          · exact ⟨Rd.of_bk (L := List.replicate Z 0) k13 (bk_lt k13) (fun j h => by rw [Nat.zero_add]; exact List.getElem?_eq_getElem h), fun h => by cases h⟩) (by rw [hfl, List.length_append, optB_len]; have := optM_le x.pl.2; have := HLB.out; omega) (by simp)
        rw [hfl] at CC
        refine CC.mono ?_
        rintro e w9 ⟨v9, rfl, ho9, b9⟩
        obtain ⟨k1, k2, k3⟩ := own_mk H15 (Kept.of_below b9 hb'.size) (World.ownsRow.mono ho9 hb'.size)
        exact endW k1 k2 k3
      obtain ⟨A15, c15, rfl, n15, le15⟩ := own_T H15 h15
      simp only [Act.put, List.setIfInBounds_toArray, List.set_cons_succ, List.set_cons_zero, Nat.reduceAdd]
      refine walkW_segn 1 [] facts0 noneHx (by kernel_rfl) (by kernel_rfl) ?_
      simp only [List.take_succ_cons, List.take_zero, List.drop_succ_cons, List.drop_zero, Nat.reduceAdd]
      repeat (go_big_quiet_step (fail))
      (first | refine wpQuiet_nil ?_ | (go_big_quiet_want; (try go_big_quiet_op); trace_state; fail))
      refine walkW_nil ?_
      intro w5 b5' hf
      have O15 := Lib.hid (own_R H15 ((hf 15 (by kernel_rfl)).1 rfl))
      have B5 := Lib.hid (B4.out.trans (b5'.mono B4.out.size))
      have HL2 : Hid ((Lk ++ optB x.pl).length = (optsB ((l.map Ov.pl).take (k + 1))).length) := Lib.hid (by rw [HX.out])
      have HO2 : Hid (w5.ownsRow w.heap.size 5 1 (.slice A15 (Lk ++ optB x.pl).length c15) (Lk ++ optB x.pl).length ((optsB ((l.map Ov.pl).take (k + 1))).map B)) := Lib.hid (by rw [HX.out]; exact World.ownsRow.mono O15.out B4.out.size)
      clear hf h5 h13 h15 O15 b5' y0 y1 ly OK4 HW4
      go_wp2_with fail
      go_roundw
      case rel => exact ⟨k + 1, A15, c15, _, by omega, by go_num, rfl, HL2, HO2, B5⟩
      case measure => simp [intOf]; omega
    · obtain rfl : k = N := by omega
      have d1 : decide ((k : Int) < (k : Int)) = false := by simp
      have hll : (l.map Ov.pl).take k = l.map Ov.pl := List.take_of_length_le (by rw [List.length_map, HN.out]; exact Nat.le_refl _)
      rw [hll] at HL1 HW1
      rw [← HLL.out] at HL1 HW1
      have e1 := HL1.out
      subst e1
      obtain ⟨A1', c1', e1, hr1, hA1, hc1⟩ := Rd.of_own HW1.out rfl
      cases e1
      have CL := Lib.hid (clip_any A1 LL.length c1 hc1 wr)
      have HF : Hid (∀ w', Below wr.heap.size wr w' → Own w' w.heap.size (.slice A1 LL.length LL.length) LL ∧ Below w.heap.size w w') := Lib.hid fun w' hb => by
        refine ⟨?_, HB.out.trans (hb.mono HB.out.size)⟩
        rcases Own.of (own_below HW1.out hb) rfl with ⟨e, e2⟩ | ⟨g, c, cur, e, h1, h2, h3, h4, h5, h6, _⟩
        · obtain ⟨rfl, _, _⟩ := Value.slice.inj e
          subst e2
          exact .inl ⟨rfl, rfl⟩
        · cases e
          exact .inr ⟨g, _, cur, rfl, h1, h2, Nat.le_refl _, by omega, by omega, h6, .inr rfl⟩
      clear hr1 hA1 hc1 HL1 HW1 HB hll
      go_wp2_with fail
      refine CL.out.mono ?_
      rintro e w9 ⟨rfl, b9⟩
      have F9 := Lib.hid (HF.out w9 b9)
      clear HF CL b9
      go_wp2_with fail
      go_ret
      exact ⟨A1, rfl, F9.out⟩
end Go.Proofs.Ytjimmfbjhkoekaa
/- Icmps: options that are put; which method a side has. -/
namespace Go.Proofs.Ytjimmfbjhkoekaa
open Go.RowKit
set_option maxRecDepth 100000
set_option maxHeartbeats 1000000
theorem put_box0 {w w1 : World} {n gp : Nat} {v : Value} {L : List UInt8} (h : PU w n gp v L) (hb : Below w.heap.size w w1) : gp < w1.heap.size ∧ w1.frozen? ⟨gp, 0, none⟩ = false ∧ w1.cell? ⟨gp, 0, none⟩ = some v := by
  have h1 := h.below hb
  exact ⟨bk_lt h1.box, bk_frozen h1.box 0, (bk_cell h1.box 0).trans rfl⟩
theorem own_rd {w : World} {n : Nat} {A : Option Addr} {k c : Nat} {L : List UInt8} (h : Own w n (.slice A k c) L) : Rd w w.heap.size A L := by
  obtain ⟨_, _, e, h1, _⟩ := h.sl
  cases e
  exact h1
theorem own_nn {w : World} {n : Nat} {A : Option Addr} {k c : Nat} {L : List UInt8} (h : Own w n (.slice A k c) L) : A = none → L = [] ∧ c = 0 := by
  obtain ⟨_, _, e, _, h1, _⟩ := h.sl
  cases e
  exact h1
theorem poptions_put (n gp b o : Nat) (OA : Option Addr) (l : List Ov) (c2 : Nat) (v : Value) (L : List UInt8) (w : World) (h : PU w n gp v L) (_hb : b < w.heap.size) (hc2 : w.cell? ⟨b, o, none⟩ = some (.slice OA l.length c2)) (ho : Ovs w w.heap.size OA l) (hll : l.length < 2 ^ 30) (hl : L.length + (optsB (l.map Ov.pl)).length < 2 ^ 36) :
    Calls Try.prog 99 #[.pointer (some ⟨gp, 0, none⟩), .pointer (some ⟨b, o, none⟩)] w fun e w' => e = .returned (.tuple #[]) ∧ Put1 w n gp v (L ++ optsB (l.map Ov.pl)) false w' := by
  obtain ⟨A, c, e, hr1, hA, hc⟩ := h.row.sl
  subst e
  have c0 : w.cell? ⟨gp, 0, none⟩ = some (.slice A L.length c) := (bk_cell h.box 0).trans rfl
  have lx := bk_lt h.box
  have HN : Hid (n ≤ w.heap.size) := Lib.hid (by have := h.ng; omega)
  have HP := Lib.hid h
  obtain ⟨M, hM⟩ : ∃ M, M = optsB (l.map Ov.pl) := ⟨_, rfl⟩
  have CO0 := oput_any OA l c2 w.drew (ho.below (w' := w.drew) ((by (repeat (first | exact Below.refl _ _ | assumption | refine Below.drew ?_ | refine bdrewN ?_ _ | refine Below.alloc ?_ (by first | omega | (simp <;> omega) | (simp only [World.size_alloc] <;> omega)) _ | refine below_setRow ?_ (by first | omega | (simp <;> omega)) _ | refine Below.setCell ?_ (by first | omega | (simp <;> omega)) _))) : Below w.heap.size w w.drew) (Nat.le_refl _)) hll (by omega)
  rw [← hM] at hl CO0 ⊢
  have CO := Lib.hid CO0
  have HL : Hid (L.length + M.length < 2 ^ 46) := Lib.hid (by omega)
  have HD : Hid (Below w.heap.size w w.drew) := Lib.hid (by (repeat (first | exact Below.refl _ _ | assumption | refine Below.drew ?_ | refine bdrewN ?_ _ | refine Below.alloc ?_ (by first | omega | (simp <;> omega) | (simp only [World.size_alloc] <;> omega)) _ | refine below_setRow ?_ (by first | omega | (simp <;> omega)) _ | refine Below.setCell ?_ (by first | omega | (simp <;> omega)) _)))
  clear h ho hr1 hA hc hM CO0
  go_enter Try.func99, Try.ntmps99
  go_upto_region 0 with fail
  go_region_law (first
    | (go_simp; go_at_call 104; with_reducible refine CO.out.mono ?_; rintro e w1 ⟨A3, rfl, o3, b3⟩; have O3 := Lib.hid o3; have B3 := Lib.hid (HD.out.trans (b3.mono HD.out.size)); obtain ⟨p1, p2, p3⟩ := put_box0 HP.out B3.out; clear o3 b3 CO)
    | (refine step_app rfl _ _ rfl n _ L M _ rfl (HP.out.below B3.out).row _ _ rfl rfl (own_rd O3.out) (own_nn O3.out) (Nat.le_trans HN.out B3.out.size) HL.out ?_; intro A' N' c' w2 r1 r2 r3; have FX := Lib.hid (put_app HP.out B3.out r1 r2 r3); obtain ⟨q1, q2, q3⟩ := put_box HP.out B3.out r2; clear r1 r2 r3 HP HL HN))
  all_goals
    go_end0
    exact ⟨rfl, FX.out.1⟩
end Go.Proofs.Ytjimmfbjhkoekaa
/- Icmps: a message in memory. -/
namespace Go.Proofs.Ytjimmfbjhkoekaa
open Go.RowKit
set_option maxRecDepth 100000
/-- A report of a listener, in memory. -/
structure Rv where
  kind : UInt8
  g : List UInt8
  A : Option Addr
  s : List (List UInt8)
  c : Nat
  hg : g.length = 16
def Rv.row (x : Rv) : Array Value := (B x.kind :: (x.g.map B ++ [.slice x.A x.s.length x.c])).toArray
@[go_sem] theorem Rv.row_size (x : Rv) : x.row.size = 18 := by simp [Rv.row, x.hg]
@[go_sem] theorem Rv.row_ones (x : Rv) : ones x.row.toList = true := by unfold Rv.row; simp only [ones_cons, ones_append, ones_map]; rfl
/-- A message, in memory. -/
structure Mv where
  kind : UInt8
  code : UInt8
  param : Nat
  DA : Option Addr
  dd : List UInt8
  dc : Nat
  hops : UInt8
  flags : UInt8
  life : Nat
  reach : Nat
  retr : Nat
  tgt : List UInt8
  dst : List UInt8
  OA : Option Addr
  os : List Ov
  oc : Nat
  mx : Nat
  grp : List UInt8
  rob : UInt8
  int : UInt8
  SA : Option Addr
  ss : List (List UInt8)
  sc : Nat
  RA : Option Addr
  rs : List Rv
  rc : Nat
  ht : tgt.length = 16
  hd : dst.length = 16
  hg : grp.length = 16
def mC (m : Mv) : Array Value := ([B m.kind, B m.code, .int .u32 (m.param : Int), .slice m.DA m.dd.length m.dc, B m.hops, B m.flags, .int .u16 (m.life : Int), .int .u32 (m.reach : Int), .int .u32 (m.retr : Int)] ++ m.tgt.map B ++ m.dst.map B ++ [Value.slice m.OA m.os.length m.oc, Value.int .u16 (m.mx : Int)] ++ m.grp.map B ++ [B m.rob, B m.int, Value.slice m.SA m.ss.length m.sc, Value.slice m.RA m.rs.length m.rc]).toArray
section
variable (m : Mv)
@[go_sem] theorem mC_size : (mC m).size = 63 := by simp [mC, m.ht, m.hd, m.hg]
@[go_sem] theorem mC_ones : ones (mC m).toList = true := by unfold mC; simp only [ones_cons, ones_append, ones_map]; rfl
theorem mC_0 : (mC m)[0]? = some (B m.kind) := by simp [mC]
theorem mC_1 : (mC m)[1]? = some (B m.code) := by simp [mC]
theorem mC_2 : (mC m)[2]? = some (.int .u32 (m.param : Int)) := by simp [mC]
theorem mC_3 : (mC m)[3]? = some (.slice m.DA m.dd.length m.dc) := by simp [mC]
theorem mC_4 : (mC m)[4]? = some (B m.hops) := by simp [mC]
theorem mC_5 : (mC m)[5]? = some (B m.flags) := by simp [mC]
theorem mC_6 : (mC m)[6]? = some (.int .u16 (m.life : Int)) := by simp [mC]
theorem mC_7 : (mC m)[7]? = some (.int .u32 (m.reach : Int)) := by simp [mC]
theorem mC_8 : (mC m)[8]? = some (.int .u32 (m.retr : Int)) := by simp [mC]
theorem mC_41 : (mC m)[41]? = some (.slice m.OA m.os.length m.oc) := by simp [mC, m.ht, m.hd, List.getElem?_append]
theorem mC_42 : (mC m)[42]? = some (.int .u16 (m.mx : Int)) := by simp [mC, m.ht, m.hd, List.getElem?_append]
theorem mC_59 : (mC m)[59]? = some (B m.rob) := by simp [mC, m.ht, m.hd, m.hg]
theorem mC_60 : (mC m)[60]? = some (B m.int) := by simp [mC, m.ht, m.hd, m.hg]
theorem mC_61 : (mC m)[61]? = some (.slice m.SA m.ss.length m.sc) := by simp [mC, m.ht, m.hd, m.hg]
theorem mC_62 : (mC m)[62]? = some (.slice m.RA m.rs.length m.rc) := by simp [mC, m.ht, m.hd, m.hg]
theorem mC_tgt (j : Nat) (h : j < m.tgt.length) : (mC m)[9 + j]? = some (B m.tgt[j]) := by
  have ht := m.ht
  unfold mC
  rw [List.getElem?_toArray, List.append_assoc, List.append_assoc, List.append_assoc, List.append_assoc, List.getElem?_append_right (by simp), List.getElem?_append_left (by simp; omega)]
  simp [h]
theorem mC_dst (j : Nat) (h : j < m.dst.length) : (mC m)[25 + j]? = some (B m.dst[j]) := by
  have ht := m.ht; have hd := m.hd
  unfold mC
  rw [List.getElem?_toArray, List.append_assoc, List.append_assoc, List.append_assoc, List.getElem?_append_right (by simp [ht]), List.getElem?_append_left (by simp [ht]; omega)]
  simp [ht, h, show 25 + j - 25 = j by omega]
theorem mC_grp (j : Nat) (h : j < m.grp.length) : (mC m)[43 + j]? = some (B m.grp[j]) := by
  have ht := m.ht; have hd := m.hd; have hg := m.hg
  unfold mC
  rw [List.getElem?_toArray, List.append_assoc, List.getElem?_append_right (by simp [ht, hd]), List.getElem?_append_left (by simp [ht, hd]; omega)]
  simp [ht, hd, h, show 43 + j - 43 = j by omega]
end
attribute [irreducible] mC
theorem Rd.tgt {w : World} {x n : Nat} {m : Mv} {t : TypeId} {fr : Nat × Nat} (h : bk w x = some (.cells (mC m) t fr)) (hx : x < n) : Rd w n (some ⟨x, 9, none⟩) m.tgt := fun _ => ⟨x, 9, rfl, hx, fun j hj => by rw [bk_cell h]; exact mC_tgt m j hj⟩
theorem Rd.dstM {w : World} {x n : Nat} {m : Mv} {t : TypeId} {fr : Nat × Nat} (h : bk w x = some (.cells (mC m) t fr)) (hx : x < n) : Rd w n (some ⟨x, 25, none⟩) m.dst := fun _ => ⟨x, 25, rfl, hx, fun j hj => by rw [bk_cell h]; exact mC_dst m j hj⟩
theorem Rd.grp {w : World} {x n : Nat} {m : Mv} {t : TypeId} {fr : Nat × Nat} (h : bk w x = some (.cells (mC m) t fr)) (hx : x < n) : Rd w n (some ⟨x, 43, none⟩) m.grp := fun _ => ⟨x, 43, rfl, hx, fun j hj => by rw [bk_cell h]; exact mC_grp m j hj⟩
end Go.Proofs.Ytjimmfbjhkoekaa
/- Icmps: which method a side has. -/
namespace Go.Proofs.Ytjimmfbjhkoekaa
open Go.RowKit
set_option maxRecDepth 100000
abbrev sideP (gp : Nat) : Value := .iface 62 (.pointer (some ⟨gp, 0, none⟩))
theorem e_any (f : FuncId) (v : Array Value) (w : World) (h : (callFunc f v).run Try.prog w = .ok (.enter f v) w) : (callFunc f v).run Try.prog w = .ok (.enter f v) w := h
@[go_sem] theorem mp_one (gp : Nat) (w : World) : (method 260 62 (.pointer (some ⟨gp, 0, none⟩)) "sojourner/icmps.one").run Try.prog w = .ok (98, .pointer (some ⟨gp, 0, none⟩)) w := by kernel_rfl
@[go_sem] theorem np_one (gp : Nat) (w : World) : (nilAhead 260 62 (.pointer (some ⟨gp, 0, none⟩)) "sojourner/icmps.one").run Try.prog w = .ok (some false) w := by kernel_rfl
@[go_sem] theorem mp_two (gp : Nat) (w : World) : (method 260 62 (.pointer (some ⟨gp, 0, none⟩)) "sojourner/icmps.two").run Try.prog w = .ok (102, .pointer (some ⟨gp, 0, none⟩)) w := by kernel_rfl
@[go_sem] theorem np_two (gp : Nat) (w : World) : (nilAhead 260 62 (.pointer (some ⟨gp, 0, none⟩)) "sojourner/icmps.two").run Try.prog w = .ok (some false) w := by kernel_rfl
@[go_sem] theorem mp_four (gp : Nat) (w : World) : (method 260 62 (.pointer (some ⟨gp, 0, none⟩)) "sojourner/icmps.four").run Try.prog w = .ok (96, .pointer (some ⟨gp, 0, none⟩)) w := by kernel_rfl
@[go_sem] theorem np_four (gp : Nat) (w : World) : (nilAhead 260 62 (.pointer (some ⟨gp, 0, none⟩)) "sojourner/icmps.four").run Try.prog w = .ok (some false) w := by kernel_rfl
@[go_sem] theorem mp_nought (gp : Nat) (w : World) : (method 260 62 (.pointer (some ⟨gp, 0, none⟩)) "sojourner/icmps.nought").run Try.prog w = .ok (97, .pointer (some ⟨gp, 0, none⟩)) w := by kernel_rfl
@[go_sem] theorem np_nought (gp : Nat) (w : World) : (nilAhead 260 62 (.pointer (some ⟨gp, 0, none⟩)) "sojourner/icmps.nought").run Try.prog w = .ok (some false) w := by kernel_rfl
@[go_sem] theorem mp_addr (gp : Nat) (w : World) : (method 260 62 (.pointer (some ⟨gp, 0, none⟩)) "sojourner/icmps.addr").run Try.prog w = .ok (94, .pointer (some ⟨gp, 0, none⟩)) w := by kernel_rfl
@[go_sem] theorem np_addr (gp : Nat) (w : World) : (nilAhead 260 62 (.pointer (some ⟨gp, 0, none⟩)) "sojourner/icmps.addr").run Try.prog w = .ok (some false) w := by kernel_rfl
@[go_sem] theorem mp_count (gp : Nat) (w : World) : (method 260 62 (.pointer (some ⟨gp, 0, none⟩)) "sojourner/icmps.count").run Try.prog w = .ok (95, .pointer (some ⟨gp, 0, none⟩)) w := by kernel_rfl
@[go_sem] theorem np_count (gp : Nat) (w : World) : (nilAhead 260 62 (.pointer (some ⟨gp, 0, none⟩)) "sojourner/icmps.count").run Try.prog w = .ok (some false) w := by kernel_rfl
@[go_sem] theorem mp_over (gp : Nat) (w : World) : (method 260 62 (.pointer (some ⟨gp, 0, none⟩)) "sojourner/icmps.over").run Try.prog w = .ok (100, .pointer (some ⟨gp, 0, none⟩)) w := by kernel_rfl
@[go_sem] theorem np_over (gp : Nat) (w : World) : (nilAhead 260 62 (.pointer (some ⟨gp, 0, none⟩)) "sojourner/icmps.over").run Try.prog w = .ok (some false) w := by kernel_rfl
@[go_sem] theorem mp_rest (gp : Nat) (w : World) : (method 260 62 (.pointer (some ⟨gp, 0, none⟩)) "sojourner/icmps.rest").run Try.prog w = .ok (101, .pointer (some ⟨gp, 0, none⟩)) w := by kernel_rfl
@[go_sem] theorem np_rest (gp : Nat) (w : World) : (nilAhead 260 62 (.pointer (some ⟨gp, 0, none⟩)) "sojourner/icmps.rest").run Try.prog w = .ok (some false) w := by kernel_rfl
@[go_sem] theorem mp_options (gp : Nat) (w : World) : (method 260 62 (.pointer (some ⟨gp, 0, none⟩)) "sojourner/icmps.options").run Try.prog w = .ok (99, .pointer (some ⟨gp, 0, none⟩)) w := by kernel_rfl
@[go_sem] theorem np_options (gp : Nat) (w : World) : (nilAhead 260 62 (.pointer (some ⟨gp, 0, none⟩)) "sojourner/icmps.options").run Try.prog w = .ok (some false) w := by kernel_rfl
end Go.Proofs.Ytjimmfbjhkoekaa
/- Icmps: a message, plain; its parts' bytes. -/
namespace Go.Proofs.Ytjimmfbjhkoekaa
open Go.RowKit
structure Rc where
  kind : UInt8
  g : List UInt8
  s : List (List UInt8)
structure Msg where
  kind : UInt8
  code : UInt8
  param : Nat
  data : List UInt8
  hops : UInt8
  flags : UInt8
  life : Nat
  reach : Nat
  retr : Nat
  tgt : List UInt8
  dst : List UInt8
  opts : List (UInt8 × List UInt8)
  mx : Nat
  grp : List UInt8
  rob : UInt8
  int : UInt8
  srcs : List (List UInt8)
  recs : List Rc
def Rv.pl (r : Rv) : Rc := ⟨r.kind, r.g, r.s⟩
def Mv.pl (m : Mv) : Msg := ⟨m.kind, m.code, m.param, m.dd, m.hops, m.flags, m.life, m.reach, m.retr, m.tgt, m.dst, m.os.map Ov.pl, m.mx, m.grp, m.rob, m.int, m.ss, m.rs.map Rv.pl⟩
def srcsB (s : List (List UInt8)) : List UInt8 := nb 2 s.length ++ s.flatten
def recB (r : Rc) : List UInt8 := [r.kind, 0] ++ nb 2 r.s.length ++ r.g ++ r.s.flatten
def recsB (l : List Rc) : List UInt8 := (l.map recB).flatten
/-- Is it a kind? -/
def isK (k : UInt8) : Bool := k == 1 || k == 2 || k == 3 || k == 4 || k == 128 || k == 129 || k == 130 || k == 143 || k == 134 || k == 133 || k == 135 || k == 136 || k == 137
def partB (m : Msg) : List UInt8 :=
  if m.kind = 130 then nb 2 m.mx ++ [0, 0] ++ m.grp ++ [m.rob, m.int] ++ nb 2 m.srcs.length ++ m.srcs.flatten
  else if m.kind = 143 then [0, 0] ++ nb 2 m.recs.length ++ recsB m.recs
  else if m.kind = 134 then [m.hops, m.flags] ++ nb 2 m.life ++ nb 4 m.reach ++ nb 4 m.retr ++ optsB m.opts
  else if m.kind = 133 then [0, 0, 0, 0] ++ optsB m.opts
  else if m.kind = 135 then [0, 0, 0, 0] ++ m.tgt ++ optsB m.opts
  else if m.kind = 136 then [m.flags, 0, 0, 0] ++ m.tgt ++ optsB m.opts
  else if m.kind = 137 then [0, 0, 0, 0] ++ m.tgt ++ m.dst ++ optsB m.opts
  else nb 4 m.param ++ m.data
theorem nb1 (x : UInt8) : nb 1 x.toNat = [x] := by simp [nb, List.range_succ]
theorem dumL : (List.replicate 3 (0 : UInt8) ++ nb 2 5).length < 100 := by decide
theorem dumP (m : Mv) (x : Ov) : nb 1 m.pl.kind.toNat ++ List.replicate 2 m.pl.code ++ [x.pl.1] = [m.kind, m.code, m.code, x.kind] := by rw [nb1]; rfl
end Go.Proofs.Ytjimmfbjhkoekaa
