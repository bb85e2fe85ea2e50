import Derived.Test.YtfldoihindbdmaaMgB
import Derived.Test.YtfldoihindbdmaaMgA
import Derived.OneCell
/- Lists in a book: worlds in which given cells alone are others; a strip of bytes: fill, fillRoom, kept. -/
namespace Go.Proofs.Ytfldoihindbdmaa
open Go.RowKit
set_option maxRecDepth 100000
/-- Of what there was the cells of S alone may hold something else. -/
structure Wrt (S : Nat → Nat → Prop) (w w' : World) : Prop where
  os : w'.os = w.os
  tape : w'.tape = w.tape
  output : w'.output = w.output
  size : w.heap.size ≤ w'.heap.size
  blk : ∀ b cur t fr, bk w b = some (.cells cur t fr) → ∃ cur', bk w' b = some (.cells cur' t fr) ∧ cur'.size = cur.size ∧ ∀ j, ¬ S b j → cur'[j]? = cur[j]?
  oth : ∀ b, b < w.heap.size → (∀ j, ¬ S b j) → bk w' b = bk w b
section
variable {S S' : Nat → Nat → Prop} {w w' w'' : World}
theorem Wrt.refl (S : Nat → Nat → Prop) (w : World) : Wrt S w w := ⟨rfl, rfl, rfl, Nat.le_refl _, fun _ cur _ _ h => ⟨cur, h, rfl, fun _ _ => rfl⟩, fun _ _ _ => rfl⟩
theorem Wrt.mono (h : Wrt S w w') (hs : ∀ b j, S b j → S' b j) : Wrt S' w w' :=
  ⟨h.os, h.tape, h.output, h.size, fun b cur t fr hb => by
    obtain ⟨c, h1, h2, h3⟩ := h.blk b cur t fr hb
    exact ⟨c, h1, h2, fun j hj => h3 j fun hs' => hj (hs _ _ hs')⟩, fun b hb hj => h.oth b hb fun j hs' => hj j (hs _ _ hs')⟩
theorem Wrt.trans (h : Wrt S w w') (k : Wrt S w' w'') : Wrt S w w'' :=
  ⟨k.os.trans h.os, k.tape.trans h.tape, k.output.trans h.output, Nat.le_trans h.size k.size, fun b cur t fr hb => by
    obtain ⟨c, h1, h2, h3⟩ := h.blk b cur t fr hb
    obtain ⟨c', k1, k2, k3⟩ := k.blk b c t fr h1
    exact ⟨c', k1, k2.trans h2, fun j hj => (k3 j hj).trans (h3 j hj)⟩,
    fun b hb hj => (k.oth b (Nat.lt_of_lt_of_le hb h.size) hj).trans (h.oth b hb hj)⟩
theorem Wrt.of_below (h : Below w.heap.size w w') : Wrt S w w' :=
  ⟨h.os, h.tape, h.output, h.size, fun b cur _ _ hb => ⟨cur, (h.block b (bk_lt hb)).trans hb, rfl, fun _ _ => rfl⟩, fun b hb _ => h.block b hb⟩
theorem Wrt.alloc (h : Wrt S w w') (o : Obj) : Wrt S w (w'.alloc o) := h.trans (Wrt.of_below ((Below.refl _ _).alloc (Nat.le_refl _) o))
theorem Wrt.set {b i : Nat} (h : Wrt S w w') (hs : S b i) (v : Value) : Wrt S w (w'.setCell ⟨b, i, none⟩ v) :=
  h.trans ⟨rfl, rfl, rfl, by simp [World.setCell], fun k cur t fr hk => by
    by_cases e : k = b
    · subst e
      refine ⟨cur.setIfInBounds i v, by rw [bk_setCell_same, hk]; rfl, by simp, fun j hj => ?_⟩
      rw [Array.getElem?_setIfInBounds_ne]
      rintro rfl
      exact hj hs
    · exact ⟨cur, (bk_setCell_other _ _ _ _ _ e).trans hk, rfl, fun _ _ => rfl⟩,
    fun k hk hj => bk_setCell_other _ _ _ _ _ (by rintro rfl; exact hj i hs)⟩
/-- A cell that the call made. -/
theorem Wrt.set_new {b i : Nat} (h : Wrt S w w') (hb : w.heap.size ≤ b) (v : Value) : Wrt S w (w'.setCell ⟨b, i, none⟩ v) :=
  ⟨h.os, h.tape, h.output, by simpa [World.setCell] using h.size, fun k cur t fr hk => by
    obtain ⟨c, h1, h2, h3⟩ := h.blk k cur t fr hk
    exact ⟨c, (bk_setCell_other _ _ _ _ _ (by have := bk_lt hk; omega)).trans h1, h2, h3⟩,
    fun k hk hj => (bk_setCell_other _ _ _ _ _ (by omega)).trans (h.oth k hk hj)⟩
theorem Wrt.below {n : Nat} (h : Wrt S w w') (hn : n ≤ w.heap.size) (hs : ∀ b j, S b j → n ≤ b) : Below n w w' :=
  ⟨h.os, h.tape, h.output, h.size, fun k hk => h.oth k (by omega) fun j hj => by have := hs _ _ hj; omega⟩
end
/-- The cells of a list and of its room: c of them, of which n are the list's. -/
def rg (A : Option Addr) (lo hi : Nat) (b j : Nat) : Prop := ∃ o, A = some ⟨b, o, none⟩ ∧ o + lo ≤ j ∧ j < o + hi
/-- They lie in a block that is known. -/
def Room (w : World) (A : Option Addr) (c : Nat) (t : TypeId) : Prop := 0 < c → ∃ b o cur, A = some ⟨b, o, none⟩ ∧ bk w b = some (.cells cur t (0, 0)) ∧ o + c ≤ cur.size
theorem Room.wrt {S : Nat → Nat → Prop} {w w' : World} {A : Option Addr} {c : Nat} {t : TypeId} (h : Room w A c t) (hw : Wrt S w w') : Room w' A c t := fun hc => by
  obtain ⟨b, o, cur, rfl, hb, hl⟩ := h hc
  obtain ⟨cur', h1, h2, _⟩ := hw.blk _ _ _ _ hb
  exact ⟨b, o, cur', rfl, h1, by omega⟩
/-- What some of the cells hold. -/
def Has (w : World) (A : Option Addr) (lo hi : Nat) (v : Value) : Prop := ∀ j, lo ≤ j → j < hi → ∃ b o, A = some ⟨b, o, none⟩ ∧ w.cell? ⟨b, o + j, none⟩ = some v
end Go.Proofs.Ytfldoihindbdmaa
/-
  A row stored into a part of a block, or over all of it. Over any program.
-/
namespace Go.Proofs.Ytfldoihindbdmaa
open Go.RowKit
theorem run_storeVar_spl {P : Program} (w : World) (b o : Nat) (t ty : TypeId) (c0 c : Array Value) (hb : bk w b = some (.cells c0 t (0, 0))) (hi : (P.info? ty).map (·.size) = some c.size) (hfit : o + c.size ≤ c0.size) (h1 : ones c.toList = true) :
    (storeVar ty ⟨b, o, none⟩ (.agg c)).run P w = .ok () (w.setRow b (spl c0.toList o c.toList)) := by
  have hst := run_storeCells_at P b o t c.toList 0 c0 w hb (by simpa using hfit) (ones_mem h1)
  cases hq : P.info? ty with
  | none => simp [hq] at hi
  | some i =>
    have hs : c.size = i.size := by simp [hq] at hi; omega
    simp only [Nat.add_zero] at hst
    simp [storeVar, sizeOf, typeInfo, hq, Value.cells, hs, hst, spl]
def stAny (X : Prop) (n : Nat) (w : World) (b o : Nat) (c : Array Value) (K : World → Prop) : Option Obj → Prop
  | some (.cells c0 _ (0, 0)) => if o = 0 ∧ c0.size = n ∧ c.size = n ∧ ones c.toList = true then K (w.setRow b c) else if o + n ≤ c0.size ∧ c.size = n ∧ ones c.toList = true then K (w.setRow b (spl c0.toList o c.toList)) else X
  | _ => X
def stAt (X : Prop) (n : Nat) (w : World) (K : World → Prop) : Value → Value → Prop
  | .pointer (some ⟨b, o, none⟩), .agg c => stAny X n w b o c K (bk w b)
  | _, _ => X
@[go_sem] theorem stAt_ptr (X : Prop) (n : Nat) (w : World) (K : World → Prop) (b o : Nat) (c : Array Value) : stAt X n w K (.pointer (some ⟨b, o, none⟩)) (.agg c) = stAny X n w b o c K (bk w b) := rfl
@[go_sem] theorem stAny_row (X : Prop) (n : Nat) (w : World) (b : Nat) (K : World → Prop) (c c0 : Array Value) (t : TypeId) (h0 : c0.size = n) (h : c.size = n) (h1 : ones c.toList = true) :
    stAny X n w b 0 c K (some (.cells c0 t (0, 0))) = K (w.setRow b c) := by unfold stAny; simp only []; rw [if_pos ⟨trivial, h0, h, h1⟩]
@[go_sem] theorem stAny_part (X : Prop) (n : Nat) (w : World) (b o : Nat) (K : World → Prop) (c c0 : Array Value) (t : TypeId) (h0 : n < c0.size) (h2 : o + n ≤ c0.size) (h : c.size = n) (h1 : ones c.toList = true) :
    stAny X n w b o c K (some (.cells c0 t (0, 0))) = K (w.setRow b (spl c0.toList o c.toList)) := by unfold stAny; simp only []; rw [if_neg (by omega), if_pos ⟨h2, h, h1⟩]
theorem wp_store_any {P : Program} (ty : TypeId) (n : Nat) (hi : (P.info? ty).map (·.size) = some n)
    (dst : Option Tmp) (x y : Operand) (t : TypeId) (pos : String) (af : Array Edge) (g : Option (Nat × Bool)) (a : Act) (w : World) (K : Act → World → Prop) (Q : Exit → Act → World → Prop) :
    Oper.wp P ⟨dst, .store ty x y, t, pos, af, g⟩ a w K Q = stAt (wpHid P ⟨dst, .store ty x y, t, pos, af, g⟩ a w K Q) n w (fun w' => K (a.put dst undef) w') (a.eval x) (a.eval y) := by
  unfold stAt
  split
  · rename_i b o c he hv
    unfold stAny
    split
    · rename_i c0 t' hb
      split
      · rename_i hle
        obtain ⟨rfl, h0, h1, h2⟩ := hle
        have hrun := run_storeVar_row (P := P) w b t' ty c0 c hb (by rw [hi, h1]) (by omega) (Array.all_eq_true_iff_forall_mem.2 (fun v hv => ones_mem h2 v (by simpa using hv)))
        unfold Oper.wp execOp
        simp only [he, hv, Instr.storeAt, Instr.sureAddr, Sem.run_bind, Sem.run_pure, Result.andThen_ok, hrun]
        rfl
      · split
        · rename_i hle
          obtain ⟨h0, h1, h2⟩ := hle
          have hrun := run_storeVar_spl (P := P) w b o t' ty c0 c hb (by rw [hi, h1]) (by omega) h2
          unfold Oper.wp execOp
          simp only [he, hv, Instr.storeAt, Instr.sureAddr, Sem.run_bind, Sem.run_pure, Result.andThen_ok, hrun]
          rfl
        · unfold wpHid; rfl
    · unfold wpHid; rfl
  · unfold wpHid; rfl
end Go.Proofs.Ytfldoihindbdmaa
/- A strip of addresses: fill. -/
namespace Go.Proofs.Ytfldoihindbdmaa
open Go.RowKit
set_option maxRecDepth 100000
@[go_sem ↓] theorem ldAddrS (dst : Option Tmp) (x : Operand) (t : TypeId) (pos : String) (af : Array Edge) (g : Option (Nat × Bool)) (a : Act) (w : World) (K : Act → World → Prop) (Q : Exit → Act → World → Prop) :
    Oper.wp Try.prog ⟨dst, .load 110 x, t, pos, af, g⟩ a w K Q = ldPtr (wpHid Try.prog ⟨dst, .load 110 x, t, pos, af, g⟩ a w K Q) 16 w (fun c => K (a.put dst (.agg c)) w) (a.eval x) :=
  wp_load_bk 110 16 _ Try.underlying110 rfl (by kernel_rfl) dst x t pos af g a w K Q
@[go_sem ↓] theorem stAddrS (dst : Option Tmp) (x y : Operand) (t : TypeId) (pos : String) (af : Array Edge) (g : Option (Nat × Bool)) (a : Act) (w : World) (K : Act → World → Prop) (Q : Exit → Act → World → Prop) :
    Oper.wp Try.prog ⟨dst, .store 110 x y, t, pos, af, g⟩ a w K Q = stAt (wpHid Try.prog ⟨dst, .store 110 x y, t, pos, af, g⟩ a w K Q) 16 w (fun w' => K (a.put dst undef) w') (a.eval x) (a.eval y) :=
  wp_store_any 110 16 (by kernel_rfl) dst x y t pos af g a w K Q
@[go_sem ↓] theorem qlAddrS (dst : Option Tmp) (x : Operand) (t : TypeId) (pos : String) (af : Array Edge) (g : Option (Nat × Bool)) (a : Act) (m : Nat) (W : World) (K : Act → Prop) :
    Oper.quiet Try.prog ⟨dst, .load 110 x, t, pos, af, g⟩ a (fun w' => ∃ x : Later m W, w' = x.w) K =
      ldLater (quietHid Try.prog ⟨dst, .load 110 x, t, pos, af, g⟩ a (fun w' => ∃ x : Later m W, w' = x.w) K) m 16 W (fun c => K (a.put dst (.agg c))) (a.eval x) :=
  quiet_load_bk 110 16 _ Try.underlying110 rfl (by kernel_rfl) dst x t pos af g a m W K
/-- A strip of addresses: its cells. -/
def stC (A : Option Addr) (n c : Nat) (i x : List UInt8) : Array Value := (.slice A n c :: (i.map B ++ x.map B)).toArray
abbrev stripA (A : Option Addr) (n c : Nat) (i x : List UInt8) : Value := .agg (stC A n c i x)
section
variable {A : Option Addr} {n c : Nat} {i x : List UInt8}
theorem stC_size (hi : i.length = 16) (hx : x.length = 16) : (stC A n c i x).size = 33 := by simp [stC, hi, hx]
theorem stC_0 : (stC A n c i x)[0]? = some (.slice A n c) := rfl
theorem stC_i (hi : i.length = 16) : xt (stC A n c i x) 1 16 = (i.map B).toArray := by
  simp [xt, stC, List.extract_eq_take_drop, hi]
theorem stC_x (hi : i.length = 16) (hx : x.length = 16) : xt (stC A n c i x) 17 16 = (x.map B).toArray := by
  simp [xt, stC, List.extract_eq_take_drop, hi, hx, List.take_of_length_le]
theorem stC_ones : ones (stC A n c i x).toList = true := by unfold stC; simp only [ones_cons, ones_append, ones_map]; rfl
end
/-- A row into a block, wherever in it. -/
theorem stAny_spl (X : Prop) (n : Nat) (w : World) (b o : Nat) (K : World → Prop) (c c0 : Array Value) (t : TypeId) (h2 : o + n ≤ c0.size) (h : c.size = n) (h1 : ones c.toList = true) :
    stAny X n w b o c K (some (.cells c0 t (0, 0))) = K (w.setRow b (spl c0.toList o c.toList)) := by
  unfold stAny
  simp only []
  by_cases e : o = 0 ∧ c0.size = n
  · rw [if_pos ⟨e.1, e.2, h, h1⟩]
    congr 2
    unfold spl
    rw [e.1]
    simp [List.drop_eq_nil_of_le, h, e.2]
  · rw [if_neg (fun q => e ⟨q.1, q.2.1⟩), if_pos ⟨h2, h, h1⟩]
/-- Cells of some rows of a list of addresses. -/
def HasA (w : World) (A : Option Addr) (lo hi : Nat) (v : List UInt8) : Prop := ∀ k, lo ≤ k → k < hi → ∃ b o cur, A = some ⟨b, o, none⟩ ∧ bk w b = some (.cells cur 110 (0, 0)) ∧ o + k * 16 + 16 ≤ cur.size ∧ xt cur (o + k * 16) 16 = (v.map B).toArray
theorem Wrt.setRow {S : Nat → Nat → Prop} {w w' : World} {b o : Nat} {cur : Array Value} {t : TypeId} {v : List Value} (h : Wrt S w w') (hb : bk w' b = some (.cells cur t (0, 0))) (hs : ∀ j, o ≤ j → j < o + v.length → S b j) (h0 : 0 < v.length) (ho : o + v.length ≤ cur.size) : Wrt S w (w'.setRow b (spl cur.toList o v)) :=
  h.trans ⟨rfl, rfl, rfl, by simp [World.setRow], fun k c1 t1 fr hk => by
    by_cases e : k = b
    · subst e
      rw [hb] at hk
      cases hk
      refine ⟨_, by rw [bk_setRow_same, hb]; rfl, by simp [spl]; omega, fun j hj => ?_⟩
      have hj' : j < o ∨ o + v.length ≤ j := by
        rcases Nat.lt_or_ge j o with q | q
        · exact .inl q
        · rcases Nat.lt_or_ge j (o + v.length) with q2 | q2
          · exact absurd (hs j q q2) hj
          · exact .inr q2
      unfold spl
      rw [List.getElem?_toArray]
      rcases hj' with q | q
      · rw [List.getElem?_append_left (by simp; omega), List.getElem?_take_of_lt q, Array.getElem?_toList]
      · rw [List.getElem?_append_right (by simp; omega), List.getElem?_append_right (by simp; omega), List.getElem?_drop]
        simp only [List.length_take, Array.length_toList, Nat.min_eq_left (show o ≤ cur.size by omega), Array.getElem?_toList]
        congr 1; omega
    · exact ⟨c1, (bk_setRow_other _ _ _ _ e).trans hk, rfl, fun _ _ => rfl⟩,
    fun k _ hj => bk_setRow_other _ _ _ _ (by rintro rfl; exact hj o (hs o (Nat.le_refl _) (by omega)))⟩
theorem xt_spl_same (cur : Array Value) (o : Nat) (v : List Value) (ho : o + v.length ≤ cur.size) : xt (spl cur.toList o v) o v.length = v.toArray := by
  unfold xt spl
  simp [List.extract_eq_take_drop, List.drop_append, Nat.min_eq_left (show o ≤ cur.size by omega)]
theorem xt_spl_other (cur : Array Value) (o : Nat) (v : List Value) (q m : Nat) (ho : o + v.length ≤ cur.size) (h : q + m ≤ o ∨ o + v.length ≤ q) : xt (spl cur.toList o v) q m = xt cur q m := by
  unfold xt
  apply Array.ext_getElem?
  intro j
  simp only [Array.getElem?_extract]
  have hs : (spl cur.toList o v).size = cur.size := by simp [spl]; omega
  rw [hs]
  split
  · rename_i hj
    unfold spl
    rw [List.getElem?_toArray]
    rcases h with h | h
    · rw [List.getElem?_append_left (by simp; omega), List.getElem?_take_of_lt (by omega), Array.getElem?_toList]
    · rw [List.getElem?_append_right (by simp; omega), List.getElem?_append_right (by simp; omega), List.getElem?_drop]
      simp only [List.length_take, Array.length_toList, Nat.min_eq_left (show o ≤ cur.size by omega), Array.getElem?_toList]
      congr 1; omega
  · rfl
theorem afill_any (A : Option Addr) (n c : Nat) (i x : List UInt8) (hi : i.length = 16) (hx : x.length = 16) (w : World) (h : Room w A (c * 16) 110) (hn : n ≤ c) (hc : c ≤ 9223372036854775807) :
    Calls Try.prog 105 #[stripA A n c i x] w fun e w' => e = .returned (.tuple #[]) ∧ Wrt (rg A 0 (n * 16)) w w' ∧ HasA w' A 0 n i := by
  have H := Lib.hid h
  clear h
  have z1 := stC_size (A := A) (n := n) (c := c) hi hx
  have z2 := stC_i (A := A) (n := n) (c := c) (x := x) hi
  have z3 : (List.map B i).toArray.size = 16 := by simp [hi]
  have HI := Lib.hid hi
  go_enter Try.func105, Try.ntmps105
  go_wp2
  go_loopw [2] (fun i' wr => ∃ k : Nat, k ≤ n ∧ i' = .int .i64 k ∧ Wrt (rg A 0 (n * 16)) w wr ∧ w.heap.size + 1 ≤ wr.heap.size ∧ bk wr w.heap.size = some (.cells (stC A n c i x) 128 (0, 0)) ∧ HasA wr A 0 k i) (fun i _ => n - (intOf i).toNat)
  case atStart => exact ⟨0, by omega, rfl, (Wrt.refl _ _).alloc _, by simp, bk_alloc_at _ _ _ rfl, fun j _ h => absurd h (by omega)⟩
  case round =>
    obtain ⟨k, hk, rfl, hW, hsz, hbox, hhas⟩ := hrel
    have c0 := (bk_cell hbox 0).trans stC_0
    by_cases hlt : k < n
    · have d1 : decide ((k : Int) < (n : Int)) = true := by simp; omega
      obtain ⟨b, o, cur, rfl, hb, hle⟩ := (H.out.wrt hW) (by omega)
      have hlt2 := bk_lt hb
      have hbl : b < w.heap.size := by
        obtain ⟨b', o', cur', e, hb', _⟩ := H.out (by omega)
        cases e
        exact bk_lt hb'
      have HH := Lib.hid hhas
      have r1 : o + k * 16 + 16 ≤ cur.size := by omega
      have st := fun X K => stAny_spl X 16 wr b (o + k * 16) K (List.map B i).toArray cur 110 r1 z3 (ones_map i)
      clear hhas
      go_wp2
      go_roundw
      case rel =>
        have hmk : k < c := by omega
        refine ⟨k + 1, by omega, by go_num, hW.setRow hb (fun j h1 h2 => ⟨o, rfl, by omega, by simp [HI.out] at h2; omega⟩) (by simp [HI.out]) (by simp [HI.out]; omega), by simpa [World.setRow] using hsz, (bk_setRow_other _ _ _ _ (by omega)).trans hbox, fun j h0 h1 => ?_⟩
        have hnew : bk (wr.setRow b (spl cur.toList (o + k * 16) (List.map B i))) b = some (.cells (spl cur.toList (o + k * 16) (List.map B i)) 110 (0, 0)) := by rw [bk_setRow_same, hb]; rfl
        have hsp : (spl cur.toList (o + k * 16) (List.map B i)).size = cur.size := by simp [spl, HI.out]; omega
        by_cases e : j = k
        · subst e
          refine ⟨b, o, _, rfl, hnew, by omega, ?_⟩
          have := xt_spl_same cur (o + j * 16) (List.map B i) (by simp [HI.out]; omega)
          rwa [show (List.map B i).length = 16 by simp [HI.out]] at this
        · obtain ⟨b', o', cur', e', hb', hl', hx'⟩ := HH.out j (by omega) (by omega)
          cases e'
          rw [hb] at hb'
          cases hb'
          exact ⟨b, o, _, rfl, hnew, by omega, (xt_spl_other _ _ _ _ _ (by simp [HI.out]; omega) (by simp [HI.out]; omega)).trans hx'⟩
      case measure => simp [intOf]; omega
    · have d1 : decide ((k : Int) < (n : Int)) = false := by simp; omega
      obtain rfl : k = n := by omega
      clear hlt
      go_wp2
      go_end0
      exact ⟨rfl, hW, hhas⟩
theorem afillRoom_any (A : Option Addr) (n c : Nat) (i x : List UInt8) (hi : i.length = 16) (hx : x.length = 16) (w : World) (h : Room w A (c * 16) 110) (hn : n ≤ c) (hc : c ≤ 9223372036854775807) :
    Calls Try.prog 106 #[stripA A n c i x] w fun e w' => e = .returned (.tuple #[]) ∧ Wrt (rg A (n * 16) (c * 16)) w w' ∧ HasA w' A n c x := by
  have H := Lib.hid h
  clear h
  have z1 := stC_size (A := A) (n := n) (c := c) hi hx
  have z2 := stC_x (A := A) (n := n) (c := c) hi hx
  have z3 : (List.map B x).toArray.size = 16 := by simp [hx]
  have HI := Lib.hid hx
  have s1 : decide ((n : Int) ≤ (c : Int)) = true := by simp; omega
  by_cases hnc : c = n
  · subst hnc
    go_enter Try.func106, Try.ntmps106
    have s2 : (w.alloc (.cells (stC A c c i x) 128)).cell? ⟨w.heap.size, 0, none⟩ = some (.slice A c c) := (bk_cell (bk_alloc_at _ _ _ rfl) 0).trans stC_0
    go_wp2
    go_loopw [3] (fun i' wr => i' = .int .i64 0 ∧ w.alloc (.cells (stC A c c i x) 128) = wr) (fun i _ => 0)
    case atStart => exact ⟨rfl, rfl⟩
    case round =>
      obtain ⟨rfl, rfl⟩ := hrel
      go_wp2
      go_end0
      exact ⟨rfl, (Wrt.refl _ _).alloc _, fun j _ _ => by omega⟩
  · have hlt : n < c := by omega
    obtain ⟨b, o, cur0, rfl, hb0, hle0⟩ := H.out (by omega)
    have hbl := bk_lt hb0
    clear hb0 hle0
    go_enter Try.func106, Try.ntmps106
    have s2 : (w.alloc (.cells (stC (some ⟨b, o, none⟩) n c i x) 128)).cell? ⟨w.heap.size, 0, none⟩ = some (.slice (some ⟨b, o, none⟩) n c) := (bk_cell (bk_alloc_at _ _ _ rfl) 0).trans stC_0
    go_wp2
    have hcn : ((c : Int) - (n : Int)).toNat = c - n := by omega
    go_loopw [3] (fun i' wr => ∃ k : Nat, k ≤ c - n ∧ i' = .int .i64 k ∧ Wrt (rg (some ⟨b, o, none⟩) (n * 16) (c * 16)) w wr ∧ w.heap.size + 1 ≤ wr.heap.size ∧ bk wr w.heap.size = some (.cells (stC (some ⟨b, o, none⟩) n c i x) 128 (0, 0)) ∧ HasA wr (some ⟨b, o, none⟩) n (n + k) x) (fun i _ => c - n - (intOf i).toNat)
    case atStart => exact ⟨0, by omega, rfl, (Wrt.refl _ _).alloc _, by simp, bk_alloc_at _ _ _ rfl, fun j _ h => absurd h (by omega)⟩
    case round =>
      clear s2
      obtain ⟨k, hk, rfl, hW, hsz, hbox, hhas⟩ := hrel
      by_cases hlt2 : k < c - n
      · have d1 : decide ((k : Int) < (c : Int) - (n : Int)) = true := by simp; omega
        have d2 : decide (k < c - n) = true := by simp; omega
        have d3 : (k : Int) < ((c - n : Nat) : Int) := by omega
        obtain ⟨b', o', cur, e, hb, hle⟩ := (H.out.wrt hW) (by omega)
        cases e
        have hlt3 := bk_lt hb
        have HH := Lib.hid hhas
        have r1 : o + n * 16 + k * 16 + 16 ≤ cur.size := by omega
        have st := fun X K => stAny_spl X 16 wr b (o + n * 16 + k * 16) K (List.map B x).toArray cur 110 r1 z3 (ones_map x)
        clear hhas
        go_wp2
        go_roundw
        case rel =>
          have e1 : o + n * 16 + k * 16 = o + (n + k) * 16 := by omega
          refine ⟨k + 1, by omega, by go_num, hW.setRow hb (fun j h1 h2 => ⟨o, rfl, by omega, by simp [HI.out] at h2; omega⟩) (by simp [HI.out]) (by simp [HI.out]; omega), by simpa [World.setRow] using hsz, (bk_setRow_other _ _ _ _ (by omega)).trans hbox, fun j h0 h1 => ?_⟩
          have hnew : bk (wr.setRow b (spl cur.toList (o + n * 16 + k * 16) (List.map B x))) b = some (.cells (spl cur.toList (o + n * 16 + k * 16) (List.map B x)) 110 (0, 0)) := by rw [bk_setRow_same, hb]; rfl
          have hsp : (spl cur.toList (o + n * 16 + k * 16) (List.map B x)).size = cur.size := by simp [spl, HI.out]; omega
          by_cases e : j = n + k
          · subst e
            refine ⟨b, o, _, rfl, hnew, by omega, ?_⟩
            have := xt_spl_same cur (o + n * 16 + k * 16) (List.map B x) (by simp [HI.out]; omega)
            rw [show (List.map B x).length = 16 by simp [HI.out]] at this
            rwa [e1] at this ⊢
          · obtain ⟨b', o', cur', e', hb', hl', hx'⟩ := HH.out j (by omega) (by omega)
            cases e'
            rw [hb] at hb'
            cases hb'
            exact ⟨b, o, _, rfl, hnew, by omega, (xt_spl_other _ _ _ _ _ (by simp [HI.out]; omega) (by simp [HI.out]; omega)).trans hx'⟩
        case measure => simp [intOf]; omega
      · have d1 : decide ((k : Int) < (c : Int) - (n : Int)) = false := by simp; omega
        have d2 : decide (k < c - n) = false := by simp; omega
        obtain rfl : k = c - n := by omega
        rw [show n + (c - n) = c by omega] at hhas
        clear hlt2
        go_wp2
        go_end0
        exact ⟨rfl, hW, hhas⟩
theorem eqAddrS (a : List UInt8) (ha : a.length = 16) (w : World) : (Op.equalIn 10000 110 (.agg (List.map B a).toArray) (.agg (List.map B a).toArray)).run Try.prog w = .ok true w := by
  have := run_equalIn_bytes (P := Try.prog) w 9998 110 5 16 Try.underlying110 Try.underlying5 (fun _ => by kernel_rfl) a a ha ha
  rwa [beq_self_eq_true] at this
theorem akept_any (A : Option Addr) (n c : Nat) (i x : List UInt8) (hi : i.length = 16) (hx : x.length = 16) (w : World) (h1 : HasA w A 0 n i) (h2 : HasA w A n c x) (hn : n ≤ c) (hc : c ≤ 9223372036854775807) :
    Calls Try.prog 107 #[stripA A n c i x] w fun e w' => e = .returned (.bool true) ∧ Below w.heap.size w w' := by
  have H1 := Lib.hid h1; have H2 := Lib.hid h2
  clear h1 h2
  have z1 := stC_size (A := A) (n := n) (c := c) hi hx
  have z2 := stC_i (A := A) (n := n) (c := c) (x := x) hi
  have z3 := stC_x (A := A) (n := n) (c := c) hi hx
  have q1 := fun w => eqAddrS i hi w
  have q2 := fun w => eqAddrS x hx w
  have s1 : decide ((n : Int) ≤ (c : Int)) = true := by simp; omega
  go_enter Try.func107, Try.ntmps107
  go_wp2
  go_loopw [3] (fun i' wr => ∃ k : Nat, k ≤ n ∧ i' = .int .i64 k ∧ Below w.heap.size w wr ∧ w.heap.size + 1 ≤ wr.heap.size ∧ bk wr w.heap.size = some (.cells (stC A n c i x) 128 (0, 0))) (fun i _ => n - (intOf i).toNat)
  case atStart => exact ⟨0, by omega, rfl, (Below.refl _ _).alloc (Nat.le_refl _) _, by simp, bk_alloc_at _ _ _ rfl⟩
  case round =>
    obtain ⟨k, hk, rfl, hW, hsz, hbox⟩ := hrel
    have c0 := (bk_cell hbox 0).trans stC_0
    by_cases hlt : k < n
    · have d1 : decide ((k : Int) < (n : Int)) = true := by simp; omega
      obtain ⟨b, o, cur, rfl, hb, hle, hxt⟩ := H1.out k (by omega) hlt
      have hb := bk_keep hW (bk_lt hb) hb
      have hl1 := bk_lt hb; have hl2 := bk_lt hbox
      go_wp2
      refine wp_region_later (wr.heap.size) (by kernel_rfl) (by kernel_rfl) ?_
      repeat (go_big_quiet_step (fail))
      (first | refine wpQuiet_nil ?_ | (go_big_quiet_want; (try go_big_quiet_op); trace_state; fail))
      intro w1 hw'
      have q3 := later_elim hw'
      clear hw'
      go_wp2
      go_roundw
      case rel => exact ⟨k + 1, by omega, by go_num, hW.trans (q3.mono (by omega)), Nat.le_trans hsz q3.size, bk_keep q3 (by omega) hbox⟩
      case measure => simp [intOf]; omega
    · have d1 : decide ((k : Int) < (n : Int)) = false := by simp; omega
      obtain rfl : k = n := by omega
      clear hlt
      have HB := Lib.hid hbox
      clear hbox
      by_cases hnc : c = k
      · subst hnc
        go_wp2
        go_loopw [5] (fun i' w' => i' = .int .i64 0 ∧ wr = w') (fun i _ => 0)
        case atStart => exact ⟨rfl, rfl⟩
        case round =>
          obtain ⟨rfl, rfl⟩ := hrel
          go_wp2
          go_ret
          exact ⟨rfl, hW⟩
      · have hlt : k < c := by omega
        obtain ⟨b, o, _, rfl, _⟩ := H2.out k (by omega) hlt
        have hcn : ((c : Int) - (k : Int)).toNat = c - k := by omega
        go_wp2
        go_loopw [5] (fun i' wq => ∃ m : Nat, m ≤ c - k ∧ i' = .int .i64 m ∧ Below w.heap.size w wq ∧ w.heap.size + 1 ≤ wq.heap.size ∧ bk wq w.heap.size = some (.cells (stC (some ⟨b, o, none⟩) k c i x) 128 (0, 0))) (fun i _ => c - k - (intOf i).toNat)
        case atStart => exact ⟨0, by omega, rfl, hW, hsz, HB.out⟩
        case round =>
          clear c0 HB hsz hW
          obtain ⟨m, hm, rfl, hW, hsz, hbox⟩ := hrel
          by_cases hlt2 : m < c - k
          · have d1 : decide ((m : Int) < (c : Int) - (k : Int)) = true := by simp; omega
            have d2 : decide (m < c - k) = true := by simp; omega
            have d3 : (m : Int) < ((c - k : Nat) : Int) := by omega
            obtain ⟨b', o', cur, e, hb, hle, hxt⟩ := H2.out (k + m) (by omega) (by omega)
            cases e
            have hb := bk_keep hW (bk_lt hb) hb
            have hl1 := bk_lt hb; have hl2 := bk_lt hbox
            rw [show o + (k + m) * 16 = o + k * 16 + m * 16 by omega] at hle hxt
            go_wp2
            refine wp_region_later (wr.heap.size) (by kernel_rfl) (by kernel_rfl) ?_
            repeat (go_big_quiet_step (fail))
            (first | refine wpQuiet_nil ?_ | (go_big_quiet_want; (try go_big_quiet_op); trace_state; fail))
            intro w1 hw'
            have q3 := later_elim hw'
            clear hw'
            go_wp2
            go_roundw
            case rel => exact ⟨m + 1, by omega, by go_num, hW.trans (q3.mono (by omega)), Nat.le_trans hsz q3.size, bk_keep q3 (by omega) hbox⟩
            case measure => simp [intOf]; omega
          · have d1 : decide ((m : Int) < (c : Int) - (k : Int)) = false := by simp; omega
            have d2 : decide (m < c - k) = false := by simp; omega
            clear hlt2 hbox
            go_wp2
            go_ret
            exact ⟨rfl, hW⟩
end Go.Proofs.Ytfldoihindbdmaa
/- The book of lists: one list more. -/
namespace Go.Proofs.Ytfldoihindbdmaa
open Go.RowKit
set_option maxRecDepth 100000
/-- A book that holds the lists vs. -/
def BK (w : World) (bb _base : Nat) (vs : List Value) : Prop := ∃ hv, bk w bb = some (.cells #[hv] 97 (0, 0)) ∧ w.ownsRow (bb + 1) 132 1 hv vs.length vs
/-- Only a book is another one. -/
structure BFr (bb : Nat) (w w' : World) : Prop where
  os : w'.os = w.os
  tape : w'.tape = w.tape
  output : w'.output = w.output
  size : w.heap.size ≤ w'.heap.size
  keep : ∀ k o, bk w k = some o → k ≠ bb → (∀ cur, o ≠ .cells cur 132 (0, 0)) → bk w' k = some o
  low : ∀ k, k < bb → bk w' k = bk w k
theorem BFr.trans {bb : Nat} {a b c : World} (h : BFr bb a b) (k : BFr bb b c) : BFr bb a c :=
  ⟨k.os.trans h.os, k.tape.trans h.tape, k.output.trans h.output, Nat.le_trans h.size k.size, fun j o hj hn ho => k.keep j o (h.keep j o hj hn ho) hn ho, fun j hj => (k.low j hj).trans (h.low j hj)⟩
theorem BFr.room {bb : Nat} {w w' : World} {A : Option Addr} {c : Nat} {t : TypeId} (h : BFr bb w w') (hr : Room w A c t) (hb : ∀ b o, A = some ⟨b, o, none⟩ → b ≠ bb) (ht : t ≠ 132) : Room w' A c t := fun hc => by
  obtain ⟨b, o, cur, rfl, h1, h2⟩ := hr hc
  exact ⟨b, o, cur, rfl, h.keep _ _ h1 (hb b o rfl) (fun cur' e => by cases e; exact ht rfl), h2⟩
theorem u8_mod (z : Int) : ∃ x : UInt8, Value.int .u8 (z % 256) = B x := by
  refine ⟨UInt8.ofNat (z % 256).toNat, ?_⟩
  rw [B]
  congr 1
  simp only [UInt8.toNat_ofNat']
  omega
theorem infoLeaf : (Try.prog.info? 132).map (fun i => (i.zero, i.size, i.bytes)) = some (some .nilIface, 1, 16) := by kernel_rfl
theorem ownsRow_header {w : World} {base : Nat} {e : TypeId} {size : Nat} {v : Value} {n : Nat} {xs : List Value} (h : w.ownsRow base e size v n xs) : ∃ A c, v = .slice A n c := by
  obtain ⟨_, ⟨rfl, rfl⟩ | ⟨g, cap, cur, rfl, _⟩⟩ := h
  · exact ⟨none, 0, rfl⟩
  · exact ⟨_, cap, rfl⟩
/-- append of one value, whatever it is, out of a literal slice of one. -/
theorem append_one {P : Program} {w : World} {ops : Array Oper} {rest : List Oper} {o : Oper} {a : Act} {Q : Exit → Act → World → Prop} (hgd : o.guard = none) (s x : Operand) (t : TypeId)
    (ho : o.op = .call { callee := .builtin .append, args := #[s, x], argTypes := #[t, t] }) (base : Nat) (e : TypeId) (i : TypeInfo) (z : Value) (bytes : Nat) (ht : P.underlying t = some (.slice e)) (hi : P.info? e = some i) (hz : i.zero = some z)
    (hsize : i.size = 1) (hby : i.bytes = bytes) (hzs : z.cells.size = 1) (hbs : bytes ≤ 1024) (v : Value) (n : Nat) (xs : List Value) (hs : a.eval s = v) (hown : w.ownsRow base e 1 v n xs) (hn : n < 2 ^ 36) (hbase : base ≤ w.heap.size)
    (g : Nat) (u : Value) (t' : TypeId) (fr : Nat × Nat) (hx : a.eval x = .slice (some ⟨g, 0, none⟩) 1 1) (hg : bk w g = some (.cells #[u] t' fr)) (hu : u.oneCell' = true)
    (h : ∀ v' w', w'.ownsRow base e 1 v' (n + 1) (xs ++ [u]) → w.grownBy w' v.ownBlock → wpList P ops Q rest (a.put o.dst v') w') : wpList P ops Q (o :: rest) a w :=
  wpList_append_own w hgd s x t ho base e i z 1 bytes ht hi hz hsize hby hzs (by omega) v n xs hs hown ⟨g, 0, none⟩ 1 1 [u] hx rfl
    (by intro j u' hj; match j, hj with | 0, hj => (simp at hj; subst hj; simpa [Addr.add] using bk_cell hg 0)) (by intro u' hu'; simp at hu'; subst hu'; exact hu) (by unfold maxLen; omega)
    (by have : (n + 1) * bytes ≤ (n + 1) * 1024 := Nat.mul_le_mul_left _ hbs; omega) hbase fun v' w' h1 h2 _ => h v' w' h1 h2
theorem bookNext_any (bb base : Nat) (vs : List Value) (w : World) (h : BK w bb base vs) (hl : vs.length < 2 ^ 30) :
    Calls Try.prog 73 #[.pointer (some ⟨bb, 0, none⟩)] w fun e w' => e = .returned (.int .i64 (1 + (vs.length : Int))) ∧ w = w' := by
  obtain ⟨hv, hb, ho⟩ := h
  obtain ⟨A, c, rfl⟩ := ownsRow_header ho
  have c0 := bk_cell hb 0
  simp at c0
  clear hb ho
  go_enter Try.func73, Try.ntmps73
  go_wp2
  go_ret
  exact ⟨rfl, rfl⟩
end Go.Proofs.Ytfldoihindbdmaa
/- The book of lists: has each its own memory. -/
namespace Go.Proofs.Ytfldoihindbdmaa
open Go.RowKit
set_option maxRecDepth 100000
theorem wpList_invoke {P : Program} {w : World} {ops : Array Oper} {rest : List Oper} {o : Oper} {a : Act} {Q : Exit → Act → World → Prop} (hgd : o.guard = none) (recv : Operand) (name : String) (at' : Array TypeId)
    (ho : o.op = .call { callee := .invoke recv name, args := #[], argTypes := at' }) (T : TypeId) (v v' : Value) (f : FuncId) (r : Value) (R : World → Prop) (hr : a.eval recv = .iface T v)
    (hm : (method (P.types.size + Made.depth) T v name).run P w = .ok (f, v') w) (hf : (callFunc f #[v']).run P w = .ok (.enter f #[v']) w) (hc : Calls P f #[v'] w fun e w' => e = .returned r ∧ R w')
    (h : ∀ w', R w' → wpList P ops Q rest (a.put o.dst r) w') : wpList P ops Q (o :: rest) a w :=
  wpList_plain hgd fun K hK => by
    unfold Oper.wp execOp
    have hm' : (method (P.types.size + Made.depth) T v name).run P w = .ok (f, v') w := hm
    simp only [ho, resolve, hr, invoke, callMethod, Sem.run_bind, Sem.run_pure, Result.andThen_ok]
    have hp : (program).run P w = .ok P w := rfl
    simp only [Array.map_empty, Array.append_empty, show (#[Value.iface T v])[0]? = some (Value.iface T v) from rfl, show (#[Value.iface T v]).extract 1 (#[Value.iface T v]).size = #[] from rfl, Sem.run_bind, hp, Result.andThen_ok, hm', hf]
    rw [Oper.upon_enter]
    refine hc.mono ?_
    rintro e w' ⟨rfl, hR⟩
    exact hK _ _ (h w' hR)
theorem BK.cellsAt {w : World} {bb base : Nat} {vs : List Value} (h : BK w bb base vs) : ∃ A c, bk w bb = some (.cells #[.slice A vs.length c] 97 (0, 0)) ∧ (0 < vs.length → ∃ g cur, A = some ⟨g, 0, none⟩ ∧ bk w g = some (.cells cur 132 (0, 0)) ∧ ∀ (j : Nat) (v : Value), vs[j]? = some v → cur[j]? = some v) := by
  obtain ⟨hv, hb, _, ⟨rfl, h0⟩ | ⟨g, cap, cur, rfl, _, hg, _, _, _, ht⟩⟩ := h
  · exact ⟨none, 0, by rw [hb, h0], fun hh => by omega⟩
  · refine ⟨_, cap, hb, fun _ => ⟨g, cur, rfl, hg, fun j v hj => ?_⟩⟩
    have hl : j < vs.length := (List.getElem?_eq_some_iff.1 hj).1
    rw [← ht, List.getElem?_take_of_lt (by omega)] at hj
    rw [← Array.getElem?_toList]
    exact hj
end Go.Proofs.Ytfldoihindbdmaa
/- A book of lists of whatever kinds: each keeps what it is filled with. -/
namespace Go.Proofs.Ytfldoihindbdmaa
open Go.RowKit
set_option maxRecDepth 100000
/-- A list of a book, by what its methods do. -/
structure Leaf where
  T : TypeId
  v : Value
  f1 : FuncId
  f2 : FuncId
  f3 : FuncId
  m1 : ∀ w, (method (Try.prog.types.size + Made.depth) T v "sojourner/sojournerlaw01.fill").run Try.prog w = .ok (f1, v) w
  m2 : ∀ w, (method (Try.prog.types.size + Made.depth) T v "sojourner/sojournerlaw01.fillRoom").run Try.prog w = .ok (f2, v) w
  m3 : ∀ w, (method (Try.prog.types.size + Made.depth) T v "sojourner/sojournerlaw01.kept").run Try.prog w = .ok (f3, v) w
  e1 : ∀ w, (callFunc f1 #[v]).run Try.prog w = .ok (.enter f1 #[v]) w
  e2 : ∀ w, (callFunc f2 #[v]).run Try.prog w = .ok (.enter f2 #[v]) w
  e3 : ∀ w, (callFunc f3 #[v]).run Try.prog w = .ok (.enter f3 #[v]) w
  Rin : Nat → Nat → Prop
  Rout : Nat → Nat → Prop
  OK : World → Prop
  In : World → Prop
  Out : World → Prop
  okW : ∀ {S : Nat → Nat → Prop} {w w' : World}, OK w → Wrt S w w' → OK w'
  inK : ∀ {S : Nat → Nat → Prop} {w w' : World}, In w → Wrt S w w' → (∀ b j, Rin b j → ¬ S b j) → In w'
  outK : ∀ {S : Nat → Nat → Prop} {w w' : World}, Out w → Wrt S w w' → (∀ b j, Rout b j → ¬ S b j) → Out w'
  dis : ∀ b j, Rin b j → Rout b j → False
  fill : ∀ w, OK w → Calls Try.prog f1 #[v] w fun e w' => e = .returned (.tuple #[]) ∧ Wrt Rin w w' ∧ In w'
  room : ∀ w, OK w → Calls Try.prog f2 #[v] w fun e w' => e = .returned (.tuple #[]) ∧ Wrt Rout w w' ∧ Out w'
  kept : ∀ w, OK w → In w → Out w → Calls Try.prog f3 #[v] w fun e w' => e = .returned (.bool true) ∧ Below w.heap.size w w'
  ty : ∀ {w : World} {b j : Nat}, OK w → (Rin b j ∨ Rout b j) → ∃ cur t, bk w b = some (.cells cur t (0, 0)) ∧ t ≠ 97 ∧ t ≠ 132
def Leaf.R (l : Leaf) (b j : Nat) : Prop := l.Rin b j ∨ l.Rout b j
abbrev Leaf.val (l : Leaf) : Value := .iface l.T l.v
def DisL (L : List Leaf) : Prop := ∀ (i j : Nat) (a b : Leaf), i ≠ j → L[i]? = some a → L[j]? = some b → ∀ k m, a.R k m → b.R k m → False
def rgL (L : List Leaf) (b j : Nat) : Prop := ∃ l ∈ L, l.R b j
theorem Wrt.otherL {k : Nat} {w w' : World} {L : List Leaf} {cur : Array Value} {t : TypeId} {fr : Nat × Nat} (h : Wrt (rgL L) w w') (hL : ∀ l ∈ L, l.OK w) (hk : bk w k = some (.cells cur t fr)) (ht : t = 97 ∨ t = 132) : bk w' k = some (.cells cur t fr) :=
  (h.oth k (bk_lt hk) fun j hj => by
    obtain ⟨l, hl, hr⟩ := hj
    obtain ⟨cur', t', hb, h1, h2⟩ := l.ty (hL l hl) hr
    rw [hk] at hb
    cases hb
    rcases ht with e | e
    · exact h1 e
    · exact h2 e).trans hk
set_option maxHeartbeats 2000000 in
theorem apart_leaves (bb base : Nat) (L : List Leaf) (w : World) (h : BK w bb base (L.map Leaf.val)) (hL : ∀ l ∈ L, l.OK w) (hd : DisL L) (hN : L.length < 2 ^ 40) :
    Calls Try.prog 44 #[.pointer (some ⟨bb, 0, none⟩)] w fun e w' => e = .returned (.bool true) ∧ Wrt (rgL L) w w' := by
  obtain ⟨A, cp, hb, hg⟩ := h.cellsAt
  rw [List.length_map] at hb hg
  obtain ⟨N, hNL⟩ : ∃ N, N = L.length := ⟨_, rfl⟩
  rw [← hNL] at hb hg hN
  have HB := Lib.hid hb; have HG := Lib.hid hg; have HL := Lib.hid hL; have HD := Lib.hid hd; have HNL := Lib.hid hNL
  have c0 := bk_cell hb 0
  simp at c0
  clear hb hg hL hd h hNL
  by_cases hbig : 120 < N
  · have d1 : decide (120 < (N : Int)) = true := by simp; omega
    have d2 : decide (120 < N) = true := by simp; omega
    go_enter Try.func44, Try.ntmps44
    go_wp2
    go_ret
    exact ⟨rfl, Wrt.refl _ _⟩
  · have d1 : decide (120 < (N : Int)) = false := by simp; omega
    have d2 : decide (120 < N) = false := by simp; omega
    have hN2 : N ≤ 120 := by omega
    clear hbig
    go_enter Try.func44, Try.ntmps44
    go_wp2
    go_loopw [3] (fun i wr => ∃ k : Nat, k ≤ N ∧ i = .int .i64 k ∧ Wrt (rgL L) w wr ∧ Hid (∀ (m : Nat) (l : Leaf), L[m]? = some l → m < k → l.In wr)) (fun i _ => N - (intOf i).toNat)
    case atStart => exact ⟨0, by omega, rfl, Wrt.refl _ _, Lib.hid fun m l _ h => absurd h (by omega)⟩
    case round =>
      obtain ⟨k, hk, rfl, hW, hdone⟩ := hrel
      have c1 := bk_cell (hW.otherL HL.out HB.out (.inl rfl)) 0
      simp at c1
      by_cases hlt : k < N
      · have d3 : decide ((k : Int) < (N : Int)) = true := by simp; omega
        obtain ⟨g, cur, rfl, hg, hcells⟩ := HG.out (by omega)
        obtain ⟨l, hl⟩ : ∃ l, L[k]? = some l := ⟨L[k]'(by rw [← HNL.out]; exact hlt), List.getElem?_eq_getElem _⟩
        have hlm : l ∈ L := List.mem_of_getElem? hl
        have c2 := bk_cell (hW.otherL HL.out hg (.inr rfl)) k
        rw [hcells k l.val (by rw [List.getElem?_map, hl]; rfl)] at c2
        have C := Lib.hid (l.fill wr (l.okW (HL.out l hlm) hW))
        have HLK := Lib.hid hl
        clear hg hcells hl
        go_wp2_with (refine wpList_invoke rfl _ _ _ rfl l.T _ _ l.f1 _ _ rfl (l.m1 _) (l.e1 _) C.out ?_)
        intro w1 hR1 hR2
        have HR := Lib.hid (And.intro hR1 hR2)
        clear hR1 hR2 C
        go_wp2_with fail
        go_roundw
        case rel =>
          refine ⟨k + 1, by omega, by go_num, hW.trans (HR.out.1.mono fun b j hs => ⟨l, hlm, .inl hs⟩), Lib.hid fun m l' hm hk' => ?_⟩
          by_cases e : m = k
          · subst e
            obtain rfl : l = l' := Option.some.inj (HLK.out.symm.trans hm)
            exact HR.out.2
          · exact l'.inK (hdone.out m l' hm (by omega)) HR.out.1 fun b j h1 h2 => HD.out m k l' l e hm HLK.out b j (.inl h1) (.inl h2)
        case measure => simp [intOf]; omega
      · have d3 : decide ((k : Int) < (N : Int)) = false := by simp; omega
        obtain rfl : k = N := by omega
        have HW1 := Lib.hid hW
        have HD1 := Lib.hid (fun (m : Nat) (l : Leaf) (hm : L[m]? = some l) => hdone.out m l hm (by rw [HNL.out]; exact (List.getElem?_eq_some_iff.1 hm).1))
        clear hlt hW hdone
        go_wp2_with fail
        go_loopw [4] (fun i w2 => ∃ j : Nat, j ≤ k ∧ i = .int .i64 j ∧ Wrt (rgL L) w w2 ∧ Hid (∀ (m : Nat) (l : Leaf), L[m]? = some l → l.In w2 ∧ (m < j → l.Out w2))) (fun i _ => k - (intOf i).toNat)
        case atStart => exact ⟨0, by omega, rfl, HW1.out, Lib.hid fun m l hm => ⟨HD1.out m l hm, fun h => absurd h (by omega)⟩⟩
        case round =>
          clear c1 HW1 HD1
          obtain ⟨j, hj, rfl, hW, hdone⟩ := hrel
          have c1 := bk_cell (hW.otherL HL.out HB.out (.inl rfl)) 0
          simp at c1
          by_cases hlt : j < k
          · have d3 : decide ((j : Int) < (k : Int)) = true := by simp; omega
            obtain ⟨g, cur, rfl, hg, hcells⟩ := HG.out (by omega)
            obtain ⟨l, hl⟩ : ∃ l, L[j]? = some l := ⟨L[j]'(by rw [← HNL.out]; exact hlt), List.getElem?_eq_getElem _⟩
            have hlm : l ∈ L := List.mem_of_getElem? hl
            have c2 := bk_cell (hW.otherL HL.out hg (.inr rfl)) j
            rw [hcells j l.val (by rw [List.getElem?_map, hl]; rfl)] at c2
            have C := Lib.hid (l.room wr (l.okW (HL.out l hlm) hW))
            have HLK := Lib.hid hl
            clear hg hcells hl
            go_wp2_with (refine wpList_invoke rfl _ _ _ rfl l.T _ _ l.f2 _ _ rfl (l.m2 _) (l.e2 _) C.out ?_)
            intro w1 hR1 hR2
            have HR := Lib.hid (And.intro hR1 hR2)
            clear hR1 hR2 C
            go_wp2_with fail
            go_roundw
            case rel =>
              refine ⟨j + 1, by omega, by go_num, hW.trans (HR.out.1.mono fun b j hs => ⟨l, hlm, .inr hs⟩), Lib.hid fun m l' hm => ⟨?_, fun hk' => ?_⟩⟩
              · refine l'.inK (hdone.out m l' hm).1 HR.out.1 fun b q h1 h2 => ?_
                by_cases e : m = j
                · subst e
                  obtain rfl : l = l' := Option.some.inj (HLK.out.symm.trans hm)
                  exact l.dis b q h1 h2
                · exact HD.out m j l' l e hm HLK.out b q (.inl h1) (.inr h2)
              · by_cases e : m = j
                · subst e
                  obtain rfl : l = l' := Option.some.inj (HLK.out.symm.trans hm)
                  exact HR.out.2
                · exact l'.outK ((hdone.out m l' hm).2 (by omega)) HR.out.1 fun b q h1 h2 => HD.out m j l' l e hm HLK.out b q (.inr h1) (.inr h2)
            case measure => simp [intOf]; omega
          · have d3 : decide ((j : Int) < (k : Int)) = false := by simp; omega
            obtain rfl : j = k := by omega
            have HW2 := Lib.hid hW
            have HD2 := Lib.hid (fun (m : Nat) (l : Leaf) (hm : L[m]? = some l) => And.intro (hdone.out m l hm).1 ((hdone.out m l hm).2 (by rw [HNL.out]; exact (List.getElem?_eq_some_iff.1 hm).1)))
            clear hlt hW hdone
            go_wp2_with fail
            obtain ⟨wo, rfl⟩ : ∃ wo : World, wo = wr := ⟨_, rfl⟩
            go_loopw [5] (fun i w3 => ∃ q : Nat, q ≤ j ∧ i = .int .i64 q ∧ Below wo.heap.size wo w3) (fun i _ => j - (intOf i).toNat)
            case atStart => exact ⟨0, by omega, rfl, Below.refl _ _⟩
            case round =>
              obtain ⟨q, hq, rfl, hB3⟩ := hrel
              clear c1
              have hWr : Wrt (rgL L) w wr := HW2.out.trans (Wrt.of_below hB3)
              have c1 := bk_cell (hWr.otherL HL.out HB.out (.inl rfl)) 0
              simp at c1
              have HWR := Lib.hid hWr
              clear hWr
              by_cases hlt : q < j
              · have d3 : decide ((q : Int) < (j : Int)) = true := by simp; omega
                obtain ⟨g, cur, rfl, hg, hcells⟩ := HG.out (by omega)
                obtain ⟨l, hl⟩ : ∃ l, L[q]? = some l := ⟨L[q]'(by rw [← HNL.out]; exact hlt), List.getElem?_eq_getElem _⟩
                have hlm : l ∈ L := List.mem_of_getElem? hl
                have c2 := bk_cell (HWR.out.otherL HL.out hg (.inr rfl)) q
                rw [hcells q l.val (by rw [List.getElem?_map, hl]; rfl)] at c2
                have C := Lib.hid (l.kept wr (l.okW (HL.out l hlm) HWR.out) (l.inK (S := fun _ _ => False) (HD2.out q l hl).1 (Wrt.of_below hB3) fun _ _ _ hf => hf) (l.outK (S := fun _ _ => False) (HD2.out q l hl).2 (Wrt.of_below hB3) fun _ _ _ hf => hf))
                have HLK := Lib.hid hl
                clear hg hcells hl
                go_wp2_with (refine wpList_invoke rfl _ _ _ rfl l.T _ _ l.f3 _ _ rfl (l.m3 _) (l.e3 _) C.out ?_)
                intro w1 hR
                clear C
                go_wp2_with fail
                go_roundw
                case rel => exact ⟨q + 1, by omega, by go_num, hB3.trans (hR.mono hB3.size)⟩
                case measure => simp [intOf]; omega
              · have d3 : decide ((q : Int) < (j : Int)) = false := by simp; omega
                have d4 : decide (q < j) = false := by simp; omega
                clear hlt
                go_wp2_with fail
                go_ret
                exact ⟨rfl, HWR.out⟩
end Go.Proofs.Ytfldoihindbdmaa
/- A strip of texts: fill, fillRoom, kept. -/
namespace Go.Proofs.Ytfldoihindbdmaa
open Go.RowKit
set_option maxRecDepth 100000
/-- A strip of texts. -/
abbrev stripS (A : Option Addr) (n c : Nat) (i x : ByteArray) : Value := .agg #[.slice A n c, .string i, .string x]
theorem sfill_any (A : Option Addr) (n c : Nat) (i x : ByteArray) (w : World) (h : Room w A c 9) (hn : n ≤ c) (hc : c ≤ 9223372036854775807) :
    Calls Try.prog 108 #[stripS A n c i x] w fun e w' => e = .returned (.tuple #[]) ∧ Wrt (rg A 0 n) w w' ∧ Has w' A 0 n (.string i) := by
  have H := Lib.hid h
  clear h
  go_enter Try.func108, Try.ntmps108
  go_wp2
  go_loopw [2] (fun i' wr => ∃ k : Nat, k ≤ n ∧ i' = .int .i64 k ∧ Wrt (rg A 0 n) w wr ∧ w.heap.size + 1 ≤ wr.heap.size ∧ bk wr w.heap.size = some (.cells #[.slice A n c, .string i, .string x] 130 (0, 0)) ∧ Has wr A 0 k (.string i)) (fun i _ => n - (intOf i).toNat)
  case atStart => exact ⟨0, by omega, rfl, (Wrt.refl _ _).alloc _, by simp, bk_alloc_at _ _ _ rfl, fun j _ h => absurd h (by omega)⟩
  case round =>
    obtain ⟨k, hk, rfl, hW, hsz, hbox, hhas⟩ := hrel
    have c0 := bk_cell hbox 0
    have c1 := bk_cell hbox 1
    simp at c0 c1
    have HB := Lib.hid hbox
    clear hbox
    by_cases hlt : k < n
    · have d1 : decide ((k : Int) < (n : Int)) = true := by simp; omega
      obtain ⟨b, o, cur, rfl, hb, hle⟩ := (H.out.wrt hW) (by omega)
      have hlt2 := bk_lt hb
      have hbl : b < w.heap.size := by
        obtain ⟨b', o', cur', e, hb', _⟩ := H.out (by omega)
        cases e
        exact bk_lt hb'
      have hu := bk_cell hb (o + k)
      rw [Array.getElem?_eq_getElem (by omega)] at hu
      have hfz := bk_frozen hb (o + k)
      have HH := Lib.hid hhas
      have HC := Lib.hid hb
      clear hb hhas
      go_wp2
      go_roundw
      case rel =>
        refine ⟨k + 1, by omega, by go_num, hW.set ⟨o, rfl, by omega, by omega⟩ _, by simpa [World.setCell] using hsz, (bk_setCell_other _ _ _ _ _ (by omega)).trans HB.out, fun j h0 h1 => ?_⟩
        refine ⟨b, o, rfl, ?_⟩
        have hnew : bk (wr.setCell ⟨b, o + k, none⟩ (.string i)) b = some (.cells (cur.setIfInBounds (o + k) (.string i)) 9 (0, 0)) := by rw [bk_setCell_same, HC.out]; rfl
        by_cases e : j = k
        · subst e
          rw [bk_cell hnew, Array.getElem?_setIfInBounds_self_of_lt (by omega)]
        · obtain ⟨b', o', e', hcell⟩ := HH.out j (by omega) (by omega)
          cases e'
          rw [bk_cell hnew, Array.getElem?_setIfInBounds_ne (by omega), ← hcell, bk_cell HC.out]
      case measure => simp [intOf]; omega
    · have d1 : decide ((k : Int) < (n : Int)) = false := by simp; omega
      obtain rfl : k = n := by omega
      clear hlt
      go_wp2
      go_end0
      exact ⟨rfl, hW, hhas⟩
theorem sfillRoom_any (A : Option Addr) (n c : Nat) (i x : ByteArray) (w : World) (h : Room w A c 9) (hn : n ≤ c) (hc : c ≤ 9223372036854775807) :
    Calls Try.prog 109 #[stripS A n c i x] w fun e w' => e = .returned (.tuple #[]) ∧ Wrt (rg A n c) w w' ∧ Has w' A n c (.string x) := by
  have H := Lib.hid h
  clear h
  have s1 : decide ((n : Int) ≤ (c : Int)) = true := by simp; omega
  by_cases hnc : c = n
  · subst hnc
    go_enter Try.func109, Try.ntmps109
    go_wp2
    go_loopw [3] (fun i' wr => i' = .int .i64 0 ∧ w.alloc (.cells #[.slice A c c, .string i, .string x] 130) = wr) (fun i _ => 0)
    case atStart => exact ⟨rfl, rfl⟩
    case round =>
      obtain ⟨rfl, rfl⟩ := hrel
      go_wp2
      go_end0
      exact ⟨rfl, (Wrt.refl _ _).alloc _, fun j _ _ => by omega⟩
  · have hlt : n < c := by omega
    obtain ⟨b, o, cur0, rfl, hb0, hle0⟩ := H.out (by omega)
    have hbl := bk_lt hb0
    clear hb0 hle0
    go_enter Try.func109, Try.ntmps109
    go_wp2
    have hcn : ((c : Int) - (n : Int)).toNat = c - n := by omega
    go_loopw [3] (fun i' wr => ∃ k : Nat, k ≤ c - n ∧ i' = .int .i64 k ∧ Wrt (rg (some ⟨b, o, none⟩) n c) w wr ∧ w.heap.size + 1 ≤ wr.heap.size ∧ bk wr w.heap.size = some (.cells #[.slice (some ⟨b, o, none⟩) n c, .string i, .string x] 130 (0, 0)) ∧ Has wr (some ⟨b, o, none⟩) n (n + k) (.string x)) (fun i _ => c - n - (intOf i).toNat)
    case atStart => exact ⟨0, by omega, rfl, (Wrt.refl _ _).alloc _, by simp, bk_alloc_at _ _ _ rfl, fun j _ h => absurd h (by omega)⟩
    case round =>
      obtain ⟨k, hk, rfl, hW, hsz, hbox, hhas⟩ := hrel
      have c1 := bk_cell hbox 2
      simp at c1
      have HB := Lib.hid hbox
      clear hbox
      by_cases hlt2 : k < c - n
      · have d1 : decide ((k : Int) < (c : Int) - (n : Int)) = true := by simp; omega
        have d2 : decide (k < c - n) = true := by simp; omega
        have d3 : (k : Int) < ((c - n : Nat) : Int) := by omega
        obtain ⟨b', o', cur, e, hb, hle⟩ := (H.out.wrt hW) (by omega)
        cases e
        have hlt3 := bk_lt hb
        have hu := bk_cell hb (o + n + k)
        rw [Array.getElem?_eq_getElem (by omega)] at hu
        have hfz := bk_frozen hb (o + n + k)
        have HH := Lib.hid hhas
        have HC := Lib.hid hb
        clear hb hhas
        go_wp2
        go_roundw
        case rel =>
          refine ⟨k + 1, by omega, by go_num, hW.set ⟨o, rfl, by omega, by omega⟩ _, by simpa [World.setCell] using hsz, (bk_setCell_other _ _ _ _ _ (by omega)).trans HB.out, fun j h0 h1 => ?_⟩
          refine ⟨b, o, rfl, ?_⟩
          have hnew : bk (wr.setCell ⟨b, o + n + k, none⟩ (.string x)) b = some (.cells (cur.setIfInBounds (o + n + k) (.string x)) 9 (0, 0)) := by rw [bk_setCell_same, HC.out]; rfl
          by_cases e : j = n + k
          · subst e
            rw [bk_cell hnew, show o + (n + k) = o + n + k by omega, Array.getElem?_setIfInBounds_self_of_lt (by omega)]
          · obtain ⟨b', o', e', hcell⟩ := HH.out j (by omega) (by omega)
            cases e'
            rw [bk_cell hnew, Array.getElem?_setIfInBounds_ne (by omega), ← hcell, bk_cell HC.out]
        case measure => simp [intOf]; omega
      · have d1 : decide ((k : Int) < (c : Int) - (n : Int)) = false := by simp; omega
        have d2 : decide (k < c - n) = false := by simp; omega
        obtain rfl : k = c - n := by omega
        rw [show n + (c - n) = c by omega] at hhas
        clear hlt2
        go_wp2
        go_end0
        exact ⟨rfl, hW, hhas⟩
theorem skept_any (A : Option Addr) (n c : Nat) (i x : ByteArray) (w : World) (h1 : Has w A 0 n (.string i)) (h2 : Has w A n c (.string x)) (hl : 0 < c → ∃ b o, A = some ⟨b, o, none⟩ ∧ b < w.heap.size) (hn : n ≤ c) (hc : c ≤ 9223372036854775807) :
    Calls Try.prog 110 #[stripS A n c i x] w fun e w' => e = .returned (.bool true) ∧ Below w.heap.size w w' := by
  have H1 := Lib.hid h1; have H2 := Lib.hid h2; have HL := Lib.hid hl
  clear h1 h2 hl
  have s1 : decide ((n : Int) ≤ (c : Int)) = true := by simp; omega
  go_enter Try.func110, Try.ntmps110
  go_wp2
  go_loopw [3] (fun i' wr => ∃ k : Nat, k ≤ n ∧ i' = .int .i64 k ∧ Below w.heap.size w wr ∧ w.heap.size + 1 ≤ wr.heap.size ∧ bk wr w.heap.size = some (.cells #[.slice A n c, .string i, .string x] 130 (0, 0))) (fun i _ => n - (intOf i).toNat)
  case atStart => exact ⟨0, by omega, rfl, (Below.refl _ _).alloc (Nat.le_refl _) _, by simp, bk_alloc_at _ _ _ rfl⟩
  case round =>
    obtain ⟨k, hk, rfl, hW, hsz, hbox⟩ := hrel
    have c0 := bk_cell hbox 0
    have c1 := bk_cell hbox 1
    simp at c0 c1
    by_cases hlt : k < n
    · have d1 : decide ((k : Int) < (n : Int)) = true := by simp; omega
      obtain ⟨b, o, rfl, hcell⟩ := H1.out k (by omega) hlt
      obtain ⟨b', o', e, hbl⟩ := HL.out (by omega)
      cases e
      have hu : wr.cell? ⟨b, o + k, none⟩ = some (.string i) := (hW.cell (p := ⟨b, o + k, none⟩) hbl).trans hcell
      have HB := Lib.hid hbox
      clear hbox hcell
      go_wp2
      refine wp_region_later (wr.heap.size) (by kernel_rfl) (by kernel_rfl) ?_
      repeat (go_big_quiet_step (fail))
      (first | refine wpQuiet_nil ?_ | (go_big_quiet_want; (try go_big_quiet_op); trace_state; fail))
      intro w1 hw'
      have q1 := later_elim hw'
      clear hw'
      go_wp2
      go_roundw
      case rel => exact ⟨k + 1, by omega, by go_num, hW.trans (q1.mono (by omega)), Nat.le_trans hsz q1.size, bk_keep q1 (by omega) HB.out⟩
      case measure => simp [intOf]; omega
    · have d1 : decide ((k : Int) < (n : Int)) = false := by simp; omega
      obtain rfl : k = n := by omega
      clear hlt
      have c2 := bk_cell hbox 2
      simp at c2
      have HB := Lib.hid hbox
      clear hbox
      by_cases hnc : c = k
      · subst hnc
        go_wp2
        go_loopw [5] (fun i' w' => i' = .int .i64 0 ∧ wr = w') (fun i _ => 0)
        case atStart => exact ⟨rfl, rfl⟩
        case round =>
          obtain ⟨rfl, rfl⟩ := hrel
          go_wp2
          go_ret
          exact ⟨rfl, hW⟩
      · have hlt : k < c := by omega
        obtain ⟨b, o, rfl, hbl⟩ := HL.out (by omega)
        have hcn : ((c : Int) - (k : Int)).toNat = c - k := by omega
        go_wp2
        go_loopw [5] (fun i' wq => ∃ m : Nat, m ≤ c - k ∧ i' = .int .i64 m ∧ Below w.heap.size w wq ∧ w.heap.size + 1 ≤ wq.heap.size ∧ bk wq w.heap.size = some (.cells #[.slice (some ⟨b, o, none⟩) k c, .string i, .string x] 130 (0, 0))) (fun i _ => c - k - (intOf i).toNat)
        case atStart => exact ⟨0, by omega, rfl, hW, hsz, HB.out⟩
        case round =>
          clear c0 c1 c2 HB hsz hW
          obtain ⟨m, hm, rfl, hW, hsz, hbox⟩ := hrel
          have c2 := bk_cell hbox 2
          simp at c2
          by_cases hlt2 : m < c - k
          · have d1 : decide ((m : Int) < (c : Int) - (k : Int)) = true := by simp; omega
            have d2 : decide (m < c - k) = true := by simp; omega
            have d3 : (m : Int) < ((c - k : Nat) : Int) := by omega
            obtain ⟨b', o', e, hcell⟩ := H2.out (k + m) (by omega) (by omega)
            cases e
            rw [show o + (k + m) = o + k + m by omega] at hcell
            have hu := (hW.cell (p := ⟨b, o + k + m, none⟩) hbl).trans hcell
            have HB := Lib.hid hbox
            clear hbox hcell
            go_wp2
            refine wp_region_later (wr.heap.size) (by kernel_rfl) (by kernel_rfl) ?_
            repeat (go_big_quiet_step (fail))
            (first | refine wpQuiet_nil ?_ | (go_big_quiet_want; (try go_big_quiet_op); trace_state; fail))
            intro w1 hw'
            have q1 := later_elim hw'
            clear hw'
            go_wp2
            go_roundw
            case rel => exact ⟨m + 1, by omega, by go_num, hW.trans (q1.mono (by omega)), Nat.le_trans hsz q1.size, bk_keep q1 (by omega) HB.out⟩
            case measure => simp [intOf]; omega
          · have d1 : decide ((m : Int) < (c : Int) - (k : Int)) = false := by simp; omega
            have d2 : decide (m < c - k) = false := by simp; omega
            clear hlt2 hbox
            go_wp2
            go_ret
            exact ⟨rfl, hW⟩
end Go.Proofs.Ytfldoihindbdmaa
