/-
  Lemmas over any program: blocks of memory read and written whole, and regions that draw their order and hold calls that make memory.
-/
import Derived.WalkKit
import Derived.WalkLawsBesides
import Derived.WalkSpells
import Derived.Outline
import Derived.Deep.QuietTactic
import Derived.BigQuiet
import Derived.Deep.MidRow
import Derived.Deep.WholeRow
import Derived.Lib.Hide
import Derived.Laws.CopyOwn
import Derived.Stop.BytesEq
namespace Go.Proofs.Ytfldoihindbdmaa
open Go.RowKit
abbrev B (b : UInt8) : Value := .int .u8 (b.toNat : Int)
abbrev av (l : List UInt8) : Value := .agg (l.map B).toArray

theorem ret_int {k : IntKind} {a b : Int} (h : a = b) : Ending.returned (.int k a) = .returned (.int k b) := by rw [h]
/-- A block. -/
def bk (w : World) (b : Nat) : Option Obj := w.heap[b]?
def putObj (o : Nat) (v : Value) : Obj → Obj
  | .cells c t fr => .cells (c.setIfInBounds o v) t fr
  | x => x
def rowObj (c : Array Value) : Obj → Obj
  | .cells _ t fr => .cells c t fr
  | x => x
section
variable (w : World)
theorem bk_alloc_at (o : Obj) (n : Nat) (h : n = w.heap.size) : bk (w.alloc o) n = some o := by
  subst h; exact heap_alloc_new w o
theorem bk_alloc_past (o : Obj) (n : Nat) (h : n < w.heap.size) : bk (w.alloc o) n = bk w n := heap_alloc_old w o h
@[go_sem] theorem bk_alloc (o : Obj) (n : Nat) : bk (w.alloc o) n = if n < w.heap.size then bk w n else if n = w.heap.size then some o else none := by
  split
  · exact bk_alloc_past w o n (by assumption)
  · split
    · exact bk_alloc_at w o n (by assumption)
    · unfold bk World.alloc; simp only [Array.getElem?_push]; rw [if_neg (by assumption)]; simp; omega
@[go_sem] theorem bk_drew (n : Nat) : bk w.drew n = bk w n := rfl
theorem bk_setRow_same (n : Nat) (c : Array Value) : bk (w.setRow n c) n = (bk w n).map (rowObj c) := by
  unfold bk World.setRow
  simp only [Array.getElem?_modify, if_true]
  cases w.heap[n]? <;> simp
  rename_i o; cases o <;> rfl
theorem bk_setRow_other (n m : Nat) (c : Array Value) (h : m ≠ n) : bk (w.setRow n c) m = bk w m := by
  unfold bk World.setRow
  simp only [Array.getElem?_modify]
  rw [if_neg (fun e => h e.symm)]
theorem bk_setCell_same (n o : Nat) (v : Value) : bk (w.setCell ⟨n, o, none⟩ v) n = (bk w n).map (putObj o v) := by
  unfold bk World.setCell
  simp only [Array.getElem?_modify, if_true]
  cases w.heap[n]? <;> simp
  rename_i o; cases o <;> simp [putObj]
theorem bk_setCell_other (n o m : Nat) (v : Value) (h : m ≠ n) : bk (w.setCell ⟨n, o, none⟩ v) m = bk w m := by
  unfold bk World.setCell
  simp only [Array.getElem?_modify]
  rw [if_neg (fun e => h e.symm)]
end
@[go_sem] theorem bk_setRow (w : World) (n m : Nat) (c : Array Value) : bk (w.setRow n c) m = if m = n then (bk w m).map (rowObj c) else bk w m := by
  split
  · rename_i h; subst h; exact bk_setRow_same w m c
  · exact bk_setRow_other w n m c (by assumption)
@[go_sem] theorem bk_setCell (w : World) (n o m : Nat) (v : Value) : bk (w.setCell ⟨n, o, none⟩ v) m = if m = n then (bk w m).map (putObj o v) else bk w m := by
  split
  · rename_i h; subst h; exact bk_setCell_same w m o v
  · exact bk_setCell_other w n o m v (by assumption)
@[go_sem] theorem rowObj_cells (c d : Array Value) (t : TypeId) (fr : Nat × Nat) : rowObj c (.cells d t fr) = .cells c t fr := rfl
@[go_sem] theorem putObj_cells (o : Nat) (v : Value) (d : Array Value) (t : TypeId) (fr : Nat × Nat) : putObj o v (.cells d t fr) = .cells (d.setIfInBounds o v) t fr := rfl
theorem bk_cell {w : World} {b : Nat} {c : Array Value} {t : TypeId} {fr : Nat × Nat} (h : bk w b = some (.cells c t fr)) (o : Nat) : w.cell? ⟨b, o, none⟩ = c[o]? := cell_of_row w b o c t fr h
theorem bk_frozen {w : World} {b : Nat} {c : Array Value} {t : TypeId} (h : bk w b = some (.cells c t (0, 0))) (o : Nat) : w.frozen? ⟨b, o, none⟩ = false := frozen_of_row w b o c t h
theorem bk_lt {w : World} {b : Nat} {o : Obj} (h : bk w b = some o) : b < w.heap.size := (Array.getElem?_eq_some_iff.1 h).1

@[go_sem] theorem cell_alloc_if (w : World) (c : Array Value) (t : TypeId) (fr : Nat × Nat) (n i : Nat) : (w.alloc (.cells c t fr)).cell? ⟨n, i, none⟩ = if n < w.heap.size then w.cell? ⟨n, i, none⟩ else if n = w.heap.size then c[i]? else none := by
  have h := bk_alloc w (.cells c t fr) n
  unfold bk at h
  by_cases h1 : n < w.heap.size
  · rw [if_pos h1] at h ⊢; unfold World.cell?; simp only [h]
  · rw [if_neg h1] at h ⊢
    by_cases h2 : n = w.heap.size
    · rw [if_pos h2] at h ⊢; unfold World.cell?; simp only [h]; rfl
    · rw [if_neg h2] at h ⊢; unfold World.cell?; simp only [h]
@[go_sem] theorem frozen_alloc_if (w : World) (c : Array Value) (t : TypeId) (n i : Nat) : (w.alloc (.cells c t)).frozen? ⟨n, i, none⟩ = if n < w.heap.size then w.frozen? ⟨n, i, none⟩ else false := by
  have h := bk_alloc w (.cells c t) n
  unfold bk at h
  by_cases h1 : n < w.heap.size
  · rw [if_pos h1] at h ⊢; unfold World.frozen?; simp only [h]
  · rw [if_neg h1] at h ⊢
    by_cases h2 : n = w.heap.size
    · rw [if_pos h2] at h; unfold World.frozen?; simp only [h]; simp
    · rw [if_neg h2] at h; unfold World.frozen?; simp only [h]
/-! ### Whole rows (arrays, structs), read and written as one operation -/
/-- n cells of a block from the o-th on. -/
def xt (c : Array Value) (o n : Nat) : Array Value := c.extract o (o + n)
def sl (l : List UInt8) (o n : Nat) : List UInt8 := l.extract o (o + n)
@[go_sem] theorem xt_whole (c : Array Value) (n : Nat) (h : c.size = n) : xt c 0 n = c := by subst h; simp [xt]
@[go_sem] theorem sl_whole (l : List UInt8) (n : Nat) (h : l.length = n) : sl l 0 n = l := by subst h; simp [sl, List.extract_eq_take_drop]
theorem sl_length (l : List UInt8) (o n : Nat) (h : o + n ≤ l.length) : (sl l o n).length = n := by simp [sl, List.extract_eq_take_drop]; omega
theorem sl_getD (l : List UInt8) (o n j : Nat) (h : j < n) : (sl l o n).getD j 0 = l.getD (o + j) 0 := by
  simp [sl, List.extract_eq_take_drop, List.getD_eq_getElem?_getD, h]
@[go_sem] theorem xt_map (l : List UInt8) (o n : Nat) : xt (List.map B l).toArray o n = (List.map B (sl l o n)).toArray := by
  simp [xt, sl, List.extract_eq_take_drop, List.map_drop, List.map_take]
def ldRow (X : Prop) (n : Nat) (_w : World) (o : Nat) (K : Array Value → Prop) : Option Obj → Prop
  | some (.cells c _ _) => if o + n ≤ c.size then K (xt c o n) else X
  | _ => X
def ldPtr (X : Prop) (n : Nat) (w : World) (K : Array Value → Prop) : Value → Prop
  | .pointer (some ⟨b, o, none⟩) => ldRow X n w o K (bk w b)
  | _ => X
@[go_sem] theorem ldPtr_ptr (X : Prop) (n : Nat) (w : World) (K : Array Value → Prop) (b o : Nat) : ldPtr X n w K (.pointer (some ⟨b, o, none⟩)) = ldRow X n w o K (bk w b) := rfl
@[go_sem] theorem ldRow_some (X : Prop) (n : Nat) (w : World) (o : Nat) (K : Array Value → Prop) (c : Array Value) (t : TypeId) (fr : Nat × Nat) (h : o + n ≤ c.size) :
    ldRow X n w o K (some (.cells c t fr)) = K (xt c o n) := by simp [ldRow, h]
@[irreducible] def wpHid (P : Program) (o : Oper) (a : Act) (w : World) (K : Act → World → Prop) (Q : Exit → Act → World → Prop) : Prop := o.wp P a w K Q
theorem run_load_bk {P : Program} (ty : TypeId) (n : Nat) (d : TypeDesc) (hu : P.underlying ty = some d) (hd : d.isRow = true) (hi : (P.info? ty).map (·.size) = some n)
    (w : World) (b o : Nat) (c : Array Value) (t : TypeId) (fr : Nat × Nat) (hb : bk w b = some (.cells c t fr)) (hle : o + n ≤ c.size) :
    (Instr.loadAt ty (.pointer (some ⟨b, o, none⟩))).run P w = .ok (.agg (xt c o n)) w := by
  unfold xt
  have hr : w.rangeAt b o (c.extract o (o + n)).toList := World.rangeAt_of_block hb o n
  have := run_loadAt_mid (P := P) w b o ty (c.extract o (o + n)).toList d hr hu hd (by rw [hi]; simp; omega)
  rw [this]
theorem wp_load_bk {P : Program} (ty : TypeId) (n : Nat) (d : TypeDesc) (hu : P.underlying ty = some d) (hd : d.isRow = true) (hi : (P.info? ty).map (·.size) = some n)
    (dst : Option Tmp) (x : Operand) (t : TypeId) (pos : String) (af : Array Edge) (g : Option (Nat × Bool)) (a : Act) (w : World) (K : Act → World → Prop) (Q : Exit → Act → World → Prop) :
    Oper.wp P ⟨dst, .load ty x, t, pos, af, g⟩ a w K Q = ldPtr (wpHid P ⟨dst, .load ty x, t, pos, af, g⟩ a w K Q) n w (fun c => K (a.put dst (.agg c)) w) (a.eval x) := by
  unfold ldPtr
  split
  · rename_i b o he
    unfold ldRow
    split
    · rename_i c t' fr hb
      split
      · rename_i hle
        unfold Oper.wp execOp
        simp only [he, Sem.run_bind, run_load_bk ty n d hu hd hi w b o c t' fr hb hle, Result.andThen_ok]
        rfl
      · unfold wpHid; rfl
    · unfold wpHid; rfl
  · unfold wpHid; rfl
/-- Each value is one cell. -/
def ones : List Value → Bool
  | [] => true
  | v :: l => v.oneCell' && ones l
@[go_sem] theorem ones_nil : ones [] = true := rfl
@[go_sem] theorem ones_cons (v : Value) (l : List Value) : ones (v :: l) = (v.oneCell' && ones l) := rfl
@[go_sem] theorem ones_append (l m : List Value) : ones (l ++ m) = (ones l && ones m) := by
  induction l with
  | nil => simp [ones]
  | cons v l ih => simp [ones, ih, Bool.and_assoc]
@[go_sem] theorem ones_map (l : List UInt8) : ones (List.map B l) = true := by
  induction l with
  | nil => rfl
  | cons v l ih => simp [ones, ih]; rfl
@[go_sem] theorem one_int (k : IntKind) (n : Int) : (Value.int k n).oneCell' = true := rfl
@[go_sem] theorem one_bool (b : Bool) : (Value.bool b).oneCell' = true := rfl
@[go_sem] theorem one_str (b : ByteArray) : (Value.string b).oneCell' = true := rfl
@[go_sem] theorem one_slice (p : Option Addr) (n m : Nat) : (Value.slice p n m).oneCell' = true := rfl
@[go_sem] theorem one_ptr (p : Option Addr) : (Value.pointer p).oneCell' = true := rfl
theorem ones_mem {l : List Value} (h : ones l = true) : ∀ v ∈ l, v.oneCell' = true := by
  induction l with
  | nil => simp
  | cons x l ih =>
    simp only [ones, Bool.and_eq_true] at h
    intro v hv
    rcases List.mem_cons.1 hv with rfl | hv
    · exact h.1
    · exact ih h.2 v hv
/-! ### Composite literals with rows among their parts -/
def bldTo (X : Prop) (K : Array Value → Prop) : Option (Array Value) → Prop
  | some c => K c
  | none => X
@[go_sem] theorem bldTo_some (X : Prop) (K : Array Value → Prop) (c : Array Value) : bldTo X K (some c) = K c := rfl
theorem wp_build_bk {P : Program} (ty : TypeId) (dst : Option Tmp) (ps : Array (Nat × Operand)) (t : TypeId) (pos : String) (af : Array Edge) (g : Option (Nat × Bool)) (a : Act) (w : World) (K : Act → World → Prop) (Q : Exit → Act → World → Prop) :
    Oper.wp P ⟨dst, .build ty ps, t, pos, af, g⟩ a w K Q = bldTo (wpHid P ⟨dst, .build ty ps, t, pos, af, g⟩ a w K Q) (fun c => K (a.put dst (.agg c)) w) (P.built ty (ps.toList.map fun x => (x.1, a.eval x.2))) := by
  unfold bldTo
  split
  · rename_i c hc
    unfold Oper.wp execOp
    have hc' : P.built ty (ps.map fun x => (x.1, a.eval x.2)).toList = some c := by simpa using hc
    simp only [Sem.run_bind, run_build w ty _ c hc', Result.andThen_ok]
    rfl
  · unfold wpHid; rfl
@[irreducible] def quietHid0 (P : Program) (o : Oper) (a : Act) (C : World → Prop) (K : Act → Prop) : Prop := o.quiet P a C K
theorem quiet_build_bk {P : Program} (ty : TypeId) (dst : Option Tmp) (ps : Array (Nat × Operand)) (t : TypeId) (pos : String) (af : Array Edge) (g : Option (Nat × Bool)) (a : Act) (C : World → Prop) (hC : ∃ w, C w) (K : Act → Prop) :
    Oper.quiet P ⟨dst, .build ty ps, t, pos, af, g⟩ a C K = bldTo (quietHid0 P ⟨dst, .build ty ps, t, pos, af, g⟩ a C K) (fun c => K (a.put dst (.agg c))) (P.built ty (ps.toList.map fun x => (x.1, a.eval x.2))) := by
  unfold bldTo
  split
  · rename_i c hc
    have hc' : P.built ty (ps.map fun x => (x.1, a.eval x.2)).toList = some c := by simpa using hc
    have key : ∀ w, (execOp a.eval (⟨dst, .build ty ps, t, pos, af, g⟩ : Oper)).run P w = .ok (.value (.agg c)) w := fun w => by
      unfold execOp
      simp only [Sem.run_bind, run_build w ty _ c hc', Result.andThen_ok]
      rfl
    apply propext
    constructor
    · rintro ⟨v, h1, h2⟩
      obtain ⟨w, hw⟩ := hC
      have h3 := h1 w hw
      unfold Oper.quietAt at h3
      rw [key] at h3
      obtain ⟨_, rfl⟩ := h3
      exact h2
    · intro h
      refine ⟨_, fun w' _ => ?_, h⟩
      unfold Oper.quietAt
      rw [key]
      exact ⟨rfl, rfl⟩
  · unfold quietHid0; rfl
theorem fold_set (off : Nat) : ∀ (l : List Value) (k : Nat) (cs : Array Value), off + k + l.length ≤ cs.size →
    (l.zipIdx k).foldl (fun cs x => cs.setIfInBounds (off + x.2) x.1) cs = (cs.toList.take (off + k) ++ (l ++ cs.toList.drop (off + k + l.length))).toArray
  | [], k, cs, _ => by simp
  | v :: l, k, cs, h => by
    simp only [List.length_cons] at h
    rw [List.zipIdx_cons, List.foldl_cons, fold_set off l (k + 1) _ (by simp; omega)]
    congr 1
    apply List.ext_getElem?
    intro i
    simp only [Array.toList_setIfInBounds, List.getElem?_append, List.length_take, List.length_set, Array.length_toList, List.getElem?_take, List.getElem?_drop, List.getElem?_set, List.length_cons]
    rw [Nat.min_eq_left (by omega), Nat.min_eq_left (by omega)]
    by_cases h1 : i < off + k
    · simp [h1, show i < off + (k + 1) by omega, show ¬ off + k = i by omega]
    · by_cases h2 : i = off + k
      · subst h2; simp [show off + k < off + (k + 1) by omega, show off + k < cs.size by omega]
      · rw [if_neg (show ¬ i < off + (k + 1) by omega), if_neg h1]
        obtain ⟨j, rfl⟩ : ∃ j, i = off + k + 1 + j := ⟨i - (off + k + 1), by omega⟩
        rw [show off + k + 1 + j - (off + (k + 1)) = j by omega, show off + k + 1 + j - (off + k) = j + 1 by omega, List.getElem?_cons_succ]
        by_cases h3 : j < l.length
        · simp [h3]
        · simp only [h3, if_false, show ¬ j + 1 < l.length + 1 by omega]
          rw [if_neg (by omega)]
          congr 1; omega
/-- All parts of a struct are given, in order. -/
def widths : List Value → Nat
  | [] => 0
  | v :: l => v.cells.size + widths l
def partsAt (k : Nat) : List Value → List (Nat × Value)
  | [] => []
  | v :: l => (k, v) :: partsAt (k + 1) l
def placesOk (pl : Nat → Option (Nat × Nat)) (k off : Nat) : List Value → Prop
  | [] => True
  | v :: l => pl k = some (off, v.cells.size) ∧ placesOk pl (k + 1) (off + v.cells.size) l
theorem fill_all (pl : Nat → Option (Nat × Nat)) : ∀ (vs : List Value) (k off : Nat) (cs : Array Value), placesOk pl k off vs → off + widths vs ≤ cs.size →
    Instr.fill pl cs (partsAt k vs) = some (cs.toList.take off ++ ((vs.map fun v => v.cells.toList).flatten ++ cs.toList.drop (off + widths vs))).toArray
  | [], k, off, cs, _, _ => by simp [partsAt, Instr.fill, widths]
  | v :: l, k, off, cs, h, hs => by
    obtain ⟨h1, h2⟩ := h
    simp only [widths] at hs
    rw [partsAt, Instr.fill]
    simp only [h1]
    rw [if_neg (by simp; omega), ← Array.foldl_toList, Array.toList_zipIdx]
    have e := fold_set off v.cells.toList 0 cs (by simp; omega)
    rw [e]
    rw [fill_all pl l (k + 1) (off + v.cells.size) _ h2 (by simp; omega)]
    congr 2
    simp only [Nat.add_zero, Array.length_toList, List.map_cons, List.flatten_cons, widths, List.append_assoc]
    have hl : (cs.toList.take off).length = off := by simp; omega
    have e1 : (cs.toList.take off ++ (v.cells.toList ++ cs.toList.drop (off + v.cells.size))).take (off + v.cells.size) = cs.toList.take off ++ v.cells.toList := by
      rw [List.take_append, hl, List.take_of_length_le (by omega), show off + v.cells.size - off = v.cells.toList.length by simp, List.take_left']
      simp
    have e2 : (cs.toList.take off ++ (v.cells.toList ++ cs.toList.drop (off + v.cells.size))).drop (off + v.cells.size + widths l) = cs.toList.drop (off + (v.cells.size + widths l)) := by
      rw [List.drop_append, hl, List.drop_eq_nil_of_le (by omega), List.nil_append, List.drop_append, List.drop_eq_nil_of_le (by simp; omega), List.nil_append, List.drop_drop]
      congr 1; simp; omega
    rw [e1, e2, List.append_assoc]
/-- A slice literal whose elements are rows. -/
def builtSl (P : Program) (ty : TypeId) (len : Nat) (parts : List (Nat × Value)) : Option (Array Value × TypeId) :=
  match P.underlying ty with
  | some (.slice e) =>
    match P.info? e with
    | some i =>
      match i.zero with
      | some z => if len * i.size = 0 ∨ 2 ^ 24 < len * i.size then none else (Instr.fill (fun k => some (k * i.size, i.size)) ((Array.range (len * i.size)).map (z.cells[· % z.cells.size]!)) parts).map fun c => (c, e)
      | none => none
    | none => none
  | _ => none
def bsTo (X : Prop) (K : Array Value → TypeId → Prop) : Option (Array Value × TypeId) → Prop
  | some (c, e) => K c e
  | none => X
@[go_sem] theorem bsTo_some (X : Prop) (K : Array Value → TypeId → Prop) (c : Array Value) (e : TypeId) : bsTo X K (some (c, e)) = K c e := rfl
theorem run_buildSlice_bk {P : Program} (w : World) (ty : TypeId) (len : Nat) (parts : Array (Nat × Value)) (c : Array Value) (e : TypeId) (h : builtSl P ty len parts.toList = some (c, e)) :
    (Instr.buildSlice ty len parts).run P w = .ok (.slice (some ⟨w.heap.size, 0, none⟩) len len) (w.alloc (.cells c e)) := by
  unfold builtSl at h
  split at h
  · rename_i e' hu
    split at h
    · rename_i i hi
      split at h
      · rename_i z hz
        split at h
        · cases h
        · rename_i hn
          simp only [not_or, Nat.not_lt] at hn
          simp only [Option.map_eq_some_iff, Prod.mk.injEq] at h
          obtain ⟨c', hf, rfl, rfl⟩ := h
          have h1 : ¬ 2 ^ 24 < len * i.size := by omega
          have hzr : (zeroValue e').run P w = .ok z w := by simp [zeroValue, typeInfo, hi, hz]
          unfold Instr.buildSlice
          simp [run_underlying hu, sizeOf, typeInfo, hi, h1, hn.1, hzr, hf, newRow]
      · cases h
    · cases h
  · cases h
theorem wp_buildSlice_bk {P : Program} (ty : TypeId) (len : Nat) (dst : Option Tmp) (ps : Array (Nat × Operand)) (t : TypeId) (pos : String) (af : Array Edge) (g : Option (Nat × Bool)) (a : Act) (w : World) (K : Act → World → Prop) (Q : Exit → Act → World → Prop) :
    Oper.wp P ⟨dst, .buildSlice ty len ps, t, pos, af, g⟩ a w K Q = bsTo (wpHid P ⟨dst, .buildSlice ty len ps, t, pos, af, g⟩ a w K Q) (fun c e => K (a.put dst (.slice (some ⟨w.heap.size, 0, none⟩) len len)) (w.alloc (.cells c e))) (builtSl P ty len (ps.toList.map fun x => (x.1, a.eval x.2))) := by
  unfold bsTo
  split
  · rename_i c e hc
    have hc' : builtSl P ty len (ps.map fun x => (x.1, a.eval x.2)).toList = some (c, e) := by simpa using hc
    unfold Oper.wp execOp
    simp only [Sem.run_bind, run_buildSlice_bk w ty len _ c e hc', Result.andThen_ok]
    rfl
  · unfold wpHid; rfl
/-- Bytes behind bytes (kept whole in a walk). -/
def appB (l m : List UInt8) : List UInt8 := l ++ m
theorem appB_length (l m : List UInt8) : (appB l m).length = l.length + m.length := by simp [appB]
@[go_sem] theorem snoc_map (l : List UInt8) (b : UInt8) : List.map B l ++ [.int .u8 (b.toNat : Int)] = List.map B (appB l [b]) := by simp [appB]
@[go_sem] theorem app_map (l m : List UInt8) : List.map B l ++ List.map B m = List.map B (appB l m) := by simp [appB]
def stRow (X : Prop) (n : Nat) (w : World) (b : Nat) (c : Array Value) (K : World → Prop) : Option Obj → Prop
  | some (.cells c0 _ (0, 0)) => if c0.size = n ∧ c.size = n ∧ ones c.toList = true then K (w.setRow b c) else X
  | _ => X
def stPtr (X : Prop) (n : Nat) (w : World) (K : World → Prop) : Value → Value → Prop
  | .pointer (some ⟨b, 0, none⟩), .agg c => stRow X n w b c K (bk w b)
  | _, _ => X
@[go_sem] theorem stPtr_ptr (X : Prop) (n : Nat) (w : World) (K : World → Prop) (b : Nat) (c : Array Value) : stPtr X n w K (.pointer (some ⟨b, 0, none⟩)) (.agg c) = stRow X n w b c K (bk w b) := rfl
@[go_sem] theorem stRow_some (X : Prop) (n : Nat) (w : World) (b : Nat) (K : World → Prop) (c c0 : Array Value) (t : TypeId) (h0 : c0.size = n) (h : c.size = n) (h1 : ones c.toList = true) :
    stRow X n w b c K (some (.cells c0 t (0, 0))) = K (w.setRow b c) := by unfold stRow; simp only []; rw [if_pos ⟨h0, h, h1⟩]
theorem wp_store_bk {P : Program} (ty : TypeId) (n : Nat) (hi : (P.info? ty).map (·.size) = some n)
    (dst : Option Tmp) (x y : Operand) (t : TypeId) (pos : String) (af : Array Edge) (g : Option (Nat × Bool)) (a : Act) (w : World) (K : Act → World → Prop) (Q : Exit → Act → World → Prop) :
    Oper.wp P ⟨dst, .store ty x y, t, pos, af, g⟩ a w K Q = stPtr (wpHid P ⟨dst, .store ty x y, t, pos, af, g⟩ a w K Q) n w (fun w' => K (a.put dst undef) w') (a.eval x) (a.eval y) := by
  unfold stPtr
  split
  · rename_i b c he hv
    unfold stRow
    split
    · rename_i c0 t' hb
      split
      · rename_i hle
        obtain ⟨h0, h1, h2⟩ := hle
        have hrun := run_storeVar_row (P := P) w b t' ty c0 c hb (by rw [hi, h1]) (by omega) (Array.all_eq_true_iff_forall_mem.2 (fun v hv => ones_mem h2 v (by simpa using hv)))
        unfold Oper.wp execOp
        simp only [he, hv, Instr.storeAt, Instr.sureAddr, Sem.run_bind, Sem.run_pure, Result.andThen_ok, hrun]
        rfl
      · unfold wpHid; rfl
    · unfold wpHid; rfl
  · unfold wpHid; rfl
/-- The built-in copy between known blocks. -/
def spl (l : List Value) (o : Nat) (c : List Value) : Array Value := (l.take o ++ (c ++ l.drop (o + c.length))).toArray
def splB (l : List UInt8) (o : Nat) (c : List UInt8) : List UInt8 := l.take o ++ (c ++ l.drop (o + c.length))
@[go_sem] theorem spl_map (l : List UInt8) (o : Nat) (c : List UInt8) : spl (List.map B l) o (List.map B c) = (List.map B (splB l o c)).toArray := by
  simp [spl, splB, List.map_take, List.map_drop]
theorem splB_length (l : List UInt8) (o : Nat) (c : List UInt8) (h : o + c.length ≤ l.length) : (splB l o c).length = l.length := by simp [splB]; omega
theorem splB_getD (l : List UInt8) (o : Nat) (c : List UInt8) (h : o + c.length ≤ l.length) (j : Nat) : (splB l o c).getD j 0 = if o ≤ j ∧ j < o + c.length then c.getD (j - o) 0 else l.getD j 0 := by
  unfold splB
  simp only [List.getD_eq_getElem?_getD, List.getElem?_append, List.length_take, List.getElem?_take, List.getElem?_drop]
  rw [Nat.min_eq_left (by omega)]
  by_cases h1 : j < o
  · simp [h1, show ¬ (o ≤ j ∧ j < o + c.length) by omega]
  · rw [if_neg h1]
    by_cases h2 : j - o < c.length
    · rw [if_pos h2, if_pos ⟨by omega, by omega⟩]
    · rw [if_neg h2, if_neg (by omega), show o + c.length + (j - o - c.length) = j by omega]
def cpRow (X : Prop) (w : World) (g off m : Nat) (K : World → Prop) : Option Obj → Array Value → Prop
  | some (.cells cur _ (0, 0)), cs => if off + m ≤ cur.size ∧ cs.size = m ∧ ones cs.toList = true then K (w.setRow g (spl cur.toList off cs.toList)) else X
  | _, _ => X
def cpSrc (X : Prop) (w : World) (g off m : Nat) (K : World → Prop) (o : Nat) : Option Obj → Prop
  | some (.cells cs _ _) => if o + m ≤ cs.size then cpRow X w g off m K (bk w g) (xt cs o m) else X
  | _ => X
def cpPtr (X : Prop) (w : World) (K : Nat → World → Prop) : Value → Value → Prop
  | .slice (some ⟨g, off, none⟩) dLen _, .slice (some ⟨b, o, none⟩) sLen _ => cpSrc X w g off (min sLen dLen) (K (min sLen dLen)) o (bk w b)
  | _, _ => X
@[go_sem] theorem cpPtr_ptr (X : Prop) (w : World) (K : Nat → World → Prop) (g off dLen dCap b o sLen sCap : Nat) :
    cpPtr X w K (.slice (some ⟨g, off, none⟩) dLen dCap) (.slice (some ⟨b, o, none⟩) sLen sCap) = cpSrc X w g off (min sLen dLen) (K (min sLen dLen)) o (bk w b) := rfl
@[go_sem] theorem cpSrc_some (X : Prop) (w : World) (g off m : Nat) (K : World → Prop) (o : Nat) (cs : Array Value) (t : TypeId) (fr : Nat × Nat) (h : o + m ≤ cs.size) :
    cpSrc X w g off m K o (some (.cells cs t fr)) = cpRow X w g off m K (bk w g) (xt cs o m) := by simp [cpSrc, h]
@[go_sem] theorem cpRow_some (X : Prop) (w : World) (g off m : Nat) (K : World → Prop) (cur cs : Array Value) (t : TypeId) (h0 : off + m ≤ cur.size) (h : cs.size = m) (h1 : ones cs.toList = true) :
    cpRow X w g off m K (some (.cells cur t (0, 0))) cs = K (w.setRow g (spl cur.toList off cs.toList)) := by unfold cpRow; simp only []; rw [if_pos ⟨h0, h, h1⟩]
theorem wp_copy_bk {P : Program} (dT sT : TypeId) (elem : TypeId) (hu : P.underlying dT = some (.slice elem)) (hi : (P.info? elem).map (·.size) = some 1)
    (dst : Option Tmp) (x y : Operand) (t : TypeId) (pos : String) (af : Array Edge) (gd : Option (Nat × Bool)) (a : Act) (w : World) (K : Act → World → Prop) (Q : Exit → Act → World → Prop) :
    Oper.wp P ⟨dst, .call { callee := .builtin .copy, args := #[x, y], argTypes := #[dT, sT] }, t, pos, af, gd⟩ a w K Q =
      cpPtr (wpHid P ⟨dst, .call { callee := .builtin .copy, args := #[x, y], argTypes := #[dT, sT] }, t, pos, af, gd⟩ a w K Q) w (fun n w' => K (a.put dst (.int .i64 n)) w') (a.eval x) (a.eval y) := by
  unfold cpPtr
  split
  · rename_i g off dLen dCap b o sLen sCap he hv
    unfold cpSrc
    split
    · rename_i cs t' fr hb
      split
      · rename_i hle
        unfold cpRow
        split
        · rename_i cur t2 hg
          split
          · rename_i hx
            obtain ⟨h0, h1, h2⟩ := hx
            have hrun := run_copy_row (P := P) w dT sT t elem g off dLen dCap ⟨b, o, none⟩ sLen sCap cur t2 (xt cs o (min sLen dLen)).toList hu hi hg (by simpa using h1)
              (fun j v hj => by
                rw [Addr.add_mid]
                exact World.rangeAt_of_block hb o (min sLen dLen) j v (by simpa [xt] using hj)) (by rw [Array.length_toList, h1]; exact h0) (ones_mem h2)
            unfold Oper.wp
            simp only [execOp, resolve, invoke, builtin, List.map_toArray, List.map_cons, List.map_nil, he, hv, Sem.run_bind, Sem.run_pure, hrun, Result.andThen_ok]
            simp only [Array.length_toList, h1, goInt, Oper.upon, spl, List.append_assoc]
          · unfold wpHid; rfl
        · unfold wpHid; rfl
      · unfold wpHid; rfl
    · unfold wpHid; rfl
  · unfold wpHid; rfl
theorem setRow_alloc_at (w : World) (c c' : Array Value) (t : TypeId) (n : Nat) (h : n = w.heap.size) : (w.alloc (.cells c t)).setRow n c' = w.alloc (.cells c' t) := by
  subst h; exact World.setRow_alloc_new w c c' t
theorem setRow_alloc_past (w : World) (c' : Array Value) (o : Obj) (n : Nat) (h : n < w.heap.size) : (w.alloc o).setRow n c' = (w.setRow n c').alloc o := by
  simp only [World.setRow, World.alloc]
  congr 1
  apply Array.ext_getElem?
  intro i
  simp only [Array.getElem?_modify, Array.getElem?_push, Array.size_modify]
  repeat' split
  all_goals first | rfl | omega
@[go_sem] theorem setRow_alloc (w : World) (c' : Array Value) (o : Obj) (n : Nat) : (w.alloc o).setRow n c' = if n = w.heap.size then w.alloc (rowObj c' o) else (w.setRow n c').alloc o := by
  split
  · rename_i h
    subst h
    cases o with
    | cells c t fr =>
      simp only [World.setRow, World.alloc, rowObj]
      congr 1
      apply Array.ext_getElem?
      intro i
      rw [Array.getElem?_modify]
      simp only [Array.getElem?_push]
      repeat' split
      all_goals first | rfl | omega | simp_all
    | _ =>
      simp only [World.setRow, World.alloc, rowObj]
      congr 1
      apply Array.ext_getElem?
      intro i
      rw [Array.getElem?_modify]
      simp only [Array.getElem?_push]
      repeat' split
      all_goals first | rfl | omega | simp_all
  · rename_i h
    simp only [World.setRow, World.alloc]
    congr 1
    apply Array.ext_getElem?
    intro i
    simp only [Array.getElem?_modify, Array.getElem?_push, Array.size_modify]
    repeat' split
    all_goals first | rfl | omega
@[go_sem] theorem setRow_drew (w : World) (g : Nat) (a : Array Value) : w.drew.setRow g a = (w.setRow g a).drew := rfl
@[go_sem] theorem setRow_drewN (w : World) (g n : Nat) (a : Array Value) : (w.drewN n).setRow g a = (w.setRow g a).drewN n := rfl
@[go_sem] theorem setRow_setRow' (w : World) (g : Nat) (a b : Array Value) : (w.setRow g a).setRow g b = w.setRow g b := setRow_setRow w g a b
@[go_sem] theorem map_size (l : List UInt8) : (List.map B l).toArray.size = l.length := by simp
@[go_sem] theorem map_set (l : List UInt8) (i : Nat) (b : UInt8) : (List.map B l).toArray.setIfInBounds i (B b) = (List.map B (l.set i b)).toArray := by
  simp [List.map_set]
@[go_sem] theorem map_extract (l : List UInt8) (i j : Nat) : (List.map B l).toArray.extract i j = (List.map B (l.extract i j)).toArray := by
  simp [List.extract_eq_take_drop, List.map_drop, List.map_take]

def rowOf : Obj → Option (Array Value)
  | .cells c _ _ => some c
  | _ => none
@[go_sem] theorem rowOf_cells (c : Array Value) (t : TypeId) (fr : Nat × Nat) : rowOf (.cells c t fr) = some c := rfl
/-- A result that is a row in memory. -/
theorem ret_cell {P : Program} {fn : Func} {R : Ending → World → Prop} {a : Act} {w : World} {p : Tmp} {ty : TypeId} {g : Nat} {cs : Array Value} {d : TypeDesc}
    (h : fn.results = #[.cell p ty]) (hd' : a.defers = []) (hp : a.tmps.getD p undef = .pointer (some ⟨g, 0, none⟩)) (hg : (bk w g).bind rowOf = some cs)
    (hu : P.underlying ty = some d) (hd : d.isRow = true) (hi : (P.info? ty).map (·.size) = some cs.size) (hR : R (.returned (.agg cs)) w) : bodyPost P fn R .ret a w := by
  cases hb : bk w g with
  | none => rw [hb] at hg; simp at hg
  | some o =>
    rw [hb] at hg
    cases o with
    | cells c t fr =>
      simp [rowOf] at hg
      subst hg
      exact bodyPost_ret (results_cell_row h a.tmps w g t c fr d hp hb hu (by cases d <;> simp_all) hi) hd' hR
    | _ => simp [rowOf] at hg
/-- The worlds that are 'W' below block 'n'. -/
structure Later (n : Nat) (W : World) where
  w : World
  h : Below n W w
instance Later.some {n : Nat} {W : World} : Nonempty (Later n W) := ⟨⟨W, Below.refl _ _⟩⟩
@[irreducible] def cellHid (w : World) (b o : Nat) : Option Value := w.cell? ⟨b, o, none⟩
@[go_sem] theorem Later.cell {n : Nat} {W : World} (x : Later n W) (b o : Nat) : x.w.cell? ⟨b, o, none⟩ = if b < n then W.cell? ⟨b, o, none⟩ else cellHid x.w b o := by
  split
  · exact x.h.cell (p := ⟨b, o, none⟩) (by assumption)
  · unfold cellHid; rfl
@[go_sem] theorem Later.frozen {n : Nat} {W : World} (x : Later n W) (b o : Nat) (h : b < n) : x.w.frozen? ⟨b, o, none⟩ = W.frozen? ⟨b, o, none⟩ := x.h.frozen (p := ⟨b, o, none⟩) h
@[go_sem] theorem Later.bk {n : Nat} {W : World} (x : Later n W) (b : Nat) (h : b < n) : bk x.w b = Go.Proofs.Ytfldoihindbdmaa.bk W b := x.h.block b h
theorem bel {W w1 : World} {n : Nat} (hb : Below n W w1) : (∀ b o, b < n → w1.cell? ⟨b, o, none⟩ = W.cell? ⟨b, o, none⟩) ∧ (∀ b o, b < n → w1.frozen? ⟨b, o, none⟩ = W.frozen? ⟨b, o, none⟩) ∧ (∀ b, b < n → bk w1 b = bk W b) :=
  ⟨fun b o h => hb.cell (p := ⟨b, o, none⟩) h, fun b o h => hb.frozen (p := ⟨b, o, none⟩) h, fun b h => hb.block b h⟩
@[irreducible] def quietHid (P : Program) (o : Oper) (a : Act) (C : World → Prop) (K : Act → Prop) : Prop := o.quiet P a C K
def ldLater (X : Prop) (m n : Nat) (W : World) (K : Array Value → Prop) : Value → Prop
  | .pointer (some ⟨b, o, none⟩) => if b < m then ldRow X n W o K (bk W b) else X
  | _ => X
@[go_sem] theorem ldLater_ptr (X : Prop) (m n : Nat) (W : World) (K : Array Value → Prop) (b o : Nat) : ldLater X m n W K (.pointer (some ⟨b, o, none⟩)) = if b < m then ldRow X n W o K (bk W b) else X := rfl
theorem quiet_load_bk {P : Program} (ty : TypeId) (n : Nat) (d : TypeDesc) (hu : P.underlying ty = some d) (hd : d.isRow = true) (hi : (P.info? ty).map (·.size) = some n)
    (dst : Option Tmp) (x : Operand) (t : TypeId) (pos : String) (af : Array Edge) (g : Option (Nat × Bool)) (a : Act) (m : Nat) (W : World) (K : Act → Prop) :
    Oper.quiet P ⟨dst, .load ty x, t, pos, af, g⟩ a (fun w' => ∃ x : Later m W, w' = x.w) K =
      ldLater (quietHid P ⟨dst, .load ty x, t, pos, af, g⟩ a (fun w' => ∃ x : Later m W, w' = x.w) K) m n W (fun c => K (a.put dst (.agg c))) (a.eval x) := by
  unfold ldLater
  split
  · rename_i b o he
    split
    · rename_i hlt
      unfold ldRow
      split
      · rename_i c t' fr hb
        split
        · rename_i hle
          have key : ∀ y : Later m W, (execOp a.eval (⟨dst, .load ty x, t, pos, af, g⟩ : Oper)).run P y.w = .ok (.value (.agg (xt c o n))) y.w := fun y => by
            have hb' : bk y.w b = some (.cells c t' fr) := (y.bk b hlt).trans hb
            unfold execOp
            simp only [he, Sem.run_bind, run_load_bk ty n d hu hd hi y.w b o c t' fr hb' hle, Result.andThen_ok]
            rfl
          apply propext
          constructor
          · rintro ⟨v, h1, h2⟩
            have h3 := h1 W ⟨⟨W, Below.refl _ _⟩, rfl⟩
            unfold Oper.quietAt at h3
            rw [key ⟨W, Below.refl _ _⟩] at h3
            obtain ⟨_, rfl⟩ := h3
            exact h2
          · intro h
            refine ⟨_, fun w' hw' => ?_, h⟩
            obtain ⟨y, rfl⟩ := hw'
            unfold Oper.quietAt
            rw [key y]
            exact ⟨rfl, rfl⟩
        · unfold quietHid; rfl
      · unfold quietHid; rfl
    · unfold quietHid; rfl
  · unfold quietHid; rfl
theorem later_elim {n : Nat} {W w' : World} (h : ∃ x : Later n W, w' = x.w) : Below n W w' := by
  obtain ⟨x, rfl⟩ := h
  exact x.h
theorem bdrewN {B : Nat} {a w : World} (h : Below B a w) : ∀ n, Below B a (w.drewN n)
  | 0 => h
  | n + 1 => (bdrewN h n).drew
@[go_sem] theorem bk_drewN (w : World) (b : Nat) : ∀ n, bk (w.drewN n) b = bk w b
  | 0 => rfl
  | n + 1 => bk_drewN w b n
theorem bk_keep {n b : Nat} {w w' : World} {x : Option Obj} (hb : Below n w w') (h : b < n) (k : bk w b = x) : bk w' b = x := (hb.block b h).trans k
/-- A region that draws its order, whose operations only read, but for calls that make memory: one walk serves every order. -/
theorem wp_region_later {P : Program} {id : Nat} {Q : Exit → Act → World → Prop} {a : Act} {w : World} {l : List Oper} (n : Nat) (hm : P.follows .mixedOrders = true) (hB : Region.lexB .any l.toArray = true)
    (h : wpQuiet P l.toArray (fun w' => ∃ x : Later n w, w' = x.w) (fun a' => ∀ w', (∃ x : Later n w, w' = x.w) → Q .normal a' w') l a) : (Code.region id l.toArray true).wp P Q a w :=
  wp_region_quiet (C := fun w' => ∃ x : Later n w, w' = x.w) hm hB ⟨⟨w.drew, (Below.refl _ _).drew⟩, rfl⟩ (by simpa using h)
/-- A call in such a region. -/
theorem later_call {P : Program} {f : FuncId} {args : Array Value} {v : Value} {n : Nat} {W : World} (x : Later n W) (hn : n ≤ W.heap.size)
    (h : Calls P f args x.w fun e w' => e = .returned v ∧ Below x.w.heap.size x.w w') :
    Calls P f args x.w fun e w' => e = .returned v ∧ ∃ y : Later n W, w' = y.w :=
  h.mono fun _ w' ⟨he, hw⟩ => ⟨he, ⟨w', x.h.trans (hw.mono (Nat.le_trans hn x.h.size))⟩, rfl⟩
end Go.Proofs.Ytfldoihindbdmaa
