import Derived.WalkKit
import Derived.WalkLawsBesides
import Derived.WalkSpells
import Derived.Outline
import Derived.Deep.QuietTactic
import Derived.BigQuiet
import Derived.Deep.MidRow
import Derived.Deep.WholeRow
import Derived.Lib.Hide
import Derived.Laws.CopyOwn
import Derived.Stop.BytesEq
import Derived.StillTail
import Derived.Test.YtjimmfbjhkoekaaRows
import Derived.Laws.MakeOwn
import Derived.OwnWalk
/-
  Lemmas over any program: blocks of memory read and written whole, and regions that draw their order and hold calls that make memory.
-/
namespace Go.Proofs.Ytjimmfbjhkoekaa
open Go.RowKit
abbrev B (b : UInt8) : Value := .int .u8 (b.toNat : Int)
abbrev av (l : List UInt8) : Value := .agg (l.map B).toArray

theorem ret_int {k : IntKind} {a b : Int} (h : a = b) : Ending.returned (.int k a) = .returned (.int k b) := by rw [h]
/-- A block. -/
def bk (w : World) (b : Nat) : Option Obj := w.heap[b]?
def putObj (o : Nat) (v : Value) : Obj → Obj
  | .cells c t fr => .cells (c.setIfInBounds o v) t fr
  | x => x
def rowObj (c : Array Value) : Obj → Obj
  | .cells _ t fr => .cells c t fr
  | x => x
section
variable (w : World)
theorem bk_alloc_at (o : Obj) (n : Nat) (h : n = w.heap.size) : bk (w.alloc o) n = some o := by
  subst h; exact heap_alloc_new w o
theorem bk_alloc_past (o : Obj) (n : Nat) (h : n < w.heap.size) : bk (w.alloc o) n = bk w n := heap_alloc_old w o h
@[go_sem] theorem bk_alloc (o : Obj) (n : Nat) : bk (w.alloc o) n = if n < w.heap.size then bk w n else if n = w.heap.size then some o else none := by
  split
  · exact bk_alloc_past w o n (by assumption)
  · split
    · exact bk_alloc_at w o n (by assumption)
    · unfold bk World.alloc; simp only [Array.getElem?_push]; rw [if_neg (by assumption)]; simp; omega
@[go_sem] theorem bk_drew (n : Nat) : bk w.drew n = bk w n := rfl
theorem bk_setRow_same (n : Nat) (c : Array Value) : bk (w.setRow n c) n = (bk w n).map (rowObj c) := by
  unfold bk World.setRow
  simp only [Array.getElem?_modify, if_true]
  cases w.heap[n]? <;> simp
  rename_i o; cases o <;> rfl
theorem bk_setRow_other (n m : Nat) (c : Array Value) (h : m ≠ n) : bk (w.setRow n c) m = bk w m := by
  unfold bk World.setRow
  simp only [Array.getElem?_modify]
  rw [if_neg (fun e => h e.symm)]
theorem bk_setCell_same (n o : Nat) (v : Value) : bk (w.setCell ⟨n, o, none⟩ v) n = (bk w n).map (putObj o v) := by
  unfold bk World.setCell
  simp only [Array.getElem?_modify, if_true]
  cases w.heap[n]? <;> simp
  rename_i o; cases o <;> simp [putObj]
theorem bk_setCell_other (n o m : Nat) (v : Value) (h : m ≠ n) : bk (w.setCell ⟨n, o, none⟩ v) m = bk w m := by
  unfold bk World.setCell
  simp only [Array.getElem?_modify]
  rw [if_neg (fun e => h e.symm)]
end
@[go_sem] theorem bk_setRow (w : World) (n m : Nat) (c : Array Value) : bk (w.setRow n c) m = if m = n then (bk w m).map (rowObj c) else bk w m := by
  split
  · rename_i h; subst h; exact bk_setRow_same w m c
  · exact bk_setRow_other w n m c (by assumption)
@[go_sem] theorem bk_setCell (w : World) (n o m : Nat) (v : Value) : bk (w.setCell ⟨n, o, none⟩ v) m = if m = n then (bk w m).map (putObj o v) else bk w m := by
  split
  · rename_i h; subst h; exact bk_setCell_same w m o v
  · exact bk_setCell_other w n o m v (by assumption)
@[go_sem] theorem rowObj_cells (c d : Array Value) (t : TypeId) (fr : Nat × Nat) : rowObj c (.cells d t fr) = .cells c t fr := rfl
@[go_sem] theorem putObj_cells (o : Nat) (v : Value) (d : Array Value) (t : TypeId) (fr : Nat × Nat) : putObj o v (.cells d t fr) = .cells (d.setIfInBounds o v) t fr := rfl
theorem bk_cell {w : World} {b : Nat} {c : Array Value} {t : TypeId} {fr : Nat × Nat} (h : bk w b = some (.cells c t fr)) (o : Nat) : w.cell? ⟨b, o, none⟩ = c[o]? := cell_of_row w b o c t fr h
theorem bk_frozen {w : World} {b : Nat} {c : Array Value} {t : TypeId} (h : bk w b = some (.cells c t (0, 0))) (o : Nat) : w.frozen? ⟨b, o, none⟩ = false := frozen_of_row w b o c t h
theorem bk_lt {w : World} {b : Nat} {o : Obj} (h : bk w b = some o) : b < w.heap.size := (Array.getElem?_eq_some_iff.1 h).1

@[go_sem] theorem cell_alloc_if (w : World) (c : Array Value) (t : TypeId) (fr : Nat × Nat) (n i : Nat) : (w.alloc (.cells c t fr)).cell? ⟨n, i, none⟩ = if n < w.heap.size then w.cell? ⟨n, i, none⟩ else if n = w.heap.size then c[i]? else none := by
  have h := bk_alloc w (.cells c t fr) n
  unfold bk at h
  by_cases h1 : n < w.heap.size
  · rw [if_pos h1] at h ⊢; unfold World.cell?; simp only [h]
  · rw [if_neg h1] at h ⊢
    by_cases h2 : n = w.heap.size
    · rw [if_pos h2] at h ⊢; unfold World.cell?; simp only [h]; rfl
    · rw [if_neg h2] at h ⊢; unfold World.cell?; simp only [h]
@[go_sem] theorem frozen_alloc_if (w : World) (c : Array Value) (t : TypeId) (n i : Nat) : (w.alloc (.cells c t)).frozen? ⟨n, i, none⟩ = if n < w.heap.size then w.frozen? ⟨n, i, none⟩ else false := by
  have h := bk_alloc w (.cells c t) n
  unfold bk at h
  by_cases h1 : n < w.heap.size
  · rw [if_pos h1] at h ⊢; unfold World.frozen?; simp only [h]
  · rw [if_neg h1] at h ⊢
    by_cases h2 : n = w.heap.size
    · rw [if_pos h2] at h; unfold World.frozen?; simp only [h]; simp
    · rw [if_neg h2] at h; unfold World.frozen?; simp only [h]
/-! ### Whole rows (arrays, structs), read and written as one operation -/
/-- n cells of a block from the o-th on. -/
def xt (c : Array Value) (o n : Nat) : Array Value := c.extract o (o + n)
def sl (l : List UInt8) (o n : Nat) : List UInt8 := l.extract o (o + n)
@[go_sem] theorem xt_whole (c : Array Value) (n : Nat) (h : c.size = n) : xt c 0 n = c := by subst h; simp [xt]
@[go_sem] theorem sl_whole (l : List UInt8) (n : Nat) (h : l.length = n) : sl l 0 n = l := by subst h; simp [sl, List.extract_eq_take_drop]
theorem sl_length (l : List UInt8) (o n : Nat) (h : o + n ≤ l.length) : (sl l o n).length = n := by simp [sl, List.extract_eq_take_drop]; omega
theorem sl_getD (l : List UInt8) (o n j : Nat) (h : j < n) : (sl l o n).getD j 0 = l.getD (o + j) 0 := by
  simp [sl, List.extract_eq_take_drop, List.getD_eq_getElem?_getD, h]
@[go_sem] theorem xt_map (l : List UInt8) (o n : Nat) : xt (List.map B l).toArray o n = (List.map B (sl l o n)).toArray := by
  simp [xt, sl, List.extract_eq_take_drop, List.map_drop, List.map_take]
def ldRow (X : Prop) (n : Nat) (_w : World) (o : Nat) (K : Array Value → Prop) : Option Obj → Prop
  | some (.cells c _ _) => if o + n ≤ c.size then K (xt c o n) else X
  | _ => X
def ldPtr (X : Prop) (n : Nat) (w : World) (K : Array Value → Prop) : Value → Prop
  | .pointer (some ⟨b, o, none⟩) => ldRow X n w o K (bk w b)
  | _ => X
@[go_sem] theorem ldPtr_ptr (X : Prop) (n : Nat) (w : World) (K : Array Value → Prop) (b o : Nat) : ldPtr X n w K (.pointer (some ⟨b, o, none⟩)) = ldRow X n w o K (bk w b) := rfl
@[go_sem] theorem ldRow_some (X : Prop) (n : Nat) (w : World) (o : Nat) (K : Array Value → Prop) (c : Array Value) (t : TypeId) (fr : Nat × Nat) (h : o + n ≤ c.size) :
    ldRow X n w o K (some (.cells c t fr)) = K (xt c o n) := by simp [ldRow, h]
@[irreducible] def wpHid (P : Program) (o : Oper) (a : Act) (w : World) (K : Act → World → Prop) (Q : Exit → Act → World → Prop) : Prop := o.wp P a w K Q
theorem run_load_bk {P : Program} (ty : TypeId) (n : Nat) (d : TypeDesc) (hu : P.underlying ty = some d) (hd : d.isRow = true) (hi : (P.info? ty).map (·.size) = some n)
    (w : World) (b o : Nat) (c : Array Value) (t : TypeId) (fr : Nat × Nat) (hb : bk w b = some (.cells c t fr)) (hle : o + n ≤ c.size) :
    (Instr.loadAt ty (.pointer (some ⟨b, o, none⟩))).run P w = .ok (.agg (xt c o n)) w := by
  unfold xt
  have hr : w.rangeAt b o (c.extract o (o + n)).toList := World.rangeAt_of_block hb o n
  have := run_loadAt_mid (P := P) w b o ty (c.extract o (o + n)).toList d hr hu hd (by rw [hi]; simp; omega)
  rw [this]
theorem wp_load_bk {P : Program} (ty : TypeId) (n : Nat) (d : TypeDesc) (hu : P.underlying ty = some d) (hd : d.isRow = true) (hi : (P.info? ty).map (·.size) = some n)
    (dst : Option Tmp) (x : Operand) (t : TypeId) (pos : String) (af : Array Edge) (g : Option (Nat × Bool)) (a : Act) (w : World) (K : Act → World → Prop) (Q : Exit → Act → World → Prop) :
    Oper.wp P ⟨dst, .load ty x, t, pos, af, g⟩ a w K Q = ldPtr (wpHid P ⟨dst, .load ty x, t, pos, af, g⟩ a w K Q) n w (fun c => K (a.put dst (.agg c)) w) (a.eval x) := by
  unfold ldPtr
  split
  · rename_i b o he
    unfold ldRow
    split
    · rename_i c t' fr hb
      split
      · rename_i hle
        unfold Oper.wp execOp
        simp only [he, Sem.run_bind, run_load_bk ty n d hu hd hi w b o c t' fr hb hle, Result.andThen_ok]
        rfl
      · unfold wpHid; rfl
    · unfold wpHid; rfl
  · unfold wpHid; rfl
/-- Each value is one cell. -/
def ones : List Value → Bool
  | [] => true
  | v :: l => v.oneCell' && ones l
@[go_sem] theorem ones_nil : ones [] = true := rfl
@[go_sem] theorem ones_cons (v : Value) (l : List Value) : ones (v :: l) = (v.oneCell' && ones l) := rfl
@[go_sem] theorem ones_append (l m : List Value) : ones (l ++ m) = (ones l && ones m) := by
  induction l with
  | nil => simp [ones]
  | cons v l ih => simp [ones, ih, Bool.and_assoc]
@[go_sem] theorem ones_map (l : List UInt8) : ones (List.map B l) = true := by
  induction l with
  | nil => rfl
  | cons v l ih => simp [ones, ih]; rfl
@[go_sem] theorem one_int (k : IntKind) (n : Int) : (Value.int k n).oneCell' = true := rfl
@[go_sem] theorem one_bool (b : Bool) : (Value.bool b).oneCell' = true := rfl
@[go_sem] theorem one_str (b : ByteArray) : (Value.string b).oneCell' = true := rfl
@[go_sem] theorem one_slice (p : Option Addr) (n m : Nat) : (Value.slice p n m).oneCell' = true := rfl
@[go_sem] theorem one_ptr (p : Option Addr) : (Value.pointer p).oneCell' = true := rfl
theorem ones_mem {l : List Value} (h : ones l = true) : ∀ v ∈ l, v.oneCell' = true := by
  induction l with
  | nil => simp
  | cons x l ih =>
    simp only [ones, Bool.and_eq_true] at h
    intro v hv
    rcases List.mem_cons.1 hv with rfl | hv
    · exact h.1
    · exact ih h.2 v hv
/-! ### Composite literals with rows among their parts -/
def bldTo (X : Prop) (K : Array Value → Prop) : Option (Array Value) → Prop
  | some c => K c
  | none => X
@[go_sem] theorem bldTo_some (X : Prop) (K : Array Value → Prop) (c : Array Value) : bldTo X K (some c) = K c := rfl
theorem wp_build_bk {P : Program} (ty : TypeId) (dst : Option Tmp) (ps : Array (Nat × Operand)) (t : TypeId) (pos : String) (af : Array Edge) (g : Option (Nat × Bool)) (a : Act) (w : World) (K : Act → World → Prop) (Q : Exit → Act → World → Prop) :
    Oper.wp P ⟨dst, .build ty ps, t, pos, af, g⟩ a w K Q = bldTo (wpHid P ⟨dst, .build ty ps, t, pos, af, g⟩ a w K Q) (fun c => K (a.put dst (.agg c)) w) (P.built ty (ps.toList.map fun x => (x.1, a.eval x.2))) := by
  unfold bldTo
  split
  · rename_i c hc
    unfold Oper.wp execOp
    have hc' : P.built ty (ps.map fun x => (x.1, a.eval x.2)).toList = some c := by simpa using hc
    simp only [Sem.run_bind, run_build w ty _ c hc', Result.andThen_ok]
    rfl
  · unfold wpHid; rfl
@[irreducible] def quietHid0 (P : Program) (o : Oper) (a : Act) (C : World → Prop) (K : Act → Prop) : Prop := o.quiet P a C K
theorem quiet_build_bk {P : Program} (ty : TypeId) (dst : Option Tmp) (ps : Array (Nat × Operand)) (t : TypeId) (pos : String) (af : Array Edge) (g : Option (Nat × Bool)) (a : Act) (C : World → Prop) (hC : ∃ w, C w) (K : Act → Prop) :
    Oper.quiet P ⟨dst, .build ty ps, t, pos, af, g⟩ a C K = bldTo (quietHid0 P ⟨dst, .build ty ps, t, pos, af, g⟩ a C K) (fun c => K (a.put dst (.agg c))) (P.built ty (ps.toList.map fun x => (x.1, a.eval x.2))) := by
  unfold bldTo
  split
  · rename_i c hc
    have hc' : P.built ty (ps.map fun x => (x.1, a.eval x.2)).toList = some c := by simpa using hc
    have key : ∀ w, (execOp a.eval (⟨dst, .build ty ps, t, pos, af, g⟩ : Oper)).run P w = .ok (.value (.agg c)) w := fun w => by
      unfold execOp
      simp only [Sem.run_bind, run_build w ty _ c hc', Result.andThen_ok]
      rfl
    apply propext
    constructor
    · rintro ⟨v, h1, h2⟩
      obtain ⟨w, hw⟩ := hC
      have h3 := h1 w hw
      unfold Oper.quietAt at h3
      rw [key] at h3
      obtain ⟨_, rfl⟩ := h3
      exact h2
    · intro h
      refine ⟨_, fun w' _ => ?_, h⟩
      unfold Oper.quietAt
      rw [key]
      exact ⟨rfl, rfl⟩
  · unfold quietHid0; rfl
theorem fold_set (off : Nat) : ∀ (l : List Value) (k : Nat) (cs : Array Value), off + k + l.length ≤ cs.size →
    (l.zipIdx k).foldl (fun cs x => cs.setIfInBounds (off + x.2) x.1) cs = (cs.toList.take (off + k) ++ (l ++ cs.toList.drop (off + k + l.length))).toArray
  | [], k, cs, _ => by simp
  | v :: l, k, cs, h => by
    simp only [List.length_cons] at h
    rw [List.zipIdx_cons, List.foldl_cons, fold_set off l (k + 1) _ (by simp; omega)]
    congr 1
    apply List.ext_getElem?
    intro i
    simp only [Array.toList_setIfInBounds, List.getElem?_append, List.length_take, List.length_set, Array.length_toList, List.getElem?_take, List.getElem?_drop, List.getElem?_set, List.length_cons]
    rw [Nat.min_eq_left (by omega), Nat.min_eq_left (by omega)]
    by_cases h1 : i < off + k
    · simp [h1, show i < off + (k + 1) by omega, show ¬ off + k = i by omega]
    · by_cases h2 : i = off + k
      · subst h2; simp [show off + k < off + (k + 1) by omega, show off + k < cs.size by omega]
      · rw [if_neg (show ¬ i < off + (k + 1) by omega), if_neg h1]
        obtain ⟨j, rfl⟩ : ∃ j, i = off + k + 1 + j := ⟨i - (off + k + 1), by omega⟩
        rw [show off + k + 1 + j - (off + (k + 1)) = j by omega, show off + k + 1 + j - (off + k) = j + 1 by omega, List.getElem?_cons_succ]
        by_cases h3 : j < l.length
        · simp [h3]
        · simp only [h3, if_false, show ¬ j + 1 < l.length + 1 by omega]
          rw [if_neg (by omega)]
          congr 1; omega
/-- All parts of a struct are given, in order. -/
def widths : List Value → Nat
  | [] => 0
  | v :: l => v.cells.size + widths l
def partsAt (k : Nat) : List Value → List (Nat × Value)
  | [] => []
  | v :: l => (k, v) :: partsAt (k + 1) l
def placesOk (pl : Nat → Option (Nat × Nat)) (k off : Nat) : List Value → Prop
  | [] => True
  | v :: l => pl k = some (off, v.cells.size) ∧ placesOk pl (k + 1) (off + v.cells.size) l
theorem fill_all (pl : Nat → Option (Nat × Nat)) : ∀ (vs : List Value) (k off : Nat) (cs : Array Value), placesOk pl k off vs → off + widths vs ≤ cs.size →
    Instr.fill pl cs (partsAt k vs) = some (cs.toList.take off ++ ((vs.map fun v => v.cells.toList).flatten ++ cs.toList.drop (off + widths vs))).toArray
  | [], k, off, cs, _, _ => by simp [partsAt, Instr.fill, widths]
  | v :: l, k, off, cs, h, hs => by
    obtain ⟨h1, h2⟩ := h
    simp only [widths] at hs
    rw [partsAt, Instr.fill]
    simp only [h1]
    rw [if_neg (by simp; omega), ← Array.foldl_toList, Array.toList_zipIdx]
    have e := fold_set off v.cells.toList 0 cs (by simp; omega)
    rw [e]
    rw [fill_all pl l (k + 1) (off + v.cells.size) _ h2 (by simp; omega)]
    congr 2
    simp only [Nat.add_zero, Array.length_toList, List.map_cons, List.flatten_cons, widths, List.append_assoc]
    have hl : (cs.toList.take off).length = off := by simp; omega
    have e1 : (cs.toList.take off ++ (v.cells.toList ++ cs.toList.drop (off + v.cells.size))).take (off + v.cells.size) = cs.toList.take off ++ v.cells.toList := by
      rw [List.take_append, hl, List.take_of_length_le (by omega), show off + v.cells.size - off = v.cells.toList.length by simp, List.take_left']
      simp
    have e2 : (cs.toList.take off ++ (v.cells.toList ++ cs.toList.drop (off + v.cells.size))).drop (off + v.cells.size + widths l) = cs.toList.drop (off + (v.cells.size + widths l)) := by
      rw [List.drop_append, hl, List.drop_eq_nil_of_le (by omega), List.nil_append, List.drop_append, List.drop_eq_nil_of_le (by simp; omega), List.nil_append, List.drop_drop]
      congr 1; simp; omega
    rw [e1, e2, List.append_assoc]
/-- A slice literal whose elements are rows. -/
def builtSl (P : Program) (ty : TypeId) (len : Nat) (parts : List (Nat × Value)) : Option (Array Value × TypeId) :=
  match P.underlying ty with
  | some (.slice e) =>
    match P.info? e with
    | some i =>
      match i.zero with
      | some z => if len * i.size = 0 ∨ 2 ^ 24 < len * i.size then none else (Instr.fill (fun k => some (k * i.size, i.size)) ((Array.range (len * i.size)).map (z.cells[· % z.cells.size]!)) parts).map fun c => (c, e)
      | none => none
    | none => none
  | _ => none
def bsTo (X : Prop) (K : Array Value → TypeId → Prop) : Option (Array Value × TypeId) → Prop
  | some (c, e) => K c e
  | none => X
@[go_sem] theorem bsTo_some (X : Prop) (K : Array Value → TypeId → Prop) (c : Array Value) (e : TypeId) : bsTo X K (some (c, e)) = K c e := rfl
theorem run_buildSlice_bk {P : Program} (w : World) (ty : TypeId) (len : Nat) (parts : Array (Nat × Value)) (c : Array Value) (e : TypeId) (h : builtSl P ty len parts.toList = some (c, e)) :
    (Instr.buildSlice ty len parts).run P w = .ok (.slice (some ⟨w.heap.size, 0, none⟩) len len) (w.alloc (.cells c e)) := by
  unfold builtSl at h
  split at h
  · rename_i e' hu
    split at h
    · rename_i i hi
      split at h
      · rename_i z hz
        split at h
        · cases h
        · rename_i hn
          simp only [not_or, Nat.not_lt] at hn
          simp only [Option.map_eq_some_iff, Prod.mk.injEq] at h
          obtain ⟨c', hf, rfl, rfl⟩ := h
          have h1 : ¬ 2 ^ 24 < len * i.size := by omega
          have hzr : (zeroValue e').run P w = .ok z w := by simp [zeroValue, typeInfo, hi, hz]
          unfold Instr.buildSlice
          simp [run_underlying hu, sizeOf, typeInfo, hi, h1, hn.1, hzr, hf, newRow]
      · cases h
    · cases h
  · cases h
theorem wp_buildSlice_bk {P : Program} (ty : TypeId) (len : Nat) (dst : Option Tmp) (ps : Array (Nat × Operand)) (t : TypeId) (pos : String) (af : Array Edge) (g : Option (Nat × Bool)) (a : Act) (w : World) (K : Act → World → Prop) (Q : Exit → Act → World → Prop) :
    Oper.wp P ⟨dst, .buildSlice ty len ps, t, pos, af, g⟩ a w K Q = bsTo (wpHid P ⟨dst, .buildSlice ty len ps, t, pos, af, g⟩ a w K Q) (fun c e => K (a.put dst (.slice (some ⟨w.heap.size, 0, none⟩) len len)) (w.alloc (.cells c e))) (builtSl P ty len (ps.toList.map fun x => (x.1, a.eval x.2))) := by
  unfold bsTo
  split
  · rename_i c e hc
    have hc' : builtSl P ty len (ps.map fun x => (x.1, a.eval x.2)).toList = some (c, e) := by simpa using hc
    unfold Oper.wp execOp
    simp only [Sem.run_bind, run_buildSlice_bk w ty len _ c e hc', Result.andThen_ok]
    rfl
  · unfold wpHid; rfl
/-- Bytes behind bytes (kept whole in a walk). -/
def appB (l m : List UInt8) : List UInt8 := l ++ m
theorem appB_length (l m : List UInt8) : (appB l m).length = l.length + m.length := by simp [appB]
@[go_sem] theorem snoc_map (l : List UInt8) (b : UInt8) : List.map B l ++ [.int .u8 (b.toNat : Int)] = List.map B (appB l [b]) := by simp [appB]
@[go_sem] theorem app_map (l m : List UInt8) : List.map B l ++ List.map B m = List.map B (appB l m) := by simp [appB]
def stRow (X : Prop) (n : Nat) (w : World) (b : Nat) (c : Array Value) (K : World → Prop) : Option Obj → Prop
  | some (.cells c0 _ (0, 0)) => if c0.size = n ∧ c.size = n ∧ ones c.toList = true then K (w.setRow b c) else X
  | _ => X
def stPtr (X : Prop) (n : Nat) (w : World) (K : World → Prop) : Value → Value → Prop
  | .pointer (some ⟨b, 0, none⟩), .agg c => stRow X n w b c K (bk w b)
  | _, _ => X
@[go_sem] theorem stPtr_ptr (X : Prop) (n : Nat) (w : World) (K : World → Prop) (b : Nat) (c : Array Value) : stPtr X n w K (.pointer (some ⟨b, 0, none⟩)) (.agg c) = stRow X n w b c K (bk w b) := rfl
@[go_sem] theorem stRow_some (X : Prop) (n : Nat) (w : World) (b : Nat) (K : World → Prop) (c c0 : Array Value) (t : TypeId) (h0 : c0.size = n) (h : c.size = n) (h1 : ones c.toList = true) :
    stRow X n w b c K (some (.cells c0 t (0, 0))) = K (w.setRow b c) := by unfold stRow; simp only []; rw [if_pos ⟨h0, h, h1⟩]
theorem wp_store_bk {P : Program} (ty : TypeId) (n : Nat) (hi : (P.info? ty).map (·.size) = some n)
    (dst : Option Tmp) (x y : Operand) (t : TypeId) (pos : String) (af : Array Edge) (g : Option (Nat × Bool)) (a : Act) (w : World) (K : Act → World → Prop) (Q : Exit → Act → World → Prop) :
    Oper.wp P ⟨dst, .store ty x y, t, pos, af, g⟩ a w K Q = stPtr (wpHid P ⟨dst, .store ty x y, t, pos, af, g⟩ a w K Q) n w (fun w' => K (a.put dst undef) w') (a.eval x) (a.eval y) := by
  unfold stPtr
  split
  · rename_i b c he hv
    unfold stRow
    split
    · rename_i c0 t' hb
      split
      · rename_i hle
        obtain ⟨h0, h1, h2⟩ := hle
        have hrun := run_storeVar_row (P := P) w b t' ty c0 c hb (by rw [hi, h1]) (by omega) (Array.all_eq_true_iff_forall_mem.2 (fun v hv => ones_mem h2 v (by simpa using hv)))
        unfold Oper.wp execOp
        simp only [he, hv, Instr.storeAt, Instr.sureAddr, Sem.run_bind, Sem.run_pure, Result.andThen_ok, hrun]
        rfl
      · unfold wpHid; rfl
    · unfold wpHid; rfl
  · unfold wpHid; rfl
/-- The built-in copy between known blocks. -/
def spl (l : List Value) (o : Nat) (c : List Value) : Array Value := (l.take o ++ (c ++ l.drop (o + c.length))).toArray
def splB (l : List UInt8) (o : Nat) (c : List UInt8) : List UInt8 := l.take o ++ (c ++ l.drop (o + c.length))
@[go_sem] theorem spl_map (l : List UInt8) (o : Nat) (c : List UInt8) : spl (List.map B l) o (List.map B c) = (List.map B (splB l o c)).toArray := by
  simp [spl, splB, List.map_take, List.map_drop]
theorem splB_length (l : List UInt8) (o : Nat) (c : List UInt8) (h : o + c.length ≤ l.length) : (splB l o c).length = l.length := by simp [splB]; omega
theorem splB_getD (l : List UInt8) (o : Nat) (c : List UInt8) (h : o + c.length ≤ l.length) (j : Nat) : (splB l o c).getD j 0 = if o ≤ j ∧ j < o + c.length then c.getD (j - o) 0 else l.getD j 0 := by
  unfold splB
  simp only [List.getD_eq_getElem?_getD, List.getElem?_append, List.length_take, List.getElem?_take, List.getElem?_drop]
  rw [Nat.min_eq_left (by omega)]
  by_cases h1 : j < o
  · simp [h1, show ¬ (o ≤ j ∧ j < o + c.length) by omega]
  · rw [if_neg h1]
    by_cases h2 : j - o < c.length
    · rw [if_pos h2, if_pos ⟨by omega, by omega⟩]
    · rw [if_neg h2, if_neg (by omega), show o + c.length + (j - o - c.length) = j by omega]
def cpRow (X : Prop) (w : World) (g off m : Nat) (K : World → Prop) : Option Obj → Array Value → Prop
  | some (.cells cur _ (0, 0)), cs => if off + m ≤ cur.size ∧ cs.size = m ∧ ones cs.toList = true then K (w.setRow g (spl cur.toList off cs.toList)) else X
  | _, _ => X
def cpSrc (X : Prop) (w : World) (g off m : Nat) (K : World → Prop) (o : Nat) : Option Obj → Prop
  | some (.cells cs _ _) => if o + m ≤ cs.size then cpRow X w g off m K (bk w g) (xt cs o m) else X
  | _ => X
def cpPtr (X : Prop) (w : World) (K : Nat → World → Prop) : Value → Value → Prop
  | .slice (some ⟨g, off, none⟩) dLen _, .slice (some ⟨b, o, none⟩) sLen _ => cpSrc X w g off (min sLen dLen) (K (min sLen dLen)) o (bk w b)
  | _, _ => X
@[go_sem] theorem cpPtr_ptr (X : Prop) (w : World) (K : Nat → World → Prop) (g off dLen dCap b o sLen sCap : Nat) :
    cpPtr X w K (.slice (some ⟨g, off, none⟩) dLen dCap) (.slice (some ⟨b, o, none⟩) sLen sCap) = cpSrc X w g off (min sLen dLen) (K (min sLen dLen)) o (bk w b) := rfl
@[go_sem] theorem cpSrc_some (X : Prop) (w : World) (g off m : Nat) (K : World → Prop) (o : Nat) (cs : Array Value) (t : TypeId) (fr : Nat × Nat) (h : o + m ≤ cs.size) :
    cpSrc X w g off m K o (some (.cells cs t fr)) = cpRow X w g off m K (bk w g) (xt cs o m) := by simp [cpSrc, h]
@[go_sem] theorem cpRow_some (X : Prop) (w : World) (g off m : Nat) (K : World → Prop) (cur cs : Array Value) (t : TypeId) (h0 : off + m ≤ cur.size) (h : cs.size = m) (h1 : ones cs.toList = true) :
    cpRow X w g off m K (some (.cells cur t (0, 0))) cs = K (w.setRow g (spl cur.toList off cs.toList)) := by unfold cpRow; simp only []; rw [if_pos ⟨h0, h, h1⟩]
theorem wp_copy_bk {P : Program} (dT sT : TypeId) (elem : TypeId) (hu : P.underlying dT = some (.slice elem)) (hi : (P.info? elem).map (·.size) = some 1)
    (dst : Option Tmp) (x y : Operand) (t : TypeId) (pos : String) (af : Array Edge) (gd : Option (Nat × Bool)) (a : Act) (w : World) (K : Act → World → Prop) (Q : Exit → Act → World → Prop) :
    Oper.wp P ⟨dst, .call { callee := .builtin .copy, args := #[x, y], argTypes := #[dT, sT] }, t, pos, af, gd⟩ a w K Q =
      cpPtr (wpHid P ⟨dst, .call { callee := .builtin .copy, args := #[x, y], argTypes := #[dT, sT] }, t, pos, af, gd⟩ a w K Q) w (fun n w' => K (a.put dst (.int .i64 n)) w') (a.eval x) (a.eval y) := by
  unfold cpPtr
  split
  · rename_i g off dLen dCap b o sLen sCap he hv
    unfold cpSrc
    split
    · rename_i cs t' fr hb
      split
      · rename_i hle
        unfold cpRow
        split
        · rename_i cur t2 hg
          split
          · rename_i hx
            obtain ⟨h0, h1, h2⟩ := hx
            have hrun := run_copy_row (P := P) w dT sT t elem g off dLen dCap ⟨b, o, none⟩ sLen sCap cur t2 (xt cs o (min sLen dLen)).toList hu hi hg (by simpa using h1)
              (fun j v hj => by
                rw [Addr.add_mid]
                exact World.rangeAt_of_block hb o (min sLen dLen) j v (by simpa [xt] using hj)) (by rw [Array.length_toList, h1]; exact h0) (ones_mem h2)
            unfold Oper.wp
            simp only [execOp, resolve, invoke, builtin, List.map_toArray, List.map_cons, List.map_nil, he, hv, Sem.run_bind, Sem.run_pure, hrun, Result.andThen_ok]
            simp only [Array.length_toList, h1, goInt, Oper.upon, spl, List.append_assoc]
          · unfold wpHid; rfl
        · unfold wpHid; rfl
      · unfold wpHid; rfl
    · unfold wpHid; rfl
  · unfold wpHid; rfl
theorem setRow_alloc_at (w : World) (c c' : Array Value) (t : TypeId) (n : Nat) (h : n = w.heap.size) : (w.alloc (.cells c t)).setRow n c' = w.alloc (.cells c' t) := by
  subst h; exact World.setRow_alloc_new w c c' t
theorem setRow_alloc_past (w : World) (c' : Array Value) (o : Obj) (n : Nat) (h : n < w.heap.size) : (w.alloc o).setRow n c' = (w.setRow n c').alloc o := by
  simp only [World.setRow, World.alloc]
  congr 1
  apply Array.ext_getElem?
  intro i
  simp only [Array.getElem?_modify, Array.getElem?_push, Array.size_modify]
  repeat' split
  all_goals first | rfl | omega
@[go_sem] theorem setRow_alloc (w : World) (c' : Array Value) (o : Obj) (n : Nat) : (w.alloc o).setRow n c' = if n = w.heap.size then w.alloc (rowObj c' o) else (w.setRow n c').alloc o := by
  split
  · rename_i h
    subst h
    cases o with
    | cells c t fr =>
      simp only [World.setRow, World.alloc, rowObj]
      congr 1
      apply Array.ext_getElem?
      intro i
      rw [Array.getElem?_modify]
      simp only [Array.getElem?_push]
      repeat' split
      all_goals first | rfl | omega | simp_all
    | _ =>
      simp only [World.setRow, World.alloc, rowObj]
      congr 1
      apply Array.ext_getElem?
      intro i
      rw [Array.getElem?_modify]
      simp only [Array.getElem?_push]
      repeat' split
      all_goals first | rfl | omega | simp_all
  · rename_i h
    simp only [World.setRow, World.alloc]
    congr 1
    apply Array.ext_getElem?
    intro i
    simp only [Array.getElem?_modify, Array.getElem?_push, Array.size_modify]
    repeat' split
    all_goals first | rfl | omega
@[go_sem] theorem setRow_drew (w : World) (g : Nat) (a : Array Value) : w.drew.setRow g a = (w.setRow g a).drew := rfl
@[go_sem] theorem setRow_drewN (w : World) (g n : Nat) (a : Array Value) : (w.drewN n).setRow g a = (w.setRow g a).drewN n := rfl
@[go_sem] theorem setRow_setRow' (w : World) (g : Nat) (a b : Array Value) : (w.setRow g a).setRow g b = w.setRow g b := setRow_setRow w g a b
@[go_sem] theorem map_size (l : List UInt8) : (List.map B l).toArray.size = l.length := by simp
@[go_sem] theorem map_set (l : List UInt8) (i : Nat) (b : UInt8) : (List.map B l).toArray.setIfInBounds i (B b) = (List.map B (l.set i b)).toArray := by
  simp [List.map_set]
@[go_sem] theorem map_extract (l : List UInt8) (i j : Nat) : (List.map B l).toArray.extract i j = (List.map B (l.extract i j)).toArray := by
  simp [List.extract_eq_take_drop, List.map_drop, List.map_take]

def rowOf : Obj → Option (Array Value)
  | .cells c _ _ => some c
  | _ => none
@[go_sem] theorem rowOf_cells (c : Array Value) (t : TypeId) (fr : Nat × Nat) : rowOf (.cells c t fr) = some c := rfl
/-- A result that is a row in memory. -/
theorem ret_cell {P : Program} {fn : Func} {R : Ending → World → Prop} {a : Act} {w : World} {p : Tmp} {ty : TypeId} {g : Nat} {cs : Array Value} {d : TypeDesc}
    (h : fn.results = #[.cell p ty]) (hd' : a.defers = []) (hp : a.tmps.getD p undef = .pointer (some ⟨g, 0, none⟩)) (hg : (bk w g).bind rowOf = some cs)
    (hu : P.underlying ty = some d) (hd : d.isRow = true) (hi : (P.info? ty).map (·.size) = some cs.size) (hR : R (.returned (.agg cs)) w) : bodyPost P fn R .ret a w := by
  cases hb : bk w g with
  | none => rw [hb] at hg; simp at hg
  | some o =>
    rw [hb] at hg
    cases o with
    | cells c t fr =>
      simp [rowOf] at hg
      subst hg
      exact bodyPost_ret (results_cell_row h a.tmps w g t c fr d hp hb hu (by cases d <;> simp_all) hi) hd' hR
    | _ => simp [rowOf] at hg
/-- The worlds that are 'W' below block 'n'. -/
structure Later (n : Nat) (W : World) where
  w : World
  h : Below n W w
instance Later.some {n : Nat} {W : World} : Nonempty (Later n W) := ⟨⟨W, Below.refl _ _⟩⟩
@[irreducible] def cellHid (w : World) (b o : Nat) : Option Value := w.cell? ⟨b, o, none⟩
@[go_sem] theorem Later.cell {n : Nat} {W : World} (x : Later n W) (b o : Nat) : x.w.cell? ⟨b, o, none⟩ = if b < n then W.cell? ⟨b, o, none⟩ else cellHid x.w b o := by
  split
  · exact x.h.cell (p := ⟨b, o, none⟩) (by assumption)
  · unfold cellHid; rfl
@[go_sem] theorem Later.frozen {n : Nat} {W : World} (x : Later n W) (b o : Nat) (h : b < n) : x.w.frozen? ⟨b, o, none⟩ = W.frozen? ⟨b, o, none⟩ := x.h.frozen (p := ⟨b, o, none⟩) h
@[go_sem] theorem Later.bk {n : Nat} {W : World} (x : Later n W) (b : Nat) (h : b < n) : bk x.w b = Go.Proofs.Ytjimmfbjhkoekaa.bk W b := x.h.block b h
theorem bel {W w1 : World} {n : Nat} (hb : Below n W w1) : (∀ b o, b < n → w1.cell? ⟨b, o, none⟩ = W.cell? ⟨b, o, none⟩) ∧ (∀ b o, b < n → w1.frozen? ⟨b, o, none⟩ = W.frozen? ⟨b, o, none⟩) ∧ (∀ b, b < n → bk w1 b = bk W b) :=
  ⟨fun b o h => hb.cell (p := ⟨b, o, none⟩) h, fun b o h => hb.frozen (p := ⟨b, o, none⟩) h, fun b h => hb.block b h⟩
@[irreducible] def quietHid (P : Program) (o : Oper) (a : Act) (C : World → Prop) (K : Act → Prop) : Prop := o.quiet P a C K
def ldLater (X : Prop) (m n : Nat) (W : World) (K : Array Value → Prop) : Value → Prop
  | .pointer (some ⟨b, o, none⟩) => if b < m then ldRow X n W o K (bk W b) else X
  | _ => X
@[go_sem] theorem ldLater_ptr (X : Prop) (m n : Nat) (W : World) (K : Array Value → Prop) (b o : Nat) : ldLater X m n W K (.pointer (some ⟨b, o, none⟩)) = if b < m then ldRow X n W o K (bk W b) else X := rfl
theorem quiet_load_bk {P : Program} (ty : TypeId) (n : Nat) (d : TypeDesc) (hu : P.underlying ty = some d) (hd : d.isRow = true) (hi : (P.info? ty).map (·.size) = some n)
    (dst : Option Tmp) (x : Operand) (t : TypeId) (pos : String) (af : Array Edge) (g : Option (Nat × Bool)) (a : Act) (m : Nat) (W : World) (K : Act → Prop) :
    Oper.quiet P ⟨dst, .load ty x, t, pos, af, g⟩ a (fun w' => ∃ x : Later m W, w' = x.w) K =
      ldLater (quietHid P ⟨dst, .load ty x, t, pos, af, g⟩ a (fun w' => ∃ x : Later m W, w' = x.w) K) m n W (fun c => K (a.put dst (.agg c))) (a.eval x) := by
  unfold ldLater
  split
  · rename_i b o he
    split
    · rename_i hlt
      unfold ldRow
      split
      · rename_i c t' fr hb
        split
        · rename_i hle
          have key : ∀ y : Later m W, (execOp a.eval (⟨dst, .load ty x, t, pos, af, g⟩ : Oper)).run P y.w = .ok (.value (.agg (xt c o n))) y.w := fun y => by
            have hb' : bk y.w b = some (.cells c t' fr) := (y.bk b hlt).trans hb
            unfold execOp
            simp only [he, Sem.run_bind, run_load_bk ty n d hu hd hi y.w b o c t' fr hb' hle, Result.andThen_ok]
            rfl
          apply propext
          constructor
          · rintro ⟨v, h1, h2⟩
            have h3 := h1 W ⟨⟨W, Below.refl _ _⟩, rfl⟩
            unfold Oper.quietAt at h3
            rw [key ⟨W, Below.refl _ _⟩] at h3
            obtain ⟨_, rfl⟩ := h3
            exact h2
          · intro h
            refine ⟨_, fun w' hw' => ?_, h⟩
            obtain ⟨y, rfl⟩ := hw'
            unfold Oper.quietAt
            rw [key y]
            exact ⟨rfl, rfl⟩
        · unfold quietHid; rfl
      · unfold quietHid; rfl
    · unfold quietHid; rfl
  · unfold quietHid; rfl
theorem later_elim {n : Nat} {W w' : World} (h : ∃ x : Later n W, w' = x.w) : Below n W w' := by
  obtain ⟨x, rfl⟩ := h
  exact x.h
theorem bdrewN {B : Nat} {a w : World} (h : Below B a w) : ∀ n, Below B a (w.drewN n)
  | 0 => h
  | n + 1 => (bdrewN h n).drew
@[go_sem] theorem bk_drewN (w : World) (b : Nat) : ∀ n, bk (w.drewN n) b = bk w b
  | 0 => rfl
  | n + 1 => bk_drewN w b n
theorem bk_keep {n b : Nat} {w w' : World} {x : Option Obj} (hb : Below n w w') (h : b < n) (k : bk w b = x) : bk w' b = x := (hb.block b h).trans k
/-- A region that draws its order, whose operations only read, but for calls that make memory: one walk serves every order. -/
theorem wp_region_later {P : Program} {id : Nat} {Q : Exit → Act → World → Prop} {a : Act} {w : World} {l : List Oper} (n : Nat) (hm : P.follows .mixedOrders = true) (hB : Region.lexB .any l.toArray = true)
    (h : wpQuiet P l.toArray (fun w' => ∃ x : Later n w, w' = x.w) (fun a' => ∀ w', (∃ x : Later n w, w' = x.w) → Q .normal a' w') l a) : (Code.region id l.toArray true).wp P Q a w :=
  wp_region_quiet (C := fun w' => ∃ x : Later n w, w' = x.w) hm hB ⟨⟨w.drew, (Below.refl _ _).drew⟩, rfl⟩ (by simpa using h)
/-- A call in such a region. -/
theorem later_call {P : Program} {f : FuncId} {args : Array Value} {v : Value} {n : Nat} {W : World} (x : Later n W) (hn : n ≤ W.heap.size)
    (h : Calls P f args x.w fun e w' => e = .returned v ∧ Below x.w.heap.size x.w w') :
    Calls P f args x.w fun e w' => e = .returned v ∧ ∃ y : Later n W, w' = y.w :=
  h.mono fun _ w' ⟨he, hw⟩ => ⟨he, ⟨w', x.h.trans (hw.mono (Nat.le_trans hn x.h.size))⟩, rfl⟩
end Go.Proofs.Ytjimmfbjhkoekaa
/-
  A region that draws its order: reads and calls that make memory first, in whatever order; then operations in one forced order (a store, an append). Over any program.
-/
namespace Go.Proofs.Ytjimmfbjhkoekaa
open Go.RowKit
section
variable {P : Program} {ops : Array Oper} {md : Region.Mode} {C : World → Prop}
/-- The head's operations, in whatever order, each quiet in the class; then 'L'. -/
def headQ (P : Program) (md : Region.Mode) (ops : Array Oper) (C : World → Prop) (n : Nat) (L : Array Bool → Act → Prop) : Nat → Array Bool → Act → Prop
  | 0, listed, a => L listed a
  | f + 1, listed, a => Region.ready md ops listed ≠ [] ∧ ∀ i ∈ Region.ready md ops listed, i < n ∧ qOp P ops C i (headQ P md ops C n L f (listed.setIfInBounds i true)) a
theorem headQ_any {n g : Nat} {L : Array Bool → Act → Prop} {Q' : Exit → Act → World → Prop} (hL : ∀ listed a w, C w → L listed a → wpAny P md ops Q' g listed a w) :
    ∀ (f : Nat) (listed : Array Bool) (a : Act) (w : World), C w → headQ P md ops C n L f listed a → wpAny P md ops Q' (f + g) listed a w
  | 0, listed, a, w, hw, h => by rw [Nat.zero_add]; exact hL _ _ _ hw h
  | f + 1, listed, a, w, hw, h => by
    rw [show f + 1 + g = (f + g) + 1 by omega]
    exact ⟨fun h0 => absurd h0 h.1, fun i hi => wpOp_of_qOp hw (fun a' w' hw' h' => headQ_any hL f _ a' w' hw' h') (h.2 i hi).2⟩
theorem headQ_first {n i : Nat} {oi : Oper} {v : Value} {L : Array Bool → Act → Prop} (hi : ops[i]? = some oi) (hsel : ∀ (j : Nat) (o : Oper) cs b, ops[j]? = some o → o.op ≠ .select cs b)
    (hs : Region.sinkB md ops n = true) (hc : Region.chainB md ops n = true) (hn : n < ops.size) (hin : i < n)
    (hdone : ∀ listed a, L listed a → ∀ j ∈ Region.ready md ops listed, n ≤ j) :
    ∀ (f : Nat) (listed : Array Bool) (a : Act), HeadInv md ops n listed →
      (∀ j oj, ops[j]? = some oj → j ≠ i → listed.getD j true = false → (∀ e ∈ oj.after, Region.binds md e = true → e.on ≠ i) → oi.apart ops oj = true) →
      i ∈ Region.ready md ops listed → YieldsIn P ops C oi v a →
      headQ P md ops C n L f (listed.setIfInBounds i true) (a.put oi.dst v) → headQ P md ops C n L (f + 1) listed a := by
  intro f
  induction f with
  | zero =>
    intro listed a inv _ hr hy H
    have hun := (mem_ready.1 hr).1
    refine ⟨fun h => (by rw [h] at hr; cases hr), fun j hj => ?_⟩
    have hjn : j < n := by
      rcases Nat.lt_or_ge j n with h | h
      · exact h
      · exact absurd hj (tail_waits hs hc hn inv _ i rfl hin hun j h)
    refine ⟨hjn, ?_⟩
    by_cases hji : j = i
    · subst hji; exact hy.qOp hi H
    · have := hdone _ _ H j (ready_mono hj hji)
      omega
  | succ f ih =>
    intro listed a inv hfree hr hy H
    have hun := (mem_ready.1 hr).1
    refine ⟨fun h => (by rw [h] at hr; cases hr), fun j hj => ?_⟩
    have hjn : j < n := by
      rcases Nat.lt_or_ge j n with h | h
      · exact h
      · exact absurd hj (tail_waits hs hc hn inv _ i rfl hin hun j h)
    refine ⟨hjn, ?_⟩
    by_cases hji : j = i
    · subst hji; exact hy.qOp hi H
    · have h1 := (H.2 j (ready_mono hj hji)).2
      obtain ⟨hjun, oj, hoj, hall⟩ := mem_ready.1 hj
      have hnot : ∀ e ∈ oj.after, Region.binds md e = true → e.on ≠ i := fun e he hb heq => by
        have h1 := hall e he hb
        rw [heq, getD_both hun] at h1
        cases h1
      have h2 := qOp_put hoj (hfree j oj hoj hji hjun hnot) (fun cs b => hsel i oi cs b hi) (fun cs b => hsel j oj cs b hoj) hy h1
      have hfree' : ∀ k ok, ops[k]? = some ok → k ≠ i → (listed.setIfInBounds j true).getD k true = false →
          (∀ e ∈ ok.after, Region.binds md e = true → e.on ≠ i) → oi.apart ops ok = true := fun k ok hk hki hun hno => by
        refine hfree k ok hk hki ?_ hno
        by_cases hjk : j = k
        · subst hjk; exact hjun
        · rw [getD_set_ne true hjk] at hun; exact hun
      refine qOp_mono (fun a' h3 => ih (listed.setIfInBounds j true) a' (inv.set hj hjn) hfree' (ready_mono hr (Ne.symm hji)) h3.1 ?_) h2
      rw [Array.setIfInBounds_comm _ _ hji]
      exact h3.2
theorem headQ_lex {n g : Nat} {Lq : Act → Prop} (hsel : Region.noSelect ops = true) (hs : Region.sinkB md ops n = true) (hc : Region.chainB md ops n = true) (hn : n < ops.size) :
    ∀ (l : List Oper) (k : Nat) (listed : Array Bool) (a : Act), (∀ j, j < l.length → l[j]? = ops[k + j]?) → k + l.length = n → HeadInv md ops n listed →
    Region.lexHead md ops g l.length k listed = true → wpQuiet P ops C Lq l a →
    headQ P md ops C n (fun listed' a' => Region.seqB md ops g n listed' = true ∧ Lq a') l.length listed a
  | [], k, listed, a, _, hk, _, hB, h => by
    have : k = n := by simpa using hk
    subst this
    exact ⟨by simpa [Region.lexHead] using hB, h⟩
  | o :: l, k, listed, a, hl, hk, inv, hB, h => by
    have h0 : ops[k]? = some o := by simpa using (hl 0 (by simp)).symm
    simp only [List.length_cons, Region.lexHead, Bool.and_eq_true] at hB
    obtain ⟨⟨hr, hf⟩, hB'⟩ := hB
    have hkn : k < n := by simp only [List.length_cons] at hk; omega
    have hr' : k ∈ Region.ready md ops listed := by simpa using hr
    have hst : qOp P ops C k (wpQuiet P ops C Lq l) a := by unfold qOp; simp only [h0]; exact h
    obtain ⟨v, hy, hK⟩ := yieldsIn_of_qOp h0 hst
    exact headQ_first h0 (Region.noSelect_spec hsel) hs hc hn hkn (fun listed' a' hL => seqB_ready hL.1) l.length listed a inv (Region.free_spec h0 hf) hr' hy
      (headQ_lex hsel hs hc hn l (k + 1) _ _ (fun j hj => by have := hl (j + 1) (by simp; omega); simpa [Nat.add_assoc, Nat.add_comm 1 j] using this) (by simp only [List.length_cons] at hk; omega) (inv.set hr' hkn) hB' hK)
/-- The first n operations are quiet in the class; the rest come in their order. -/
theorem wp_region_later_tail {id : Nat} {Q : Exit → Act → World → Prop} {a : Act} {w : World} {l : List Oper} (m n : Nat) (hm : P.follows .mixedOrders = true) (hB : Region.lexTailB .any l.toArray n = true)
    (h : wpQuiet P l.toArray (fun w' => ∃ x : Later m w, w' = x.w) (fun a' => ∀ w', (∃ x : Later m w, w' = x.w) → wpList P l.toArray Q (l.drop n) a' w') (l.take n) a) : (Code.region id l.toArray true).wp P Q a w := by
  simp only [Region.lexTailB, Bool.and_eq_true, decide_eq_true_eq] at hB
  obtain ⟨⟨⟨⟨hsel, hn⟩, hs⟩, hc⟩, hlex⟩ := hB
  have hn' : n < l.length := by simpa using hn
  have htl : (l.take n).length = n := by simp; omega
  have hdl : (l.drop n).length = l.toArray.size - n := by simp
  have inv0 : HeadInv .any l.toArray n (Array.replicate l.toArray.size false) :=
    ⟨by simp, fun j oj _ hl => (by rw [getD_replicate_false] at hl; cases hl), fun t _ ht => getD_in (by simpa using ht) (getD_replicate_false _ _)⟩
  have H := headQ_lex (md := .any) (g := l.toArray.size - n) hsel hs hc hn (l.take n) 0 _ a (fun j hj => by
    have hj' : j < n := by rw [htl] at hj; exact hj
    simp [hj']) (by simpa using htl) inv0 (by rw [htl]; exact hlex) h
  refine wp_region_any hm ?_
  have := headQ_any (Q' := Q) (g := l.toArray.size - n) (fun listed a' w' hw' hL => by
    have := wpAny_of_seq (md := .any) (Q' := Q) (l.drop n) n listed a' w' (fun j => by simp [List.getElem?_drop]) (by rw [hdl]; exact hL.1) (hL.2 w' hw')
    rwa [hdl] at this) _ _ _ { w with drawn := w.drawn + 1 } ⟨⟨w.drew, (Below.refl _ _).drew⟩, rfl⟩ H
  rw [htl, show n + (l.toArray.size - n) = l.toArray.size by omega] at this
  exact this
end
end Go.Proofs.Ytjimmfbjhkoekaa
/-
  A region that draws its order, whose calls hand back memory of their own: one walk of the lexical order serves every order. What such a call hands back is told ahead ('Made'); whatever is reckoned of it waits for it. Over any program.
-/
namespace Go.Proofs.Ytjimmfbjhkoekaa
open Go.RowKit
/-- What is told of an operation's value, and of memory behind it. -/
structure Made (m : Nat) where
  T : Value → Prop
  R : Value → World → Prop
  mono : ∀ v w w', Below w.heap.size w w' → R v w → R v w'
  gives : ∀ w : World, m ≤ w.heap.size → ∃ v w', Below w.heap.size w w' ∧ T v ∧ R v w'
def Made.val {m : Nat} (c : Value) : Made m := ⟨fun v => v = c, fun _ _ => True, fun _ _ _ _ h => h, fun w _ => ⟨c, w, Below.refl _ _, rfl, trivial⟩⟩
def madeEnd {m : Nat} (M : Made m) (w : World) (e : Ending) (w' : World) : Prop := ∃ v, e = .returned v ∧ Below w.heap.size w w' ∧ M.T v ∧ M.R v w'
def madeUpon {m : Nat} (P : Program) (M : Made m) (w : World) : Result Next → Prop
  | .ok (.value v) w' => Below w.heap.size w w' ∧ M.T v ∧ M.R v w'
  | .ok .skip w' => Below w.heap.size w w' ∧ M.T undef ∧ M.R undef w'
  | .ok (.enter f args) w' => w' = w ∧ Calls P f args w (madeEnd M w)
  | _ => False
def madeAt {m : Nat} (P : Program) (M : Made m) (o : Oper) (a : Act) (w : World) : Prop := madeUpon P M w ((execOp a.eval o).run P w)
/-- The operations that never enter a function. -/
def plainOp : Op → Bool
  | .move .. | .assign .. | .pick .. | .alloc .. | .box .. | .build .. | .buildSlice .. | .load .. | .binOp .. | .unOp .. | .convert .. | .sliceToArrayPointer .. | .makeInterface .. | .makeFunc .. | .makeSlice ..
  | .slice .. | .nilCheck .. | .fieldAddr .. | .field .. | .indexAddr .. | .index .. | .typeAssert .. | .extract .. => true
  | _ => false
theorem run_v_enter {P : Program} {s : Sem Value} {w w' : World} {f : FuncId} {args : Array Value} : (do let x ← s; pure (Next.value x) : Sem Next).run P w ≠ .ok (.enter f args) w' := by
  simp only [Sem.run_bind]
  cases s.run P w <;> simp [Result.andThen, Sem.run_pure]
theorem nilCheck_enter {P : Program} {ρ : Operand → Value} {dst : Option Tmp} {x : Operand} {t : TypeId} {pos : String} {af : Array Edge} {g : Option (Nat × Bool)} {w w' : World} {f : FuncId} {args : Array Value} :
    (execOp ρ ⟨dst, .nilCheck x, t, pos, af, g⟩).run P w ≠ .ok (.enter f args) w' := by
  intro h
  simp only [execOp] at h
  split at h
  · simp [runtimePanic] at h
  · simp [runtimePanic] at h
  · simp [runtimePanic] at h
  · split at h
    · simp [runtimePanic] at h
    · simp only [Sem.run_bind] at h
      generalize Sem.run P program w = r1 at h
      cases r1 with
      | halt e w1 => simp [Result.andThen] at h
      | ok p1 w1 =>
        simp only [Result.andThen] at h
        generalize Sem.run P (nilAhead _ _ _ _) w1 = r2 at h
        cases r2 with
        | halt e w2 => simp at h
        | ok p2 w2 =>
          simp only at h
          split at h
          · simp [unsupported, Result.andThen] at h
          · simp [Sem.run_pure] at h
    · simp [Sem.run_pure] at h
  · simp [Sem.run_pure] at h
theorem plain_enter {P : Program} {o : Oper} {ρ : Operand → Value} {w w' : World} {f : FuncId} {args : Array Value} (h : plainOp o.op = true) : (execOp ρ o).run P w ≠ .ok (.enter f args) w' := by
  obtain ⟨dst, op, type, pos, after, guard⟩ := o
  cases op <;> simp only [plainOp] at h <;> first | cases h | skip
  all_goals first
    | exact nilCheck_enter
    | (simp only [execOp]; exact run_v_enter)
    | (simp only [execOp]; simp [Sem.run_pure]; done)
    | (simp only [execOp]; simp only [Sem.run_bind]; generalize Sem.run _ _ _ = r; cases r <;> simp [Result.andThen, Sem.run_pure])
/-- What is known of memory, by the operation that made it. -/
def Fs := Nat → World → Prop
def Fs.add (fs : Fs) (k : Nat) (F : World → Prop) : Fs := fun i w => (i = k → F w) ∧ fs i w
theorem Fs.add_comm (fs : Fs) (i j : Nat) (F G : World → Prop) : (fs.add i F).add j G = (fs.add j G).add i F := by
  funext k w
  exact propext ⟨fun ⟨a, b, c⟩ => ⟨b, a, c⟩, fun ⟨a, b, c⟩ => ⟨b, a, c⟩⟩
theorem Fs.add_true (fs : Fs) (i : Nat) : fs.add i (fun _ => True) = fs := by
  funext k w
  exact propext ⟨fun h => h.2, fun h => ⟨fun _ => trivial, h⟩⟩
def Fs.nil : Fs := fun _ _ => True
/-- Operation i waits for j, by whatever road. -/
def ancB (md : Region.Mode) (ops : Array Oper) : Nat → Nat → Nat → Bool
  | 0, _, _ => false
  | f + 1, j, i => match ops[i]? with
    | none => false
    | some o => o.after.any fun e => Region.binds md e && (e.on == j || ancB md ops f j e.on)
section
variable {P : Program} {ops : Array Oper} {md : Region.Mode} {m : Nat} {W : World} {N : Nat → Option (Made m)}
theorem anc_listed {listed : Array Bool} (hc : ∀ j oj, ops[j]? = some oj → listed.getD j false = true → ∀ e ∈ oj.after, Region.binds md e = true → listed.getD e.on false = true) :
    ∀ (f j i : Nat), ancB md ops f j i = true → (∀ oi, ops[i]? = some oi → ∀ e ∈ oi.after, Region.binds md e = true → listed.getD e.on false = true) → listed.getD j false = true
  | 0, _, _, h, _ => by simp [ancB] at h
  | f + 1, j, i, h, hi => by
    unfold ancB at h
    split at h
    · cases h
    · rename_i o ho
      obtain ⟨e, he, hb⟩ := Array.any_eq_true'.1 h
      simp only [Bool.and_eq_true, Bool.or_eq_true, beq_iff_eq] at hb
      have h1 := hi o ho e he hb.1
      rcases hb.2 with h2 | h2
      · rw [← h2]; exact h1
      · exact anc_listed hc f j e.on h2 fun oi hoi e' he' hb' => hc e.on oi hoi h1 e' he' hb'
/-- What an operation is told to yield. -/
def pk {m : Nat} (N : Nat → Option (Made m)) (i : Nat) (want : Bool) (c : Value) : Made m :=
  if want then match N i with
    | some M => M
    | none => .val c
  else .val undef
/-- Where everything is kept. -/
structure Env where
  P : Program
  md : Region.Mode
  ops : Array Oper
  m : Nat
  W : World
  N : Nat → Option (Made m)
def Env.want (E : Env) (o : Oper) (a : Act) : Bool := Region.wanted o (yielded E.ops a.tmps)
def Env.anc (E : Env) (j i : Nat) : Bool := ancB E.md E.ops E.ops.size j i
def Env.Y (E : Env) (i : Nat) (o : Oper) (c : Value) (fs : Fs) (a : Act) : Prop :=
  E.want o a = true → ((E.N i).isSome = true ∨ plainOp o.op = true) ∧ ∀ w, Below E.m E.W w → (∀ j, E.anc j i = true → fs j w) → madeAt E.P (pk E.N i true c) o a w
def Env.At (E : Env) (fs : Fs) (M : Made E.m) (v : Value) : Prop := M.T v ∧ ∃ w, Below E.m E.W w ∧ (∀ j, fs j w) ∧ M.R v w
def Env.step (E : Env) (i : Nat) (o : Oper) (K : Fs → Act → Prop) (fs : Fs) (a : Act) : Prop :=
  ∃ c, E.Y i o c fs a ∧ ∀ v, E.At fs (pk E.N i (E.want o a) c) v → K (fs.add i ((pk E.N i (E.want o a) c).R v)) (a.put o.dst v)
def Env.op (E : Env) (i : Nat) (K : Fs → Act → Prop) (fs : Fs) (a : Act) : Prop :=
  match E.ops[i]? with
  | none => K fs a
  | some o => E.step i o K fs a
def Env.head (E : Env) (n : Nat) (L : Array Bool → Fs → Act → Prop) : Nat → Array Bool → Fs → Act → Prop
  | 0, listed, fs, a => L listed fs a
  | f + 1, listed, fs, a => Region.ready E.md E.ops listed ≠ [] ∧ ∀ i ∈ Region.ready E.md E.ops listed, i < n ∧ E.op i (E.head n L f (listed.setIfInBounds i true)) fs a
def Fs.Mono (fs : Fs) : Prop := ∀ j w w', Below w.heap.size w w' → fs j w → fs j w'
theorem Fs.Mono.add {fs : Fs} (h : fs.Mono) (M : Made m) (v : Value) (i : Nat) : (fs.add i (M.R v)).Mono := fun j w w' hb hf => ⟨fun e => M.mono v w w' hb (hf.1 e), h j w w' hb hf.2⟩
def Env.Inh (E : Env) (fs : Fs) : Prop := ∃ w, Below E.m E.W w ∧ ∀ j, fs j w
theorem Env.Inh.at {E : Env} {fs : Fs} (hm : E.m ≤ E.W.heap.size) (hM : fs.Mono) (h : E.Inh fs) (M : Made E.m) : ∃ v, E.At fs M v := by
  obtain ⟨w, hb, hf⟩ := h
  obtain ⟨v, w', hb', hT, hR⟩ := M.gives w (Nat.le_trans hm hb.size)
  exact ⟨v, hT, w', hb.trans (hb'.mono (Nat.le_trans hm hb.size)), fun j => hM j w w' hb' (hf j), hR⟩
theorem Env.At.inh {E : Env} {fs : Fs} {M : Made E.m} {v : Value} (h : E.At fs M v) (i : Nat) : E.Inh (fs.add i (M.R v)) := by
  obtain ⟨_, w, hb, hf, hR⟩ := h
  exact ⟨w, hb, fun j => ⟨fun _ => hR, hf j⟩⟩
theorem Env.At.weak {E : Env} {fs : Fs} {M : Made E.m} {v : Value} {i : Nat} {F : World → Prop} (h : E.At (fs.add i F) M v) : E.At fs M v := by
  obtain ⟨hT, w, hb, hf, hR⟩ := h
  exact ⟨hT, w, hb, fun j => (hf j).2, hR⟩
theorem Env.At.swap {E : Env} {fs : Fs} {M M' : Made E.m} {v u : Value} {i j : Nat} (h : E.At (fs.add j (M'.R u)) M v) (hT : M'.T u) : E.At (fs.add i (M.R v)) M' u := by
  obtain ⟨_, w, hb, hf, hR⟩ := h
  exact ⟨hT, w, hb, fun k => ⟨fun _ => hR, (hf k).2⟩, (hf j).1 rfl⟩
theorem plain_uniq {o : Oper} {a : Act} {w : World} {c c' : Value} (hp : plainOp o.op = true) (h : madeAt P (.val (m := m) c) o a w) (h' : madeAt P (.val (m := m) c') o a w) : c = c' := by
  unfold madeAt at *
  generalize hr : (execOp a.eval o).run P w = r at h h'
  cases r with
  | ok n w' =>
    cases n <;> simp only [madeUpon, Made.val] at h h'
    case value v => exact h.2.1.symm.trans h'.2.1
    case skip => exact h.2.1.symm.trans h'.2.1
    case enter f args => exact absurd hr (plain_enter hp)
  | halt x w' => simp only [madeUpon] at h
/-- It is a wpAny. -/
theorem Env.wp_op {E : Env} {Q' : Exit → Act → World → Prop} {i : Nat} {K : Fs → Act → Prop} {K' : Act → World → Prop} {fs : Fs} {a : Act} {w : World} (hm : E.m ≤ E.W.heap.size) (hM : fs.Mono) (hw : Below E.m E.W w) (hf : ∀ j, fs j w)
    (hK : ∀ fs a w, fs.Mono → Below E.m E.W w → (∀ j, fs j w) → K fs a → K' a w) (h : E.op i K fs a) : wpOp E.P E.ops Q' i K' a w := by
  unfold Env.op at h
  unfold wpOp
  split
  · rename_i ho; simp only [ho] at h; exact hK _ _ _ hM hw hf h
  · rename_i o ho
    simp only [ho] at h
    obtain ⟨c, hy, hn⟩ := h
    split
    · rename_i hwt
      have hwt' : E.want o a = true := hwt
      refine .inl ?_
      have h1 := (hy hwt').2 w hw fun j _ => hf j
      simp only [hwt'] at hn
      generalize pk E.N i true c = M at h1 hn
      have fin : ∀ v w', Below w.heap.size w w' → M.T v → M.R v w' → K' (a.put o.dst v) w' := fun v w' hb hT hR => by
        have hb' := hw.trans (hb.mono (Nat.le_trans hm hw.size))
        have hf' : ∀ j, fs j w' := fun j => hM j w w' hb (hf j)
        exact hK _ _ _ (hM.add M v i) hb' (fun j => ⟨fun _ => hR, hf' j⟩) (hn v ⟨hT, w', hb', hf', hR⟩)
      unfold madeAt at h1
      unfold Oper.wp
      generalize (execOp a.eval o).run E.P w = r at *
      cases r with
      | ok n w' =>
        cases n <;> simp only [madeUpon] at h1 <;> simp only [Oper.upon]
        case value v => exact fin _ _ h1.1 h1.2.1 h1.2.2
        case skip => exact fin _ _ h1.1 h1.2.1 h1.2.2
        case enter f args =>
          obtain ⟨rfl, hc⟩ := h1
          exact hc.mono fun e w'' ⟨v, he, hb, hT, hR⟩ => by subst he; exact fin _ _ hb hT hR
      | halt x w' => simp only [madeUpon] at h1
    · rename_i hwt
      have hwt' : E.want o a = false := by simpa [Env.want] using hwt
      simp only [hwt', pk] at hn
      exact hK _ _ _ (hM.add (.val undef) undef i) hw (fun j => ⟨fun _ => trivial, hf j⟩) (hn undef ⟨rfl, w, hw, hf, trivial⟩)
theorem Env.head_any {E : Env} {Q' : Exit → Act → World → Prop} {n g : Nat} {L : Array Bool → Fs → Act → Prop} (hm : E.m ≤ E.W.heap.size)
    (hL : ∀ listed fs a w, Below E.m E.W w → (∀ j, fs j w) → L listed fs a → wpAny E.P E.md E.ops Q' g listed a w) :
    ∀ (f : Nat) (listed : Array Bool) (fs : Fs) (a : Act) (w : World), fs.Mono → Below E.m E.W w → (∀ j, fs j w) → E.head n L f listed fs a → wpAny E.P E.md E.ops Q' (f + g) listed a w
  | 0, listed, fs, a, w, _, hw, hf, h => by rw [Nat.zero_add]; exact hL _ _ _ _ hw hf h
  | f + 1, listed, fs, a, w, hM, hw, hf, h => by
    rw [show f + 1 + g = (f + g) + 1 by omega]
    exact ⟨fun h0 => absurd h0 h.1, fun i hi => Env.wp_op hm hM hw hf (fun fs' a' w' hM' hw' hf' h' => Env.head_any hm hL f _ fs' a' w' hM' hw' hf' h') (h.2 i hi).2⟩
theorem madeAt_put {o : Oper} {M : Made m} {a : Act} {dst : Option Tmp} {v : Value} {w : World} (hs : ∀ cs b, o.op ≠ .select cs b) (h : ∀ d, dst = some d → d ∉ o.looksAt ops) : madeAt P M o (a.put dst v) w = madeAt P M o a w := by
  unfold madeAt
  rw [execOp_put o hs a dst v h]
theorem pk_uniq {i : Nat} {c c' : Value} {want : Bool} (h : want = true → N i = none → c = c') : pk N i want c = pk N i want c' := by
  unfold pk
  cases want
  · rfl
  · simp only [if_true]
    cases hN : N i with
    | some M => rfl
    | none => rw [h rfl hN]
theorem Env.head_first {E : Env} {n i : Nat} {oi : Oper} {c : Value} {L : Array Bool → Fs → Act → Prop} (hm : E.m ≤ E.W.heap.size) (hi : E.ops[i]? = some oi) (hsel : ∀ (j : Nat) (o : Oper) cs b, E.ops[j]? = some o → o.op ≠ .select cs b)
    (hlt : ∀ listed, HeadInv E.md E.ops n listed → listed.getD i true = false → ∀ j ∈ Region.ready E.md E.ops listed, j < n)
    (hdone : ∀ listed fs a, L listed fs a → ∀ j ∈ Region.ready E.md E.ops listed, n ≤ j) :
    ∀ (f : Nat) (listed : Array Bool) (fs : Fs) (a : Act), HeadInv E.md E.ops n listed →
      (∀ j oj, E.ops[j]? = some oj → j ≠ i → listed.getD j true = false → (∀ e ∈ oj.after, Region.binds E.md e = true → e.on ≠ i) → oi.apart E.ops oj = true) →
      i ∈ Region.ready E.md E.ops listed → fs.Mono → E.Inh fs → E.Y i oi c fs a →
      (∀ v, E.At fs (pk E.N i (E.want oi a) c) v → E.head n L f (listed.setIfInBounds i true) (fs.add i ((pk E.N i (E.want oi a) c).R v)) (a.put oi.dst v)) →
      E.head n L (f + 1) listed fs a := by
  intro f
  induction f with
  | zero =>
    intro listed fs a inv _ hr hM hI hy H
    have hun := (mem_ready.1 hr).1
    refine ⟨fun h => (by rw [h] at hr; cases hr), fun j hj => ?_⟩
    have hjn : j < n := hlt listed inv hun j hj
    refine ⟨hjn, ?_⟩
    by_cases hji : j = i
    · subst hji; unfold Env.op; simp only [hi]; exact ⟨c, hy, H⟩
    · obtain ⟨v, hv⟩ := hI.at hm hM (pk E.N i (E.want oi a) c)
      have := hdone _ _ _ (H v hv) j (ready_mono hj hji)
      omega
  | succ f ih =>
    intro listed fs a inv hfree hr hM hI hy H
    have hun := (mem_ready.1 hr).1
    refine ⟨fun h => (by rw [h] at hr; cases hr), fun j hj => ?_⟩
    have hjn : j < n := hlt listed inv hun j hj
    refine ⟨hjn, ?_⟩
    by_cases hji : j = i
    · subst hji; unfold Env.op; simp only [hi]; exact ⟨c, hy, H⟩
    obtain ⟨hjun, oj, hoj, hall⟩ := mem_ready.1 hj
    have hnot : ∀ e ∈ oj.after, Region.binds E.md e = true → e.on ≠ i := fun e he hb heq => by
      have h1 := hall e he hb
      rw [heq, getD_both hun] at h1
      cases h1
    have hanc : ∀ k, E.anc k j = true → k ≠ i := fun k hk heq => by
      have h1 := anc_listed inv.closed _ _ _ hk fun o ho e he hb => by
        have : o = oj := Option.some.inj (ho.symm.trans hoj)
        subst this
        exact hall e he hb
      rw [heq, getD_both hun] at h1
      cases h1
    have hap := hfree j oj hoj hji hjun hnot
    obtain ⟨h1, h2, h3⟩ := Oper.apart_spec hap
    have hsi := fun cs b => hsel i oi cs b hi
    have hsj := fun cs b => hsel j oj cs b hoj
    have hwj : ∀ v, E.want oj (a.put oi.dst v) = E.want oj a := fun v => wanted_put oj a oi.dst v h1
    have hwi : ∀ u, E.want oi (a.put oj.dst u) = E.want oi a := fun u => wanted_put oi a oj.dst u h3
    -- operation j, behind i with whatever value
    have hstep : ∀ v, E.At fs (pk E.N i (E.want oi a) c) v → ∃ cj, E.Y j oj cj fs a ∧ ∀ u, E.At (fs.add i ((pk E.N i (E.want oi a) c).R v)) (pk E.N j (E.want oj a) cj) u →
        E.head n L f ((listed.setIfInBounds i true).setIfInBounds j true) ((fs.add i ((pk E.N i (E.want oi a) c).R v)).add j ((pk E.N j (E.want oj a) cj).R u)) ((a.put oi.dst v).put oj.dst u) := fun v hv => by
      have h4 := ((H v hv).2 j (ready_mono hj hji)).2
      unfold Env.op at h4
      simp only [hoj] at h4
      obtain ⟨cj, hyj, hnj⟩ := h4
      rw [hwj v] at hnj
      refine ⟨cj, fun hwt => ?_, hnj⟩
      obtain ⟨h5, h6⟩ := hyj (by rw [hwj]; exact hwt)
      refine ⟨h5, fun w hw hf => ?_⟩
      have h7 := h6 w hw fun k hk => ⟨fun e => absurd e (hanc k hk), hf k hk⟩
      rwa [madeAt_put hsj h1] at h7
    obtain ⟨v0, hv0⟩ := hI.at hm hM (pk E.N i (E.want oi a) c)
    obtain ⟨cj, hyj, _⟩ := hstep v0 hv0
    have huniq : ∀ cj', E.Y j oj cj' fs a → pk E.N j (E.want oj a) cj' = pk E.N j (E.want oj a) cj := fun cj' hyj' => pk_uniq fun hwt hN => by
      obtain ⟨w, hw, hf⟩ := hI
      obtain ⟨g1, g2⟩ := hyj hwt
      obtain ⟨_, g3⟩ := hyj' hwt
      have g4 := g2 w hw fun k _ => hf k
      have g5 := g3 w hw fun k _ => hf k
      simp only [pk, hN, if_true] at g4 g5
      rcases g1 with g1 | g1
      · rw [hN] at g1; cases g1
      · exact plain_uniq g1 g5 g4
    unfold Env.op
    simp only [hoj]
    refine ⟨cj, hyj, fun u hu => ?_⟩
    refine ih (listed.setIfInBounds j true) (fs.add j _) (a.put oj.dst u) (inv.set hj hjn) (fun k ok hk hki hun hno => ?_) (ready_mono hr (Ne.symm hji)) (hM.add _ u j) (hu.inh j) (fun hwt => ?_) (fun v hv => ?_)
    · refine hfree k ok hk hki ?_ hno
      by_cases hjk : j = k
      · subst hjk; exact hjun
      · rw [getD_set_ne true hjk] at hun; exact hun
    · rw [hwi] at hwt
      obtain ⟨g1, g2⟩ := hy hwt
      refine ⟨g1, fun w hw hf => ?_⟩
      rw [madeAt_put hsi h3]
      exact g2 w hw fun k hk => (hf k hk).2
    · rw [hwi] at hv ⊢
      obtain ⟨cj', hyj', H'⟩ := hstep v hv.weak
      rw [huniq cj' hyj'] at H'
      have := H' u (hv.swap hu.1)
      rw [Array.setIfInBounds_comm _ _ hji, Fs.add_comm, ← Act.put_comm a v u h2]
      exact this
/-- The lexical walk. -/
def Env.walk (E : Env) (Q : Fs → Act → Prop) : Nat → List Oper → Fs → Act → Prop
  | _, [], fs, a => Q fs a
  | k, o :: l, fs, a => E.step k o (E.walk Q (k + 1) l) fs a
theorem Env.head_lex {E : Env} {n g : Nat} {Lq : Fs → Act → Prop} (hm : E.m ≤ E.W.heap.size) (hsel : Region.noSelect E.ops = true) (hlt : ∀ listed, HeadInv E.md E.ops n listed → ∀ i, i < n → listed.getD i true = false → ∀ j ∈ Region.ready E.md E.ops listed, j < n) :
    ∀ (l : List Oper) (k : Nat) (listed : Array Bool) (fs : Fs) (a : Act), (∀ j, j < l.length → l[j]? = E.ops[k + j]?) → k + l.length = n → HeadInv E.md E.ops n listed → fs.Mono → E.Inh fs →
    Region.lexHead E.md E.ops g l.length k listed = true → E.walk Lq k l fs a →
    E.head n (fun listed' fs' a' => Region.seqB E.md E.ops g n listed' = true ∧ Lq fs' a') l.length listed fs a
  | [], k, listed, fs, a, _, hk, _, _, _, hB, h => by
    have : k = n := by simpa using hk
    subst this
    exact ⟨by simpa [Region.lexHead] using hB, h⟩
  | o :: l, k, listed, fs, a, hl, hk, inv, hM, hI, hB, h => by
    have h0 : E.ops[k]? = some o := by simpa using (hl 0 (by simp)).symm
    simp only [List.length_cons, Region.lexHead, Bool.and_eq_true] at hB
    obtain ⟨⟨hr, hf⟩, hB'⟩ := hB
    have hkn : k < n := by simp only [List.length_cons] at hk; omega
    have hr' : k ∈ Region.ready E.md E.ops listed := by simpa using hr
    obtain ⟨c, hy, hK⟩ := h
    exact Env.head_first hm h0 (Region.noSelect_spec hsel) (fun listed inv h => hlt listed inv k hkn h) (fun listed' fs' a' hL => seqB_ready hL.1) l.length listed fs a inv (Region.free_spec h0 hf) hr' hM hI hy
      fun v hv => Env.head_lex hm hsel hlt l (k + 1) _ _ _ (fun j hj => by have := hl (j + 1) (by simp; omega); simpa [Nat.add_assoc, Nat.add_comm 1 j] using this) (by simp only [List.length_cons] at hk; omega) (inv.set hr' hkn)
        (hM.add _ v k) (hv.inh k) hB' (hK v hv)
theorem inv0 (n : Nat) : HeadInv md ops n (Array.replicate ops.size false) :=
  ⟨by simp, fun j oj _ hl => (by rw [getD_replicate_false] at hl; cases hl), fun t _ ht => getD_in (by simpa using ht) (getD_replicate_false _ _)⟩
theorem Fs.nil_mono : Fs.nil.Mono := fun _ _ _ _ h => h
def lexMadeB (ops : Array Oper) : Bool := Region.noSelect ops && Region.lexHead .any ops 0 ops.size 0 (Array.replicate ops.size false)
/-- A region that draws its order, whose calls make memory: walked once. -/
theorem wp_region_made {id : Nat} {Q : Exit → Act → World → Prop} {a : Act} {w : World} {l : List Oper} (m : Nat) (N : Nat → Option (Made m)) (hmw : m ≤ w.heap.size) (hm : P.follows .mixedOrders = true) (hB : lexMadeB l.toArray = true)
    (h : (Env.mk P .any l.toArray m w N).walk (fun fs a' => ∀ w', Below m w w' → (∀ j, fs j w') → Q .normal a' w') 0 l Fs.nil a) : (Code.region id l.toArray true).wp P Q a w := by
  simp only [lexMadeB, Bool.and_eq_true] at hB
  have H := Env.head_lex (E := ⟨P, .any, l.toArray, m, w, N⟩) (n := l.toArray.size) (g := 0) hmw hB.1 (fun listed _ i _ _ j hj => by
    obtain ⟨_, o, ho, _⟩ := mem_ready.1 hj
    exact (Array.getElem?_eq_some_iff.1 ho).1) l 0 _ Fs.nil a (fun j hj => by simp) (by simp) (inv0 _) Fs.nil_mono ⟨w, Below.refl _ _, fun _ => trivial⟩ (by simpa using hB.2) h
  refine wp_region_any hm ?_
  have := Env.head_any (E := ⟨P, .any, l.toArray, m, w, N⟩) (Q' := Q) (g := 0) hmw (fun listed fs a' w' hw' hf hL => ⟨by simpa [Region.seqB] using hL.1, hL.2 w' hw' hf⟩) _ _ Fs.nil _ { w with drawn := w.drawn + 1 } Fs.nil_mono (Below.refl _ _).drew (fun _ => trivial) H
  simpa using this
/-- .. and behind them operations in one forced order. -/
theorem wp_region_made_tail {id : Nat} {Q : Exit → Act → World → Prop} {a : Act} {w : World} {l : List Oper} (m n : Nat) (N : Nat → Option (Made m)) (hmw : m ≤ w.heap.size) (hm : P.follows .mixedOrders = true) (hB : Region.lexTailB .any l.toArray n = true)
    (h : (Env.mk P .any l.toArray m w N).walk (fun fs a' => ∀ w', Below m w w' → (∀ j, fs j w') → wpList P l.toArray Q (l.drop n) a' w') 0 (l.take n) Fs.nil a) : (Code.region id l.toArray true).wp P Q a w := by
  simp only [Region.lexTailB, Bool.and_eq_true, decide_eq_true_eq] at hB
  obtain ⟨⟨⟨⟨hsel, hn⟩, hs⟩, hc⟩, hlex⟩ := hB
  have hn' : n < l.length := by simpa using hn
  have htl : (l.take n).length = n := by simp; omega
  have hdl : (l.drop n).length = l.toArray.size - n := by simp
  have H := Env.head_lex (E := ⟨P, .any, l.toArray, m, w, N⟩) (n := n) (g := l.toArray.size - n) hmw hsel (fun listed inv i hin hun j hj => by
      rcases Nat.lt_or_ge j n with h | h
      · exact h
      · exact absurd hj (tail_waits hs hc hn inv _ i rfl hin hun j h)) (l.take n) 0 _ Fs.nil a (fun j hj => by
    have hj' : j < n := by rw [htl] at hj; exact hj
    simp [hj']) (by simpa using htl) (inv0 _) Fs.nil_mono ⟨w, Below.refl _ _, fun _ => trivial⟩ (by rw [htl]; exact hlex) h
  refine wp_region_any hm ?_
  have := Env.head_any (E := ⟨P, .any, l.toArray, m, w, N⟩) (Q' := Q) (g := l.toArray.size - n) hmw (fun listed fs a' w' hw' hf hL => by
    have := wpAny_of_seq (md := .any) (Q' := Q) (l.drop n) n listed a' w' (fun j => by simp [List.getElem?_drop]) (by rw [hdl]; exact hL.1) (hL.2 w' hw' hf)
    rwa [hdl] at this) _ _ Fs.nil _ { w with drawn := w.drawn + 1 } Fs.nil_mono (Below.refl _ _).drew (fun _ => trivial) H
  rw [htl, show n + (l.toArray.size - n) = l.toArray.size by omega] at this
  exact this
/-! ### The steps -/
/-- The worlds that are 'W' below block 'm' and hold what is known. -/
structure LaterF (m : Nat) (W : World) (gs : List (Nat × (World → Prop))) where
  w : World
  h : Below m W w
  f : ∀ p ∈ gs, p.2 w
theorem Env.walk_skip {E : Env} {Q : Fs → Act → Prop} {k : Nat} {o : Oper} {l : List Oper} {fs : Fs} {a : Act} (hw : E.want o a = false) (h : E.walk Q (k + 1) l fs (a.put o.dst undef)) : E.walk Q k (o :: l) fs a := by
  refine ⟨undef, fun h1 => (by rw [hw] at h1; cases h1), fun v hv => ?_⟩
  simp only [hw, pk] at hv ⊢
  have : v = undef := hv.1
  subst this
  have h2 : (Made.val (m := E.m) undef).R undef = fun _ => True := rfl
  simp only [Bool.false_eq_true, if_false, h2]
  rw [Fs.add_true]
  exact h
/-- What the check of a stretch of reads asks. -/
def segB (E : Env) (ks : List Nat) : Nat → List Oper → Bool
  | _, [] => true
  | k, o :: l => (E.N k).isNone && plainOp o.op && ks.all (fun j => E.anc j k) && segB E ks (k + 1) l
theorem madeAt_quiet {o : Oper} {a : Act} {C : World → Prop} {w : World} {v : Value} (hp : plainOp o.op = true) (h : o.quietAt P a C w v) : madeAt P (.val (m := m) v) o a w := by
  unfold Oper.quietAt at h
  unfold madeAt
  generalize hr : (execOp a.eval o).run P w = r at h ⊢
  cases r with
  | ok n w' =>
    cases n <;> simp only [Oper.quietUpon] at h <;> simp only [madeUpon]
    case value u => obtain ⟨rfl, rfl⟩ := h; exact ⟨Below.refl _ _, rfl, trivial⟩
    case skip => obtain ⟨rfl, rfl⟩ := h; exact ⟨Below.refl _ _, rfl, trivial⟩
    case enter f args => exact absurd hr (plain_enter hp)
  | halt x w' => simp only [Oper.quietUpon] at h
theorem Env.walk_seg {E : Env} {Q : Fs → Act → Prop} {fs : Fs} (gs : List (Nat × (World → Prop))) (hg : ∀ p ∈ gs, ∀ w, fs p.1 w → p.2 w) {rest : List Oper} :
    ∀ (seg : List Oper) (k : Nat) (a : Act), segB E (gs.map (·.1)) k seg = true →
    wpQuiet E.P E.ops (fun w' => ∃ x : LaterF E.m E.W gs, w' = x.w) (fun a' => E.walk Q (k + seg.length) rest fs a') seg a → E.walk Q k (seg ++ rest) fs a
  | [], k, a, _, h => h
  | o :: seg, k, a, hB, h => by
    simp only [segB, Bool.and_eq_true, Option.isNone_iff_eq_none] at hB
    obtain ⟨⟨⟨hN, hp⟩, ha⟩, hB'⟩ := hB
    have ih := fun a => Env.walk_seg (E := E) (Q := Q) gs hg (rest := rest) seg (k + 1) a
    simp only [List.length_cons, show k + (seg.length + 1) = k + 1 + seg.length by omega, wpQuiet] at h
    rw [List.cons_append]
    split at h
    · rename_i hw
      have hw' : E.want o a = true := hw
      obtain ⟨v, h1, h2⟩ := h
      refine ⟨v, fun _ => ⟨.inr hp, fun w hb hf => ?_⟩, fun u hu => ?_⟩
      · simp only [pk, hN, if_true]
        refine madeAt_quiet hp (h1 w ⟨⟨w, hb, fun p hp' => hg p hp' w (hf p.1 ?_)⟩, rfl⟩)
        exact List.all_eq_true.1 ha p.1 (List.mem_map.2 ⟨p, hp', rfl⟩)
      · simp only [hw', pk, hN, if_true] at hu ⊢
        have : u = v := hu.1
        subst this
        have h3 : (Made.val (m := E.m) u).R u = fun _ => True := rfl
        rw [h3, Fs.add_true]
        exact ih _ hB' h2
    · rename_i hw
      exact Env.walk_skip (by simpa [Env.want] using hw) (ih _ hB' h)
theorem Env.walk_made {E : Env} {Q : Fs → Act → Prop} {k : Nat} {o : Oper} {l : List Oper} {fs : Fs} {a : Act} (M : Made E.m) (gs : List (Nat × (World → Prop))) (hg : ∀ p ∈ gs, ∀ w, fs p.1 w → p.2 w) (ha : gs.all (fun p => E.anc p.1 k) = true)
    (hw : E.want o a = true) (hN : E.N k = some M) (h1 : ∀ w, Below E.m E.W w → (∀ p ∈ gs, p.2 w) → madeAt E.P M o a w)
    (h2 : ∀ v, M.T v → E.At fs M v → E.walk Q (k + 1) l (fs.add k (M.R v)) (a.put o.dst v)) : E.walk Q k (o :: l) fs a := by
  refine ⟨undef, fun _ => ⟨.inl (by simp [hN]), fun w hb hf => ?_⟩, fun v hv => ?_⟩
  · simp only [pk, hN, if_true]
    exact h1 w hb fun p hp => hg p hp w (hf p.1 (List.all_eq_true.1 ha p hp))
  · simp only [hw, pk, hN, if_true] at hv ⊢
    exact h2 v hv.1 hv
/-- .. whose value is known. -/
theorem Env.walk_val {E : Env} {Q : Fs → Act → Prop} {k : Nat} {o : Oper} {l : List Oper} {fs : Fs} {a : Act} (c : Value) (gs : List (Nat × (World → Prop))) (hg : ∀ p ∈ gs, ∀ w, fs p.1 w → p.2 w) (ha : gs.all (fun p => E.anc p.1 k) = true)
    (hw : E.want o a = true) (hN : E.N k = some (.val c)) (h1 : ∀ w, Below E.m E.W w → (∀ p ∈ gs, p.2 w) → madeAt E.P (Made.val (m := E.m) c) o a w)
    (h2 : E.walk Q (k + 1) l fs (a.put o.dst c)) : E.walk Q k (o :: l) fs a :=
  Env.walk_made _ gs hg ha hw hN h1 fun v hv _ => by
    have : v = c := hv
    subst this
    have h3 : (Made.val (m := E.m) v).R v = fun _ => True := rfl
    rw [h3, Fs.add_true]
    exact h2
/-- At a call. -/
theorem madeAt_call {M : Made m} {o : Oper} {a : Act} {w : World} {f : FuncId} {args : Array Value} (hr : (execOp a.eval o).run P w = .ok (.enter f args) w) (h : Calls P f args w (madeEnd M w)) : madeAt P M o a w := by
  unfold madeAt
  rw [hr]
  exact ⟨rfl, h⟩

@[go_sem] theorem madeUpon_enter {M : Made m} {w : World} {f : FuncId} {args : Array Value} : madeUpon P M w (.ok (.enter f args) w) = Calls P f args w (madeEnd M w) := by simp [madeUpon]
/-- The memory that is known. -/
noncomputable def rowIn (gs : List (Nat × (World → Prop))) (b : Nat) : Option Obj := by
  classical exact if h : ∃ r, ∀ w, (∀ p ∈ gs, p.2 w) → bk w b = some r then some h.choose else none
theorem rowIn_spec {gs : List (Nat × (World → Prop))} {b : Nat} {r : Obj} (h : rowIn gs b = some r) (w : World) (hw : ∀ p ∈ gs, p.2 w) : bk w b = some r := by
  unfold rowIn at h
  split at h
  · rename_i h'
    cases h
    exact h'.choose_spec w hw
  · cases h
theorem rowIn_eq {gs : List (Nat × (World → Prop))} {b : Nat} {r : Obj} [hne : Nonempty (LaterF m W gs)] (h : ∀ w, (∀ p ∈ gs, p.2 w) → bk w b = some r) : rowIn gs b = some r := by
  unfold rowIn
  have h' : ∃ r, ∀ w, (∀ p ∈ gs, p.2 w) → bk w b = some r := ⟨r, h⟩
  rw [dif_pos h']
  obtain ⟨x⟩ := hne
  have h1 := h'.choose_spec x.w x.f
  have h2 := h x.w x.f
  exact h1.symm.trans h2
def cellRow (w : World) (b o : Nat) : Option Obj → Option Value
  | some (.cells c _ _) => c[o]?
  | _ => cellHid w b o
@[go_sem] theorem cellRow_cells (w : World) (b o : Nat) (c : Array Value) (t : TypeId) (fr : Nat × Nat) : cellRow w b o (some (.cells c t fr)) = c[o]? := rfl
theorem cell_of_row {w : World} {b o : Nat} {c : Array Value} {t : TypeId} {fr : Nat × Nat} (h : bk w b = some (.cells c t fr)) : w.cell? ⟨b, o, none⟩ = c[o]? := bk_cell h o
@[go_sem] theorem LaterF.cell {gs : List (Nat × (World → Prop))} (x : LaterF m W gs) (b o : Nat) : x.w.cell? ⟨b, o, none⟩ = if b < m then W.cell? ⟨b, o, none⟩ else cellRow x.w b o (rowIn gs b) := by
  split
  · exact x.h.cell (p := ⟨b, o, none⟩) (by assumption)
  · cases hr : rowIn gs b with
    | none => unfold cellRow cellHid; rfl
    | some r =>
      have h1 := rowIn_spec hr x.w x.f
      cases r <;> first | exact cell_of_row h1 | (unfold cellRow cellHid; rfl)
@[go_sem] theorem LaterF.frozen {gs : List (Nat × (World → Prop))} (x : LaterF m W gs) (b o : Nat) (h : b < m) : x.w.frozen? ⟨b, o, none⟩ = W.frozen? ⟨b, o, none⟩ := x.h.frozen (p := ⟨b, o, none⟩) h
@[go_sem] theorem LaterF.bk {gs : List (Nat × (World → Prop))} (x : LaterF m W gs) (b : Nat) (h : b < m) : bk x.w b = Go.Proofs.Ytjimmfbjhkoekaa.bk W b := x.h.block b h
noncomputable def rowAt (gs : List (Nat × (World → Prop))) (m : Nat) (W : World) (b : Nat) : Option Obj := if b < m then bk W b else rowIn gs b
@[go_sem] theorem rowAt_eq (gs : List (Nat × (World → Prop))) (m : Nat) (W : World) (b : Nat) : rowAt gs m W b = if b < m then bk W b else rowIn gs b := rfl
theorem rowAt_spec {gs : List (Nat × (World → Prop))} {b : Nat} {r : Obj} (x : LaterF m W gs) (h : rowAt gs m W b = some r) : bk x.w b = some r := by
  unfold rowAt at h
  split at h
  · exact (x.bk b (by assumption)).trans h
  · exact rowIn_spec h x.w x.f
noncomputable def ldF (X : Prop) (gs : List (Nat × (World → Prop))) (m n : Nat) (W : World) (K : Array Value → Prop) : Value → Prop
  | .pointer (some ⟨b, o, none⟩) => ldRow X n W o K (rowAt gs m W b)
  | _ => X
@[go_sem] theorem ldF_ptr (X : Prop) (gs : List (Nat × (World → Prop))) (m n : Nat) (W : World) (K : Array Value → Prop) (b o : Nat) : ldF X gs m n W K (.pointer (some ⟨b, o, none⟩)) = ldRow X n W o K (rowAt gs m W b) := rfl
theorem quiet_load_F {P : Program} (ty : TypeId) (n : Nat) (d : TypeDesc) (hu : P.underlying ty = some d) (hd : d.isRow = true) (hi : (P.info? ty).map (·.size) = some n)
    (dst : Option Tmp) (x : Operand) (t : TypeId) (pos : String) (af : Array Edge) (g : Option (Nat × Bool)) (a : Act) (m : Nat) (W : World) (gs : List (Nat × (World → Prop))) [hne : Nonempty (LaterF m W gs)] (K : Act → Prop) :
    Oper.quiet P ⟨dst, .load ty x, t, pos, af, g⟩ a (fun w' => ∃ x : LaterF m W gs, w' = x.w) K =
      ldF (quietHid P ⟨dst, .load ty x, t, pos, af, g⟩ a (fun w' => ∃ x : LaterF m W gs, w' = x.w) K) gs m n W (fun c => K (a.put dst (.agg c))) (a.eval x) := by
  unfold ldF
  split
  · rename_i b o he
    unfold ldRow
    split
    · rename_i c t' fr hb
      split
      · rename_i hle
        have key : ∀ y : LaterF m W gs, (execOp a.eval (⟨dst, .load ty x, t, pos, af, g⟩ : Oper)).run P y.w = .ok (.value (.agg (xt c o n))) y.w := fun y => by
          have hb' : bk y.w b = some (.cells c t' fr) := rowAt_spec y hb
          unfold execOp
          simp only [he, Sem.run_bind, run_load_bk ty n d hu hd hi y.w b o c t' fr hb' hle, Result.andThen_ok]
          rfl
        obtain ⟨y0⟩ := hne
        apply propext
        constructor
        · rintro ⟨v, h1, h2⟩
          have h3 := h1 y0.w ⟨y0, rfl⟩
          unfold Oper.quietAt at h3
          rw [key y0] at h3
          obtain ⟨_, rfl⟩ := h3
          exact h2
        · intro h
          refine ⟨_, fun w' hw' => ?_, h⟩
          obtain ⟨y, rfl⟩ := hw'
          unfold Oper.quietAt
          rw [key y]
          exact ⟨rfl, rfl⟩
      · unfold quietHid; rfl
    · unfold quietHid; rfl
  · unfold quietHid; rfl
theorem Env.At.later {E : Env} {fs : Fs} {M : Made E.m} {v : Value} (h : E.At fs M v) (gs : List (Nat × (World → Prop))) (hg : ∀ p ∈ gs, ∀ w, (∀ j, fs j w) → M.R v w → p.2 w) : Nonempty (LaterF E.m E.W gs) := by
  obtain ⟨_, w, hb, hf, hR⟩ := h
  exact ⟨⟨w, hb, fun p hp => hg p hp w hf hR⟩⟩
instance LaterF.nil : Nonempty (LaterF m W []) := ⟨⟨W, Below.refl _ _, fun p hp => by cases hp⟩⟩
/-- A stretch of reads. -/
theorem walk_segn {ops : Array Oper} {Q : Fs → Act → Prop} {fs : Fs} {k : Nat} {a : Act} (s : Nat) (gs : List (Nat × (World → Prop))) (hg : ∀ p ∈ gs, ∀ w, fs p.1 w → p.2 w) {l : List Oper} (hs : decide (s ≤ l.length) = true)
    (hB : segB ⟨P, md, ops, m, W, N⟩ (gs.map (·.1)) k (l.take s) = true)
    (h : wpQuiet P ops (fun w' => ∃ x : LaterF m W gs, w' = x.w) (fun a' => (Env.mk P md ops m W N).walk Q (k + s) (l.drop s) fs a') (l.take s) a) : (Env.mk P md ops m W N).walk Q k l fs a := by
  have hs' := of_decide_eq_true hs
  have hl : (l.take s).length = s := by simp; omega
  have := Env.walk_seg (E := Env.mk P md ops m W N) (Q := Q) gs hg (rest := l.drop s) (l.take s) k a hB (by rw [hl]; exact h)
  rwa [List.take_append_drop] at this
theorem walk_mkop {ops : Array Oper} {Q : Fs → Act → Prop} {k : Nat} {o : Oper} {l : List Oper} {fs : Fs} {a : Act} (M : Made m) (gs : List (Nat × (World → Prop))) (hg : ∀ p ∈ gs, ∀ w, fs p.1 w → p.2 w)
    (ha : gs.all (fun p => ancB md ops ops.size p.1 k) = true) (hw : Region.wanted o (yielded ops a.tmps) = true) (hN : N k = some M) (h1 : ∀ w, Below m W w → (∀ p ∈ gs, p.2 w) → madeAt P M o a w)
    (h2 : ∀ v, M.T v → (Env.mk P md ops m W N).At fs M v → (Env.mk P md ops m W N).walk Q (k + 1) l (fs.add k (M.R v)) (a.put o.dst v)) : (Env.mk P md ops m W N).walk Q k (o :: l) fs a :=
  Env.walk_made (E := Env.mk P md ops m W N) M gs hg ha hw hN h1 h2
theorem walk_val {ops : Array Oper} {Q : Fs → Act → Prop} {k : Nat} {o : Oper} {l : List Oper} {fs : Fs} {a : Act} (c : Value) (gs : List (Nat × (World → Prop))) (hg : ∀ p ∈ gs, ∀ w, fs p.1 w → p.2 w)
    (ha : gs.all (fun p => ancB md ops ops.size p.1 k) = true) (hw : Region.wanted o (yielded ops a.tmps) = true) (hN : N k = some (.val c)) (h1 : ∀ w, Below m W w → (∀ p ∈ gs, p.2 w) → madeAt P (Made.val (m := m) c) o a w)
    (h2 : (Env.mk P md ops m W N).walk Q (k + 1) l fs (a.put o.dst c)) : (Env.mk P md ops m W N).walk Q k (o :: l) fs a :=
  Env.walk_val (E := Env.mk P md ops m W N) c gs hg ha hw hN h1 h2
theorem walk_skip {ops : Array Oper} {Q : Fs → Act → Prop} {k : Nat} {o : Oper} {l : List Oper} {fs : Fs} {a : Act} (hw : Region.wanted o (yielded ops a.tmps) = false)
    (h2 : (Env.mk P md ops m W N).walk Q (k + 1) l fs (a.put o.dst undef)) : (Env.mk P md ops m W N).walk Q k (o :: l) fs a :=
  Env.walk_skip (E := Env.mk P md ops m W N) hw h2
/-- A block of its own, whose content is known. -/
def Made.row (m : Nat) (f : Nat → Value) (r : Obj) : Made m where
  T v := ∃ b, m ≤ b ∧ v = f b
  R v w := ∃ b, m ≤ b ∧ v = f b ∧ b < w.heap.size ∧ bk w b = some r
  mono := fun v w w' hb ⟨b, h1, h2, h3, h4⟩ => ⟨b, h1, h2, Nat.lt_of_lt_of_le h3 hb.size, bk_keep hb h3 h4⟩
  gives := fun w hm => ⟨f w.heap.size, w.alloc r, (Below.refl _ _).alloc (Nat.le_refl _) _, ⟨_, hm, rfl⟩, _, hm, rfl, by simp [World.size_alloc], bk_alloc_at _ _ _ rfl⟩
theorem made_row {E : Env} {fs : Fs} {M : Made E.m} {v : Value} {f : Nat → Value} {r : Obj} (HM : Hid (M = Made.row E.m f r)) (hf : ∀ b b', f b = f b' → b = b') (h : E.At fs M v) :
    ∃ b, E.m ≤ b ∧ v = f b ∧ ∀ w, M.R (f b) w → bk w b = some r := by
  have HM := HM.out
  subst HM
  obtain ⟨⟨b, h1, rfl⟩, _⟩ := h
  refine ⟨b, h1, rfl, fun w hw => ?_⟩
  obtain ⟨b', _, h2, _, h3⟩ := hw
  rw [hf _ _ h2]
  exact h3
theorem row_end {M : Made m} {f : Nat → Value} {r : Obj} (HM : Hid (M = Made.row m f r)) {w w' : World} {b : Nat} (hb : Below w.heap.size w w') (hm : m ≤ b) (h : bk w' b = some r) : madeEnd M w (.returned (f b)) w' := by
  have HM := HM.out
  subst HM
  exact ⟨f b, rfl, hb, ⟨b, hm, rfl⟩, b, hm, rfl, bk_lt h, h⟩
theorem val_end {c : Value} {w w' : World} (hb : Below w.heap.size w w') : madeEnd (Made.val (m := m) c) w (.returned c) w' := ⟨c, rfl, hb, rfl, trivial⟩
/-- What the facts are worth. -/
theorem facts1 {k : Nat} {F : World → Prop} {fs : Fs} (h : ∀ w, fs k w → F w) : ∀ p ∈ [(k, F)], ∀ w, fs p.1 w → p.2 w := fun p hp w hw => by
  have : p = (k, F) := by simpa using hp
  subst this
  exact h w hw
theorem facts0 {fs : Fs} : ∀ p ∈ ([] : List (Nat × (World → Prop))), ∀ w, fs p.1 w → p.2 w := fun p hp => by cases hp
theorem later1 {E : Env} {fs : Fs} {M : Made E.m} {v : Value} (h : E.At fs M v) (k : Nat) : Nonempty (LaterF E.m E.W [(k, M.R v)]) := h.later _ fun p hp w _ hR => by
  have : p = (k, M.R v) := by simpa using hp
  subst this
  exact hR
theorem row1 {k : Nat} {F : World → Prop} {b : Nat} {r : Obj} [Nonempty (LaterF m W [(k, F)])] (h : ∀ w, F w → bk w b = some r) : rowIn [(k, F)] b = some r := rowIn_eq (m := m) (W := W) fun w hw => h w (hw (k, F) (by simp))
theorem made_at {ops : Array Oper} {fs : Fs} {M : Made m} {v : Value} {f : Nat → Value} {r : Obj} (HM : Hid (M = Made.row m f r)) (hf : ∀ b b', f b = f b' → b = b') (k : Nat) (h : (Env.mk P md ops m W N).At fs M v) :
    ∃ b, m ≤ b ∧ v = f b ∧ Nonempty (LaterF m W [(k, M.R (f b))]) ∧ rowIn [(k, M.R (f b))] b = some r ∧ ∀ w, M.R (f b) w → bk w b = some r := by
  obtain ⟨b, h1, rfl, h2⟩ := made_row (E := Env.mk P md ops m W N) HM hf h
  have h3 : Nonempty (LaterF m W [(k, M.R (f b))]) := later1 h k
  exact ⟨b, h1, rfl, h3, row1 (m := m) (W := W) h2, h2⟩
theorem walk_nil {E : Env} {Q : Fs → Act → Prop} {k : Nat} {fs : Fs} {a : Act} (h : Q fs a) : E.walk Q k [] fs a := h
end
end Go.Proofs.Ytjimmfbjhkoekaa
/- Slices of bytes: what one reads as. Over any program. -/
namespace Go.Proofs.Ytjimmfbjhkoekaa
open Go.RowKit
/-- The slice with the address A reads as the bytes l, below block n. -/
def Rd (w : World) (n : Nat) (A : Option Addr) (l : List UInt8) : Prop :=
  0 < l.length → ∃ b o, A = some ⟨b, o, none⟩ ∧ b < n ∧ ∀ j (h : j < l.length), w.cell? ⟨b, o + j, none⟩ = some (B l[j])
section
variable {w w' : World} {n : Nat} {A : Option Addr} {l : List UInt8}
theorem Rd.nil : Rd w n A [] := fun h => absurd h (by simp)
theorem Rd.below {m : Nat} (h : Rd w n A l) (hb : Below m w w') (hn : n ≤ m) : Rd w' n A l := fun h0 => by
  obtain ⟨b, o, e, hlt, hc⟩ := h h0
  exact ⟨b, o, e, hlt, fun j hj => (hb.cell (p := ⟨b, o + j, none⟩) (by show b < m; omega)).trans (hc j hj)⟩
theorem Rd.mono {m : Nat} (h : Rd w n A l) (hn : n ≤ m) : Rd w m A l := fun h0 => by
  obtain ⟨b, o, e, hlt, hc⟩ := h h0
  exact ⟨b, o, e, by omega, hc⟩
theorem Rd.at (h : Rd w n A l) {k : Nat} (hk : k < l.length) : ∃ b o, A = some ⟨b, o, none⟩ ∧ b < n ∧ w.cell? ⟨b, o + k, none⟩ = some (B l[k]) := by
  obtain ⟨b, o, e, hlt, hc⟩ := h (by omega)
  exact ⟨b, o, e, hlt, hc k hk⟩
end
theorem B_inj {a b : UInt8} (h : (a.toNat : Int) = (b.toNat : Int)) : a = b := UInt8.toNat_inj.1 (by exact_mod_cast h)
theorem take_eq_step {l m : List UInt8} {k : Nat} (h : l.take k = m.take k) (h1 : k < l.length) (h2 : k < m.length) (he : l[k] = m[k]) : l.take (k + 1) = m.take (k + 1) := by
  rw [List.take_succ_eq_append_getElem h1, List.take_succ_eq_append_getElem h2, h, he]
theorem beq_of_take {l m : List UInt8} {k : Nat} (h : l.take k = m.take k) (hk1 : k ≤ l.length) (hk2 : k ≤ m.length) (hk : ¬ (k < l.length ∧ k < m.length)) : (l == m) = ((l.length : Int) == (m.length : Int)) := by
  rw [Bool.eq_iff_iff, beq_iff_eq, beq_iff_eq]
  constructor
  · rintro rfl; rfl
  · intro e
    have e' : l.length = m.length := by omega
    have hk' : k = l.length := by omega
    subst hk'
    rw [List.take_length, e', List.take_length] at h
    exact h
theorem beq_of_ne {l m : List UInt8} {k : Nat} (h1 : k < l.length) (h2 : k < m.length) (he : l[k] ≠ m[k]) : (l == m) = false := by
  rw [beq_eq_false_iff_ne]
  rintro rfl
  exact he rfl
end Go.Proofs.Ytjimmfbjhkoekaa
/- Are two slices of bytes the same. -/
namespace Go.Proofs.Ytjimmfbjhkoekaa
open Go.RowKit
set_option maxRecDepth 100000
theorem same_any (A1 A2 : Option Addr) (l m : List UInt8) (c1 c2 : Nat) (w : World) (h1 : Rd w w.heap.size A1 l) (h2 : Rd w w.heap.size A2 m) (hl : l.length < 2 ^ 60) (hm : m.length < 2 ^ 60) :
    Calls Try.prog 36 #[.slice A1 l.length c1, .slice A2 m.length c2] w fun e w' => e = .returned (.bool (l == m)) ∧ Below w.heap.size w w' := by
  have H1 := Lib.hid h1; have H2 := Lib.hid h2
  clear h1 h2
  obtain ⟨q, hq⟩ : ∃ q, q = (l == m) := ⟨_, rfl⟩
  rw [← hq]
  have HQ := Lib.hid hq; clear hq
  go_enter Try.func36, Try.ntmps36
  go_wp2
  go_loopw [5] (fun i w' => ∃ k : Nat, k ≤ l.length ∧ k ≤ m.length ∧ Hid (l.take k = m.take k) ∧ i = .int .i64 k ∧ Below w.heap.size w w') (fun i _ => l.length - (intOf i).toNat)
  case atStart => exact ⟨0, by omega, by omega, rfl, rfl, Below.refl _ _⟩
  case round =>
    obtain ⟨k, hk1, hk2, hT, rfl, hbel⟩ := hrel
    by_cases hlt : k < l.length ∧ k < m.length
    · obtain ⟨hl1, hl2⟩ := hlt
      obtain ⟨b1, o1, rfl, hb1, hc1⟩ := (H1.out.below hbel (Nat.le_refl _)).at hl1
      obtain ⟨b2, o2, rfl, hb2, hc2⟩ := (H2.out.below hbel (Nat.le_refl _)).at hl2
      have hbs := hbel.size
      have d1 : decide ((k : Int) < (l.length : Int)) = true := by simp; omega
      have d2 : decide ((k : Int) < (m.length : Int)) = true := by simp; omega
      obtain ⟨x1, hx1⟩ : ∃ x, x = l[k] := ⟨_, rfl⟩
      obtain ⟨x2, hx2⟩ : ∃ x, x = m[k] := ⟨_, rfl⟩
      rw [← hx1] at hc1; rw [← hx2] at hc2
      have HX1 := Lib.hid hx1; have HX2 := Lib.hid hx2
      clear hx1 hx2
      by_cases he : x1 = x2
      · subst he
        go_wp2
        refine wp_region_later (wr.heap.size) (by kernel_rfl) (by kernel_rfl) ?_
        repeat (go_big_quiet_step (fail))
        (first | refine wpQuiet_nil ?_ | (go_big_quiet_want; (try go_big_quiet_op); trace_state; fail))
        intro w1 hw'
        have q1 := later_elim hw'
        clear hw'
        go_wp2
        go_roundw
        case rel => exact ⟨k + 1, by omega, by omega, take_eq_step hT hl1 hl2 (by rw [← HX1.out, ← HX2.out]), by go_num, hbel.trans (q1.mono hbs)⟩
        case measure => simp [intOf]; omega
      · have e : ((x1.toNat : Int) != (x2.toNat : Int)) = true := by simp only [bne_iff_ne, ne_eq]; exact fun h => he (B_inj h)
        have hq : q = false := by rw [HQ.out]; exact beq_of_ne hl1 hl2 (by rw [← HX1.out, ← HX2.out]; exact he)
        clear HQ HX1 HX2 hT
        subst hq
        clear he
        go_wp2
        refine wp_region_later (wr.heap.size) (by kernel_rfl) (by kernel_rfl) ?_
        repeat (go_big_quiet_step (fail))
        (first | refine wpQuiet_nil ?_ | (go_big_quiet_want; (try go_big_quiet_op); trace_state; fail))
        intro w1 hw'
        have q1 := later_elim hw'
        clear hw'
        go_wp2
        go_ret
        exact ⟨rfl, hbel.trans (q1.mono hbs)⟩
    · have hq := beq_of_take hT hk1 hk2 hlt
      rw [← HQ.out] at hq
      have HQ' := Lib.hid hq
      clear hq HQ hT
      by_cases h1 : k < l.length
      · have d1 : decide ((k : Int) < (l.length : Int)) = true := by simp; omega
        have d2 : decide ((k : Int) < (m.length : Int)) = false := by simp; omega
        have d3 : decide (k < m.length) = false := by simp; omega
        clear hlt
        go_wp2
        go_ret
        exact ⟨by rw [HQ'.out]; rfl, hbel⟩
      · have d1 : decide ((k : Int) < (l.length : Int)) = false := by simp; omega
        clear hlt
        go_wp2
        go_ret
        exact ⟨by rw [HQ'.out]; rfl, hbel⟩
end Go.Proofs.Ytjimmfbjhkoekaa
/- make, of bytes; a twin of bytes. -/
namespace Go.Proofs.Ytjimmfbjhkoekaa
open Go.RowKit
set_option maxRecDepth 100000
section
variable {P : Program}
def mkTo (X : Prop) (k : Nat → Nat → Prop) : Value → Value → Prop
  | .int _ l, .int _ c => if 0 ≤ l ∧ l ≤ c ∧ c ≤ 140737488355328 then k l.toNat c.toNat else X
  | _, _ => X
@[go_sem] theorem mkTo_int (X : Prop) (k : Nat → Nat → Prop) (k1 k2 : IntKind) (l c : Int) : mkTo X k (.int k1 l) (.int k2 c) = if 0 ≤ l ∧ l ≤ c ∧ c ≤ 140737488355328 then k l.toNat c.toNat else X := rfl
theorem made_bytes (n : Nat) : madeCells #[Value.int .u8 0] n = (List.map B (List.replicate n 0)).toArray := by
  apply Array.ext_getElem?
  intro i
  simp [madeCells, B]
  by_cases h : i < n
  · simp [h, Nat.mod_one]
  · simp [h]
theorem wp_make_bk (ty e : TypeId) (he : P.underlying ty = some (.slice e)) (hi : (P.info? e).map (fun i => (i.zero, i.size, i.bytes)) = some (some (.int .u8 0), 1, 1))
    (dst : Option Tmp) (x y : Operand) (t : TypeId) (pos : String) (af : Array Edge) (g : Option (Nat × Bool)) (a : Act) (w : World) (K : Act → World → Prop) (Q : Exit → Act → World → Prop) :
    Oper.wp P ⟨dst, .makeSlice ty x y, t, pos, af, g⟩ a w K Q = mkTo (wpHid P ⟨dst, .makeSlice ty x y, t, pos, af, g⟩ a w K Q)
      (fun n c => K (a.put dst (.slice (some ⟨w.heap.size, 0, none⟩) n c)) (w.alloc (.cells (List.map B (List.replicate c 0)).toArray e))) (a.eval x) (a.eval y) := by
  obtain ⟨i, hi1, hz, hs, hb⟩ := info_parts hi
  unfold mkTo
  split
  · rename_i k1 l k2 c h1 h2
    split
    · rename_i h
      have hr := run_make (P := P) w ty e i _ he hi1 hz k1 k2 l c h.1 h.2.1 (by rw [hb]; omega) (by omega)
      rw [hs, Nat.mul_one, show (Value.int .u8 0).cells = #[Value.int .u8 0] from rfl, made_bytes] at hr
      unfold Oper.wp execOp
      simp only [h1, h2, Sem.run_bind, hr, Result.andThen_ok]
      rfl
    · unfold wpHid; rfl
  · unfold wpHid; rfl
end
@[go_sem ↓] theorem mkBytes (dst : Option Tmp) (x y : Operand) (t : TypeId) (pos : String) (af : Array Edge) (g : Option (Nat × Bool)) (a : Act) (w : World) (K : Act → World → Prop) (Q : Exit → Act → World → Prop) :
    Oper.wp Try.prog ⟨dst, .makeSlice 27 x y, t, pos, af, g⟩ a w K Q = mkTo (wpHid Try.prog ⟨dst, .makeSlice 27 x y, t, pos, af, g⟩ a w K Q)
      (fun n c => K (a.put dst (.slice (some ⟨w.heap.size, 0, none⟩) n c)) (w.alloc (.cells (List.map B (List.replicate c 0)).toArray 5))) (a.eval x) (a.eval y) :=
  wp_make_bk 27 5 Try.underlying27 (by kernel_rfl) dst x y t pos af g a w K Q
/-- What a twin holds: the bytes, and four strange ones. -/
def tw (l : List UInt8) (x : UInt8) : List UInt8 := l ++ [x, x, x, x]
theorem tw_length (l : List UInt8) (x : UInt8) : (tw l x).length = l.length + 4 := by simp [tw]
def twK (l : List UInt8) (x : UInt8) (k : Nat) : List UInt8 := (tw l x).take k ++ List.replicate (l.length + 4 - k) 0
theorem twK_length (l : List UInt8) (x : UInt8) (k : Nat) (h : k ≤ l.length + 4) : (twK l x k).length = l.length + 4 := by
  simp [twK, tw_length]; omega
theorem twK_zero (l : List UInt8) (x : UInt8) : twK l x 0 = List.replicate (l.length + 4) 0 := by simp [twK]
theorem twK_all (l : List UInt8) (x : UInt8) : twK l x (l.length + 4) = tw l x := by
  simp [twK, List.take_of_length_le, tw_length]
theorem twK_set (l : List UInt8) (x y _z : UInt8) (k : Nat) (h : k < l.length + 4) (hy : (tw l x)[k]? = some y) : (twK l x k).set k y = twK l x (k + 1) := by
  have hk : k < (tw l x).length := by rw [tw_length]; exact h
  have hy' : (tw l x)[k] = y := by rw [List.getElem?_eq_getElem hk] at hy; exact Option.some.inj hy
  unfold twK
  rw [List.set_append_right _ _ (by simp; omega), List.length_take, Nat.min_eq_left (by omega), Nat.sub_self, List.take_succ_eq_append_getElem hk, hy',
    show l.length + 4 - k = (l.length + 4 - (k + 1)) + 1 by omega, List.replicate_succ]
  simp
theorem twin_any (A : Option Addr) (l : List UInt8) (c : Nat) (x : UInt8) (w : World) (h : Rd w w.heap.size A l) (hl : l.length < 2 ^ 46) :
    Calls Try.prog 43 #[.slice A l.length c, B x] w fun e w' => e = .returned (.slice (some ⟨w.heap.size, 0, none⟩) l.length (l.length + 4)) ∧
      bk w' w.heap.size = some (.cells (List.map B (tw l x)).toArray 5 (0, 0)) ∧ Below w.heap.size w w' := by
  have H := Lib.hid h; clear h
  have ht : ((l.length : Int) + 4).toNat = l.length + 4 := by omega
  go_enter Try.func43, Try.ntmps43
  go_wp2
  go_loopw [6] (fun i w' => ∃ k : Nat, k ≤ l.length + 4 ∧ i = .int .i64 k ∧ Below w.heap.size w w' ∧ w.heap.size + 1 ≤ w'.heap.size ∧ bk w' w.heap.size = some (.cells (List.map B (twK l x k)).toArray 5 (0, 0))) (fun i _ => l.length + 4 - (intOf i).toNat)
  case atStart =>
    refine ⟨0, by omega, rfl, (Below.refl _ _).alloc (Nat.le_refl _) _, by simp, ?_⟩
    rw [bk_alloc_at _ _ _ rfl, twK_zero]; simp
  case round =>
    obtain ⟨k, hk, rfl, hbel, hsz, hb⟩ := hrel
    by_cases hlt : k < l.length + 4
    · have d1 : decide ((k : Int) < (l.length : Int) + 4) = true := by simp; omega
      have hlen := twK_length l x k hk
      by_cases h2 : k < l.length
      · have d2 : decide ((k : Int) < (l.length : Int)) = true := by simp; omega
        obtain ⟨b1, o1, rfl, hb1, hc1⟩ := (H.out.below hbel (Nat.le_refl _)).at h2
        obtain ⟨y, hy⟩ : ∃ y, y = l[k] := ⟨_, rfl⟩
        rw [← hy] at hc1
        have hset : (twK l x k).set k y = twK l x (k + 1) := twK_set l x y 0 k hlt (by rw [tw, List.getElem?_append_left h2, List.getElem?_eq_getElem h2, hy])
        have HY := Lib.hid hset
        clear hset hy
        have hf := bk_frozen hb k
        have hc := bk_cell hb k
        have HB := Lib.hid hb
        clear hb
        go_wp2
        go_roundw
        case rel =>
          refine ⟨k + 1, by omega, by go_num, (hbel.setCell (Nat.le_refl _) _).setCell (Nat.le_refl _) _, by simpa [World.setCell] using hsz, ?_⟩
          rw [bk_setCell_same, bk_setCell_same, HB.out]
          show some (Obj.cells (((List.map B (twK l x k)).toArray.setIfInBounds k (B x)).setIfInBounds k (B y)) _ _) = _
          rw [map_set, map_set, List.set_set, HY.out]
        case measure => simp [intOf]; omega
      · have d2 : decide ((k : Int) < (l.length : Int)) = false := by simp; omega
        have hset : (twK l x k).set k x = twK l x (k + 1) := twK_set l x x 0 k hlt (by
          rw [tw, List.getElem?_append_right (by omega)]
          rcases (by omega : k - l.length = 0 ∨ k - l.length = 1 ∨ k - l.length = 2 ∨ k - l.length = 3) with e | e | e | e <;> rw [e] <;> rfl)
        have HY := Lib.hid hset
        clear hset
        have hf := bk_frozen hb k
        have hc := bk_cell hb k
        have HB := Lib.hid hb
        clear hb
        go_wp2
        go_roundw
        case rel =>
          refine ⟨k + 1, by omega, by go_num, hbel.setCell (Nat.le_refl _) _, by simpa [World.setCell] using hsz, ?_⟩
          rw [bk_setCell_same, HB.out]
          show some (Obj.cells ((List.map B (twK l x k)).toArray.setIfInBounds k (B x)) _ _) = _
          rw [map_set, HY.out]
        case measure => simp [intOf]; omega
    · have d1 : decide ((k : Int) < (l.length : Int) + 4) = false := by simp; omega
      have hk' : k = l.length + 4 := by omega
      rw [hk', twK_all] at hb
      clear hlt hk'
      go_wp2
      go_ret
      exact ⟨rfl, hb, hbel⟩
end Go.Proofs.Ytjimmfbjhkoekaa
/- Is a twin of bytes as it was made; the doors to same, twin, left of bytes. -/
namespace Go.Proofs.Ytjimmfbjhkoekaa
open Go.RowKit
set_option maxRecDepth 100000
theorem Rd.of_bk {w : World} {n g o : Nat} {L l : List UInt8} {t : TypeId} {fr : Nat × Nat} (h : bk w g = some (.cells (List.map B L).toArray t fr)) (hg : g < n) (hl : ∀ j (h : j < l.length), L[o + j]? = some l[j]) : Rd w n (some ⟨g, o, none⟩) l :=
  fun _ => ⟨g, o, rfl, hg, fun j hj => by rw [bk_cell h]; simp [hl j hj]⟩
theorem tw_head (l : List UInt8) (x : UInt8) (j : Nat) (h : j < l.length) : (tw l x)[0 + j]? = some l[j] := by
  rw [Nat.zero_add, tw, List.getElem?_append_left h, List.getElem?_eq_getElem h]
theorem tw_room (l : List UInt8) (x : UInt8) (j : Nat) (h : j < 4) : (tw l x)[l.length + j]? = some x := by
  rw [tw, List.getElem?_append_right (by omega), Nat.add_sub_cancel_left]
  rcases (by omega : j = 0 ∨ j = 1 ∨ j = 2 ∨ j = 3) with e | e | e | e <;> rw [e] <;> rfl
theorem left_any (A : Option Addr) (l : List UInt8) (c g : Nat) (x : UInt8) (w : World) (h : Rd w w.heap.size A l) (hl : l.length < 2 ^ 46) (hg : bk w g = some (.cells (List.map B (tw l x)).toArray 5 (0, 0))) :
    Calls Try.prog 55 #[.slice (some ⟨g, 0, none⟩) l.length (l.length + 4), .slice A l.length c, B x] w fun e w' => e = .returned (.bool true) ∧ Below w.heap.size w w' := by
  have CS := Lib.hid (same_any (some ⟨g, 0, none⟩) A l l (l.length + 4) c w (Rd.of_bk hg (bk_lt hg) (tw_head l x)) h (by omega) (by omega))
  rw [beq_self_eq_true] at CS
  have hr : ∀ j, j < 4 → w.cell? ⟨g, l.length + j, none⟩ = some (B x) := fun j hj => by rw [bk_cell hg]; simp [tw_room l x j hj]
  have hgl := bk_lt hg
  have HR := Lib.hid hr
  clear h hg hr
  go_enter Try.func55, Try.ntmps55
  go_wp2_with fail
  refine (CS.out).mono ?_
  rintro e w1 ⟨rfl, b1⟩
  have d1 : decide (l.length + 4 < l.length + 4) = false := by simp
  have d2 : decide ((l.length : Int) + 4 < (l.length : Int) + 4) = false := by simp
  have ht : ((l.length : Int) + 4).toNat = l.length + 4 := by omega
  go_wp2
  go_loopw [8] (fun i w' => ∃ k : Nat, k ≤ 4 ∧ i = .int .i64 k ∧ Below w.heap.size w w') (fun i _ => 4 - (intOf i).toNat)
  case atStart => exact ⟨0, by omega, rfl, b1⟩
  case round =>
    obtain ⟨k, hk, rfl, hbel⟩ := hrel
    by_cases hlt : k < 4
    · have d3 : decide ((k : Int) < 4) = true := by simp; omega
      have hc : wr.cell? ⟨g, l.length + k, none⟩ = some (B x) := (hbel.cell (p := ⟨g, l.length + k, none⟩) hgl).trans (HR.out k hlt)
      go_wp2
      go_roundw
      case rel => exact ⟨k + 1, by omega, by go_num, hbel⟩
      case measure => simp [intOf]; omega
    · have d3 : decide ((k : Int) < 4) = false := by simp; omega
      clear hlt
      go_wp2
      go_ret
      exact ⟨rfl, hbel⟩
theorem sameBytes_any (A1 A2 : Option Addr) (l m : List UInt8) (c1 c2 : Nat) (w : World) (h1 : Rd w w.heap.size A1 l) (h2 : Rd w w.heap.size A2 m) (hl : l.length < 2 ^ 60) (hm : m.length < 2 ^ 60) :
    Calls Try.prog 13 #[.slice A1 l.length c1, .slice A2 m.length c2] w fun e w' => e = .returned (.bool (l == m)) ∧ Below w.heap.size w w' := by
  have C := Lib.hid (same_any A1 A2 l m c1 c2 w h1 h2 hl hm)
  clear h1 h2
  generalize (l == m) = q at *
  go_enter Try.func13, Try.ntmps13
  go_wp2_with fail
  refine (C.out).mono ?_
  rintro e w1 ⟨rfl, b1⟩
  go_wp2_with fail
  go_ret
  exact ⟨rfl, b1⟩
theorem twinBytes_any (A : Option Addr) (l : List UInt8) (c : Nat) (w : World) (h : Rd w w.heap.size A l) (hl : l.length < 2 ^ 46) :
    Calls Try.prog 18 #[.slice A l.length c] w fun e w' => e = .returned (.slice (some ⟨w.heap.size, 0, none⟩) l.length (l.length + 4)) ∧
      bk w' w.heap.size = some (.cells (List.map B (tw l 199)).toArray 5 (0, 0)) ∧ Below w.heap.size w w' := by
  have C := Lib.hid (twin_any A l c 199 w h hl)
  clear h
  go_enter Try.func18, Try.ntmps18
  go_wp2_with fail
  refine C.out.mono ?_
  rintro e w1 ⟨rfl, h1, b1⟩
  go_wp2_with fail
  go_ret
  exact ⟨rfl, h1, b1⟩
theorem leftBytes_any (A : Option Addr) (l : List UInt8) (c g : Nat) (w : World) (h : Rd w w.heap.size A l) (hl : l.length < 2 ^ 46) (hg : bk w g = some (.cells (List.map B (tw l 199)).toArray 5 (0, 0))) :
    Calls Try.prog 22 #[.slice (some ⟨g, 0, none⟩) l.length (l.length + 4), .slice A l.length c] w fun e w' => e = .returned (.bool true) ∧ Below w.heap.size w w' := by
  have C := Lib.hid (left_any A l c g 199 w h hl hg)
  clear h hg
  go_enter Try.func22, Try.ntmps22
  go_wp2_with fail
  refine (C.out).mono ?_
  rintro e w1 ⟨rfl, b1⟩
  go_wp2_with fail
  go_ret
  exact ⟨rfl, b1⟩
end Go.Proofs.Ytjimmfbjhkoekaa
