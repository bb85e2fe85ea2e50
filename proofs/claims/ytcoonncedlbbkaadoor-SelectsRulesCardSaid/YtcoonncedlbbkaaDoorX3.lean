/- Selects: the book of labels: it is filled once. -/
import Derived.Test.YtcoonncedlbbkaaDoorX2
namespace Go.Proofs.YtcoonncedlbbkaaDoor
open Go.RowKit Ad
set_option maxRecDepth 100000
/-- Nothing but block g changes. -/
structure Gb (g : Nat) (w w' : World) : Prop where
  os : w'.os = w.os
  tape : w'.tape = w.tape
  output : w'.output = w.output
  size : w.heap.size ≤ w'.heap.size
  block : ∀ k, k < w.heap.size → k ≠ g → w'.heap[k]? = w.heap[k]?
theorem Gb.refl (g : Nat) (w : World) : Gb g w w := ⟨rfl, rfl, rfl, Nat.le_refl _, fun _ _ _ => rfl⟩
theorem Gb.trans {g : Nat} {a b c : World} (h : Gb g a b) (k : Gb g b c) : Gb g a c :=
  ⟨k.os.trans h.os, k.tape.trans h.tape, k.output.trans h.output, Nat.le_trans h.size k.size, fun i hi hn => (k.block i (Nat.lt_of_lt_of_le hi h.size) hn).trans (h.block i hi hn)⟩
theorem Gb.of {g : Nat} {w w' : World} (h : Below w.heap.size w w') : Gb g w w' := ⟨h.os, h.tape, h.output, h.size, fun k hk _ => h.block k hk⟩
theorem Gb.below {g n : Nat} {w w' : World} (h : Gb g w w') (hg : n ≤ g) (hn : n ≤ w.heap.size) : Below n w w' := ⟨h.os, h.tape, h.output, h.size, fun k hk => h.block k (by omega) (by omega)⟩
theorem Gb.keep {g m : Nat} {w w' : World} {o : Obj} (h : Gb g w w') (hm : m ≠ g) (hb : bk w m = some o) : bk w' m = some o := (h.block m (bk_lt hb) hm).trans hb
theorem Gb.setCell {g o : Nat} {v : Value} {w w' : World} (h : Gb g w w') : Gb g w (w'.setCell ⟨g, o, none⟩ v) :=
  ⟨h.os, h.tape, h.output, by simpa using h.size, fun k hk hn => (bk_setCell_other w' g o k v hn).trans (h.block k hk hn)⟩
theorem Gb.drew {g : Nat} {w w' : World} (h : Gb g w w') : Gb g w w'.drew := h.trans (Gb.of (Below.refl w'.heap.size w').drew)
/-- The table of labels. -/
def table : List (List UInt8 × Nat) := [([0, 0, 0, 0, 0, 0, 0, 0, 0, 0, 0, 0, 0, 0, 0, 1, 128], 0), ([0, 0, 0, 0, 0, 0, 0, 0, 0, 0, 255, 255, 0, 0, 0, 0, 96], 4), ([0, 0, 0, 0, 0, 0, 0, 0, 0, 0, 0, 0, 0, 0, 0, 0, 96], 3), ([32, 1, 0, 0, 0, 0, 0, 0, 0, 0, 0, 0, 0, 0, 0, 0, 32], 5), ([32, 2, 0, 0, 0, 0, 0, 0, 0, 0, 0, 0, 0, 0, 0, 0, 16], 2), ([63, 254, 0, 0, 0, 0, 0, 0, 0, 0, 0, 0, 0, 0, 0, 0, 16], 12), ([254, 192, 0, 0, 0, 0, 0, 0, 0, 0, 0, 0, 0, 0, 0, 0, 10], 11), ([252, 0, 0, 0, 0, 0, 0, 0, 0, 0, 0, 0, 0, 0, 0, 0, 7], 13), ([0, 0, 0, 0, 0, 0, 0, 0, 0, 0, 0, 0, 0, 0, 0, 0, 0], 1)]
def tabC : Array Value := (table.flatMap fun x => List.map B x.1 ++ [Value.int .i64 (x.2 : Int)]).toArray
def Bc (d s : Int) (v : Value) : Array Value := #[.int .u32 d, .int .i32 s, .int .u32 0, v]
@[go_sem] theorem Bc_size (d s : Int) (v : Value) : (Bc d s v).size = 4 := rfl
@[go_sem] theorem Bc_0 (d s : Int) (v : Value) : (Bc d s v)[0]? = some (.int .u32 d) := rfl
@[go_sem] theorem Bc_1 (d s : Int) (v : Value) : (Bc d s v)[1]? = some (.int .i32 s) := rfl
@[go_sem] theorem Bc_3 (d s : Int) (v : Value) : (Bc d s v)[3]? = some v := rfl
theorem known1 : knownA 1 = [0, 0, 0, 0, 0, 0, 0, 0, 0, 0, 0, 0, 0, 0, 0, 1] := by rfl
/-- The book is new; it is filled. -/
def Bn (g : Nat) (w : World) : Prop := 0 < g ∧ bk w g = some (.cells (Bc 0 0 (.slice none 0 0)) 59 (0, 0))
def Bf (g : Nat) (w : World) : Prop := 0 < g ∧ ∃ rs, rs ≠ g ∧ bk w g = some (.cells (Bc 1 0 (.slice (some ⟨rs, 0, none⟩) 9 9)) 59 (0, 0)) ∧ bk w rs = some (.cells tabC 76 (0, 0))
theorem Bf.below {g n : Nat} {w w' : World} (h : Bf g w) (hb : Below n w w') (hn : w.heap.size ≤ n) : Bf g w' := by
  obtain ⟨h0, rs, h1, h2, h3⟩ := h
  exact ⟨h0, rs, h1, bk_keep hb (Nat.lt_of_lt_of_le (bk_lt h2) hn) h2, bk_keep hb (Nat.lt_of_lt_of_le (bk_lt h3) hn) h3⟩
theorem Bn.below {g n : Nat} {w w' : World} (h : Bn g w) (hb : Below n w w') (hn : w.heap.size ≤ n) : Bn g w' :=
  ⟨h.1, bk_keep hb (Nat.lt_of_lt_of_le (bk_lt h.2) hn) h.2⟩
set_option maxHeartbeats 1000000 in
theorem fill_any (g : Nat) (d s : Int) (v : Value) (w : World) (hk : GK w) (hb : bk w g = some (.cells (Bc d s v) 59 (0, 0))) :
    Calls Tryd.prog 34 #[.pointer (some ⟨g, 0, none⟩)] w fun e w' => e = .returned (.tuple #[]) ∧ ∃ rs, rs ≠ g ∧ w.heap.size ≤ rs ∧ bk w' g = some (.cells (Bc d s (.slice (some ⟨rs, 0, none⟩) 9 9)) 59 (0, 0)) ∧ bk w' rs = some (.cells tabC 76 (0, 0)) ∧ Gb g w w' := by
  have C := loopback_any w hk
  rw [known1] at C
  replace C := Lib.hid C
  have hlt := bk_lt hb
  have KB := Lib.hid hb
  clear hb hk
  go_enter Tryd.func34, Tryd.ntmps34
  go_wp2_with fail
  refine C.out.mono ?_
  rintro e w1 ⟨rfl, b1⟩
  have k1 := bk_keep b1 hlt KB.out
  have n1 := b1.size
  have c3 := bk_cell k1 3
  have f3 := bk_frozen k1 3
  have l1 := bk_lt k1
  rw [Bc_3] at c3
  have K1 := Lib.hid k1; have B1 := Lib.hid b1
  clear C k1 b1
  go_wp2_with fail
  have a1 : bk ((w1.setCell ⟨g, 3, none⟩ (.slice (some ⟨w1.heap.size, 0, none⟩) 9 9)).alloc (.cells tabC 76 (0, 0))) g = some (.cells (Bc d s (.slice (some ⟨w1.heap.size, 0, none⟩) 9 9)) 59 (0, 0)) := by
    refine (bk_alloc_past _ _ _ (by simp; omega)).trans ?_
    rw [bk_setCell_same, K1.out]
    rfl
  have a2 : bk ((w1.setCell ⟨g, 3, none⟩ (.slice (some ⟨w1.heap.size, 0, none⟩) 9 9)).alloc (.cells tabC 76 (0, 0))) w1.heap.size = some (.cells tabC 76 (0, 0)) := bk_alloc_at _ _ _ (by simp)
  have a3 : Gb g w ((w1.setCell ⟨g, 3, none⟩ (.slice (some ⟨w1.heap.size, 0, none⟩) 9 9)).alloc (.cells tabC 76 (0, 0))) :=
    (Gb.of B1.out).trans ((Gb.refl g w1).setCell.trans (Gb.of ((Below.refl _ _).alloc (Nat.le_refl _) _)))
  have AA := Lib.hid (And.intro a1 (And.intro a2 a3))
  clear a1 a2 a3
  go_end0
  exact ⟨rfl, w1.heap.size, by omega, n1, AA.out.1, AA.out.2.1, AA.out.2.2⟩
theorem loadB_any (a : Addr) (d : Int) (w : World) (h0 : w.cell? a = some (.int .u32 d)) :
    Calls Tryd.prog 39 #[.pointer (some a)] w fun e w' => e = .returned (.bool (d != 0)) ∧ w' = w := by
  have hl := run_call_load (P := Tryd.prog) Tryd.func42 (by kernel_rfl) (by kernel_rfl) (by kernel_rfl) .u32 (by kernel_rfl) h0
  go_enter Tryd.func39, Tryd.ntmps39
  go_wp2
  go_ret
  exact ⟨rfl, rfl⟩
set_option maxHeartbeats 1000000 in
theorem slow_any (g : Nat) (w : World) (hk : GK w) (hb : Bn g w) :
    Calls Tryd.prog 40 #[.pointer (some ⟨g, 0, none⟩), .func (.func 34) #[.pointer (some ⟨g, 0, none⟩)] #[]] w fun e w' => e = .returned (.tuple #[]) ∧ Bf g w' ∧ Gb g w w' := by
  obtain ⟨hg0, kb⟩ := hb
  have c1 := bk_cell kb 1; rw [Bc_1] at c1
  have f1 := bk_frozen kb 1
  have CL := Lib.hid (lock_free ⟨g, 1, none⟩ w c1 f1)
  have k1 : bk (w.setCell ⟨g, 1, none⟩ (.int .i32 1)) g = some (.cells (Bc 0 1 (.slice none 0 0)) 59 (0, 0)) := by
    rw [bk_setCell_same, kb]; rfl
  have gk1 : GK (w.setCell ⟨g, 1, none⟩ (.int .i32 1)) := by
    obtain ⟨c, t, fr, h1, h2⟩ := hk
    exact ⟨c, t, fr, (bk_setCell_other _ _ _ _ _ (by omega)).trans h1, h2⟩
  have B1 : Gb g w (w.setCell ⟨g, 1, none⟩ (.int .i32 1)) := (Gb.refl g w).setCell
  generalize w.setCell ⟨g, 1, none⟩ (.int .i32 1) = w1 at *
  have c0 := bk_cell k1 0; rw [Bc_0] at c0
  have CB := Lib.hid (loadB_any ⟨g, 0, none⟩ 0 w1 c0)
  have CF := Lib.hid (fill_any g 0 1 _ w1 gk1 k1)
  have hnot : ∀ (x : Bool) (w : World), (Op.unary .not (.bool x)).run Tryd.prog w = .ok (.bool (!x)) w := fun _ _ => rfl
  have B1' := Lib.hid B1
  clear c0 c1 f1 kb k1 gk1 B1 hk
  go_enter_defers Tryd.func40, Tryd.ntmps40
  go_wp2_with fail
  refine CL.out.mono ?_
  rintro e w' ⟨rfl, rfl⟩
  go_wp2_with fail
  refine CB.out.mono ?_
  rintro e w2 ⟨rfl, rfl⟩
  go_wp2_with fail
  refine CF.out.mono ?_
  rintro e w3 ⟨rfl, rs, hrs, hrl, k3, r3, B3⟩
  have d0 := bk_cell k3 0; rw [Bc_0] at d0
  have f0 := bk_frozen k3 0
  have k4 : bk (w3.drew.setCell ⟨g, 0, none⟩ (.int .u32 1)) g = some (.cells (Bc 1 1 (.slice (some ⟨rs, 0, none⟩) 9 9)) 59 (0, 0)) := by
    rw [bk_setCell_same, show bk w3.drew g = bk w3 g from rfl, k3]; rfl
  have r4 : bk (w3.drew.setCell ⟨g, 0, none⟩ (.int .u32 1)) rs = some (.cells tabC 76 (0, 0)) := (bk_setCell_other _ _ _ _ _ hrs).trans r3
  have B4 : Gb g w (w3.drew.setCell ⟨g, 0, none⟩ (.int .u32 1)) := (B1'.out.trans B3.drew).setCell
  have d1 := bk_cell k4 1; rw [Bc_1] at d1
  have f1 := bk_frozen k4 1
  have FIN : Hid (Bf g ((w3.drew.setCell ⟨g, 0, none⟩ (.int .u32 1)).setCell ⟨g, 1, none⟩ (.int .i32 0)) ∧ Gb g w ((w3.drew.setCell ⟨g, 0, none⟩ (.int .u32 1)).setCell ⟨g, 1, none⟩ (.int .i32 0))) := Lib.hid ⟨⟨hg0, rs, hrs, by rw [bk_setCell_same, k4]; rfl, (bk_setCell_other _ _ _ _ _ hrs).trans r4⟩, B4.setCell⟩
  have HD := Lib.hid (And.intro d0 (And.intro f0 (And.intro d1 f1)))
  clear k3 r3 B3 k4 r4 B4 d0 f0 d1 f1 CF CB CL B1'
  go_wp2
  obtain ⟨d0, f0, d1, f1⟩ := HD.out
  refine leaves_cons (f := 45) (args := #[.pointer (some ⟨g, 0, none⟩), .bool true]) (by simp) (by simp [go_sem]) ?_
  refine (store_deferred ⟨g, 0, none⟩ (.int .u32 0) .returning _ d0 f0).mono ?_
  rintro e u' w'' ⟨rfl, rfl, rfl⟩
  refine leaves_cons (f := 44) (args := #[.pointer (some ⟨g, 1, none⟩)]) (by simp [settle]) (by simp [go_sem]) ?_
  refine (unlock_deferred ⟨g, 1, none⟩ _ _ d1 f1).mono ?_
  rintro e u' w'' ⟨rfl, rfl, rfl⟩
  simp only [Leaves, settle, results, Tryd.results40]
  simp [FIN.out]
end Go.Proofs.YtcoonncedlbbkaaDoor
