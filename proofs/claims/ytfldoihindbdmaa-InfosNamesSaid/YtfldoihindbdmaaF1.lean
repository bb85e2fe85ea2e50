/- Infos: words of chance. -/
import Derived.Test.YtfldoihindbdmaaF0
import Derived.BigRegion
import Derived.Deep.Cut
import Derived.Deep.DeepCutAuto
namespace Go.Proofs.Ytfldoihindbdmaa
open Go.RowKit
set_option maxRecDepth 100000
set_option maxHeartbeats 1000000
/-- Only these blocks turn. -/
structure Tn (F : Nat → Prop) (w w' : World) : Prop where
  os : w'.os = w.os
  tape : w'.tape = w.tape
  output : w'.output = w.output
  size : w.heap.size ≤ w'.heap.size
  old : ∀ k, k < w.heap.size → ¬ F k → bk w' k = bk w k
theorem Tn.refl (F : Nat → Prop) (w : World) : Tn F w w := ⟨rfl, rfl, rfl, Nat.le_refl _, fun _ _ _ => rfl⟩
theorem Tn.trans {F G : Nat → Prop} {w w' w'' : World} (h : Tn F w w') (k : Tn G w' w'') (hg : ∀ j, G j → F j ∨ w.heap.size ≤ j) : Tn F w w'' :=
  ⟨k.os.trans h.os, k.tape.trans h.tape, k.output.trans h.output, Nat.le_trans h.size k.size, fun i hi hn => (k.old i (Nat.lt_of_lt_of_le hi h.size) (fun hG => by
    rcases hg i hG with hF | hl
    · exact hn hF
    · omega)).trans (h.old i hi hn)⟩
theorem Tn.of {F : Nat → Prop} {w w' : World} (h : Below w.heap.size w w') : Tn F w w' := ⟨h.os, h.tape, h.output, h.size, fun i hi _ => h.block i hi⟩
theorem Tn.keep {F : Nat → Prop} {m : Nat} {w w' : World} {o : Obj} (h : Tn F w w') (hm : ¬ F m) (hk : bk w m = some o) : bk w' m = some o := (h.old m (bk_lt hk) hm).trans hk
theorem Tn.below {F : Nat → Prop} {n : Nat} {w w' : World} (h : Tn F w w') (hn : ∀ k, F k → n ≤ k) (hw : n ≤ w.heap.size) : Below n w w' :=
  ⟨h.os, h.tape, h.output, h.size, fun k hk => h.old k (by omega) (fun hF => by have := hn k hF; omega)⟩
theorem Tn.mono {F G : Nat → Prop} {w w' : World} (h : Tn F w w') (hF : ∀ k, F k → G k) : Tn G w w' := ⟨h.os, h.tape, h.output, h.size, fun k hk hn => h.old k hk fun hf => hn (hF k hf)⟩
theorem Tn.set {F : Nat → Prop} {g i : Nat} {w w' : World} {v : Value} (h : Tn F w w') (hg : F g ∨ w.heap.size ≤ g) : Tn F w (w'.setCell ⟨g, i, none⟩ v) :=
  ⟨h.os, h.tape, h.output, by simpa using h.size, fun k hk hn => (bk_setCell_other _ _ _ _ _ (fun e => by
    subst e
    rcases hg with hg | hg
    · exact hn hg
    · omega)).trans (h.old k hk hn)⟩
/-- The words' box: their ring, where the first one lies, how many there are. -/
def wdC (R : List Nat) (f m : Nat) : Array Value := (R.map (fun n : Nat => Value.int .u32 (n : Int)) ++ [Value.int .i64 (f : Int), Value.int .i64 (m : Int), Value.bool true]).toArray
section
variable {R : List Nat} {f m : Nat}
theorem wdC_first (h : R.length = 256) : (wdC R f m)[256]? = some (.int .i64 (f : Int)) := by simp [wdC, h]
theorem wdC_many (h : R.length = 256) : (wdC R f m)[257]? = some (.int .i64 (m : Int)) := by simp [wdC, h]
theorem wdC_made (h : R.length = 256) : (wdC R f m)[258]? = some (.bool true) := by simp [wdC, h]
theorem wdC_ring {k x : Nat} (h : R[k]? = some x) : (wdC R f m)[k]? = some (.int .u32 (x : Int)) := by
  obtain ⟨hk, hx⟩ := List.getElem?_eq_some_iff.1 h
  simp [wdC, List.getElem?_append_left, hk, hx]
theorem wdC_set256 (h : R.length = 256) (y : Nat) : (wdC R f m).setIfInBounds 256 (.int .i64 (y : Int)) = wdC R y m := by
  apply Array.toList_inj.1
  simp [wdC, List.set_append, h]
theorem wdC_set257 (h : R.length = 256) (y : Nat) : (wdC R f m).setIfInBounds 257 (.int .i64 (y : Int)) = wdC R f y := by
  apply Array.toList_inj.1
  simp [wdC, List.set_append, h]
theorem wdC_setk (k y : Nat) (h : k < R.length) : (wdC R f m).setIfInBounds k (.int .u32 (y : Int)) = wdC (R.set k y) f m := by
  apply Array.toList_inj.1
  simp [wdC, List.set_append, h, List.map_set]
end
structure WdR (w : World) (g : Nat) (R : List Nat) (f : Nat) (l : List Nat) : Prop where
  box : bk w g = some (.cells (wdC R f l.length) 84 (0, 0))
  ring : R.length = 256
  f256 : f < 256
  few : l.length ≤ 256
  at' : ∀ i (h : i < l.length), R[(f + i) % 256]? = some l[i]
  u32 : ∀ x ∈ l, x < 4294967296
def WdB (w : World) (p : Option Addr) (l : List Nat) : Prop := (p = none ∧ l = []) ∨ ∃ g R f, p = some ⟨g, 0, none⟩ ∧ WdR w g R f l
def WF (p : Option Addr) (k : Nat) : Prop := ∃ o, p = some ⟨k, o, none⟩
theorem WdB.keep {F : Nat → Prop} {w w' : World} {p : Option Addr} {l : List Nat} (h : WdB w p l) (ht : Tn F w w') (hF : ∀ k, WF p k → ¬ F k) : WdB w' p l := by
  rcases h with h | ⟨g, R, f, rfl, h⟩
  · exact .inl h
  · exact .inr ⟨g, R, f, rfl, ht.keep (hF g ⟨0, rfl⟩) h.box, h.ring, h.f256, h.few, h.at', h.u32⟩
theorem place_any (g f i k : Nat) (R : List Nat) (m : Nat) (w : World) (h : bk w g = some (.cells (wdC R f m) 84 (0, 0))) (hR : R.length = 256) (hf : f < 256) (hi : i ≤ 256) (hk : (f + i) % 256 = k) :
    Calls Try.prog 36 #[.pointer (some ⟨g, 0, none⟩), .int .i64 (i : Int)] w fun e w' => e = .returned (.pointer (some ⟨g, k, none⟩)) ∧ Below w.heap.size w w' := by
  have c1 := (bk_cell h 256).trans (wdC_first hR)
  have lg := bk_lt h
  have hk2 : k < 256 := by omega
  have e1 : (((f : Int) + (i : Int)).tmod 256) = (k : Int) := by rw [Int.tmod_eq_emod_of_nonneg (by omega)]; omega
  have e2 : (((f : Int) + (i : Int)) % 256) = (k : Int) := by omega
  have e0 : wrap64 ((f : Int) + (i : Int)) = (f : Int) + (i : Int) := by unfold wrap64; omega
  clear h hk
  go_enter Try.func36, Try.ntmps36
  go_wp2_with fail
  go_region
  go_wp2_with fail
  go_ret
  exact ⟨rfl, (by (repeat (first | exact Below.refl _ _ | assumption | refine Below.drew ?_ | refine bdrewN ?_ _ | refine Below.alloc ?_ (by first | omega | (simp <;> omega) | (simp only [World.size_alloc] <;> omega)) _ | refine below_setRow ?_ (by first | omega | (simp <;> omega)) _ | refine Below.setCell ?_ (by first | omega | (simp <;> omega)) _)))⟩
theorem wnext_any (p : Option Addr) (l : List Nat) (w : World) (h : WdB w p l) :
    Calls Try.prog 31 #[.pointer p] w fun e w' => e = .returned (.int .u32 ((l.headD 0 : Nat) : Int)) ∧ WdB w' p l.tail ∧ Tn (WF p) w w' := by
  rcases h with ⟨rfl, rfl⟩ | ⟨g, R, f, rfl, h⟩
  · go_enter Try.func31, Try.ntmps31
    go_wp2_with fail
    go_ret
    exact ⟨rfl, .inl ⟨rfl, rfl⟩, Tn.refl _ _⟩
  · have c1 := (bk_cell h.box 256).trans (wdC_first h.ring)
    have c2 := (bk_cell h.box 257).trans (wdC_many h.ring)
    have lg := bk_lt h.box
    have fz := h.f256
    have few := h.few
    have HH := Lib.hid h
    cases l with
    | nil =>
      clear h
      go_enter Try.func31, Try.ntmps31
      go_wp2_with fail
      go_ret
      exact ⟨rfl, .inr ⟨g, R, f, rfl, HH.out⟩, Tn.refl _ _⟩
    | cons a t =>
      have ha := h.at' 0 (by simp)
      rw [Nat.add_zero, Nat.mod_eq_of_lt h.f256] at ha
      have C := Lib.hid (place_any g f 0 f R _ w h.box h.ring h.f256 (by omega) (by omega))
      have n1 : (((a :: t).length : Int) == 0) = false := beq_eq_false_iff_ne.2 (by simp; omega)
      obtain ⟨N, hN⟩ : ∃ N, N = t.length := ⟨_, rfl⟩
      have hN1 : (a :: t).length = N + 1 := by simp [hN]
      rw [hN1] at c2 n1 few
      obtain ⟨f2, hf2⟩ : ∃ x, x = (f + 1) % 256 := ⟨_, rfl⟩
      have e1 : (((f : Int) + 1).tmod 256) = (f2 : Int) := by rw [Int.tmod_eq_emod_of_nonneg (by omega)]; omega
      have e2 : (((f : Int) + 1) % 256) = (f2 : Int) := by omega
      have FIN : Hid (∀ w1, Below w.heap.size w w1 → WdB ((w1.setCell ⟨g, 256, none⟩ (.int .i64 (f2 : Int))).setCell ⟨g, 257, none⟩ (.int .i64 (N : Int))) (some ⟨g, 0, none⟩) t ∧ Tn (WF (some ⟨g, 0, none⟩)) w ((w1.setCell ⟨g, 256, none⟩ (.int .i64 (f2 : Int))).setCell ⟨g, 257, none⟩ (.int .i64 (N : Int)))) := Lib.hid fun w1 b1 => by
        have k1 := bk_keep b1 lg h.box
        refine ⟨.inr ⟨g, R, f2, rfl, ⟨?_, h.ring, by omega, by omega, fun i hi => ?_, fun x hx => h.u32 x (by simp [hx])⟩⟩, ((Tn.of b1).set (.inl ⟨0, rfl⟩)).set (.inl ⟨0, rfl⟩)⟩
        · rw [bk_setCell_same, bk_setCell_same, k1]
          simp only [Option.map_some, putObj_cells]
          rw [wdC_set256 h.ring, wdC_set257 h.ring, hN]
        · have := h.at' (i + 1) (by simp; omega)
          rw [List.getElem_cons_succ] at this
          rw [← this, hf2]
          congr 1
          omega
      clear h hN hf2
      go_enter Try.func31, Try.ntmps31
      go_wp2_with fail
      refine (C.out).mono ?_
      rintro e w1 ⟨rfl, b1⟩
      have F2 := FIN.out w1 b1
      have HF := Lib.hid F2
      have k1 := bk_keep b1 (bk_lt HH.out.box) HH.out.box
      have c0 := (bk_cell k1 f).trans (wdC_ring ha)
      have c1' := (bk_cell k1 256).trans (wdC_first HH.out.ring)
      have c2' := (bk_cell k1 257).trans (wdC_many HH.out.ring)
      rw [hN1] at c2'
      have fr1 := bk_frozen k1 256
      have fr2 := bk_frozen k1 257
      have l1 := bk_lt k1
      clear F2 FIN k1 c1 c2 C
      go_wp2_with fail
      go_ret
      exact ⟨rfl, HF.out⟩
/-- A number below one. -/
def belT (x n : Nat) : Nat := x * n / 4294967296
theorem belT_lt {x n : Nat} (hx : x < 4294967296) (hn : 0 < n) : belT x n < n := by
  unfold belT
  rw [Nat.div_lt_iff_lt_mul (by decide), Nat.mul_comm n]
  exact Nat.mul_lt_mul_of_pos_right hx hn
theorem WdB.head {w : World} {p : Option Addr} {l : List Nat} (h : WdB w p l) : l.headD 0 < 4294967296 := by
  rcases h with ⟨_, rfl⟩ | ⟨g, R, f, _, h⟩
  · decide
  · cases l with
    | nil => decide
    | cons a t => exact h.u32 a (by simp)
theorem wbelow_any (p : Option Addr) (l : List Nat) (n : Nat) (w : World) (h : WdB w p l) (hn : n < 4294967296) :
    Calls Try.prog 32 #[.pointer p, .int .u32 (n : Int)] w fun e w' => e = .returned (.int .u32 ((belT (l.headD 0) n : Nat) : Int)) ∧ WdB w' p l.tail ∧ Tn (WF p) w w' := by
  have C := Lib.hid (wnext_any p l w h)
  have hx := h.head
  obtain ⟨x, hxx⟩ : ∃ x, x = l.headD 0 := ⟨_, rfl⟩
  rw [← hxx] at C hx ⊢
  obtain ⟨q, hq⟩ : ∃ q, q = belT x n := ⟨_, rfl⟩
  have hm : x * n < 18446744073709551616 := Nat.lt_of_le_of_lt (Nat.mul_le_mul (Nat.le_sub_one_of_lt hx) (Nat.le_sub_one_of_lt hn)) (by decide)
  obtain ⟨z, hz⟩ : ∃ z, z = x * n := ⟨_, rfl⟩
  have hz' : (x : Int) * (n : Int) = (z : Int) := by rw [hz]; rfl
  have hq' : q = z / 4294967296 := by rw [hq, hz]; rfl
  rw [← hz] at hm
  rw [← hq]
  have m1 : (z : Int) / 4294967296 = (q : Int) := by omega
  have m2 : (q : Int) % 4294967296 = (q : Int) := by omega
  clear h hxx hq hz hq'
  go_enter Try.func32, Try.ntmps32
  go_wp2_with fail
  refine C.out.mono ?_
  rintro e w1 ⟨rfl, h1, t1⟩
  go_wp2_with fail
  go_ret
  exact ⟨rfl, h1, t1⟩
end Go.Proofs.Ytfldoihindbdmaa
