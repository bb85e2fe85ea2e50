import Derived.Test.YtfldoihindbdmaaMgE
import Derived.BigRegion
import Derived.Deep.Cut
import Derived.Deep.DeepCutAuto
import Derived.Deep.Onto
import Derived.Maps.AppendAt
/- Infos: times, parts of a time. -/
namespace Go.Proofs.Ytfldoihindbdmaa
open Go.RowKit
set_option maxRecDepth 100000
set_option maxHeartbeats 1000000
def far : Nat := 9223372036854775807
def addT (a b : Nat) : Nat := if a > far ∨ b > far ∨ a + b > far then far else a + b
theorem addT_le (a b : Nat) : addT a b ≤ far := by unfold addT; split <;> omega
theorem addT_eq {a b : Nat} (h : a + b ≤ far) : addT a b = a + b := by unfold addT; rw [if_neg (by omega)]
theorem cadd_any (a b : Nat) (w : World) (ha : a < 2 ^ 64) (hb : b < 2 ^ 64) : Calls Try.prog 29 #[.int .u64 (a : Int), .int .u64 (b : Int)] w fun e w' => e = .returned (.int .u64 (addT a b : Nat)) ∧ w = w' := by
  obtain ⟨r, hr⟩ : ∃ r, r = addT a b := ⟨_, rfl⟩
  rw [← hr]
  unfold addT far at hr
  by_cases h1 : a > 9223372036854775807
  · rw [if_pos (by omega)] at hr
    subst hr
    have d1 : decide ((9223372036854775807 : Int) < (a : Int)) = true := by simp; omega
    have d2 : decide (9223372036854775807 < a) = true := by simp; omega
    go_enter Try.func29, Try.ntmps29
    go_wp2_with fail
    go_ret
    exact ⟨rfl, rfl⟩
  have d1 : decide ((9223372036854775807 : Int) < (a : Int)) = false := by simp; omega
  have d2 : decide (9223372036854775807 < a) = false := by simp; omega
  by_cases h2 : b > 9223372036854775807
  · rw [if_pos (by omega)] at hr
    subst hr
    have d3 : decide ((9223372036854775807 : Int) < (b : Int)) = true := by simp; omega
    have d4 : decide (9223372036854775807 < b) = true := by simp; omega
    go_enter Try.func29, Try.ntmps29
    go_wp2_with fail
    go_ret
    exact ⟨rfl, rfl⟩
  have d3 : decide ((9223372036854775807 : Int) < (b : Int)) = false := by simp; omega
  have d4 : decide (9223372036854775807 < b) = false := by simp; omega
  obtain ⟨x, hx⟩ : ∃ x, x = 9223372036854775807 - b := ⟨_, rfl⟩
  have m1 : ((9223372036854775807 : Int) - (b : Int)) % 18446744073709551616 = (x : Int) := by omega
  by_cases h3 : a + b > 9223372036854775807
  · rw [if_pos (by omega)] at hr
    subst hr
    have d5 : decide ((x : Int) < (a : Int)) = true := by simp; omega
    have d6 : decide (x < a) = true := by simp; omega
    clear hx
    go_enter Try.func29, Try.ntmps29
    go_wp2_with fail
    go_ret
    exact ⟨rfl, rfl⟩
  · rw [if_neg (by omega)] at hr
    have d5 : decide ((x : Int) < (a : Int)) = false := by simp; omega
    have d6 : decide (x < a) = false := by simp; omega
    clear hx
    go_enter Try.func29, Try.ntmps29
    go_wp2_with fail
    go_ret
    subst hr
    exact ⟨rfl, rfl⟩
def secT (n : Nat) : Nat := if n = 4294967295 then far else 1000 * n
theorem csecs_any (n : Nat) (w : World) (hn : n < 4294967296) : Calls Try.prog 30 #[.int .u32 (n : Int)] w fun e w' => e = .returned (.int .u64 (secT n : Nat)) ∧ w = w' := by
  obtain ⟨r, hr⟩ : ∃ r, r = secT n := ⟨_, rfl⟩
  rw [← hr]
  unfold secT far at hr
  by_cases h1 : n = 4294967295
  · rw [if_pos h1] at hr
    subst hr h1
    go_enter Try.func30, Try.ntmps30
    go_wp2_with fail
    go_ret
    exact ⟨rfl, rfl⟩
  · rw [if_neg h1] at hr
    have d1 : ((n : Int) == 4294967295) = false := beq_eq_false_iff_ne.2 (by omega)
    go_enter Try.func30, Try.ntmps30
    go_wp2_with fail
    go_ret
    exact ⟨by rw [hr, show ((1000 * n : Nat) : Int) = (n : Int) * 1000 by omega]; rfl, rfl⟩
/-- A part of a time: r thousandths more. -/
def partT (t : Nat) (r : Int) : Nat := ((t : Int) + ((t : Int) * r).tdiv 1000).toNat
theorem partT_eq (t : Nat) (r : Int) (hr : -100 ≤ r ∧ r ≤ 100) : ((t : Int) + ((t : Int) * r).tdiv 1000) = (partT t r : Int) ∧ 9 * t ≤ 10 * partT t r ∧ 10 * partT t r ≤ 11 * t := by
  have h1 : (t : Int) * r ≤ (t : Int) * 100 := Int.mul_le_mul_of_nonneg_left hr.2 (by omega)
  have h2 : (t : Int) * (-100) ≤ (t : Int) * r := Int.mul_le_mul_of_nonneg_left hr.1 (by omega)
  obtain ⟨z, hz⟩ : ∃ z, z = (t : Int) * r := ⟨_, rfl⟩
  unfold partT
  rw [← hz] at h1 h2 ⊢
  rcases Int.le_total 0 z with h | h
  · rw [Int.tdiv_eq_ediv_of_nonneg h]
    omega
  · obtain ⟨y, hy⟩ := Int.exists_eq_neg_ofNat h
    rw [hy, Int.neg_tdiv, Int.tdiv_eq_ediv_of_nonneg (by omega)]
    omega
theorem part_any (t : Nat) (r : Int) (w : World) (ht : t ≤ 3600000) (hr : -100 ≤ r ∧ r ≤ 100) : Calls Try.prog 63 #[.int .u64 (t : Int), .int .i64 r] w fun e w' => e = .returned (.int .u64 (partT t r : Nat)) ∧ w = w' := by
  have hp := partT_eq t r hr
  have h1 : (t : Int) * r ≤ (t : Int) * 100 := Int.mul_le_mul_of_nonneg_left hr.2 (by omega)
  have h2 : (t : Int) * (-100) ≤ (t : Int) * r := Int.mul_le_mul_of_nonneg_left hr.1 (by omega)
  obtain ⟨z, hz⟩ : ∃ z, z = (t : Int) * r := ⟨_, rfl⟩
  obtain ⟨p, hpp⟩ : ∃ p, p = partT t r := ⟨_, rfl⟩
  rw [← hz] at h1 h2 hp
  rw [← hpp] at hp ⊢
  obtain ⟨y, hy⟩ : ∃ y, y = z.tdiv 1000 := ⟨_, rfl⟩
  rw [← hy] at hp
  have w0 : wrap64 (t : Int) = (t : Int) := by unfold wrap64; omega
  have w1 : wrap64 ((t : Int) * r) = z := by rw [← hz]; unfold wrap64; omega
  have w2 : wrap64 y = y := by unfold wrap64; omega
  have w3 : wrap64 ((t : Int) + y) = (p : Int) := by unfold wrap64; omega
  have w4 : (p : Int) % 18446744073709551616 = (p : Int) := by omega
  have HY := Lib.hid hy
  clear hz hpp hy h1 h2 hp
  have w5 := HY.out.symm
  go_enter Try.func63, Try.ntmps63
  go_wp2_with fail
  go_ret
  exact ⟨rfl, rfl⟩
end Go.Proofs.Ytfldoihindbdmaa
/- Infos: words of chance. -/
namespace Go.Proofs.Ytfldoihindbdmaa
open Go.RowKit
set_option maxRecDepth 100000
set_option maxHeartbeats 1000000
/-- Only these blocks turn. -/
structure Tn (F : Nat → Prop) (w w' : World) : Prop where
  os : w'.os = w.os
  tape : w'.tape = w.tape
  output : w'.output = w.output
  size : w.heap.size ≤ w'.heap.size
  old : ∀ k, k < w.heap.size → ¬ F k → bk w' k = bk w k
theorem Tn.refl (F : Nat → Prop) (w : World) : Tn F w w := ⟨rfl, rfl, rfl, Nat.le_refl _, fun _ _ _ => rfl⟩
theorem Tn.trans {F G : Nat → Prop} {w w' w'' : World} (h : Tn F w w') (k : Tn G w' w'') (hg : ∀ j, G j → F j ∨ w.heap.size ≤ j) : Tn F w w'' :=
  ⟨k.os.trans h.os, k.tape.trans h.tape, k.output.trans h.output, Nat.le_trans h.size k.size, fun i hi hn => (k.old i (Nat.lt_of_lt_of_le hi h.size) (fun hG => by
    rcases hg i hG with hF | hl
    · exact hn hF
    · omega)).trans (h.old i hi hn)⟩
theorem Tn.of {F : Nat → Prop} {w w' : World} (h : Below w.heap.size w w') : Tn F w w' := ⟨h.os, h.tape, h.output, h.size, fun i hi _ => h.block i hi⟩
theorem Tn.keep {F : Nat → Prop} {m : Nat} {w w' : World} {o : Obj} (h : Tn F w w') (hm : ¬ F m) (hk : bk w m = some o) : bk w' m = some o := (h.old m (bk_lt hk) hm).trans hk
theorem Tn.below {F : Nat → Prop} {n : Nat} {w w' : World} (h : Tn F w w') (hn : ∀ k, F k → n ≤ k) (hw : n ≤ w.heap.size) : Below n w w' :=
  ⟨h.os, h.tape, h.output, h.size, fun k hk => h.old k (by omega) (fun hF => by have := hn k hF; omega)⟩
theorem Tn.mono {F G : Nat → Prop} {w w' : World} (h : Tn F w w') (hF : ∀ k, F k → G k) : Tn G w w' := ⟨h.os, h.tape, h.output, h.size, fun k hk hn => h.old k hk fun hf => hn (hF k hf)⟩
theorem Tn.set {F : Nat → Prop} {g i : Nat} {w w' : World} {v : Value} (h : Tn F w w') (hg : F g ∨ w.heap.size ≤ g) : Tn F w (w'.setCell ⟨g, i, none⟩ v) :=
  ⟨h.os, h.tape, h.output, by simpa using h.size, fun k hk hn => (bk_setCell_other _ _ _ _ _ (fun e => by
    subst e
    rcases hg with hg | hg
    · exact hn hg
    · omega)).trans (h.old k hk hn)⟩
/-- The words' box: their ring, where the first one lies, how many there are. -/
def wdC (R : List Nat) (f m : Nat) : Array Value := (R.map (fun n : Nat => Value.int .u32 (n : Int)) ++ [Value.int .i64 (f : Int), Value.int .i64 (m : Int), Value.bool true]).toArray
section
variable {R : List Nat} {f m : Nat}
theorem wdC_first (h : R.length = 256) : (wdC R f m)[256]? = some (.int .i64 (f : Int)) := by simp [wdC, h]
theorem wdC_many (h : R.length = 256) : (wdC R f m)[257]? = some (.int .i64 (m : Int)) := by simp [wdC, h]
theorem wdC_made (h : R.length = 256) : (wdC R f m)[258]? = some (.bool true) := by simp [wdC, h]
theorem wdC_ring {k x : Nat} (h : R[k]? = some x) : (wdC R f m)[k]? = some (.int .u32 (x : Int)) := by
  obtain ⟨hk, hx⟩ := List.getElem?_eq_some_iff.1 h
  simp [wdC, List.getElem?_append_left, hk, hx]
theorem wdC_set256 (h : R.length = 256) (y : Nat) : (wdC R f m).setIfInBounds 256 (.int .i64 (y : Int)) = wdC R y m := by
  apply Array.toList_inj.1
  simp [wdC, List.set_append, h]
theorem wdC_set257 (h : R.length = 256) (y : Nat) : (wdC R f m).setIfInBounds 257 (.int .i64 (y : Int)) = wdC R f y := by
  apply Array.toList_inj.1
  simp [wdC, List.set_append, h]
theorem wdC_setk (k y : Nat) (h : k < R.length) : (wdC R f m).setIfInBounds k (.int .u32 (y : Int)) = wdC (R.set k y) f m := by
  apply Array.toList_inj.1
  simp [wdC, List.set_append, h, List.map_set]
end
structure WdR (w : World) (g : Nat) (R : List Nat) (f : Nat) (l : List Nat) : Prop where
  box : bk w g = some (.cells (wdC R f l.length) 84 (0, 0))
  ring : R.length = 256
  f256 : f < 256
  few : l.length ≤ 256
  at' : ∀ i (h : i < l.length), R[(f + i) % 256]? = some l[i]
  u32 : ∀ x ∈ l, x < 4294967296
def WdB (w : World) (p : Option Addr) (l : List Nat) : Prop := (p = none ∧ l = []) ∨ ∃ g R f, p = some ⟨g, 0, none⟩ ∧ WdR w g R f l
def WF (p : Option Addr) (k : Nat) : Prop := ∃ o, p = some ⟨k, o, none⟩
theorem WdB.keep {F : Nat → Prop} {w w' : World} {p : Option Addr} {l : List Nat} (h : WdB w p l) (ht : Tn F w w') (hF : ∀ k, WF p k → ¬ F k) : WdB w' p l := by
  rcases h with h | ⟨g, R, f, rfl, h⟩
  · exact .inl h
  · exact .inr ⟨g, R, f, rfl, ht.keep (hF g ⟨0, rfl⟩) h.box, h.ring, h.f256, h.few, h.at', h.u32⟩
theorem place_any (g f i k : Nat) (R : List Nat) (m : Nat) (w : World) (h : bk w g = some (.cells (wdC R f m) 84 (0, 0))) (hR : R.length = 256) (hf : f < 256) (hi : i ≤ 256) (hk : (f + i) % 256 = k) :
    Calls Try.prog 36 #[.pointer (some ⟨g, 0, none⟩), .int .i64 (i : Int)] w fun e w' => e = .returned (.pointer (some ⟨g, k, none⟩)) ∧ Below w.heap.size w w' := by
  have c1 := (bk_cell h 256).trans (wdC_first hR)
  have lg := bk_lt h
  have hk2 : k < 256 := by omega
  have e1 : (((f : Int) + (i : Int)).tmod 256) = (k : Int) := by rw [Int.tmod_eq_emod_of_nonneg (by omega)]; omega
  have e2 : (((f : Int) + (i : Int)) % 256) = (k : Int) := by omega
  have e0 : wrap64 ((f : Int) + (i : Int)) = (f : Int) + (i : Int) := by unfold wrap64; omega
  clear h hk
  go_enter Try.func36, Try.ntmps36
  go_wp2_with fail
  go_region
  go_wp2_with fail
  go_ret
  exact ⟨rfl, (by (repeat (first | exact Below.refl _ _ | assumption | refine Below.drew ?_ | refine bdrewN ?_ _ | refine Below.alloc ?_ (by first | omega | (simp <;> omega) | (simp only [World.size_alloc] <;> omega)) _ | refine below_setRow ?_ (by first | omega | (simp <;> omega)) _ | refine Below.setCell ?_ (by first | omega | (simp <;> omega)) _)))⟩
theorem wnext_any (p : Option Addr) (l : List Nat) (w : World) (h : WdB w p l) :
    Calls Try.prog 31 #[.pointer p] w fun e w' => e = .returned (.int .u32 ((l.headD 0 : Nat) : Int)) ∧ WdB w' p l.tail ∧ Tn (WF p) w w' := by
  rcases h with ⟨rfl, rfl⟩ | ⟨g, R, f, rfl, h⟩
  · go_enter Try.func31, Try.ntmps31
    go_wp2_with fail
    go_ret
    exact ⟨rfl, .inl ⟨rfl, rfl⟩, Tn.refl _ _⟩
  · have c1 := (bk_cell h.box 256).trans (wdC_first h.ring)
    have c2 := (bk_cell h.box 257).trans (wdC_many h.ring)
    have lg := bk_lt h.box
    have fz := h.f256
    have few := h.few
    have HH := Lib.hid h
    cases l with
    | nil =>
      clear h
      go_enter Try.func31, Try.ntmps31
      go_wp2_with fail
      go_ret
      exact ⟨rfl, .inr ⟨g, R, f, rfl, HH.out⟩, Tn.refl _ _⟩
    | cons a t =>
      have ha := h.at' 0 (by simp)
      rw [Nat.add_zero, Nat.mod_eq_of_lt h.f256] at ha
      have C := Lib.hid (place_any g f 0 f R _ w h.box h.ring h.f256 (by omega) (by omega))
      have n1 : (((a :: t).length : Int) == 0) = false := beq_eq_false_iff_ne.2 (by simp; omega)
      obtain ⟨N, hN⟩ : ∃ N, N = t.length := ⟨_, rfl⟩
      have hN1 : (a :: t).length = N + 1 := by simp [hN]
      rw [hN1] at c2 n1 few
      obtain ⟨f2, hf2⟩ : ∃ x, x = (f + 1) % 256 := ⟨_, rfl⟩
      have e1 : (((f : Int) + 1).tmod 256) = (f2 : Int) := by rw [Int.tmod_eq_emod_of_nonneg (by omega)]; omega
      have e2 : (((f : Int) + 1) % 256) = (f2 : Int) := by omega
      have FIN : Hid (∀ w1, Below w.heap.size w w1 → WdB ((w1.setCell ⟨g, 256, none⟩ (.int .i64 (f2 : Int))).setCell ⟨g, 257, none⟩ (.int .i64 (N : Int))) (some ⟨g, 0, none⟩) t ∧ Tn (WF (some ⟨g, 0, none⟩)) w ((w1.setCell ⟨g, 256, none⟩ (.int .i64 (f2 : Int))).setCell ⟨g, 257, none⟩ (.int .i64 (N : Int)))) := Lib.hid fun w1 b1 => by
        have k1 := bk_keep b1 lg h.box
        refine ⟨.inr ⟨g, R, f2, rfl, ⟨?_, h.ring, by omega, by omega, fun i hi => ?_, fun x hx => h.u32 x (by simp [hx])⟩⟩, ((Tn.of b1).set (.inl ⟨0, rfl⟩)).set (.inl ⟨0, rfl⟩)⟩
        · rw [bk_setCell_same, bk_setCell_same, k1]
          simp only [Option.map_some, putObj_cells]
          rw [wdC_set256 h.ring, wdC_set257 h.ring, hN]
        · have := h.at' (i + 1) (by simp; omega)
          rw [List.getElem_cons_succ] at this
          rw [← this, hf2]
          congr 1
          omega
      clear h hN hf2
      go_enter Try.func31, Try.ntmps31
      go_wp2_with fail
      refine (C.out).mono ?_
      rintro e w1 ⟨rfl, b1⟩
      have F2 := FIN.out w1 b1
      have HF := Lib.hid F2
      have k1 := bk_keep b1 (bk_lt HH.out.box) HH.out.box
      have c0 := (bk_cell k1 f).trans (wdC_ring ha)
      have c1' := (bk_cell k1 256).trans (wdC_first HH.out.ring)
      have c2' := (bk_cell k1 257).trans (wdC_many HH.out.ring)
      rw [hN1] at c2'
      have fr1 := bk_frozen k1 256
      have fr2 := bk_frozen k1 257
      have l1 := bk_lt k1
      clear F2 FIN k1 c1 c2 C
      go_wp2_with fail
      go_ret
      exact ⟨rfl, HF.out⟩
/-- A number below one. -/
def belT (x n : Nat) : Nat := x * n / 4294967296
theorem belT_lt {x n : Nat} (hx : x < 4294967296) (hn : 0 < n) : belT x n < n := by
  unfold belT
  rw [Nat.div_lt_iff_lt_mul (by decide), Nat.mul_comm n]
  exact Nat.mul_lt_mul_of_pos_right hx hn
theorem WdB.head {w : World} {p : Option Addr} {l : List Nat} (h : WdB w p l) : l.headD 0 < 4294967296 := by
  rcases h with ⟨_, rfl⟩ | ⟨g, R, f, _, h⟩
  · decide
  · cases l with
    | nil => decide
    | cons a t => exact h.u32 a (by simp)
theorem wbelow_any (p : Option Addr) (l : List Nat) (n : Nat) (w : World) (h : WdB w p l) (hn : n < 4294967296) :
    Calls Try.prog 32 #[.pointer p, .int .u32 (n : Int)] w fun e w' => e = .returned (.int .u32 ((belT (l.headD 0) n : Nat) : Int)) ∧ WdB w' p l.tail ∧ Tn (WF p) w w' := by
  have C := Lib.hid (wnext_any p l w h)
  have hx := h.head
  obtain ⟨x, hxx⟩ : ∃ x, x = l.headD 0 := ⟨_, rfl⟩
  rw [← hxx] at C hx ⊢
  obtain ⟨q, hq⟩ : ∃ q, q = belT x n := ⟨_, rfl⟩
  have hm : x * n < 18446744073709551616 := Nat.lt_of_le_of_lt (Nat.mul_le_mul (Nat.le_sub_one_of_lt hx) (Nat.le_sub_one_of_lt hn)) (by decide)
  obtain ⟨z, hz⟩ : ∃ z, z = x * n := ⟨_, rfl⟩
  have hz' : (x : Int) * (n : Int) = (z : Int) := by rw [hz]; rfl
  have hq' : q = z / 4294967296 := by rw [hq, hz]; rfl
  rw [← hz] at hm
  rw [← hq]
  have m1 : (z : Int) / 4294967296 = (q : Int) := by omega
  have m2 : (q : Int) % 4294967296 = (q : Int) := by omega
  clear h hxx hq hz hq'
  go_enter Try.func32, Try.ntmps32
  go_wp2_with fail
  refine C.out.mono ?_
  rintro e w1 ⟨rfl, h1, t1⟩
  go_wp2_with fail
  go_ret
  exact ⟨rfl, h1, t1⟩
end Go.Proofs.Ytfldoihindbdmaa
/- Infos: a client's box; what only asks it; that it starts; how long it waits. -/
namespace Go.Proofs.Ytfldoihindbdmaa
open Go.RowKit
set_option maxRecDepth 100000
set_option maxHeartbeats 1000000
structure Cl where
  a0 : UInt8
  a1 : UInt8
  a2 : UInt8
  a3 : UInt8
  a4 : UInt8
  a5 : UInt8
  asks : Bool
  fresh : Bool
  next : Nat
  tm : Nat
  id : Nat
  since : Nat
  wait : Nat
def clC (c : Cl) : Array Value := #[B c.a0, B c.a1, B c.a2, B c.a3, B c.a4, B c.a5, .bool true, .bool c.asks, .bool c.fresh, .int .u64 (c.next : Int), .int .u64 (c.tm : Int), .int .u32 (c.id : Int), .int .u64 (c.since : Int), .int .u64 (c.wait : Int)]
structure ClB (w : World) (x : Nat) (c : Cl) : Prop where
  box : bk w x = some (.cells (clC c) 31 (0, 0))
  n64 : c.next ≤ far
  t64 : c.tm ≤ far
  i24 : c.id < 16777216
  s64 : c.since ≤ far
  w22 : c.wait ≤ 3960000
theorem ClB.keep {F : Nat → Prop} {w w' : World} {x : Nat} {c : Cl} (h : ClB w x c) (ht : Tn F w w') (hF : ¬ F x) : ClB w' x c := ⟨ht.keep hF h.box, h.n64, h.t64, h.i24, h.s64, h.w22⟩
theorem ClB.below {w w' : World} {x : Nat} {c : Cl} (h : ClB w x c) (hb : Below w.heap.size w w') : ClB w' x c := ⟨bk_keep hb (bk_lt h.box) h.box, h.n64, h.t64, h.i24, h.s64, h.w22⟩
def newCl (a0 a1 a2 a3 a4 a5 : UInt8) : Cl := ⟨a0, a1, a2, a3, a4, a5, false, false, 0, 0, 0, 0, 0⟩
theorem inew_any (a0 a1 a2 a3 a4 a5 : UInt8) (w : World) :
    Calls Try.prog 15 #[.agg #[B a0, B a1, B a2, B a3, B a4, B a5]] w fun e w' => ∃ x, e = .returned (.pointer (some ⟨x, 0, none⟩)) ∧ w.heap.size ≤ x ∧ ClB w' x (newCl a0 a1 a2 a3 a4 a5) ∧ Below w.heap.size w w' := by
  go_enter Try.func15, Try.ntmps15
  go_wp2_with fail
  have b2 : Below w.heap.size w ((w.alloc (.cells #[B a0, B a1, B a2, B a3, B a4, B a5] 28)).alloc (.cells (clC (newCl a0 a1 a2 a3 a4 a5)) 31)) := (by (repeat (first | exact Below.refl _ _ | assumption | refine Below.drew ?_ | refine bdrewN ?_ _ | refine Below.alloc ?_ (by first | omega | (simp <;> omega) | (simp only [World.size_alloc] <;> omega)) _ | refine below_setRow ?_ (by first | omega | (simp <;> omega)) _ | refine Below.setCell ?_ (by first | omega | (simp <;> omega)) _)))
  have k2 : bk ((w.alloc (.cells #[B a0, B a1, B a2, B a3, B a4, B a5] 28)).alloc (.cells (clC (newCl a0 a1 a2 a3 a4 a5)) 31)) (w.heap.size + 1) = some (.cells (clC (newCl a0 a1 a2 a3 a4 a5)) 31 (0, 0)) := bk_alloc_at _ _ _ (by simp)
  have H := Lib.hid (And.intro k2 b2)
  clear k2 b2
  go_ret
  exact ⟨_, rfl, Nat.le_succ _, ⟨H.out.1, Nat.zero_le _, Nat.zero_le _, (by show (0 : Nat) < 16777216; decide), Nat.zero_le _, Nat.zero_le _⟩, H.out.2⟩
theorem there_any (x : Nat) (c : Cl) (w : World) (h : ClB w x c) :
    Calls Try.prog 23 #[.pointer (some ⟨x, 0, none⟩)] w fun e w' => e = .returned (.bool true) ∧ w = w' := by
  have c6 := bk_cell h.box 6
  simp [clC] at c6
  have lx := bk_lt h.box
  clear h
  go_enter Try.func23, Try.ntmps23
  go_wp2_with fail
  go_ret
  exact ⟨rfl, rfl⟩
theorem busy_any (x : Nat) (c : Cl) (w : World) (h : ClB w x c) :
    Calls Try.prog 13 #[.pointer (some ⟨x, 0, none⟩)] w fun e w' => e = .returned (.bool c.asks) ∧ w = w' := by
  have C := Lib.hid (there_any x c w h)
  have c7 := bk_cell h.box 7
  simp [clC] at c7
  have lx := bk_lt h.box
  clear h
  go_enter Try.func13, Try.ntmps13
  go_wp2_with fail
  refine (C.out).mono ?_
  rintro e w1 ⟨rfl, hw⟩
  subst hw
  go_wp2_with fail
  go_ret
  exact ⟨rfl, rfl⟩
/-- When something is due. -/
def Cl.due (c : Cl) : Nat := if c.asks || c.fresh then c.next else far
theorem next_any (x : Nat) (c : Cl) (w : World) (h : ClB w x c) :
    Calls Try.prog 12 #[.pointer (some ⟨x, 0, none⟩)] w fun e w' => e = .returned (.int .u64 ((c.due : Nat) : Int)) ∧ w = w' := by
  have C := Lib.hid (there_any x c w h)
  have c7 := bk_cell h.box 7
  have c8 := bk_cell h.box 8
  have c9 := bk_cell h.box 9
  simp [clC] at c7 c8 c9
  have lx := bk_lt h.box
  clear h
  unfold Cl.due far
  obtain ⟨ks, hks⟩ : ∃ b, b = c.asks := ⟨_, rfl⟩
  obtain ⟨fr, hfr⟩ : ∃ b, b = c.fresh := ⟨_, rfl⟩
  rw [← hks] at c7 ⊢
  rw [← hfr] at c8 ⊢
  clear hks hfr
  cases ks <;> cases fr
  all_goals
    go_enter Try.func12, Try.ntmps12
    go_wp2_with fail
    refine (C.out).mono ?_
    rintro e w1 ⟨rfl, hw⟩
    subst hw
    go_wp2_with fail
    go_ret
    exact ⟨rfl, rfl⟩
theorem goes_any (x : Nat) (c : Cl) (now : Nat) (w : World) (h : ClB w x c) (hn : now ≤ far) :
    Calls Try.prog 24 #[.pointer (some ⟨x, 0, none⟩), .int .u64 (now : Int)] w fun e w' => e = .returned (.int .u64 ((max c.tm now : Nat) : Int)) ∧ ClB w' x { c with tm := max c.tm now } ∧ Tn (fun k => k = x) w w' := by
  have c10 := bk_cell h.box 10
  simp [clC] at c10
  have lx := bk_lt h.box
  have fr := bk_frozen h.box 10
  have FIN : Hid (ClB (w.setCell ⟨x, 10, none⟩ (.int .u64 ((max c.tm now : Nat) : Int))) x { c with tm := max c.tm now } ∧ Tn (fun k => k = x) w (w.setCell ⟨x, 10, none⟩ (.int .u64 ((max c.tm now : Nat) : Int)))) := Lib.hid ⟨⟨by
    rw [bk_setCell_same, h.box]; rfl, h.n64, by have := h.t64; show max c.tm now ≤ far; omega, h.i24, h.s64, h.w22⟩, (Tn.refl _ _).set (.inl rfl)⟩
  clear h
  go_enter Try.func24, Try.ntmps24
  go_wp2_with fail
  all_goals
    go_ret
    first
    | (rw [show max c.tm now = now by omega] at FIN ⊢; exact ⟨rfl, FIN.out⟩)
    | (rw [show max c.tm now = c.tm by omega] at FIN ⊢; exact ⟨rfl, FIN.out⟩)
end Go.Proofs.Ytfldoihindbdmaa
/- Infos: a client starts; how long it waits. -/
namespace Go.Proofs.Ytfldoihindbdmaa
open Go.RowKit
set_option maxRecDepth 100000
set_option maxHeartbeats 1000000
/-- What a client and its words are behind a start. -/
def Cl.start (c : Cl) (now : Nat) (l : List Nat) : Cl := { c with asks := true, fresh := false, wait := 0, id := l.headD 0 / 256, next := addT (max c.tm now) (belT (l.tail.headD 0) 1000), tm := max c.tm now }
def XF (x : Nat) (p : Option Addr) (k : Nat) : Prop := k = x ∨ WF p k
theorem start_busy (x : Nat) (c : Cl) (now : Nat) (p : Option Addr) (w : World) (h : ClB w x c) (hn : now ≤ far) (ha : c.asks = true) :
    Calls Try.prog 10 #[.pointer (some ⟨x, 0, none⟩), .int .u64 (now : Int), .pointer p] w fun e w' => e = .returned (.bool false) ∧ ClB w' x { c with tm := max c.tm now } ∧ Tn (fun k => k = x) w w' := by
  have C := Lib.hid (there_any x c w h)
  have CG := Lib.hid (goes_any x c now w h hn)
  have HA := Lib.hid ha
  clear h hn ha
  go_enter Try.func10, Try.ntmps10
  go_wp2_with fail
  refine (C.out).mono ?_
  rintro e w1 ⟨rfl, hw⟩
  subst hw
  go_wp2_with fail
  refine CG.out.mono ?_
  rintro e w1 ⟨rfl, h1, t1⟩
  have c7 := bk_cell h1.box 7
  simp [clC] at c7
  rw [HA.out] at c7
  have lx := bk_lt h1.box
  have HH := Lib.hid (And.intro h1 t1)
  clear h1 t1 CG C
  go_wp2_with fail
  go_ret
  exact ⟨rfl, HH.out⟩
theorem start_any (x : Nat) (c : Cl) (now : Nat) (p : Option Addr) (l : List Nat) (w : World) (h : ClB w x c) (hw : WdB w p l) (hp : ¬ WF p x) (hn : now ≤ far) (ha : c.asks = false) :
    Calls Try.prog 10 #[.pointer (some ⟨x, 0, none⟩), .int .u64 (now : Int), .pointer p] w fun e w' => e = .returned (.bool true) ∧ ClB w' x (c.start now l) ∧ WdB w' p l.tail.tail ∧ Tn (XF x p) w w' := by
  have C := Lib.hid (there_any x c w h)
  have CG := Lib.hid (goes_any x c now w h hn)
  have HA := Lib.hid ha
  have HW := Lib.hid hw
  have HP := Lib.hid hp
  have hx1 := hw.head
  have HT : Hid (max c.tm now ≤ far) := Lib.hid (by have := h.t64; omega)
  obtain ⟨T, hT⟩ : ∃ T, T = max c.tm now := ⟨_, rfl⟩
  obtain ⟨a, haa⟩ : ∃ a, a = l.headD 0 := ⟨_, rfl⟩
  obtain ⟨d, hd⟩ : ∃ d, d = a / 256 := ⟨_, rfl⟩
  obtain ⟨b, hbb⟩ : ∃ b, b = belT (l.tail.headD 0) 1000 := ⟨_, rfl⟩
  obtain ⟨s, hs⟩ : ∃ s, s = addT T b := ⟨_, rfl⟩
  unfold Cl.start
  rw [← hT] at CG HT
  rw [← hT, ← haa, ← hbb, ← hs, ← hd]
  have HAA := Lib.hid haa; have HD := Lib.hid hd; have HBB := Lib.hid hbb; have HS := Lib.hid hs
  rw [← haa] at hx1
  clear h hn ha hw hp hT haa hd hbb hs
  go_enter Try.func10, Try.ntmps10
  go_wp2_with fail
  refine (C.out).mono ?_
  rintro e w1 ⟨rfl, hw⟩
  subst hw
  go_wp2_with fail
  refine CG.out.mono ?_
  rintro e w1 ⟨rfl, h1, t1⟩
  have HW1 := Lib.hid (HW.out.keep t1 (fun k hk e => HP.out (e ▸ hk)))
  have c7 := bk_cell h1.box 7
  simp [clC] at c7
  rw [HA.out] at c7
  have lx := bk_lt h1.box
  have f7 := bk_frozen h1.box 7
  have f8 := bk_frozen h1.box 8
  have f13 := bk_frozen h1.box 13
  have c8 := bk_cell h1.box 8
  have c13 := bk_cell h1.box 13
  simp [clC] at c8 c13
  have H2 : ClB (((w1.setCell ⟨x, 7, none⟩ (.bool true)).setCell ⟨x, 8, none⟩ (.bool false)).setCell ⟨x, 13, none⟩ (.int .u64 0)) x { c with asks := true, fresh := false, wait := 0, tm := T } := ⟨by
    rw [bk_setCell_same, bk_setCell_same, bk_setCell_same, h1.box]; rfl, h1.n64, h1.t64, h1.i24, h1.s64, Nat.zero_le _⟩
  have T2 : Tn (fun k => k = x) w (((w1.setCell ⟨x, 7, none⟩ (.bool true)).setCell ⟨x, 8, none⟩ (.bool false)).setCell ⟨x, 13, none⟩ (.int .u64 0)) := ((t1.set (.inl rfl)).set (.inl rfl)).set (.inl rfl)
  have W2 := HW.out.keep T2 (fun k hk e => HP.out (e ▸ hk))
  have H2' := Lib.hid H2
  have T2' := Lib.hid T2
  have W2' := Lib.hid W2
  clear h1 t1 CG C H2 T2 W2 HW1 HW
  go_upto_region 7 with fail
  clear c7 c8 c13 f7 f8 f13 lx
  change Code.wp _ _ _ _ (((w1.setCell ⟨x, 7, none⟩ (.bool true)).setCell ⟨x, 8, none⟩ (.bool false)).setCell ⟨x, 13, none⟩ (.int .u64 0))
  generalize (((w1.setCell ⟨x, 7, none⟩ (.bool true)).setCell ⟨x, 8, none⟩ (.bool false)).setCell ⟨x, 13, none⟩ (.int .u64 0)) = w2 at *
  have CN := Lib.hid (wnext_any p l w2 W2'.out)
  rw [← HAA.out] at CN
  go_wp2_with fail
  refine CN.out.mono ?_
  rintro e w3 ⟨rfl, W3, t3⟩
  have H3 := H2'.out.keep t3 HP.out
  have T3 : Tn (XF x p) w w3 := (T2'.out.mono (G := XF x p) fun k hk => .inl hk).trans t3 fun j hj => .inl (.inr hj)
  have lx := bk_lt H3.box
  have f11 := bk_frozen H3.box 11
  have c11 := bk_cell H3.box 11
  simp [clC] at c11
  have e1 : (a : Int) / 256 = (d : Int) := by have := HD.out; omega
  have H4 : ClB (w3.setCell ⟨x, 11, none⟩ (.int .u32 (d : Int))) x { c with asks := true, fresh := false, wait := 0, tm := T, id := d } := ⟨by
    rw [bk_setCell_same, H3.box]; rfl, H3.n64, H3.t64, by have := HD.out; show d < 16777216; omega, H3.s64, Nat.zero_le _⟩
  have T4 : Tn (XF x p) w (w3.setCell ⟨x, 11, none⟩ (.int .u32 (d : Int))) := T3.set (.inl (.inl rfl))
  have W4 : WdB (w3.setCell ⟨x, 11, none⟩ (.int .u32 (d : Int))) p l.tail := W3.keep ((Tn.refl (fun k => k = x) w3).set (.inl rfl)) (fun k hk e => HP.out (e ▸ hk))
  have H4' := Lib.hid H4
  have T4' := Lib.hid T4
  have W4' := Lib.hid W4
  clear H3 T3 W3 t3 H4 T4 W4 CN H2' T2' W2'
  go_upto_region 8 with fail
  clear c11 f11 lx
  change Code.wp _ _ _ _ (w3.setCell ⟨x, 11, none⟩ (.int .u32 (d : Int)))
  generalize (w3.setCell ⟨x, 11, none⟩ (.int .u32 (d : Int))) = w4 at *
  have CB := Lib.hid (wbelow_any p l.tail 1000 w4 W4'.out (by decide))
  have hb := belT_lt (n := 1000) W4'.out.head (by decide)
  rw [← HBB.out] at CB hb
  go_wp2_with fail
  refine CB.out.mono ?_
  rintro e w5 ⟨rfl, W5, t5⟩
  have H5 := H4'.out.keep t5 HP.out
  have T5 : Tn (XF x p) w w5 := T4'.out.trans t5 fun j hj => .inl (.inr hj)
  have CA := Lib.hid (cadd_any T b w5 (by have := HT.out; unfold far at this; omega) (by omega))
  have hadd := addT_le T b
  rw [← HS.out] at CA hadd
  have lx := bk_lt H5.box
  have f9 := bk_frozen H5.box 9
  have c9 := bk_cell H5.box 9
  simp [clC] at c9
  have H6 : ClB (w5.setCell ⟨x, 9, none⟩ (.int .u64 (s : Int))) x { c with asks := true, fresh := false, wait := 0, tm := T, id := d, next := s } := ⟨by
    rw [bk_setCell_same, H5.box]; rfl, hadd, H5.t64, H5.i24, H5.s64, Nat.zero_le _⟩
  have T6 : Tn (XF x p) w (w5.setCell ⟨x, 9, none⟩ (.int .u64 (s : Int))) := T5.set (.inl (.inl rfl))
  have W6 : WdB (w5.setCell ⟨x, 9, none⟩ (.int .u64 (s : Int))) p l.tail.tail := W5.keep ((Tn.refl (fun k => k = x) w5).set (.inl rfl)) (fun k hk e => HP.out (e ▸ hk))
  have FIN := Lib.hid (And.intro H6 (And.intro W6 T6))
  clear H5 T5 W5 t5 H6 T6 W6 CB H4' T4' W4'
  go_wp2_with fail
  refine CA.out.mono ?_
  rintro e w6 ⟨rfl, rfl⟩
  go_wp2_with fail
  go_ret
  exact ⟨rfl, FIN.out⟩
end Go.Proofs.Ytfldoihindbdmaa
/- Infos: how long a client waits. -/
namespace Go.Proofs.Ytfldoihindbdmaa
open Go.RowKit
set_option maxRecDepth 100000
set_option maxHeartbeats 1000000
/-- How long it waits, behind a wait that was so long. -/
def laterT (wait : Nat) (r : Int) : Nat :=
  if (if wait > 0 then wait + partT wait r else partT 1000 r) > 3600000 then partT 3600000 r else if wait > 0 then wait + partT wait r else partT 1000 r
theorem laterT_pos (wait : Nat) (r : Int) (hr : -100 ≤ r ∧ r ≤ 100) : 0 < laterT wait r ∧ laterT wait r ≤ 3960000 := by
  have h1 := partT_eq 3600000 r hr
  have h2 := partT_eq wait r hr
  have h3 := partT_eq 1000 r hr
  unfold laterT
  split <;> split <;> omega
/-- Behind a word it waits so long. -/
def Cl.lat (c : Cl) (a : Nat) : Nat := laterT c.wait ((belT a 201 : Nat) - 100)
theorem Cl.lat_pos (c : Cl) {a : Nat} (h : a < 4294967296) : 0 < c.lat a ∧ c.lat a ≤ 3960000 := by
  have := belT_lt (n := 201) h (by decide)
  exact laterT_pos _ _ (by omega)
theorem wrap_add (a : Int) (y : Int) (t : Nat) (h : a + y = t) (ht : t < 18446744073709551616) : IntKind.u64.wrap (IntKind.u64.wrap a + IntKind.u64.wrap y) = (t : Int) := by
  rw [IntKind.wrap_u64, IntKind.wrap_u64, IntKind.wrap_u64, ← Int.add_emod, h, Int.emod_eq_of_lt (by omega) (by omega)]
theorem lat_facts (W : Nat) (r : Int) (hW : W ≤ 3960000) (hr : -100 ≤ r ∧ r ≤ 100) : ∃ z y : Int, (W : Int) * r = z ∧ z.tdiv 1000 = y ∧ wrap64 z = z ∧ wrap64 y = y ∧ wrap64 (W : Int) = W ∧ IntKind.u64.wrap (IntKind.u64.wrap (2 * (W : Int)) + IntKind.u64.wrap y) = ((W + partT W r : Nat) : Int) := by
  have hp := partT_eq W r hr
  have h1 : (W : Int) * r ≤ (W : Int) * 100 := Int.mul_le_mul_of_nonneg_left hr.2 (by omega)
  have h2 : (W : Int) * (-100) ≤ (W : Int) * r := Int.mul_le_mul_of_nonneg_left hr.1 (by omega)
  obtain ⟨z, hz⟩ : ∃ z, z = (W : Int) * r := ⟨_, rfl⟩
  obtain ⟨q, hq⟩ : ∃ q, q = partT W r := ⟨_, rfl⟩
  rw [← hz] at h1 h2 hp
  rw [← hq] at hp ⊢
  obtain ⟨y, hy⟩ : ∃ y, y = z.tdiv 1000 := ⟨_, rfl⟩
  rw [← hy] at hp
  refine ⟨z, y, hz.symm, hy.symm, ?_⟩
  clear hz hq hy hr
  refine ⟨by unfold wrap64; omega, by unfold wrap64; omega, by unfold wrap64; omega, wrap_add _ _ _ (by omega) (by omega)⟩
theorem later_any (x : Nat) (c : Cl) (p : Option Addr) (l : List Nat) (w : World) (h : ClB w x c) (hw : WdB w p l) (hp : ¬ WF p x) :
    Calls Try.prog 34 #[.pointer (some ⟨x, 0, none⟩), .pointer p] w fun e w' => e = .returned (.int .u64 ((c.lat (l.headD 0) : Nat) : Int)) ∧ ClB w' x { c with wait := c.lat (l.headD 0) } ∧ WdB w' p l.tail ∧ Tn (XF x p) w w' := by
  have HP := Lib.hid hp
  have HC := Lib.hid h
  have CB := Lib.hid (wbelow_any p l 201 w hw (by decide))
  have hb := belT_lt (n := 201) hw.head (by decide)
  have hR := Cl.lat_pos c hw.head
  unfold Cl.lat at hR ⊢
  obtain ⟨b, hbb⟩ : ∃ b, b = belT (l.headD 0) 201 := ⟨_, rfl⟩
  rw [← hbb] at CB hb hR ⊢
  obtain ⟨r, hr⟩ : ∃ r : Int, r = (b : Int) - 100 := ⟨_, rfl⟩
  rw [← hr] at hR ⊢
  have hrb : -100 ≤ r ∧ r ≤ 100 := by omega
  obtain ⟨W, hW⟩ : ∃ W, W = c.wait := ⟨_, rfl⟩
  obtain ⟨R, hRR⟩ : ∃ R, R = laterT c.wait r := ⟨_, rfl⟩
  rw [← hRR] at hR ⊢
  have HRB := Lib.hid hR.2
  have hWb := h.w22
  rw [← hW] at hRR hWb
  have HW := Lib.hid hW
  have HR' := Lib.hid hr
  have HRR := Lib.hid hRR
  clear h hw hp hbb hr hRR hW
  go_enter Try.func34, Try.ntmps34
  go_wp2_with fail
  refine CB.out.mono ?_
  rintro e w1 ⟨rfl, W1, t1⟩
  have H1 := Lib.hid (HC.out.keep t1 HP.out)
  have T1 : Hid (Tn (XF x p) w w1) := Lib.hid (t1.mono fun k hk => .inr hk)
  replace W1 := Lib.hid W1
  clear t1 CB HC
  go_upto_region 2 with fail
  rw [← HR'.out]
  have CP := Lib.hid (part_any 1000 r w1 (by decide) hrb)
  have CQ := Lib.hid (fun w2 => part_any 3600000 r w2 (by decide) hrb)
  have hp1 := partT_eq 1000 r hrb
  have hp2 := partT_eq 3600000 r hrb
  have hp3 := partT_eq W r hrb
  have lx := bk_lt H1.out.box
  have f13 := bk_frozen H1.out.box 13
  have c13 := bk_cell H1.out.box 13
  simp [clC] at c13
  rw [← HW.out] at c13
  have hR1 := HRR.out
  unfold laterT at hR1
  obtain ⟨q1, hq1⟩ : ∃ q, q = partT 1000 r := ⟨_, rfl⟩
  obtain ⟨q2, hq2⟩ : ∃ q, q = partT 3600000 r := ⟨_, rfl⟩
  obtain ⟨q3, hq3⟩ : ∃ q, q = partT W r := ⟨_, rfl⟩
  rw [← hq1, ← hq2, ← hq3] at hR1
  rw [← hq1] at CP hp1
  rw [← hq2] at CQ hp2
  rw [← hq3] at hp3
  clear hq1 hq2 HRR
  have FIN : Hid (∀ w2, Below w1.heap.size w1 w2 → ClB (w2.setCell ⟨x, 13, none⟩ (.int .u64 (R : Int))) x { c with wait := R } ∧ WdB (w2.setCell ⟨x, 13, none⟩ (.int .u64 (R : Int))) p l.tail ∧ Tn (XF x p) w (w2.setCell ⟨x, 13, none⟩ (.int .u64 (R : Int)))) := Lib.hid fun w2 b2 => ⟨⟨by
    rw [bk_setCell_same, (H1.out.below b2).box]; rfl, H1.out.n64, H1.out.t64, H1.out.i24, H1.out.s64, HRB.out⟩, (W1.out.keep (Tn.of b2) (F := fun _ => False) (fun k hk e => e)).keep ((Tn.refl (fun k => k = x) w2).set (.inl rfl)) (fun k hk e => HP.out (e ▸ hk)), (T1.out.trans (Tn.of (F := fun _ => False) b2) fun j hj => hj.elim).set (.inl (.inl rfl))⟩
  go_wp2_with fail
  refine CP.out.mono ?_
  rintro e w2 ⟨rfl, rfl⟩
  by_cases h0 : W = 0
  · have d1 : decide (0 < (W : Int)) = false := by simp; omega
    have d2 : decide (0 < W) = false := by simp; omega
    rw [if_neg (show ¬ W > 0 by omega), if_neg (show ¬ q1 > 3600000 by omega)] at hR1
    subst hR1
    have d3 : decide (3600000 < (R : Int)) = false := by simp; omega
    have d4 : decide (3600000 < R) = false := by simp; omega
    clear hp1 hp2 hp3 CP CQ hWb hrb hb d1 d2
    subst h0
    rw [Int.natCast_zero] at c13
    clear HW
    go_wp2_with fail
    go_ret
    exact ⟨rfl, FIN.out _ (Below.refl _ _)⟩
  · clear hp1 hp2 hp3
    rw [if_pos (show W > 0 by omega)] at hR1
    obtain ⟨V, hV⟩ : ∃ V, W = V + 1 := ⟨W - 1, by omega⟩
    obtain ⟨z, y, f1, f2, f3, f4, f5, f6⟩ := lat_facts W r hWb hrb
    rw [← hq3] at f6
    obtain ⟨t, ht⟩ : ∃ t, t = W + q3 := ⟨_, rfl⟩
    rw [← ht] at hR1 f6
    have eW : (W : Int) = (V : Int) + 1 := by omega
    rw [eW] at c13 f1 f5 f6
    have HT : Hid (t ≤ 3600000 → R = t) := Lib.hid fun h => by rw [if_neg (Nat.not_lt.2 h)] at hR1; exact hR1
    have HT2 : Hid (3600000 < t → R = q2) := Lib.hid fun h => by rw [if_pos h] at hR1; exact hR1
    clear CP hWb hrb hb ht hV eW h0 hR1 HW hq3
    have M1 := Lib.hid f1; have M2 := Lib.hid f2; have M3 := Lib.hid f3; have M4 := Lib.hid f4; have M5 := Lib.hid f5; have M6 := Lib.hid f6
    clear f1 f2 f3 f4 f5 f6
    go_upto_region 4 with fail
    have m1 := M1.out; have m2 := M2.out; have m3 := M3.out; have m4 := M4.out; have m5 := M5.out; have m6 := M6.out
    go_region
    have bd : Below w1.heap.size w1 w1.drew := (by (repeat (first | exact Below.refl _ _ | assumption | refine Below.drew ?_ | refine bdrewN ?_ _ | refine Below.alloc ?_ (by first | omega | (simp <;> omega) | (simp only [World.size_alloc] <;> omega)) _ | refine below_setRow ?_ (by first | omega | (simp <;> omega)) _ | refine Below.setCell ?_ (by first | omega | (simp <;> omega)) _)))
    have k1 := bk_keep bd (bk_lt H1.out.box) H1.out.box
    have lx' := bk_lt k1
    have f13' := bk_frozen k1 13
    have c13' : w1.drew.cell? ⟨x, 13, none⟩ = some (.int .u64 (c.wait : Int)) := bk_cell k1 13
    have FIN' := Lib.hid (FIN.out _ bd)
    clear m1 m2 m3 m4 m5 m6 M1 M2 M3 M4 M5 M6 k1 f13 lx c13 bd FIN
    generalize w1.drew = w2 at *
    by_cases h6 : 3600000 < t
    · have hR6 := HT2.out h6
      have d3 : decide (3600000 < (t : Int)) = true := by simp; omega
      have d4 : decide (3600000 < t) = true := by simp; omega
      subst hR6
      have CQ' := Lib.hid (CQ.out w2)
      clear CQ
      go_wp2_with fail
      refine CQ'.out.mono ?_
      rintro e w3 ⟨rfl, rfl⟩
      go_wp2_with fail
      go_ret
      exact ⟨rfl, FIN'.out⟩
    · have hR6 := HT.out (by omega)
      have d3 : decide (3600000 < (t : Int)) = false := by simp; omega
      have d4 : decide (3600000 < t) = false := by simp; omega
      subst hR6
      clear CQ
      go_wp2_with fail
      go_ret
      exact ⟨rfl, FIN'.out⟩
end Go.Proofs.Ytfldoihindbdmaa
/- Infos: a request's bytes. -/
namespace Go.Proofs.Ytfldoihindbdmaa
open Go.RowKit
set_option maxRecDepth 100000
set_option maxHeartbeats 1000000
theorem run_full {w : World} (ty : TypeId) (ad : Addr) (l1 l2 : List UInt8) (h1 : Rd w w.heap.size (some ad) l1) (bd : Addr) (c2 : Nat) (h2 : Rd w w.heap.size (some bd) l2) (h0 : 0 < l2.length) (hb : l1.length + l2.length < 2 ^ 47) :
    ∃ v' w', (Builtin.append_ #[22, 22] ty #[.slice (some ad) l1.length l1.length, .slice (some bd) l2.length c2]).run Try.prog w = .ok v' w' ∧ w'.ownsRow w.heap.size 5 1 v' (l1 ++ l2).length ((l1 ++ l2).map B) ∧ Below w.heap.size w w' := by
  obtain ⟨i0, hi, hz0, hz1, hz2⟩ := info_parts infoB
  have h63 : ((l1.length + l2.length : Nat) : Int) ≤ 9223372036854775807 := by omega
  have hr := run_append_grow (P := Try.prog) w 22 ty 5 i0 (.int .u8 0) Try.underlying22 hi hz0 ad l1.length l1.length (l1.map B) (by rw [hz1]; simp) h1.news bd l2.length c2 (l2.map B) (by rw [hz1]; simp) h2.news (by omega) h63
    (growslice_fits (by omega) (by rw [hz2]; omega))
  refine ⟨_, _, hr, ?_, ?_⟩
  · refine ⟨by simp, .inr ⟨w.heap.size, _, _, by rw [List.length_append], Nat.le_refl _, heap_alloc_new w.drew _, ?_, ?_, ?_, ?_⟩⟩
    · rw [List.length_append]; exact grownCap_ge w _ _ _
    · exact grownCap_le_maxLen w _ _ _ (by unfold maxLen; omega)
    · have hge := grownCap_ge w (l1.length + l2.length) l1.length 5
      simp only [Array.size_append, List.size_toArray, size_zeroCells, List.length_map]
      show l1.length + l2.length + (_ - _) * 1 = _ * 1
      omega
    · simp only [Array.toList_append, List.append_assoc]
      rw [← List.append_assoc, ← List.map_append]
      exact List.take_left' (by simp)
  · exact (Below.refl _ _).drew.alloc (show w.heap.size ≤ w.drew.heap.size from Nat.le_refl _) _
theorem append_full {w : World} {ops : Array Oper} {rest : List Oper} {o : Oper} {a : Act} {Q : Exit → Act → World → Prop} (hgd : o.guard = none) (s x : Operand)
    (ho : o.op = .call { callee := .builtin .append, args := #[s, x], argTypes := #[22, 22] }) (ad : Addr) (l1 : List UInt8) (n1 c1 : Nat) (hs : a.eval s = .slice (some ad) n1 c1) (hn1 : n1 = l1.length) (hc1 : c1 = n1) (h1 : Rd w w.heap.size (some ad) l1)
    (bd : Addr) (l2 : List UInt8) (n2 c2 : Nat) (hx : a.eval x = .slice (some bd) n2 c2) (hn2 : n2 = l2.length) (h2 : Rd w w.heap.size (some bd) l2) (h0 : 0 < l2.length) (hb : l1.length + l2.length < 2 ^ 47)
    (h : ∀ v' w', w'.ownsRow w.heap.size 5 1 v' (l1 ++ l2).length ((l1 ++ l2).map B) → Below w.heap.size w w' → wpList Try.prog ops Q rest (a.put o.dst v') w') : wpList Try.prog ops Q (o :: rest) a w := by
  subst hc1 hn1 hn2
  obtain ⟨v', w', hr, h3, h4⟩ := run_full o.type ad l1 l2 h1 bd c2 h2 h0 hb
  refine wpList_plain hgd fun K hK => ?_
  unfold Oper.wp execOp
  simp only [ho, resolve, invoke, builtin, Sem.run_bind, Sem.run_pure, Result.andThen_ok, List.map_toArray, List.map_cons, List.map_nil, hs, hx, hr]
  exact hK _ _ (h v' w' h3 h4)
theorem put_own (A : Option Addr) (l : List UInt8) (c n : Nat) (m : Int) (k : Nat) (D : List UInt8) (w : World) (h : Rd w w.heap.size A l) (hA : A = none → l = [] ∧ c = 0) (hl : l.length < 2 ^ 45) (hn : n < 2 ^ 64) (hm : -2 ^ 63 ≤ m ∧ m < 2 ^ 63) (hk : wid m = k) (hD : D = l ++ nb k n) :
    Calls Try.prog 25 #[.slice A l.length c, .int .u64 n, .int .i64 m] w fun e w' => ∃ g, e = .returned (.slice (some ⟨g, 0, none⟩) D.length D.length) ∧ w.heap.size ≤ g ∧ Rd w' w'.heap.size (some ⟨g, 0, none⟩) D ∧ Below w.heap.size w w' := by
  refine (put_any A l c n m w h hA hl hn hm).mono ?_
  rintro e w' ⟨g, cur, rfl, hg, hb, hle, htk, hbl⟩
  rw [hk] at hle htk ⊢
  rw [← hD] at htk
  have hDl : D.length = l.length + k := by rw [hD, List.length_append, nb_length]
  exact ⟨g, by rw [hDl], hg, Rd.of_take hb htk (bk_lt hb), hbl⟩
def opB (l : List UInt8) (code : Nat) (m : List UInt8) : List UInt8 := l ++ nb 2 code ++ nb 2 m.length ++ m
theorem option_any (A : Option Addr) (l : List UInt8) (c code : Nat) (bd : Addr) (m : List UInt8) (cm : Nat) (w : World) (h : Rd w w.heap.size A l) (hA : A = none → l = [] ∧ c = 0) (hl : l.length < 2 ^ 40) (hc : code < 2 ^ 64) (hm : Rd w w.heap.size (some bd) m) (h0 : 0 < m.length) (hml : m.length < 2 ^ 40) :
    Calls Try.prog 62 #[.slice A l.length c, .int .u64 (code : Int), .slice (some bd) m.length cm] w fun e w' => ∃ A' c', e = .returned (.slice A' (opB l code m).length c') ∧ w'.ownsRow w.heap.size 5 1 (.slice A' (opB l code m).length c') (opB l code m).length ((opB l code m).map B) ∧ Below w.heap.size w w' := by
  obtain ⟨L, hL⟩ : ∃ L, L = opB l code m := ⟨_, rfl⟩
  rw [← hL]
  obtain ⟨D1, hD1⟩ : ∃ D, D = l ++ nb 2 code := ⟨_, rfl⟩
  obtain ⟨N, hN⟩ : ∃ N, N = m.length := ⟨_, rfl⟩
  obtain ⟨D2, hD2⟩ : ∃ D, D = D1 ++ nb 2 N := ⟨_, rfl⟩
  have hD1l : D1.length = l.length + 2 := by rw [hD1, List.length_append, nb_length]
  have hD2l : D2.length = l.length + 4 := by rw [hD2, List.length_append, nb_length]; omega
  have HL : Hid (D2 ++ m = L) := Lib.hid (by rw [hL, hD2, hD1, hN]; rfl)
  have CP := Lib.hid (put_own A l c code 2 2 D1 w h hA (by omega) hc (by decide) rfl hD1)
  have HM := Lib.hid hm
  have HN := Lib.hid hN
  have HD2 := Lib.hid hD2
  have HN0 := Lib.hid (And.intro h0 hml)
  have HLN := Lib.hid (And.intro hl (And.intro hD1l hD2l))
  rw [← hN]
  have w0 : (N : Int) % 18446744073709551616 = (N : Int) := by omega
  clear h hA hl hc hm h0 hml hL hD1 hD2 hN hD1l hD2l
  go_enter Try.func62, Try.ntmps62
  go_wp2_with fail
  refine CP.out.mono ?_
  rintro e w1 ⟨g1, rfl, hg1, r1, b1⟩
  have CP2 := Lib.hid (put_own (some ⟨g1, 0, none⟩) D1 D1.length N 2 2 D2 w1 r1 (fun h => by cases h) (by have := HLN.out; omega) (by have := HN0.out; have := HN.out; omega) (by decide) rfl HD2.out)
  have HM1 := Lib.hid ((HM.out.below b1 (Nat.le_refl _)).mono b1.size)
  have B1 := Lib.hid b1
  clear r1 b1 CP HM
  go_wp2_with fail
  refine CP2.out.mono ?_
  rintro e w2 ⟨g2, rfl, hg2, r2, b2⟩
  have HM2 := Lib.hid ((HM1.out.below b2 (Nat.le_refl _)).mono b2.size)
  have B2 := Lib.hid (B1.out.trans (b2.mono B1.out.size))
  have R2 := Lib.hid r2
  clear r2 b2 CP2 HM1 B1
  go_wp2_with (at_builtin; refine append_full rfl _ _ rfl ⟨g2, 0, none⟩ D2 _ _ rfl rfl rfl R2.out bd m N cm rfl HN.out HM2.out HN0.out.1 (by have := HLN.out; have := HN0.out; omega) ?_)
  intro v3 w3 ho3 b3
  replace ho3 : w3.ownsRow w2.heap.size 5 1 v3 L.length (L.map B) := by rw [← HL.out, List.length_append]; exact ho3
  obtain ⟨A3, c3, rfl⟩ : ∃ A c, v3 = .slice A L.length c := by
    rcases ho3.2 with ⟨q, q1⟩ | ⟨_, _, _, q, _⟩
    · exact ⟨none, 0, by rw [q, q1]⟩
    · exact ⟨_, _, q⟩
  have FIN := Lib.hid (And.intro (World.ownsRow.mono ho3 B2.out.size) (B2.out.trans (b3.mono B2.out.size)))
  clear ho3 b3
  go_wp2_with fail
  go_ret
  exact ⟨_, _, rfl, FIN.out⟩
/-- What it asks. -/
def elB (c : Cl) (now : Nat) : List UInt8 := nb 2 (min ((now - c.since) / 10) 65535)
def reqA (c : Cl) (now : Nat) : List UInt8 := opB ([11] ++ nb 3 c.id) 8 (elB c now)
def reqM (c : Cl) (now : Nat) : List UInt8 := opB (reqA c now) 1 ([0, 3, 0, 1] ++ [c.a0, c.a1, c.a2, c.a3, c.a4, c.a5])
def reqB (c : Cl) (now : Nat) : List UInt8 := opB (reqM c now) 6 [0, 23, 0, 24, 0, 32]
theorem opB_len (l : List UInt8) (code : Nat) (m : List UInt8) : (opB l code m).length = l.length + 4 + m.length := by unfold opB; simp [nb_length]; omega
theorem reqB_len (c : Cl) (now : Nat) : (reqA c now).length = 10 ∧ (reqM c now).length = 24 ∧ (reqB c now).length = 34 := by
  have h1 : (reqA c now).length = 10 := by unfold reqA elB; rw [opB_len]; simp [nb_length]
  have h2 : (reqM c now).length = 24 := by unfold reqM; rw [opB_len, h1]; rfl
  exact ⟨h1, h2, by unfold reqB; rw [opB_len, h2]; rfl⟩
theorem own_sl {w : World} {n m : Nat} {v : Value} {xs : List Value} (h : w.ownsRow n 5 1 v m xs) : ∃ A c, v = .slice A m c := by
  rcases h.2 with ⟨q, q1⟩ | ⟨_, _, _, q, _⟩
  · exact ⟨none, 0, by rw [q, q1]⟩
  · exact ⟨_, _, q⟩
theorem mac_rd {w : World} {x : Nat} {c : Cl} (h : ClB w x c) : Rd w w.heap.size (some ⟨x, 0, none⟩) [c.a0, c.a1, c.a2, c.a3, c.a4, c.a5] := fun _ => ⟨x, 0, rfl, bk_lt h.box, fun j hj => by
  rw [bk_cell h.box, Nat.zero_add]
  match j, hj with
  | 0, _ => rfl
  | 1, _ => rfl
  | 2, _ => rfl
  | 3, _ => rfl
  | 4, _ => rfl
  | 5, _ => rfl⟩
theorem request_any (x : Nat) (c : Cl) (now : Nat) (w : World) (h : ClB w x c) (hn : now ≤ far) (hs : c.since ≤ now) :
    Calls Try.prog 33 #[.pointer (some ⟨x, 0, none⟩), .int .u64 (now : Int)] w fun e w' => ∃ A', e = .returned (.slice A' 34 34) ∧ Rd w' w'.heap.size A' (reqB c now) ∧ (∀ b o, A' = some ⟨b, o, none⟩ → w.heap.size ≤ b) ∧ Below w.heap.size w w' := by
  have HC := Lib.hid h
  have HLEN := Lib.hid (reqB_len c now)
  have c11 := bk_cell h.box 11
  simp [clC] at c11
  have lx := bk_lt h.box
  have HID := Lib.hid h.i24
  obtain ⟨D0, hD0⟩ : ∃ D, D = [11] ++ nb 3 c.id := ⟨_, rfl⟩
  have hD0l : D0.length = 4 := by rw [hD0, List.length_append, nb_length]; rfl
  have HD0 := Lib.hid (And.intro hD0 hD0l)
  have R0 : Rd (w.alloc (.cells #[.int .u8 11] 5)) (w.alloc (.cells #[.int .u8 11] 5)).heap.size (some ⟨w.heap.size, 0, none⟩) [11] := Rd.lit w [11] 5
  have C0 : Hid (Calls Try.prog 25 #[.slice (some ⟨w.heap.size, 0, none⟩) 1 1, .int .u64 (c.id : Int), .int .i64 3] (w.alloc (.cells #[.int .u8 11] 5)) fun e w' => ∃ g, e = .returned (.slice (some ⟨g, 0, none⟩) D0.length D0.length) ∧ (w.alloc (.cells #[.int .u8 11] 5)).heap.size ≤ g ∧ Rd w' w'.heap.size (some ⟨g, 0, none⟩) D0 ∧ Below (w.alloc (.cells #[.int .u8 11] 5)).heap.size (w.alloc (.cells #[.int .u8 11] 5)) w') :=
    Lib.hid (put_own (some ⟨w.heap.size, 0, none⟩) [11] 1 c.id 3 3 D0 _ R0 (fun h => by cases h) (by decide) (by have := h.i24; omega) (by decide) rfl hD0)
  have B0 : Hid (Below w.heap.size w (w.alloc (.cells #[.int .u8 11] 5))) := Lib.hid (by (repeat (first | exact Below.refl _ _ | assumption | refine Below.drew ?_ | refine bdrewN ?_ _ | refine Below.alloc ?_ (by first | omega | (simp <;> omega) | (simp only [World.size_alloc] <;> omega)) _ | refine below_setRow ?_ (by first | omega | (simp <;> omega)) _ | refine Below.setCell ?_ (by first | omega | (simp <;> omega)) _)))
  have HN := Lib.hid hn
  have HS := Lib.hid hs
  obtain ⟨E, hE⟩ : ∃ E, E = min ((now - c.since) / 10) 65535 := ⟨_, rfl⟩
  have HE := Lib.hid hE
  clear h hD0 hD0l R0 hn hs hE
  go_enter Try.func33, Try.ntmps33
  have hid := HID.out
  go_wp2_with fail
  refine C0.out.mono ?_
  rintro e w1 ⟨g1, rfl, hg1, r1, b1⟩
  have B1 := Lib.hid (B0.out.trans (b1.mono B0.out.size))
  have R1 := Lib.hid r1
  clear r1 b1 B0 C0 c11 lx
  have H1 := Lib.hid ((HC.out.keep (Tn.of B1.out) (F := fun _ => False) (fun e => e)))
  have lx := bk_lt H1.out.box
  have c12 := bk_cell H1.out.box 12
  simp [clC] at c12
  obtain ⟨S, hS⟩ : ∃ S, S = c.since := ⟨_, rfl⟩
  rw [← hS] at c12
  obtain ⟨d, hd⟩ : ∃ d, d = now - S := ⟨_, rfl⟩
  obtain ⟨q, hq⟩ : ∃ q, q = d / 10 := ⟨_, rfl⟩
  have m1 : (now : Int) - (S : Int) = (d : Int) := by have := HS.out; omega
  have m2 : (d : Int) / 10 = (q : Int) := by omega
  have m2' : (d : Int).tdiv 10 = (q : Int) := by rw [Int.tdiv_eq_ediv_of_nonneg (by omega)]; omega
  have hd64 : d < 18446744073709551616 := by have := HN.out; unfold far at this; omega
  have m3 : (d : Int) % 18446744073709551616 = (d : Int) := by omega
  have m4 : (q : Int) % 18446744073709551616 = (q : Int) := by omega
  have hE2 : E = min q 65535 := by rw [HE.out, hq, hd, hS]
  have HE2 := Lib.hid hE2
  clear hE2 hq hd hS hd64
  rw [HD0.out.2]
  by_cases hq : q ≤ 65535
  · have h1 : ((q : Int) ≤ 65535) = True := eq_true (by omega)
    have hE5 : (q : Int) = (E : Int) := by have := HE2.out; omega
    go_wp2_with fail
    clear hE5 m1 m2 m2' m3 m4 hq HE2 h1
    have CE := Lib.hid (put_own none [] 0 E 2 2 (nb 2 E) w1 Rd.nil (fun _ => ⟨rfl, rfl⟩) (by simp) (by have := HE.out; omega) (by decide) rfl (by simp))
    refine CE.out.mono ?_
    rintro e w2 ⟨g2, rfl, hg2, r2, b2⟩
    rw [nb_length]
    have CO : Hid (Calls Try.prog 62 #[.slice (some ⟨g1, 0, none⟩) 4 4, .int .u64 8, .slice (some ⟨g2, 0, none⟩) 2 2] w2 fun e w' => ∃ A' c', e = .returned (.slice A' 10 c') ∧ w'.ownsRow w2.heap.size 5 1 (.slice A' 10 c') 10 ((reqA c now).map B) ∧ Below w2.heap.size w2 w') := Lib.hid (by
      have C := option_any (some ⟨g1, 0, none⟩) D0 4 8 ⟨g2, 0, none⟩ (nb 2 E) 2 w2 ((R1.out.below b2 (Nat.le_refl _)).mono b2.size) (fun h => by cases h) (by rw [HD0.out.2]; decide) (by decide) r2 (by rw [nb_length]; decide) (by rw [nb_length]; decide)
      have e : opB D0 8 (nb 2 E) = reqA c now := by unfold reqA elB; rw [HD0.out.1, HE.out]
      rw [e, HLEN.out.1, HD0.out.2, nb_length] at C
      exact C)
    have B2 := Lib.hid (B1.out.trans (b2.mono B1.out.size))
    clear CE r2 b2 R1 hg2 hg1 B1 H1 c12 lx
    go_wp2_with fail
    refine CO.out.mono ?_
    rintro e w3 ⟨A3, c3, rfl, ho3, b3⟩
    obtain ⟨A4, c4, e4, hR3, hN3, hC3⟩ := Rd.of_own (l := reqA c now) (by rw [← HLEN.out.1] at ho3; exact ho3) rfl
    cases e4
    have R3 := Lib.hid (And.intro hR3 hN3)
    have B3 := Lib.hid (B2.out.trans (b3.mono B2.out.size))
    have b4 : Below w3.heap.size w3 (w3.alloc (.cells #[.int .u8 0, .int .u8 3, .int .u8 0, .int .u8 1] 5)) := (by (repeat (first | exact Below.refl _ _ | assumption | refine Below.drew ?_ | refine bdrewN ?_ _ | refine Below.alloc ?_ (by first | omega | (simp <;> omega) | (simp only [World.size_alloc] <;> omega)) _ | refine below_setRow ?_ (by first | omega | (simp <;> omega)) _ | refine Below.setCell ?_ (by first | omega | (simp <;> omega)) _)))
    have H3 := HC.out.keep (Tn.of (B3.out.trans (b4.mono B3.out.size))) (F := fun _ => False) (fun e => e)
    have RL : Hid (Rd (w3.alloc (.cells #[.int .u8 0, .int .u8 3, .int .u8 0, .int .u8 1] 5)) (w3.alloc (.cells #[.int .u8 0, .int .u8 3, .int .u8 0, .int .u8 1] 5)).heap.size (some ⟨w3.heap.size, 0, none⟩) [0, 3, 0, 1]) := Lib.hid (Rd.lit w3 [0, 3, 0, 1] 5)
    have RM := Lib.hid (mac_rd H3)
    have B4 := Lib.hid b4
    have lx := bk_lt (HC.out.keep (Tn.of B3.out) (F := fun _ => False) (fun e => e)).box
    clear CO ho3 b3 hR3 hN3 hC3 H3 B2 b4
    go_wp2_with (at_builtin; refine append_full rfl _ _ rfl ⟨w3.heap.size, 0, none⟩ [0, 3, 0, 1] 4 4 rfl rfl rfl RL.out ⟨x, 0, none⟩ [c.a0, c.a1, c.a2, c.a3, c.a4, c.a5] 6 6 rfl rfl RM.out (by simp) (by simp) ?_)
    intro v5 w5 ho5 b5
    obtain ⟨L5, hL5⟩ : ∃ L, L = ([0, 3, 0, 1] : List UInt8) ++ [c.a0, c.a1, c.a2, c.a3, c.a4, c.a5] := ⟨_, rfl⟩
    have hL5l : L5.length = 10 := by rw [hL5]; rfl
    replace ho5 : w5.ownsRow (w3.heap.size + 1) 5 1 v5 L5.length (L5.map B) := by rw [hL5]; exact ho5
    obtain ⟨A5, c5, rfl, hR5, hN5, hC5⟩ := Rd.of_own ho5 rfl
    obtain ⟨g5, o5, rfl, _, _⟩ := hR5 (by omega)
    rw [hL5l]
    have B35 := B4.out.trans (b5.mono (Nat.le_succ _))
    have CO2 : Hid (Calls Try.prog 62 #[.slice A3 10 c3, .int .u64 1, .slice (some ⟨g5, o5, none⟩) 10 c5] w5 fun e w' => ∃ A' c', e = .returned (.slice A' 24 c') ∧ w'.ownsRow w5.heap.size 5 1 (.slice A' 24 c') 24 ((reqM c now).map B) ∧ Below w5.heap.size w5 w') := Lib.hid (by
      have C := option_any A3 (reqA c now) c3 1 ⟨g5, o5, none⟩ L5 c5 w5 ((R3.out.1.below B35 (Nat.le_refl _)).mono B35.size) R3.out.2 (by rw [HLEN.out.1]; decide) (by decide) hR5 (by rw [hL5l]; decide) (by rw [hL5l]; decide)
      have e : opB (reqA c now) 1 L5 = reqM c now := by unfold reqM; rw [hL5]
      rw [e, HLEN.out.1, HLEN.out.2.1, hL5l] at C
      exact C)
    have B5 := Lib.hid (B3.out.trans (B35.mono B3.out.size))
    clear ho5 b5 hR5 hN5 hC5 hL5 hL5l R3 B3 RL RM B4 B35
    go_wp2_with fail
    refine CO2.out.mono ?_
    rintro e w6 ⟨A6, c6, rfl, ho6, b6⟩
    obtain ⟨A7, c7, e7, hR6, hN6, hC6⟩ := Rd.of_own (l := reqM c now) (by rw [← HLEN.out.2.1] at ho6; exact ho6) rfl
    cases e7
    have B6 := Lib.hid (B5.out.trans (b6.mono B5.out.size))
    have b7 : Below w6.heap.size w6 (w6.alloc (.cells #[.int .u8 0, .int .u8 23, .int .u8 0, .int .u8 24, .int .u8 0, .int .u8 32] 5)) := (by (repeat (first | exact Below.refl _ _ | assumption | refine Below.drew ?_ | refine bdrewN ?_ _ | refine Below.alloc ?_ (by first | omega | (simp <;> omega) | (simp only [World.size_alloc] <;> omega)) _ | refine below_setRow ?_ (by first | omega | (simp <;> omega)) _ | refine Below.setCell ?_ (by first | omega | (simp <;> omega)) _)))
    have RL7 : Rd (w6.alloc (.cells #[.int .u8 0, .int .u8 23, .int .u8 0, .int .u8 24, .int .u8 0, .int .u8 32] 5)) (w6.alloc (.cells #[.int .u8 0, .int .u8 23, .int .u8 0, .int .u8 24, .int .u8 0, .int .u8 32] 5)).heap.size (some ⟨w6.heap.size, 0, none⟩) [0, 23, 0, 24, 0, 32] := Rd.lit w6 [0, 23, 0, 24, 0, 32] 5
    have CO3 : Hid (Calls Try.prog 62 #[.slice A6 24 c6, .int .u64 6, .slice (some ⟨w6.heap.size, 0, none⟩) 6 6] (w6.alloc (.cells #[.int .u8 0, .int .u8 23, .int .u8 0, .int .u8 24, .int .u8 0, .int .u8 32] 5)) fun e w' => ∃ A' c', e = .returned (.slice A' 34 c') ∧ w'.ownsRow (w6.alloc (.cells #[.int .u8 0, .int .u8 23, .int .u8 0, .int .u8 24, .int .u8 0, .int .u8 32] 5)).heap.size 5 1 (.slice A' 34 c') 34 ((reqB c now).map B) ∧ Below (w6.alloc (.cells #[.int .u8 0, .int .u8 23, .int .u8 0, .int .u8 24, .int .u8 0, .int .u8 32] 5)).heap.size (w6.alloc (.cells #[.int .u8 0, .int .u8 23, .int .u8 0, .int .u8 24, .int .u8 0, .int .u8 32] 5)) w') := Lib.hid (by
      have C := option_any A6 (reqM c now) c6 6 ⟨w6.heap.size, 0, none⟩ [0, 23, 0, 24, 0, 32] 6 _ ((hR6.below b7 (Nat.le_refl _)).mono b7.size) hN6 (by rw [HLEN.out.2.1]; decide) (by decide) RL7 (by decide) (by decide)
      have e : opB (reqM c now) 6 [0, 23, 0, 24, 0, 32] = reqB c now := rfl
      rw [e, HLEN.out.2.1, HLEN.out.2.2] at C
      exact C)
    have B7 := Lib.hid (B6.out.trans (b7.mono B6.out.size))
    clear ho6 b6 hR6 hN6 hC6 CO2 B5 B6 RL7 b7
    go_wp2_with fail
    refine CO3.out.mono ?_
    rintro e w8 ⟨A8, c8, rfl, ho8, b8⟩
    obtain ⟨A9, c9, e9, hR8, hN8, hC8⟩ := Rd.of_own (l := reqB c now) (by rw [← HLEN.out.2.2] at ho8; exact ho8) rfl
    cases e9
    rw [HLEN.out.2.2] at hC8
    have CC := Lib.hid (clip_any A8 34 c8 hC8 w8)
    have B8 := B7.out.trans (b8.mono B7.out.size)
    have FIN : Hid (∀ w9, Below w8.heap.size w8 w9 → Rd w9 w9.heap.size A8 (reqB c now) ∧ (∀ b o, A8 = some ⟨b, o, none⟩ → w.heap.size ≤ b) ∧ Below w.heap.size w w9) := Lib.hid fun w9 b9 => ⟨(hR8.below b9 (Nat.le_refl _)).mono b9.size, fun b o e => by
      have h1 := (ho8.lt b (by rw [e]; rfl)).1
      have h2 := B7.out.size
      omega, B8.trans (b9.mono B8.size)⟩
    clear ho8 b8 hR8 hN8 hC8 CO3 B7 B8
    go_wp2_with fail
    refine CC.out.mono ?_
    rintro e w9 ⟨rfl, b9⟩
    have F9 := Lib.hid (FIN.out w9 b9)
    clear FIN b9 CC
    go_wp2_with fail
    go_ret
    exact ⟨_, rfl, F9.out⟩
  · have h1 : ((q : Int) ≤ 65535) = False := eq_false (by omega)
    have hE5 : (65535 : Int) = (E : Int) := by have := HE2.out; omega
    go_wp2_with fail
    clear hE5 m1 m2 m2' m3 m4 hq HE2 h1
    have CE := Lib.hid (put_own none [] 0 E 2 2 (nb 2 E) w1 Rd.nil (fun _ => ⟨rfl, rfl⟩) (by simp) (by have := HE.out; omega) (by decide) rfl (by simp))
    refine CE.out.mono ?_
    rintro e w2 ⟨g2, rfl, hg2, r2, b2⟩
    rw [nb_length]
    have CO : Hid (Calls Try.prog 62 #[.slice (some ⟨g1, 0, none⟩) 4 4, .int .u64 8, .slice (some ⟨g2, 0, none⟩) 2 2] w2 fun e w' => ∃ A' c', e = .returned (.slice A' 10 c') ∧ w'.ownsRow w2.heap.size 5 1 (.slice A' 10 c') 10 ((reqA c now).map B) ∧ Below w2.heap.size w2 w') := Lib.hid (by
      have C := option_any (some ⟨g1, 0, none⟩) D0 4 8 ⟨g2, 0, none⟩ (nb 2 E) 2 w2 ((R1.out.below b2 (Nat.le_refl _)).mono b2.size) (fun h => by cases h) (by rw [HD0.out.2]; decide) (by decide) r2 (by rw [nb_length]; decide) (by rw [nb_length]; decide)
      have e : opB D0 8 (nb 2 E) = reqA c now := by unfold reqA elB; rw [HD0.out.1, HE.out]
      rw [e, HLEN.out.1, HD0.out.2, nb_length] at C
      exact C)
    have B2 := Lib.hid (B1.out.trans (b2.mono B1.out.size))
    clear CE r2 b2 R1 hg2 hg1 B1 H1 c12 lx
    go_wp2_with fail
    refine CO.out.mono ?_
    rintro e w3 ⟨A3, c3, rfl, ho3, b3⟩
    obtain ⟨A4, c4, e4, hR3, hN3, hC3⟩ := Rd.of_own (l := reqA c now) (by rw [← HLEN.out.1] at ho3; exact ho3) rfl
    cases e4
    have R3 := Lib.hid (And.intro hR3 hN3)
    have B3 := Lib.hid (B2.out.trans (b3.mono B2.out.size))
    have b4 : Below w3.heap.size w3 (w3.alloc (.cells #[.int .u8 0, .int .u8 3, .int .u8 0, .int .u8 1] 5)) := (by (repeat (first | exact Below.refl _ _ | assumption | refine Below.drew ?_ | refine bdrewN ?_ _ | refine Below.alloc ?_ (by first | omega | (simp <;> omega) | (simp only [World.size_alloc] <;> omega)) _ | refine below_setRow ?_ (by first | omega | (simp <;> omega)) _ | refine Below.setCell ?_ (by first | omega | (simp <;> omega)) _)))
    have H3 := HC.out.keep (Tn.of (B3.out.trans (b4.mono B3.out.size))) (F := fun _ => False) (fun e => e)
    have RL : Hid (Rd (w3.alloc (.cells #[.int .u8 0, .int .u8 3, .int .u8 0, .int .u8 1] 5)) (w3.alloc (.cells #[.int .u8 0, .int .u8 3, .int .u8 0, .int .u8 1] 5)).heap.size (some ⟨w3.heap.size, 0, none⟩) [0, 3, 0, 1]) := Lib.hid (Rd.lit w3 [0, 3, 0, 1] 5)
    have RM := Lib.hid (mac_rd H3)
    have B4 := Lib.hid b4
    have lx := bk_lt (HC.out.keep (Tn.of B3.out) (F := fun _ => False) (fun e => e)).box
    clear CO ho3 b3 hR3 hN3 hC3 H3 B2 b4
    go_wp2_with (at_builtin; refine append_full rfl _ _ rfl ⟨w3.heap.size, 0, none⟩ [0, 3, 0, 1] 4 4 rfl rfl rfl RL.out ⟨x, 0, none⟩ [c.a0, c.a1, c.a2, c.a3, c.a4, c.a5] 6 6 rfl rfl RM.out (by simp) (by simp) ?_)
    intro v5 w5 ho5 b5
    obtain ⟨L5, hL5⟩ : ∃ L, L = ([0, 3, 0, 1] : List UInt8) ++ [c.a0, c.a1, c.a2, c.a3, c.a4, c.a5] := ⟨_, rfl⟩
    have hL5l : L5.length = 10 := by rw [hL5]; rfl
    replace ho5 : w5.ownsRow (w3.heap.size + 1) 5 1 v5 L5.length (L5.map B) := by rw [hL5]; exact ho5
    obtain ⟨A5, c5, rfl, hR5, hN5, hC5⟩ := Rd.of_own ho5 rfl
    obtain ⟨g5, o5, rfl, _, _⟩ := hR5 (by omega)
    rw [hL5l]
    have B35 := B4.out.trans (b5.mono (Nat.le_succ _))
    have CO2 : Hid (Calls Try.prog 62 #[.slice A3 10 c3, .int .u64 1, .slice (some ⟨g5, o5, none⟩) 10 c5] w5 fun e w' => ∃ A' c', e = .returned (.slice A' 24 c') ∧ w'.ownsRow w5.heap.size 5 1 (.slice A' 24 c') 24 ((reqM c now).map B) ∧ Below w5.heap.size w5 w') := Lib.hid (by
      have C := option_any A3 (reqA c now) c3 1 ⟨g5, o5, none⟩ L5 c5 w5 ((R3.out.1.below B35 (Nat.le_refl _)).mono B35.size) R3.out.2 (by rw [HLEN.out.1]; decide) (by decide) hR5 (by rw [hL5l]; decide) (by rw [hL5l]; decide)
      have e : opB (reqA c now) 1 L5 = reqM c now := by unfold reqM; rw [hL5]
      rw [e, HLEN.out.1, HLEN.out.2.1, hL5l] at C
      exact C)
    have B5 := Lib.hid (B3.out.trans (B35.mono B3.out.size))
    clear ho5 b5 hR5 hN5 hC5 hL5 hL5l R3 B3 RL RM B4 B35
    go_wp2_with fail
    refine CO2.out.mono ?_
    rintro e w6 ⟨A6, c6, rfl, ho6, b6⟩
    obtain ⟨A7, c7, e7, hR6, hN6, hC6⟩ := Rd.of_own (l := reqM c now) (by rw [← HLEN.out.2.1] at ho6; exact ho6) rfl
    cases e7
    have B6 := Lib.hid (B5.out.trans (b6.mono B5.out.size))
    have b7 : Below w6.heap.size w6 (w6.alloc (.cells #[.int .u8 0, .int .u8 23, .int .u8 0, .int .u8 24, .int .u8 0, .int .u8 32] 5)) := (by (repeat (first | exact Below.refl _ _ | assumption | refine Below.drew ?_ | refine bdrewN ?_ _ | refine Below.alloc ?_ (by first | omega | (simp <;> omega) | (simp only [World.size_alloc] <;> omega)) _ | refine below_setRow ?_ (by first | omega | (simp <;> omega)) _ | refine Below.setCell ?_ (by first | omega | (simp <;> omega)) _)))
    have RL7 : Rd (w6.alloc (.cells #[.int .u8 0, .int .u8 23, .int .u8 0, .int .u8 24, .int .u8 0, .int .u8 32] 5)) (w6.alloc (.cells #[.int .u8 0, .int .u8 23, .int .u8 0, .int .u8 24, .int .u8 0, .int .u8 32] 5)).heap.size (some ⟨w6.heap.size, 0, none⟩) [0, 23, 0, 24, 0, 32] := Rd.lit w6 [0, 23, 0, 24, 0, 32] 5
    have CO3 : Hid (Calls Try.prog 62 #[.slice A6 24 c6, .int .u64 6, .slice (some ⟨w6.heap.size, 0, none⟩) 6 6] (w6.alloc (.cells #[.int .u8 0, .int .u8 23, .int .u8 0, .int .u8 24, .int .u8 0, .int .u8 32] 5)) fun e w' => ∃ A' c', e = .returned (.slice A' 34 c') ∧ w'.ownsRow (w6.alloc (.cells #[.int .u8 0, .int .u8 23, .int .u8 0, .int .u8 24, .int .u8 0, .int .u8 32] 5)).heap.size 5 1 (.slice A' 34 c') 34 ((reqB c now).map B) ∧ Below (w6.alloc (.cells #[.int .u8 0, .int .u8 23, .int .u8 0, .int .u8 24, .int .u8 0, .int .u8 32] 5)).heap.size (w6.alloc (.cells #[.int .u8 0, .int .u8 23, .int .u8 0, .int .u8 24, .int .u8 0, .int .u8 32] 5)) w') := Lib.hid (by
      have C := option_any A6 (reqM c now) c6 6 ⟨w6.heap.size, 0, none⟩ [0, 23, 0, 24, 0, 32] 6 _ ((hR6.below b7 (Nat.le_refl _)).mono b7.size) hN6 (by rw [HLEN.out.2.1]; decide) (by decide) RL7 (by decide) (by decide)
      have e : opB (reqM c now) 6 [0, 23, 0, 24, 0, 32] = reqB c now := rfl
      rw [e, HLEN.out.2.1, HLEN.out.2.2] at C
      exact C)
    have B7 := Lib.hid (B6.out.trans (b7.mono B6.out.size))
    clear ho6 b6 hR6 hN6 hC6 CO2 B5 B6 RL7 b7
    go_wp2_with fail
    refine CO3.out.mono ?_
    rintro e w8 ⟨A8, c8, rfl, ho8, b8⟩
    obtain ⟨A9, c9, e9, hR8, hN8, hC8⟩ := Rd.of_own (l := reqB c now) (by rw [← HLEN.out.2.2] at ho8; exact ho8) rfl
    cases e9
    rw [HLEN.out.2.2] at hC8
    have CC := Lib.hid (clip_any A8 34 c8 hC8 w8)
    have B8 := B7.out.trans (b8.mono B7.out.size)
    have FIN : Hid (∀ w9, Below w8.heap.size w8 w9 → Rd w9 w9.heap.size A8 (reqB c now) ∧ (∀ b o, A8 = some ⟨b, o, none⟩ → w.heap.size ≤ b) ∧ Below w.heap.size w w9) := Lib.hid fun w9 b9 => ⟨(hR8.below b9 (Nat.le_refl _)).mono b9.size, fun b o e => by
      have h1 := (ho8.lt b (by rw [e]; rfl)).1
      have h2 := B7.out.size
      omega, B8.trans (b9.mono B8.size)⟩
    clear ho8 b8 hR8 hN8 hC8 CO3 B7 B8
    go_wp2_with fail
    refine CC.out.mono ?_
    rintro e w9 ⟨rfl, b9⟩
    have F9 := Lib.hid (FIN.out w9 b9)
    clear FIN b9 CC
    go_wp2_with fail
    go_ret
    exact ⟨_, rfl, F9.out⟩
end Go.Proofs.Ytfldoihindbdmaa
/- Infos: requests put one behind the other; what is due. -/
namespace Go.Proofs.Ytfldoihindbdmaa
open Go.RowKit
set_option maxRecDepth 100000
set_option maxHeartbeats 1000000
theorem infoS : (Try.prog.info? 22).map (fun i => (i.zero, i.size, i.bytes)) = some (some (.slice none 0 0), 1, 24) := by kernel_rfl
theorem own_turnS {w w' : World} {e : TypeId} {n s m : Nat} {v : Value} {xs : List Value} (h : w.ownsRow n e s v m xs) (hb : ∀ k, v.ownBlock = some k → bk w' k = bk w k) : w'.ownsRow n e s v m xs := by
  refine ⟨h.1, ?_⟩
  rcases h.2 with h2 | ⟨g, cap, cur, rfl, h3, h4, h5⟩
  · exact .inl h2
  · exact .inr ⟨g, cap, cur, rfl, h3, (show bk w' g = _ from (hb g rfl).trans h4), h5⟩
theorem own_slS {w : World} {e : TypeId} {s n m : Nat} {v : Value} {xs : List Value} (h : w.ownsRow n e s v m xs) : ∃ A c, v = .slice A m c ∧ m ≤ c := by
  rcases h.2 with ⟨q, q1⟩ | ⟨_, c, _, q, _, _, q2, _⟩
  · exact ⟨none, 0, by rw [q, q1], by omega⟩
  · exact ⟨_, c, q, q2⟩
/-- One more behind a row of byte slices of one's own. -/
theorem wpList_snoc {w : World} {ops : Array Oper} {rest : List Oper} {o : Oper} {a : Act} {Q : Exit → Act → World → Prop} (hgd : o.guard = none) (s x : Operand)
    (ho : o.op = .call { callee := .builtin .append, args := #[s, x], argTypes := #[40, 40] })
    (n : Nat) (v : Value) (k : Nat) (vs : List Value) (hs : a.eval s = v) (hown : w.ownsRow n 22 1 v k vs) (ad : Addr) (u : Value) (hx : a.eval x = .slice (some ad) 1 1) (hc : w.cell? ad = some u) (h1 : u.oneCell' = true) (hn : n ≤ w.heap.size) (hl : k < 2 ^ 30)
    (h : ∀ A' c' w', w'.ownsRow n 22 1 (.slice A' (k + 1) c') (k + 1) (vs ++ [u]) → w.grownBy w' v.ownBlock → ((Value.slice A' (k + 1) c').ownBlock = v.ownBlock ∨ (Value.slice A' (k + 1) c').ownBlock = some w.heap.size) → wpList Try.prog ops Q rest (a.put o.dst (.slice A' (k + 1) c')) w') :
    wpList Try.prog ops Q (o :: rest) a w := by
  obtain ⟨i0, hi, hz0, hz1, hz2⟩ := info_parts infoS
  obtain ⟨v', w', hr, h2, h3, _, h5⟩ := run_append_own_at (P := Try.prog) w n 40 o.type 22 i0 (.slice none 0 0) 1 24 Try.underlying40 hi hz0 hz1 hz2 rfl (by decide) v k vs hown ad 1 1 [u] (by simp) (fun j y hy => by
    cases j with
    | zero =>
      simp at hy
      subst hy
      have : ad.add 0 = ad := by cases ad; simp [Addr.add]
      rw [this]; exact hc
    | succ j => simp at hy) (fun y hy => by simp at hy; subst hy; exact h1) (by unfold maxLen; omega) (by omega) hn
  refine wpList_plain hgd fun K hK => ?_
  unfold Oper.wp execOp
  simp only [ho, resolve, invoke, builtin, Sem.run_bind, Sem.run_pure, Result.andThen_ok, List.map_toArray, List.map_cons, List.map_nil, hs, hx, hr]
  obtain ⟨A', c', rfl, _⟩ := own_slS h2
  exact hK _ _ (h _ _ w' h2 h3 h5)
/-- A row of requests of one's own: each lies at or above n, not where the row lies. -/
def OutL (w : World) (n : Nat) (v : Value) (os : List (List UInt8)) : Prop :=
  ∃ vs : List Value, w.ownsRow n 22 1 v os.length vs ∧ ∀ i (h : i < os.length), ∃ A c, vs[i]? = some (.slice A os[i].length c) ∧ Rd w w.heap.size A os[i] ∧ ∀ b o, A = some ⟨b, o, none⟩ → n ≤ b ∧ v.ownBlock ≠ some b ∧ b < w.heap.size
theorem OutL.nil {w : World} {n : Nat} : OutL w n (.slice none 0 0) [] := ⟨[], World.ownsRow_nil _ _ _ _, fun i h => absurd h (by simp)⟩
theorem rd_turn {w w' : World} {F : Nat → Prop} {A : Option Addr} {l : List UInt8} (h : Rd w w.heap.size A l) (ht : Tn F w w') (hA : ∀ b o, A = some ⟨b, o, none⟩ → ¬ F b) : Rd w' w'.heap.size A l := fun h0 => by
  obtain ⟨b, o, e, hlt, hc⟩ := h h0
  refine ⟨b, o, e, Nat.lt_of_lt_of_le hlt ht.size, fun j hj => ?_⟩
  rw [← hc j hj]
  have h' : w'.heap[b]? = w.heap[b]? := ht.old b hlt (hA b o e)
  simp only [World.cell?, h']
theorem OutL.turn {F : Nat → Prop} {w w' : World} {n : Nat} {v : Value} {os : List (List UInt8)} (h : OutL w n v os) (ht : Tn F w w') (hF : ∀ k, F k → k < n) : OutL w' n v os := by
  obtain ⟨vs, h1, h2⟩ := h
  refine ⟨vs, own_turnS h1 fun k hk => ht.old k (h1.lt k hk).2 fun hf => by have := hF k hf; have := (h1.lt k hk).1; omega, fun i hi => ?_⟩
  obtain ⟨A, c, e, hr, hA⟩ := h2 i hi
  exact ⟨A, c, e, rd_turn hr ht fun b o q hf => by have := hF b hf; have := (hA b o q).1; omega, fun b o q => ⟨(hA b o q).1, (hA b o q).2.1, Nat.lt_of_lt_of_le (hA b o q).2.2 ht.size⟩⟩
theorem OutL.snoc {w w' : World} {n : Nat} {v v' : Value} {os : List (List UInt8)} {vs : List Value} {A : Option Addr} {c : Nat} {b : List UInt8}
    (h2 : ∀ i (h : i < os.length), ∃ A c, vs[i]? = some (.slice A os[i].length c) ∧ Rd w w.heap.size A os[i] ∧ ∀ b o, A = some ⟨b, o, none⟩ → n ≤ b ∧ v.ownBlock ≠ some b ∧ b < w.heap.size)
    (hl : vs.length = os.length) (h1 : w'.ownsRow n 22 1 v' (os.length + 1) (vs ++ [.slice A b.length c])) (hg : w.grownBy w' v.ownBlock) (hv : v'.ownBlock = v.ownBlock ∨ v'.ownBlock = some w.heap.size) (hb : Rd w w.heap.size A b)
    (hA : ∀ g o, A = some ⟨g, o, none⟩ → n ≤ g ∧ v.ownBlock ≠ some g ∧ g < w.heap.size) : OutL w' n v' (os ++ [b]) := by
  have ht : Tn (fun k => v.ownBlock = some k) w w' := ⟨hg.os, hg.tape, hg.output, hg.size, fun k hk hn => hg.block k hk (fun e => hn e.symm)⟩
  refine ⟨vs ++ [.slice A b.length c], by rw [List.length_append]; exact h1, fun i hi => ?_⟩
  by_cases hil : i < os.length
  · obtain ⟨A1, c1, e, hr, hA1⟩ := h2 i hil
    refine ⟨A1, c1, ?_, ?_, fun g o q => ⟨(hA1 g o q).1, fun e2 => ?_, Nat.lt_of_lt_of_le (hA1 g o q).2.2 ht.size⟩⟩
    · rw [List.getElem_append_left hil, List.getElem?_append_left (by omega)]; exact e
    · rw [List.getElem_append_left hil]
      exact rd_turn hr ht fun g o q => (hA1 g o q).2.1
    · rcases hv with hv | hv
      · exact (hA1 g o q).2.1 (hv ▸ e2)
      · rw [hv] at e2
        cases e2
        have := (hA1 _ _ q).2.2
        omega
  · have e : i = os.length := by rw [List.length_append] at hi; simp at hi; omega
    subst e
    refine ⟨A, c, ?_, ?_, fun g o q => ⟨(hA g o q).1, fun e2 => ?_, Nat.lt_of_lt_of_le (hA g o q).2.2 ht.size⟩⟩
    · simp [hl]
    · simp only [List.getElem_concat_length]
      exact rd_turn hb ht fun g o q => (hA g o q).2.1
    · rcases hv with hv | hv
      · exact (hA g o q).2.1 (hv ▸ e2)
      · rw [hv] at e2
        cases e2
        have := (hA _ _ q).2.2
        omega
end Go.Proofs.Ytfldoihindbdmaa
