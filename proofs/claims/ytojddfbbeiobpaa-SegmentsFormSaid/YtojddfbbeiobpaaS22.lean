/- The document's cutter. -/
import Derived.Test.YtojddfbbeiobpaaS18
import Derived.Test.YtojddfbbeiobpaaS12
namespace Go.Proofs.Ytojddfbbeiobpaa
open Go.RowKit
set_option maxRecDepth 100000
abbrev rcut (A : Option Addr) (n c : Nat) (f : Bool) : Obj := .cells #[.slice A n c, .bool f] 87 (0, 0)
/-- The document's cutter holds l, or is spoilt. -/
def RS (lo : Nat) (w : World) (g : Nat) : Option (List UInt8) → Prop
  | some l => ∃ A c, bk w g = some (rcut A l.length c false) ∧ Rd w g A l ∧ l.length ≤ c ∧ ∀ a, A = some a → lo ≤ a.block
  | none => bk w g = some (rcut none 0 0 true)
theorem rcof_any (A : Option Addr) (l : List UInt8) (c : Nat) (w : World) (h : Rd w w.heap.size A l) (hA : A = none → l = [] ∧ c = 0) (hl : l.length < 2 ^ 46) :
    Calls Try.prog 37 #[.slice A l.length c] w fun e w' => ∃ g, e = .returned (.pointer (some ⟨g, 0, none⟩)) ∧ w.heap.size ≤ g ∧ RS w.heap.size w' g (some l) ∧ Below w.heap.size w w' := by
  have H := Lib.hid h; have HA := Lib.hid hA
  clear h hA
  go_enter Try.func37, Try.ntmps37
  go_wp2_with (at_builtin; refine append_rd rfl _ _ rfl w.heap.size (.slice none 0 0) 0 [] rfl (World.ownsRow_nil _ _ _ _) A l c rfl HA.out H.out (by omega) (Nat.le_refl _) ?_)
  intro v w1 hown hgrow
  have ho1 : w1.ownsRow w.heap.size 5 1 v l.length (l.map B) := by simpa using hown
  have hb : Below w.heap.size w w1 := (Below.refl _ _).grown hgrow (Nat.le_refl _) (fun k hk => by simp [Value.ownBlock] at hk)
  obtain ⟨A1, c1, rfl, hR, hN, hc⟩ := Rd.of_own ho1 rfl
  have HR := Lib.hid hR
  have s1 := hb.size
  have HLO : Hid (∀ a, A1 = some a → w.heap.size ≤ a.block) := Lib.hid fun a e => by subst e; exact (ho1.lt a.block rfl).1
  clear hown hgrow ho1 hR hN
  go_wp2_with fail
  go_ret
  exact ⟨w1.heap.size, rfl, s1, ⟨A1, c1, bk_alloc_at _ _ _ rfl, HR.out.below ((Below.refl w1.heap.size w1).alloc (Nat.le_refl _) _) (Nat.le_refl _), hc, HLO.out⟩, hb.alloc s1 _⟩
theorem rbytes_bad (lo g : Nat) (m : Int) (w : World) (h : RS lo w g none) :
    Calls Try.prog 48 #[.pointer (some ⟨g, 0, none⟩), .int .i64 m] w fun e w' => e = .returned (.slice none 0 0) ∧ w = w' := by
  have h1 := bk_cell h 1
  simp at h1
  clear h
  go_enter Try.func48, Try.ntmps48
  go_wp2
  go_ret
  exact ⟨rfl, rfl⟩
theorem rbytes_spoil (lo g : Nat) (l : List UInt8) (m : Int) (w : World) (h : RS lo w g (some l)) (hm : m < 0 ∨ (l.length : Int) < m) :
    Calls Try.prog 48 #[.pointer (some ⟨g, 0, none⟩), .int .i64 m] w fun e w' => e = .returned (.slice none 0 0) ∧ RS lo w' g none ∧ w.grownBy w' (some g) := by
  obtain ⟨A, c, hb, hr, hc, hlo⟩ := h
  have h0 := bk_cell hb 0
  have h1 := bk_cell hb 1
  have f0 := bk_frozen hb 0
  have f1 := bk_frozen hb 1
  simp at h0 h1
  have HB := Lib.hid hb
  clear hb hr
  have hfin : bk ((w.setCell ⟨g, 1, none⟩ (.bool true)).setCell ⟨g, 0, none⟩ (.slice none 0 0)) g = some (rcut none 0 0 true) := by
    rw [bk_setCell_same, bk_setCell_same, HB.out]; rfl
  have hgr : w.grownBy ((w.setCell ⟨g, 1, none⟩ (.bool true)).setCell ⟨g, 0, none⟩ (.slice none 0 0)) (some g) :=
    ⟨rfl, rfl, rfl, by simp [World.setCell], fun k _ hk => by
      have hkg : k ≠ g := fun e => hk (by rw [e])
      exact (bk_setCell_other _ _ _ _ _ hkg).trans (bk_setCell_other _ _ _ _ _ hkg)⟩
  have HF := Lib.hid (And.intro hfin hgr)
  clear hfin hgr
  by_cases hneg : m < 0
  · have d1 : decide (m < 0) = true := by simpa using hneg
    clear hm
    go_enter Try.func48, Try.ntmps48
    go_wp2
    go_ret
    exact ⟨rfl, HF.out⟩
  · have d1 : decide (m < 0) = false := by simpa using hneg
    have d2 : decide ((l.length : Int) < m) = true := by simp; omega
    clear hm hneg
    go_enter Try.func48, Try.ntmps48
    go_wp2
    go_ret
    exact ⟨rfl, HF.out⟩
/-- A slice that lies in bytes of its own. -/
def Ub (w : World) (A : Option Addr) : Prop := ∀ a, A = some a → ∃ cur, bk w a.block = some (.cells cur 5 (0, 0))
theorem Ub.of_own {w : World} {base n c : Nat} {A : Option Addr} {xs : List Value} (h : w.ownsRow base 5 1 (.slice A n c) n xs) : Ub w A := fun a e => by
  subst e
  obtain ⟨_, ⟨e, _⟩ | ⟨g, cap, cur, e, _, hg, _⟩⟩ := h
  · cases e
  · cases e; exact ⟨cur, hg⟩
/-- The document's cutter gave the next m bytes. -/
def Took (lo g : Nat) (l : List UInt8) (m : Nat) (w : World) (e : Ending) (w' : World) : Prop := ∃ A' c', e = .returned (.slice A' m c') ∧ Rd w' w'.heap.size A' (l.take m) ∧ Ub w' A' ∧ RS lo w' g (some (l.drop m)) ∧ w.grownBy w' (some g)
set_option maxHeartbeats 1000000 in
theorem rbytes_good (lo g : Nat) (l : List UInt8) (m : Nat) (w : World) (h : RS lo w g (some l)) (hm : m ≤ l.length) (hl : l.length < 2 ^ 36) :
    Calls Try.prog 48 #[.pointer (some ⟨g, 0, none⟩), .int .i64 m] w (Took lo g l m w) := by
  obtain ⟨i0, hi, hz0, hz1, hz2⟩ := info_parts infoB
  obtain ⟨A, c, hb, hr, hc, hlo⟩ := h
  have h0 := bk_cell hb 0
  have h1 := bk_cell hb 1
  have hgl := bk_lt hb
  simp at h0 h1
  have HB := Lib.hid hb
  have HR := Lib.hid hr
  obtain ⟨L, hL⟩ : ∃ L, L = l.length := ⟨_, rfl⟩
  rw [← hL] at h0 hc hm hl HB
  have HL := Lib.hid hL
  have HLO0 := Lib.hid hlo
  clear hb hr hL hlo
  have d1 : decide ((m : Int) < 0) = false := by simp
  have d2 : decide ((L : Int) < (m : Int)) = false := by simp; omega
  have d3 : decide (L < m) = false := by simp; omega
  go_enter Try.func48, Try.ntmps48
  go_wp2
  go_loopw [5, 6] (fun v i wr => ∃ k : Nat, k ≤ m ∧ i = .int .i64 k ∧ Hid (wr.ownsRow w.heap.size 5 1 v k ((l.take k).map B)) ∧ Below w.heap.size w wr) (fun _ i _ => m - (intOf i).toNat)
  case atStart => exact ⟨0, by omega, rfl, Lib.hid (World.ownsRow_nil _ _ _ _), Below.refl _ _⟩
  case round =>
    obtain ⟨k, hk, rfl, ho, hB⟩ := hrel
    have c0 : wr.cell? ⟨g, 0, none⟩ = some (.slice A L c) := (hB.cell (p := ⟨g, 0, none⟩) hgl).trans h0
    by_cases hlt : k < m
    · have e1 : decide ((k : Int) < (m : Int)) = true := by simp; omega
      have hkl : k < l.length := by rw [← HL.out]; omega
      obtain ⟨b, o, rfl, hbg, hcell⟩ := (HR.out.below hB (by omega)).at hkl
      obtain ⟨y, hy⟩ : ∃ y, y = l[k] := ⟨_, rfl⟩
      rw [← hy] at hcell
      have hstep : (l.take (k + 1)).map B = (l.take k).map B ++ [B y] := by rw [List.take_succ_eq_append_getElem hkl, ← hy]; simp
      have HS := Lib.hid hstep
      have hbs := hB.size
      clear hy hstep
      go_wp2_with (at_builtin; refine append_one rfl _ _ 28 rfl w.heap.size 5 i0 (.int .u8 0) 1 Try.underlying28 hi hz0 hz1 hz2 rfl (by omega) _ _ _ rfl (ho.out.alloc _) (by omega) (by simp; omega) wr.heap.size (B y) _ _ rfl (bk_alloc_at _ _ _ rfl) rfl ?_)
      intro v' w1 hown' hgrow
      have hown2 : w1.ownsRow w.heap.size 5 1 v' (k + 1) ((l.take (k + 1)).map B) := by
        rw [HS.out, List.map_take]; exact hown'
      have hb1 : Below w.heap.size w w1 := (hB.alloc hbs _).grown hgrow (by simp; omega) (fun g hg => (ho.out.lt g hg).1)
      have HO2 := Lib.hid hown2
      clear hown' hown2 hgrow ho
      go_wp2_with fail
      go_roundw
      case rel => exact ⟨k + 1, by omega, by go_num, HO2, hb1⟩
      case measure => simp [intOf]; omega
    · have e1 : decide ((k : Int) < (m : Int)) = false := by simp; omega
      obtain rfl : k = m := by omega
      obtain ⟨A3, c3, hv, hR3, _, _⟩ := Rd.of_own (l := l.take k) ho.out (by rw [List.length_take, ← HL.out]; omega)
      have hlk : (l.take k).length = k := by rw [List.length_take, ← HL.out]; omega
      rw [hlk] at hv
      subst hv
      have hbw := (hB.block g hgl).trans HB.out
      have hbw' : bk wr g = some (rcut A L c false) := hbw
      have f0 := bk_frozen hbw' 0
      have HBW := Lib.hid hbw'
      have HR3 := Lib.hid hR3
      have hrd := HR.out.below hB (by omega : g ≤ w.heap.size)
      have HRD := Lib.hid hrd
      have s1 := hB.size
      have HLO : Hid (∀ a, adv A c k = some a → lo ≤ a.block) := Lib.hid fun a e => by
        unfold adv at e
        split at e
        · exact HLO0.out a e
        · cases A with
          | none => cases e
          | some a' =>
            have e' : a'.add k = a := by simpa using e
            have h1 := HLO0.out a' rfl
            unfold Addr.add at e'
            split at e' <;> (subst e'; exact h1)
      have hfin : ∀ v, v = Value.slice (adv A c k) (L - k) (c - k) → (∃ A' c', (Value.slice A3 k c3) = .slice A' k c' ∧ Rd (wr.setCell ⟨g, 0, none⟩ v) (wr.setCell ⟨g, 0, none⟩ v).heap.size A' (l.take k) ∧ Ub (wr.setCell ⟨g, 0, none⟩ v) A' ∧ RS lo (wr.setCell ⟨g, 0, none⟩ v) g (some (l.drop k)) ∧ w.grownBy (wr.setCell ⟨g, 0, none⟩ v) (some g)) := by
        rintro v rfl
        have hbn : bk (wr.setCell ⟨g, 0, none⟩ (Value.slice (adv A c k) (L - k) (c - k))) g = some (rcut (adv A c k) (L - k) (c - k) false) := by rw [bk_setCell_same, HBW.out]; rfl
        have hbel : Below g wr (wr.setCell ⟨g, 0, none⟩ (Value.slice (adv A c k) (L - k) (c - k))) := (Below.refl g wr).setCell (Nat.le_refl _) _
        obtain ⟨A4, c4, hv4, hrow⟩ : ∃ A4 c4, (Value.slice A3 k c3) = .slice A4 k c4 ∧ (wr.setCell ⟨g, 0, none⟩ (Value.slice (adv A c k) (L - k) (c - k))).ownsRow w.heap.size 5 1 (.slice A3 k c3) k ((l.take k).map B) := by
          refine ⟨A3, c3, rfl, ownsRow_setCell_other ho.out (fun e => ?_) _⟩
          have := (ho.out.lt g e).1
          omega
        obtain ⟨A5, c5, hv5, hR5, _, _⟩ := Rd.of_own (l := l.take k) hrow (by rw [List.length_take, ← HL.out]; omega)
        rw [hlk] at hv5
        cases hv5
        refine ⟨A3, c3, rfl, hR5, Ub.of_own hrow, ⟨_, _, by rw [List.length_drop, ← HL.out]; exact hbn, (HRD.out.adv (by rw [← HL.out]; omega)).below hbel (Nat.le_refl _), by rw [List.length_drop, ← HL.out]; omega, HLO.out⟩, ?_⟩
        exact ⟨hB.os, hB.tape, hB.output, by simpa [World.setCell] using s1, fun j hj hne => (bk_setCell_other _ _ _ _ _ (fun e => hne (by rw [e]))).trans (hB.block j hj)⟩
      unfold adv at hfin
      clear HLO
      have HF := Lib.hid hfin
      clear hfin ho hR3 hrd hbw hbw' hlt
      by_cases hcm : c = k
      · subst hcm
        obtain rfl : L = c := by omega
        go_wp2_with fail
        go_ret
        obtain ⟨A', c', e1, e2⟩ := HF.out _ rfl
        exact ⟨A', c', by rw [← e1]; rfl, by simpa using e2⟩
      · go_wp2_with fail
        go_ret
        obtain ⟨A', c', e1, e2⟩ := HF.out _ rfl
        exact ⟨A', c', by rw [← e1]; rfl, by simpa [hcm] using e2⟩
end Go.Proofs.Ytojddfbbeiobpaa
