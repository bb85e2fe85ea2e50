/- Lists in a book: worlds in which given cells alone are others; a strip of bytes: fill, fillRoom, kept. -/
import Derived.Test.YtjnfdpakpdahkaaS11
namespace Go.Proofs.Ytjnfdpakpdahkaa
open Go.RowKit
set_option maxRecDepth 100000
/-- Of what there was the cells of S alone may hold something else. -/
structure Wrt (S : Nat → Nat → Prop) (w w' : World) : Prop where
  os : w'.os = w.os
  tape : w'.tape = w.tape
  output : w'.output = w.output
  size : w.heap.size ≤ w'.heap.size
  blk : ∀ b cur t fr, bk w b = some (.cells cur t fr) → ∃ cur', bk w' b = some (.cells cur' t fr) ∧ cur'.size = cur.size ∧ ∀ j, ¬ S b j → cur'[j]? = cur[j]?
  oth : ∀ b, b < w.heap.size → (∀ j, ¬ S b j) → bk w' b = bk w b
section
variable {S S' : Nat → Nat → Prop} {w w' w'' : World}
theorem Wrt.refl (S : Nat → Nat → Prop) (w : World) : Wrt S w w := ⟨rfl, rfl, rfl, Nat.le_refl _, fun _ cur _ _ h => ⟨cur, h, rfl, fun _ _ => rfl⟩, fun _ _ _ => rfl⟩
theorem Wrt.mono (h : Wrt S w w') (hs : ∀ b j, S b j → S' b j) : Wrt S' w w' :=
  ⟨h.os, h.tape, h.output, h.size, fun b cur t fr hb => by
    obtain ⟨c, h1, h2, h3⟩ := h.blk b cur t fr hb
    exact ⟨c, h1, h2, fun j hj => h3 j fun hs' => hj (hs _ _ hs')⟩, fun b hb hj => h.oth b hb fun j hs' => hj j (hs _ _ hs')⟩
theorem Wrt.trans (h : Wrt S w w') (k : Wrt S w' w'') : Wrt S w w'' :=
  ⟨k.os.trans h.os, k.tape.trans h.tape, k.output.trans h.output, Nat.le_trans h.size k.size, fun b cur t fr hb => by
    obtain ⟨c, h1, h2, h3⟩ := h.blk b cur t fr hb
    obtain ⟨c', k1, k2, k3⟩ := k.blk b c t fr h1
    exact ⟨c', k1, k2.trans h2, fun j hj => (k3 j hj).trans (h3 j hj)⟩,
    fun b hb hj => (k.oth b (Nat.lt_of_lt_of_le hb h.size) hj).trans (h.oth b hb hj)⟩
theorem Wrt.of_below (h : Below w.heap.size w w') : Wrt S w w' :=
  ⟨h.os, h.tape, h.output, h.size, fun b cur _ _ hb => ⟨cur, (h.block b (bk_lt hb)).trans hb, rfl, fun _ _ => rfl⟩, fun b hb _ => h.block b hb⟩
theorem Wrt.alloc (h : Wrt S w w') (o : Obj) : Wrt S w (w'.alloc o) := h.trans (Wrt.of_below ((Below.refl _ _).alloc (Nat.le_refl _) o))
theorem Wrt.set {b i : Nat} (h : Wrt S w w') (hs : S b i) (v : Value) : Wrt S w (w'.setCell ⟨b, i, none⟩ v) :=
  h.trans ⟨rfl, rfl, rfl, by simp [World.setCell], fun k cur t fr hk => by
    by_cases e : k = b
    · subst e
      refine ⟨cur.setIfInBounds i v, by rw [bk_setCell_same, hk]; rfl, by simp, fun j hj => ?_⟩
      rw [Array.getElem?_setIfInBounds_ne]
      rintro rfl
      exact hj hs
    · exact ⟨cur, (bk_setCell_other _ _ _ _ _ e).trans hk, rfl, fun _ _ => rfl⟩,
    fun k hk hj => bk_setCell_other _ _ _ _ _ (by rintro rfl; exact hj i hs)⟩
/-- A cell that the call made. -/
theorem Wrt.set_new {b i : Nat} (h : Wrt S w w') (hb : w.heap.size ≤ b) (v : Value) : Wrt S w (w'.setCell ⟨b, i, none⟩ v) :=
  ⟨h.os, h.tape, h.output, by simpa [World.setCell] using h.size, fun k cur t fr hk => by
    obtain ⟨c, h1, h2, h3⟩ := h.blk k cur t fr hk
    exact ⟨c, (bk_setCell_other _ _ _ _ _ (by have := bk_lt hk; omega)).trans h1, h2, h3⟩,
    fun k hk hj => (bk_setCell_other _ _ _ _ _ (by omega)).trans (h.oth k hk hj)⟩
theorem Wrt.below {n : Nat} (h : Wrt S w w') (hn : n ≤ w.heap.size) (hs : ∀ b j, S b j → n ≤ b) : Below n w w' :=
  ⟨h.os, h.tape, h.output, h.size, fun k hk => h.oth k (by omega) fun j hj => by have := hs _ _ hj; omega⟩
end
/-- The cells of a list and of its room: c of them, of which n are the list's. -/
def rg (A : Option Addr) (lo hi : Nat) (b j : Nat) : Prop := ∃ o, A = some ⟨b, o, none⟩ ∧ o + lo ≤ j ∧ j < o + hi
/-- They lie in a block that is known. -/
def Room (w : World) (A : Option Addr) (c : Nat) (t : TypeId) : Prop := 0 < c → ∃ b o cur, A = some ⟨b, o, none⟩ ∧ bk w b = some (.cells cur t (0, 0)) ∧ o + c ≤ cur.size
theorem Room.wrt {S : Nat → Nat → Prop} {w w' : World} {A : Option Addr} {c : Nat} {t : TypeId} (h : Room w A c t) (hw : Wrt S w w') : Room w' A c t := fun hc => by
  obtain ⟨b, o, cur, rfl, hb, hl⟩ := h hc
  obtain ⟨cur', h1, h2, _⟩ := hw.blk _ _ _ _ hb
  exact ⟨b, o, cur', rfl, h1, by omega⟩
/-- What some of the cells hold. -/
def Has (w : World) (A : Option Addr) (lo hi : Nat) (v : Value) : Prop := ∀ j, lo ≤ j → j < hi → ∃ b o, A = some ⟨b, o, none⟩ ∧ w.cell? ⟨b, o + j, none⟩ = some v
/-- A strip's value. -/
abbrev strip (A : Option Addr) (n c : Nat) (i x : UInt8) : Value := .agg #[.slice A n c, B i, B x]
theorem fill_any (A : Option Addr) (n c : Nat) (i x : UInt8) (w : World) (h : Room w A c 5) (hn : n ≤ c) (hc : c ≤ 9223372036854775807) :
    Calls Try.prog 69 #[strip A n c i x] w fun e w' => e = .returned (.tuple #[]) ∧ Wrt (rg A 0 n) w w' ∧ Has w' A 0 n (B i) := by
  have H := Lib.hid h
  clear h
  go_enter Try.func69, Try.ntmps69
  go_wp2
  go_loopw [2] (fun i' wr => ∃ k : Nat, k ≤ n ∧ i' = .int .i64 k ∧ Wrt (rg A 0 n) w wr ∧ w.heap.size + 1 ≤ wr.heap.size ∧ bk wr w.heap.size = some (.cells #[.slice A n c, B i, B x] 67 (0, 0)) ∧ Has wr A 0 k (B i)) (fun i _ => n - (intOf i).toNat)
  case atStart => exact ⟨0, by omega, rfl, (Wrt.refl _ _).alloc _, by simp, bk_alloc_at _ _ _ rfl, fun j _ h => absurd h (by omega)⟩
  case round =>
    obtain ⟨k, hk, rfl, hW, hsz, hbox, hhas⟩ := hrel
    have c0 := bk_cell hbox 0
    have c1 := bk_cell hbox 1
    simp at c0 c1
    have HB := Lib.hid hbox
    clear hbox
    by_cases hlt : k < n
    · have d1 : decide ((k : Int) < (n : Int)) = true := by simp; omega
      obtain ⟨b, o, cur, rfl, hb, hle⟩ := (H.out.wrt hW) (by omega)
      have hlt2 := bk_lt hb
      have hbl : b < w.heap.size := by
        obtain ⟨b', o', cur', e, hb', _⟩ := H.out (by omega)
        cases e
        exact bk_lt hb'
      have hu := bk_cell hb (o + k)
      rw [Array.getElem?_eq_getElem (by omega)] at hu
      have hfz := bk_frozen hb (o + k)
      have HH := Lib.hid hhas
      have HC := Lib.hid hb
      clear hb hhas
      go_wp2
      go_roundw
      case rel =>
        refine ⟨k + 1, by omega, by go_num, hW.set ⟨o, rfl, by omega, by omega⟩ _, by simpa [World.setCell] using hsz, (bk_setCell_other _ _ _ _ _ (by omega)).trans HB.out, fun j h0 h1 => ?_⟩
        refine ⟨b, o, rfl, ?_⟩
        have hnew : bk (wr.setCell ⟨b, o + k, none⟩ (B i)) b = some (.cells (cur.setIfInBounds (o + k) (B i)) 5 (0, 0)) := by rw [bk_setCell_same, HC.out]; rfl
        by_cases e : j = k
        · subst e
          rw [bk_cell hnew, Array.getElem?_setIfInBounds_self_of_lt (by omega)]
        · obtain ⟨b', o', e', hcell⟩ := HH.out j (by omega) (by omega)
          cases e'
          rw [bk_cell hnew, Array.getElem?_setIfInBounds_ne (by omega), ← hcell, bk_cell HC.out]
      case measure => simp [intOf]; omega
    · have d1 : decide ((k : Int) < (n : Int)) = false := by simp; omega
      obtain rfl : k = n := by omega
      clear hlt
      go_wp2
      go_end0
      exact ⟨rfl, hW, hhas⟩
theorem fillRoom_any (A : Option Addr) (n c : Nat) (i x : UInt8) (w : World) (h : Room w A c 5) (hn : n ≤ c) (hc : c ≤ 9223372036854775807) :
    Calls Try.prog 70 #[strip A n c i x] w fun e w' => e = .returned (.tuple #[]) ∧ Wrt (rg A n c) w w' ∧ Has w' A n c (B x) := by
  have H := Lib.hid h
  clear h
  have s1 : decide ((n : Int) ≤ (c : Int)) = true := by simp; omega
  by_cases hnc : c = n
  · subst hnc
    go_enter Try.func70, Try.ntmps70
    go_wp2
    go_loopw [3] (fun i' wr => i' = .int .i64 0 ∧ w.alloc (.cells #[.slice A c c, B i, B x] 67) = wr) (fun i _ => 0)
    case atStart => exact ⟨rfl, rfl⟩
    case round =>
      obtain ⟨rfl, rfl⟩ := hrel
      go_wp2
      go_end0
      exact ⟨rfl, (Wrt.refl _ _).alloc _, fun j _ _ => by omega⟩
  · have hlt : n < c := by omega
    obtain ⟨b, o, cur0, rfl, hb0, hle0⟩ := H.out (by omega)
    have hbl := bk_lt hb0
    clear hb0 hle0
    go_enter Try.func70, Try.ntmps70
    go_wp2
    have hcn : ((c : Int) - (n : Int)).toNat = c - n := by omega
    go_loopw [3] (fun i' wr => ∃ k : Nat, k ≤ c - n ∧ i' = .int .i64 k ∧ Wrt (rg (some ⟨b, o, none⟩) n c) w wr ∧ w.heap.size + 1 ≤ wr.heap.size ∧ bk wr w.heap.size = some (.cells #[.slice (some ⟨b, o, none⟩) n c, B i, B x] 67 (0, 0)) ∧ Has wr (some ⟨b, o, none⟩) n (n + k) (B x)) (fun i _ => c - n - (intOf i).toNat)
    case atStart => exact ⟨0, by omega, rfl, (Wrt.refl _ _).alloc _, by simp, bk_alloc_at _ _ _ rfl, fun j _ h => absurd h (by omega)⟩
    case round =>
      obtain ⟨k, hk, rfl, hW, hsz, hbox, hhas⟩ := hrel
      have c1 := bk_cell hbox 2
      simp at c1
      have HB := Lib.hid hbox
      clear hbox
      by_cases hlt2 : k < c - n
      · have d1 : decide ((k : Int) < (c : Int) - (n : Int)) = true := by simp; omega
        have d2 : decide (k < c - n) = true := by simp; omega
        have d3 : (k : Int) < ((c - n : Nat) : Int) := by omega
        obtain ⟨b', o', cur, e, hb, hle⟩ := (H.out.wrt hW) (by omega)
        cases e
        have hlt3 := bk_lt hb
        have hu := bk_cell hb (o + n + k)
        rw [Array.getElem?_eq_getElem (by omega)] at hu
        have hfz := bk_frozen hb (o + n + k)
        have HH := Lib.hid hhas
        have HC := Lib.hid hb
        clear hb hhas
        go_wp2
        go_roundw
        case rel =>
          refine ⟨k + 1, by omega, by go_num, hW.set ⟨o, rfl, by omega, by omega⟩ _, by simpa [World.setCell] using hsz, (bk_setCell_other _ _ _ _ _ (by omega)).trans HB.out, fun j h0 h1 => ?_⟩
          refine ⟨b, o, rfl, ?_⟩
          have hnew : bk (wr.setCell ⟨b, o + n + k, none⟩ (B x)) b = some (.cells (cur.setIfInBounds (o + n + k) (B x)) 5 (0, 0)) := by rw [bk_setCell_same, HC.out]; rfl
          by_cases e : j = n + k
          · subst e
            rw [bk_cell hnew, show o + (n + k) = o + n + k by omega, Array.getElem?_setIfInBounds_self_of_lt (by omega)]
          · obtain ⟨b', o', e', hcell⟩ := HH.out j (by omega) (by omega)
            cases e'
            rw [bk_cell hnew, Array.getElem?_setIfInBounds_ne (by omega), ← hcell, bk_cell HC.out]
        case measure => simp [intOf]; omega
      · have d1 : decide ((k : Int) < (c : Int) - (n : Int)) = false := by simp; omega
        have d2 : decide (k < c - n) = false := by simp; omega
        obtain rfl : k = c - n := by omega
        rw [show n + (c - n) = c by omega] at hhas
        clear hlt2
        go_wp2
        go_end0
        exact ⟨rfl, hW, hhas⟩
theorem kept_any (A : Option Addr) (n c : Nat) (i x : UInt8) (w : World) (h1 : Has w A 0 n (B i)) (h2 : Has w A n c (B x)) (hl : 0 < c → ∃ b o, A = some ⟨b, o, none⟩ ∧ b < w.heap.size) (hn : n ≤ c) (hc : c ≤ 9223372036854775807) :
    Calls Try.prog 71 #[strip A n c i x] w fun e w' => e = .returned (.bool true) ∧ Below w.heap.size w w' := by
  have H1 := Lib.hid h1; have H2 := Lib.hid h2; have HL := Lib.hid hl
  clear h1 h2 hl
  have s1 : decide ((n : Int) ≤ (c : Int)) = true := by simp; omega
  go_enter Try.func71, Try.ntmps71
  go_wp2
  go_loopw [3] (fun i' wr => ∃ k : Nat, k ≤ n ∧ i' = .int .i64 k ∧ Below w.heap.size w wr ∧ w.heap.size + 1 ≤ wr.heap.size ∧ bk wr w.heap.size = some (.cells #[.slice A n c, B i, B x] 67 (0, 0))) (fun i _ => n - (intOf i).toNat)
  case atStart => exact ⟨0, by omega, rfl, (Below.refl _ _).alloc (Nat.le_refl _) _, by simp, bk_alloc_at _ _ _ rfl⟩
  case round =>
    obtain ⟨k, hk, rfl, hW, hsz, hbox⟩ := hrel
    have c0 := bk_cell hbox 0
    have c1 := bk_cell hbox 1
    simp at c0 c1
    by_cases hlt : k < n
    · have d1 : decide ((k : Int) < (n : Int)) = true := by simp; omega
      obtain ⟨b, o, rfl, hcell⟩ := H1.out k (by omega) hlt
      obtain ⟨b', o', e, hbl⟩ := HL.out (by omega)
      cases e
      have hu : wr.cell? ⟨b, o + k, none⟩ = some (B i) := (hW.cell (p := ⟨b, o + k, none⟩) hbl).trans hcell
      have HB := Lib.hid hbox
      clear hbox hcell
      go_wp2
      refine wp_region_later (wr.heap.size) (by kernel_rfl) (by kernel_rfl) ?_
      repeat (go_big_quiet_step (fail))
      (first | refine wpQuiet_nil ?_ | (go_big_quiet_want; (try go_big_quiet_op); trace_state; fail))
      intro w1 hw'
      have q1 := later_elim hw'
      clear hw'
      go_wp2
      go_roundw
      case rel => exact ⟨k + 1, by omega, by go_num, hW.trans (q1.mono (by omega)), Nat.le_trans hsz q1.size, bk_keep q1 (by omega) HB.out⟩
      case measure => simp [intOf]; omega
    · have d1 : decide ((k : Int) < (n : Int)) = false := by simp; omega
      obtain rfl : k = n := by omega
      clear hlt
      have c2 := bk_cell hbox 2
      simp at c2
      have HB := Lib.hid hbox
      clear hbox
      by_cases hnc : c = k
      · subst hnc
        go_wp2
        go_loopw [5] (fun i' w' => i' = .int .i64 0 ∧ wr = w') (fun i _ => 0)
        case atStart => exact ⟨rfl, rfl⟩
        case round =>
          obtain ⟨rfl, rfl⟩ := hrel
          go_wp2
          go_ret
          exact ⟨rfl, hW⟩
      · have hlt : k < c := by omega
        obtain ⟨b, o, rfl, hbl⟩ := HL.out (by omega)
        have hcn : ((c : Int) - (k : Int)).toNat = c - k := by omega
        go_wp2
        go_loopw [5] (fun i' wq => ∃ m : Nat, m ≤ c - k ∧ i' = .int .i64 m ∧ Below w.heap.size w wq ∧ w.heap.size + 1 ≤ wq.heap.size ∧ bk wq w.heap.size = some (.cells #[.slice (some ⟨b, o, none⟩) k c, B i, B x] 67 (0, 0))) (fun i _ => c - k - (intOf i).toNat)
        case atStart => exact ⟨0, by omega, rfl, hW, hsz, HB.out⟩
        case round =>
          clear c0 c1 c2 HB hsz hW
          obtain ⟨m, hm, rfl, hW, hsz, hbox⟩ := hrel
          have c2 := bk_cell hbox 2
          simp at c2
          by_cases hlt2 : m < c - k
          · have d1 : decide ((m : Int) < (c : Int) - (k : Int)) = true := by simp; omega
            have d2 : decide (m < c - k) = true := by simp; omega
            have d3 : (m : Int) < ((c - k : Nat) : Int) := by omega
            obtain ⟨b', o', e, hcell⟩ := H2.out (k + m) (by omega) (by omega)
            cases e
            rw [show o + (k + m) = o + k + m by omega] at hcell
            have hu := (hW.cell (p := ⟨b, o + k + m, none⟩) hbl).trans hcell
            have HB := Lib.hid hbox
            clear hbox hcell
            go_wp2
            refine wp_region_later (wr.heap.size) (by kernel_rfl) (by kernel_rfl) ?_
            repeat (go_big_quiet_step (fail))
            (first | refine wpQuiet_nil ?_ | (go_big_quiet_want; (try go_big_quiet_op); trace_state; fail))
            intro w1 hw'
            have q1 := later_elim hw'
            clear hw'
            go_wp2
            go_roundw
            case rel => exact ⟨m + 1, by omega, by go_num, hW.trans (q1.mono (by omega)), Nat.le_trans hsz q1.size, bk_keep q1 (by omega) HB.out⟩
            case measure => simp [intOf]; omega
          · have d1 : decide ((m : Int) < (c : Int) - (k : Int)) = false := by simp; omega
            have d2 : decide (m < c - k) = false := by simp; omega
            clear hlt2 hbox
            go_wp2
            go_ret
            exact ⟨rfl, hW⟩
end Go.Proofs.Ytjnfdpakpdahkaa
