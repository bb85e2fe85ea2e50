import Derived.Test.YtbfiakikhkiefaaS6
import Derived.Laws.BitsAllLaws
/- The cutter. -/
namespace Go.Proofs.Ytbfiakikhkiefaa
open Go.RowKit
set_option maxRecDepth 100000
/-- One block alone is another one. -/
structure Chg (g : Nat) (o : Obj) (w w' : World) : Prop where
  os : w'.os = w.os
  tape : w'.tape = w.tape
  output : w'.output = w.output
  size : w'.heap.size = w.heap.size
  new : bk w' g = some o
  old : ∀ k, k ≠ g → bk w' k = bk w k
  drawn : w'.drawn = w.drawn
theorem Chg.refl {g : Nat} {o : Obj} {w : World} (h : bk w g = some o) : Chg g o w w := ⟨rfl, rfl, rfl, rfl, h, fun _ _ => rfl, rfl⟩
theorem Chg.eq {g : Nat} {o : Obj} {w w' : World} (h : Chg g o w w') (hg : bk w g = some o) : w = w' := by
  obtain ⟨h1, h2, h3, h4, h5, h6, h7⟩ := h
  have hh : w'.heap = w.heap := Array.ext_getElem? fun i => by
    by_cases e : i = g
    · subst e; exact h5.trans hg.symm
    · exact h6 i e
  cases w; cases w'
  simp only at h1 h2 h3 h7 hh
  subst h1; subst h2; subst h3; subst h7; subst hh
  rfl
theorem Chg.set {g i : Nat} {c : Array Value} {t : TypeId} {w w1 : World} (h : Chg g (.cells c t (0, 0)) w w1) (v : Value) : Chg g (.cells (c.setIfInBounds i v) t (0, 0)) w (w1.setCell ⟨g, i, none⟩ v) :=
  ⟨h.os, h.tape, h.output, by rw [show (w1.setCell ⟨g, i, none⟩ v).heap.size = w1.heap.size by simp [World.setCell]]; exact h.size, by rw [bk_setCell_same, h.new]; rfl, fun k hk => (bk_setCell_other _ _ _ _ _ hk).trans (h.old k hk), h.drawn⟩
theorem Chg.below {g n : Nat} {o : Obj} {w w' : World} (h : Chg g o w w') (hn : n ≤ g) : Below n w w' :=
  ⟨h.os, h.tape, h.output, by rw [h.size]; exact Nat.le_refl _, fun k hk => h.old k (by omega)⟩
/-- A cutter's block. -/
def cut (A : Option Addr) (n c : Nat) (f : Bool) : Obj := .cells #[.slice A n c, .bool f] 97 (0, 0)
theorem bad_any (g n c : Nat) (A : Option Addr) (f : Bool) (w : World) (h : bk w g = some (cut A n c f)) :
    Calls Try.prog 41 #[.pointer (some ⟨g, 0, none⟩)] w fun e w' => e = .returned (.bool (!f)) ∧ w = w' := by
  have h0 := bk_cell h 0
  have h1 := bk_cell h 1
  simp at h0 h1
  clear h
  go_enter Try.func41, Try.ntmps41
  go_wp2
  go_ret
  exact ⟨rfl, rfl⟩
/-- Where a slice goes on behind m of its elements (the model lets it stand where it has no room). -/
def adv (A : Option Addr) (c m : Nat) : Option Addr := if c = m then A else A.map (·.add m)
theorem take_good (g N c : Nat) (A : Option Addr) (m : Nat) (w : World) (h : bk w g = some (cut A N c true)) (hm : m ≤ N) (hN : N ≤ c) :
    Calls Try.prog 52 #[.pointer (some ⟨g, 0, none⟩), .int .i64 m] w fun e w' => e = .returned (.slice A m m) ∧
      Chg g (cut (adv A c m) (N - m) (c - m) true) w w' := by
  unfold adv
  have h0 := bk_cell h 0
  have h1 := bk_cell h 1
  have hf := bk_frozen h 0
  simp at h0 h1
  have HG := Lib.hid h
  clear h
  have d1 : decide ((m : Int) < 0) = false := by simp
  have d2 : decide (N < m) = false := by simp; omega
  have d3 : decide ((N : Int) < (m : Int)) = false := by simp; omega
  by_cases hc : c = m
  · subst hc
    obtain rfl : N = c := by omega
    simp only [if_true]
    go_enter Try.func52, Try.ntmps52
    go_wp2
    go_ret
    exact ⟨rfl, by simpa [cut] using (Chg.refl HG.out).set (i := 0) (.slice A (N - N) (N - N))⟩
  · simp only [if_neg hc]
    go_enter Try.func52, Try.ntmps52
    go_wp2
    go_ret
    exact ⟨rfl, (Chg.refl HG.out).set (i := 0) _⟩
theorem take_bad (g N c : Nat) (A : Option Addr) (f : Bool) (m : Int) (w : World) (h : bk w g = some (cut A N c f)) (hm : f = false ∨ m < 0 ∨ (N : Int) < m) :
    Calls Try.prog 52 #[.pointer (some ⟨g, 0, none⟩), .int .i64 m] w fun e w' => e = .returned (.slice none 0 0) ∧ Chg g (cut none 0 0 false) w w' := by
  have h0 := bk_cell h 0
  have h1 := bk_cell h 1
  have hf := bk_frozen h 0
  have hf1 := bk_frozen h 1
  simp at h0 h1
  have HG := Lib.hid h
  clear h
  have hfin : Chg g (cut none 0 0 false) w ((w.setCell ⟨g, 0, none⟩ (.slice none 0 0)).setCell ⟨g, 1, none⟩ (.bool false)) := ((Chg.refl HG.out).set (i := 0) (.slice none 0 0)).set (i := 1) (.bool false)
  have HF := Lib.hid hfin
  clear hfin HG
  by_cases h1' : m < 0
  · have d1 : decide (m < 0) = true := by simpa using h1'
    clear hm
    go_enter Try.func52, Try.ntmps52
    go_wp2
    go_ret
    exact ⟨rfl, HF.out⟩
  · have d1 : decide (m < 0) = false := by simpa using h1'
    by_cases h2' : (N : Int) < m
    · have d2 : decide ((N : Int) < m) = true := by simpa using h2'
      clear hm
      go_enter Try.func52, Try.ntmps52
      go_wp2
      go_ret
      exact ⟨rfl, HF.out⟩
    · have d2 : decide ((N : Int) < m) = false := by simpa using h2'
      obtain rfl : f = false := by rcases hm with h | h | h; exact h; exact absurd h h1'; exact absurd h h2'
      clear hm
      go_enter Try.func52, Try.ntmps52
      go_wp2
      go_ret
      exact ⟨rfl, HF.out⟩
end Go.Proofs.Ytbfiakikhkiefaa
/- The cutter: made, numbers, bytes, the rest. -/
namespace Go.Proofs.Ytbfiakikhkiefaa
open Go.RowKit
set_option maxRecDepth 100000
theorem bytes_good (g N c : Nat) (A : Option Addr) (m : Nat) (w : World) (h : bk w g = some (cut A N c true)) (hm : m ≤ N) (hN : N ≤ c) :
    Calls Try.prog 40 #[.pointer (some ⟨g, 0, none⟩), .int .i64 m] w fun e w' => e = .returned (.slice A m m) ∧
      Chg g (cut (adv A c m) (N - m) (c - m) true) w w' := by
  have C := Lib.hid (take_good g N c A m w h hm hN)
  clear h hm hN
  go_enter Try.func40, Try.ntmps40
  go_wp2_with fail
  refine (C.out).mono ?_
  rintro e w1 ⟨rfl, b1⟩
  have HB := Lib.hid b1
  clear b1 C
  go_wp2_with fail
  go_ret
  exact ⟨rfl, HB.out⟩
theorem bytes_bad (g N c : Nat) (A : Option Addr) (f : Bool) (m : Int) (w : World) (h : bk w g = some (cut A N c f)) (hm : f = false ∨ m < 0 ∨ (N : Int) < m) :
    Calls Try.prog 40 #[.pointer (some ⟨g, 0, none⟩), .int .i64 m] w fun e w' => e = .returned (.slice none 0 0) ∧ Chg g (cut none 0 0 false) w w' := by
  have C := Lib.hid (take_bad g N c A f m w h hm)
  clear h hm
  go_enter Try.func40, Try.ntmps40
  go_wp2_with fail
  refine (C.out).mono ?_
  rintro e w1 ⟨rfl, b1⟩
  have HB := Lib.hid b1
  clear b1 C
  go_wp2_with fail
  go_ret
  exact ⟨rfl, HB.out⟩


theorem of_cut (A : Option Addr) (l : List UInt8) (c : Nat) (w : World) (h : Rd w w.heap.size A l) (hA : A = none → l = [] ∧ c = 0) (hl : l.length < 2 ^ 46) :
    Calls Try.prog 38 #[.slice A l.length c] w fun e w' => ∃ g A' c', e = .returned (.pointer (some ⟨g, 0, none⟩)) ∧ w.heap.size ≤ g ∧ bk w' g = some (cut A' l.length c' true) ∧
      w'.ownsRow w.heap.size 5 1 (.slice A' l.length c') l.length (l.map B) ∧ Rd w' g A' l ∧ l.length ≤ c' ∧ Below w.heap.size w w' := by
  have C := Lib.hid (clone_both A l c w h hA hl)
  clear h hA
  go_enter Try.func38, Try.ntmps38
  go_wp2_with fail
  refine C.out.mono ?_
  rintro e w1 ⟨v, rfl, ho, hb⟩
  obtain ⟨A', c', rfl, hrd, _, hlc⟩ := Rd.of_own ho rfl
  have HO := Lib.hid ho
  have HR := Lib.hid (hrd.below ((Below.refl _ _).alloc (Nat.le_refl _) (cut A' l.length c' true)) (Nat.le_refl _))
  clear ho C hrd
  go_wp2_with fail
  go_ret
  refine ⟨w1.heap.size, A', c', rfl, hb.size, bk_alloc_at _ _ _ rfl, HO.out.alloc _, HR.out, hlc, hb.alloc hb.size _⟩
end Go.Proofs.Ytbfiakikhkiefaa
/- The cutter's numbers. -/
namespace Go.Proofs.Ytbfiakikhkiefaa
open Go.RowKit
set_option maxRecDepth 100000
/-- The number of bytes, the greatest first. -/
def val (l : List UInt8) : Nat := l.foldl (fun n b => 256 * n + b.toNat) 0
theorem val_take (l : List UInt8) (k : Nat) (h : k < l.length) : val (l.take (k + 1)) = 256 * val (l.take k) + (l[k]).toNat := by
  rw [List.take_succ_eq_append_getElem h, val, List.foldl_append]
  rfl
theorem or8 (v b : Nat) (hv : v < 2 ^ 56) (hb : b < 256) : bits .or .u64 ((v : Int) * 256) (b : Int) = ((256 * v + b : Nat) : Int) := by
  have h := u64_or_nat (v * 256) b (by omega) (by omega)
  rw [nat_join 8 (v * 256) b (by omega) (by omega)] at h
  rw [show ((v : Int) * 256) = ((v * 256 : Nat) : Int) by omega, h]
  congr 1; omega
theorem val_lt (l : List UInt8) : val l < 256 ^ l.length := by
  have key : ∀ (l : List UInt8) (n : Nat), l.foldl (fun n b => 256 * n + b.toNat) n < 256 ^ l.length * (n + 1) := by
    intro l
    induction l with
    | nil => intro n; simp
    | cons b l ih =>
      intro n
      have := ih (256 * n + b.toNat)
      have hb := b.toNat_lt
      simp only [List.foldl_cons, List.length_cons, Nat.pow_succ]
      refine Nat.lt_of_lt_of_le this ?_
      rw [Nat.mul_assoc]
      exact Nat.mul_le_mul_left _ (by omega)
  have := key l 0
  simpa [val] using this
theorem num_good (g N c : Nat) (A : Option Addr) (l : List UInt8) (m : Nat) (w : World) (h : bk w g = some (cut A N c true)) (hr : Rd w g A l) (hl : l.length = m) (h1 : 1 ≤ m) (h8 : m ≤ 8) (hm : m ≤ N) (hN : N ≤ c) :
    Calls Try.prog 39 #[.pointer (some ⟨g, 0, none⟩), .int .i64 m] w fun e w' => e = .returned (.int .u64 (val l)) ∧
      Chg g (cut (adv A c m) (N - m) (c - m) true) w w' := by
  have C := Lib.hid (take_good g N c A m w h hm hN)
  have HR := Lib.hid hr
  have HL := Lib.hid hl
  clear h hr hm hN hl
  have d1 : decide ((m : Int) < 1) = false := by simp; omega
  have d2 : decide (8 < (m : Int)) = false := by simp; omega
  have d3 : decide (m < 1) = false := by simp; omega
  have d4 : decide (8 < m) = false := by simp; omega
  go_enter Try.func39, Try.ntmps39
  go_wp2_with fail
  refine (C.out).mono ?_
  rintro e w1 ⟨rfl, b1⟩
  have HB := Lib.hid b1
  have hr1 : Rd w1 g A l := HR.out.below (b1.below (Nat.le_refl _)) (Nat.le_refl _)
  have HR1 := Lib.hid hr1
  clear b1 C hr1 HR
  go_wp2
  go_loopw [4, 17] (fun x i w' => ∃ k : Nat, k ≤ m ∧ i = .int .i64 k ∧ x = .int .u64 (val (l.take k)) ∧ w1 = w') (fun _ i _ => m - (intOf i).toNat)
  case atStart => exact ⟨0, by omega, by go_num, rfl, rfl⟩
  case round =>
    obtain ⟨k, hk, rfl, rfl, rfl⟩ := hrel
    by_cases hlt : k < m
    · have hkl : k < l.length := by rw [HL.out]; exact hlt
      have e5 : decide ((k : Int) < (m : Int)) = true := by simp; omega
      obtain ⟨b1, o1, rfl, hb1, hc1⟩ := HR1.out.at hkl
      obtain ⟨y, hy⟩ : ∃ y, y = l[k] := ⟨_, rfl⟩
      obtain ⟨v, hv⟩ : ∃ v, v = val (l.take k) := ⟨_, rfl⟩
      have hv2 : val (l.take (k + 1)) = 256 * v + y.toNat := by rw [hv, hy]; exact val_take l k hkl
      have hv1 : v < 256 ^ 7 := by
        rw [hv]
        refine Nat.lt_of_lt_of_le (val_lt _) (Nat.pow_le_pow_right (by omega) ?_)
        rw [List.length_take]; omega
      have hyl := y.toNat_lt
      rw [← hy] at hc1
      rw [← hv]
      simp only [Nat.reducePow] at hv1
      have HV2 := Lib.hid hv2
      clear hv2 hv hy
      go_wp2
      go_roundw
      case rel => exact ⟨k + 1, by omega, by go_num, by rw [HV2.out, or8 v y.toNat (by omega) hyl], by trivial⟩
      case measure => simp [intOf]; omega
    · have e5 : decide ((k : Int) < (m : Int)) = false := by simp; omega
      have e6 : val (l.take k) = val l := by rw [List.take_of_length_le]; have := HL.out; omega
      rw [e6]
      have e7 : decide (k < m) = false := by simp; omega
      clear e6 hlt
      go_wp2
      go_ret
      exact ⟨rfl, HB.out⟩
theorem num_take (g N c : Nat) (A : Option Addr) (f : Bool) (m : Int) (w : World) (h : bk w g = some (cut A N c f)) (hm : f = false ∨ m < 1 ∨ 8 < m ∨ (N : Int) < m) :
    Calls Try.prog 39 #[.pointer (some ⟨g, 0, none⟩), .int .i64 m] w fun e w' => e = .returned (.int .u64 0) ∧ Chg g (cut none 0 0 false) w w' := by
  obtain ⟨m', hm'⟩ : ∃ m' : Int, m' = if m < 1 ∨ 8 < m then -1 else m := ⟨_, rfl⟩
  have C := Lib.hid (take_bad g N c A f m' w h (by rcases hm with h | h | h | h <;> (rw [hm']; split <;> first | exact .inl h | (exact .inr (.inl (by omega))) | (exact .inr (.inr h)) | omega)))
  clear h hm
  by_cases h1 : m < 1
  · have d1 : decide (m < 1) = true := by simpa using h1
    rw [if_pos (.inl h1)] at hm'
    subst hm'
    go_enter Try.func39, Try.ntmps39
    go_wp2_with fail
    refine (C.out).mono ?_
    rintro e w1 ⟨rfl, b1⟩
    have HB := Lib.hid b1
    clear b1 C
    go_wp2
    go_loopw [4, 17] (fun x i w' => x = .int .u64 0 ∧ i = .int .i64 0 ∧ w1 = w') (fun _ i _ => 0)
    case atStart => exact ⟨rfl, rfl, rfl⟩
    case round =>
      obtain ⟨rfl, rfl, rfl⟩ := hrel
      go_wp2
      go_ret
      exact ⟨rfl, HB.out⟩
  · have d1 : decide (m < 1) = false := by simpa using h1
    by_cases h2 : 8 < m
    · have d2 : decide (8 < m) = true := by simpa using h2
      rw [if_pos (.inr h2)] at hm'
      subst hm'
      go_enter Try.func39, Try.ntmps39
      go_wp2_with fail
      refine (C.out).mono ?_
      rintro e w1 ⟨rfl, b1⟩
      have HB := Lib.hid b1
      clear b1 C
      go_wp2
      go_loopw [4, 17] (fun x i w' => x = .int .u64 0 ∧ i = .int .i64 0 ∧ w1 = w') (fun _ i _ => 0)
      case atStart => exact ⟨rfl, rfl, rfl⟩
      case round =>
        obtain ⟨rfl, rfl, rfl⟩ := hrel
        go_wp2
        go_ret
        exact ⟨rfl, HB.out⟩
    · have d2 : decide (8 < m) = false := by simpa using h2
      rw [if_neg (by omega)] at hm'
      subst hm'
      go_enter Try.func39, Try.ntmps39
      go_wp2_with fail
      refine (C.out).mono ?_
      rintro e w1 ⟨rfl, b1⟩
      have HB := Lib.hid b1
      clear b1 C
      go_wp2
      go_loopw [4, 17] (fun x i w' => x = .int .u64 0 ∧ i = .int .i64 0 ∧ w1 = w') (fun _ i _ => 0)
      case atStart => exact ⟨rfl, rfl, rfl⟩
      case round =>
        obtain ⟨rfl, rfl, rfl⟩ := hrel
        go_wp2
        go_ret
        exact ⟨rfl, HB.out⟩
end Go.Proofs.Ytbfiakikhkiefaa
/- The cutter, by what it holds. -/
namespace Go.Proofs.Ytbfiakikhkiefaa
open Go.RowKit
set_option maxRecDepth 100000
theorem Rd.adv {w : World} {n c m : Nat} {A : Option Addr} {l : List UInt8} (h : Rd w n A l) (hc : l.length ≤ c) : Rd w n (Go.Proofs.Ytbfiakikhkiefaa.adv A c m) (l.drop m) := fun h0 => by
  have hlt : m < l.length := by rw [List.length_drop] at h0; omega
  obtain ⟨b, o, rfl, hb, hcell⟩ := h (by omega)
  unfold Go.Proofs.Ytbfiakikhkiefaa.adv
  rw [if_neg (by omega)]
  refine ⟨b, o + m, ?_, hb, fun j hj => ?_⟩
  · show some (Addr.add _ m) = _
    unfold Addr.add
    split
    · rename_i h; subst h; rfl
    · rfl
  · rw [List.length_drop] at hj
    have := hcell (m + j) (by omega)
    rw [show o + m + j = o + (m + j) by omega, this]
    simp
theorem Rd.take {w : World} {n m : Nat} {A : Option Addr} {l : List UInt8} (h : Rd w n A l) : Rd w n A (l.take m) := fun h0 => by
  obtain ⟨b, o, rfl, hb, hcell⟩ := h (by rw [List.length_take] at h0; omega)
  refine ⟨b, o, rfl, hb, fun j hj => ?_⟩
  rw [List.length_take] at hj
  rw [hcell j (by omega)]
  simp
/-- A cutter that holds the bytes l; one that is spoilt. -/
def KC (w : World) (g : Nat) (l : List UInt8) : Prop := ∃ A c, bk w g = some (cut A l.length c true) ∧ Rd w g A l ∧ l.length ≤ c
def KB (w : World) (g : Nat) : Prop := ∃ A N c, bk w g = some (cut A N c false)
structure Only (g : Nat) (w w' : World) : Prop where
  os : w'.os = w.os
  tape : w'.tape = w.tape
  output : w'.output = w.output
  size : w'.heap.size = w.heap.size
  old : ∀ k, k ≠ g → bk w' k = bk w k
theorem Chg.only {g : Nat} {o : Obj} {w w' : World} (h : Chg g o w w') : Only g w w' := ⟨h.os, h.tape, h.output, h.size, h.old⟩
theorem Only.below {g n : Nat} {w w' : World} (h : Only g w w') (hn : n ≤ g) : Below n w w' := ⟨h.os, h.tape, h.output, by rw [h.size]; exact Nat.le_refl _, fun k hk => h.old k (by omega)⟩
theorem Only.refl (g : Nat) (w : World) : Only g w w := ⟨rfl, rfl, rfl, rfl, fun _ _ => rfl⟩
theorem Only.trans {g : Nat} {a b c : World} (h : Only g a b) (k : Only g b c) : Only g a c := ⟨k.os.trans h.os, k.tape.trans h.tape, k.output.trans h.output, k.size.trans h.size, fun j hj => (k.old j hj).trans (h.old j hj)⟩
theorem KC.next {g m c N : Nat} {A : Option Addr} {l : List UInt8} {w w' : World} (hr : Rd w g A l) (hN : N = l.length) (hc : l.length ≤ c) (h : Chg g (cut (Go.Proofs.Ytbfiakikhkiefaa.adv A c m) (N - m) (c - m) true) w w') : KC w' g (l.drop m) := by
  subst hN
  exact ⟨_, _, by rw [List.length_drop]; exact h.new, (hr.adv hc).below (h.below (Nat.le_refl _)) (Nat.le_refl _), by rw [List.length_drop]; omega⟩
theorem num_K (g : Nat) (l : List UInt8) (m : Nat) (w : World) (h : KC w g l) (h1 : 1 ≤ m) (h8 : m ≤ 8) (hm : m ≤ l.length) :
    Calls Try.prog 39 #[.pointer (some ⟨g, 0, none⟩), .int .i64 m] w fun e w' => e = .returned (.int .u64 (val (l.take m))) ∧ KC w' g (l.drop m) ∧ Only g w w' := by
  obtain ⟨A, c, hb, hr, hc⟩ := h
  refine (num_good g l.length c A (l.take m) m w hb hr.take (by rw [List.length_take]; omega) h1 h8 hm hc).mono ?_
  rintro e w' ⟨rfl, hch⟩
  exact ⟨rfl, KC.next hr rfl hc hch, hch.only⟩
theorem num_KB (g : Nat) (m : Int) (w : World) (h : KB w g) :
    Calls Try.prog 39 #[.pointer (some ⟨g, 0, none⟩), .int .i64 m] w fun e w' => e = .returned (.int .u64 0) ∧ KB w' g ∧ Only g w w' := by
  obtain ⟨A, N, c, hb⟩ := h
  refine (num_take g N c A false m w hb (.inl rfl)).mono ?_
  rintro e w' ⟨rfl, hch⟩
  exact ⟨rfl, ⟨_, _, _, hch.new⟩, hch.only⟩
theorem num_KS (g : Nat) (l : List UInt8) (m : Int) (w : World) (h : KC w g l) (hm : m < 1 ∨ 8 < m ∨ (l.length : Int) < m) :
    Calls Try.prog 39 #[.pointer (some ⟨g, 0, none⟩), .int .i64 m] w fun e w' => e = .returned (.int .u64 0) ∧ KB w' g ∧ Only g w w' := by
  obtain ⟨A, c, hb, _, _⟩ := h
  refine (num_take g l.length c A true m w hb (.inr hm)).mono ?_
  rintro e w' ⟨rfl, hch⟩
  exact ⟨rfl, ⟨_, _, _, hch.new⟩, hch.only⟩
theorem bytes_K (g : Nat) (l : List UInt8) (m : Nat) (w : World) (h : KC w g l) (hm : m ≤ l.length) :
    Calls Try.prog 40 #[.pointer (some ⟨g, 0, none⟩), .int .i64 m] w fun e w' => ∃ A, e = .returned (.slice A m m) ∧ Rd w' g A (l.take m) ∧ KC w' g (l.drop m) ∧ Only g w w' := by
  obtain ⟨A, c, hb, hr, hc⟩ := h
  refine (bytes_good g l.length c A m w hb hm hc).mono ?_
  rintro e w' ⟨rfl, hch⟩
  exact ⟨A, rfl, hr.take.below (hch.below (Nat.le_refl _)) (Nat.le_refl _), KC.next hr rfl hc hch, hch.only⟩
theorem bad_K (g : Nat) (l : List UInt8) (w : World) (h : KC w g l) : Calls Try.prog 41 #[.pointer (some ⟨g, 0, none⟩)] w fun e w' => e = .returned (.bool false) ∧ w = w' := by
  obtain ⟨A, c, hb, _, _⟩ := h
  exact bad_any g _ c A true w hb
theorem bad_KB (g : Nat) (w : World) (h : KB w g) : Calls Try.prog 41 #[.pointer (some ⟨g, 0, none⟩)] w fun e w' => e = .returned (.bool true) ∧ w = w' := by
  obtain ⟨A, N, c, hb⟩ := h
  exact bad_any g _ c A false w hb

theorem of_K (A : Option Addr) (l : List UInt8) (c : Nat) (w : World) (h : Rd w w.heap.size A l) (hA : A = none → l = [] ∧ c = 0) (hl : l.length < 2 ^ 46) :
    Calls Try.prog 38 #[.slice A l.length c] w fun e w' => ∃ g, e = .returned (.pointer (some ⟨g, 0, none⟩)) ∧ w.heap.size ≤ g ∧ KC w' g l ∧ Below w.heap.size w w' := by
  refine (of_cut A l c w h hA hl).mono ?_
  rintro e w' ⟨g, A', c', rfl, hg, hb, _, hr, hlc, hbel⟩
  exact ⟨g, rfl, hg, ⟨A', c', hb, hr, hlc⟩, hbel⟩
theorem bytes_KB (g : Nat) (m : Int) (w : World) (h : KB w g) :
    Calls Try.prog 40 #[.pointer (some ⟨g, 0, none⟩), .int .i64 m] w fun e w' => e = .returned (.slice none 0 0) ∧ KB w' g ∧ Only g w w' := by
  obtain ⟨A, N, c, hb⟩ := h
  refine (bytes_bad g N c A false m w hb (.inl rfl)).mono ?_
  rintro e w' ⟨rfl, hch⟩
  exact ⟨rfl, ⟨_, _, _, hch.new⟩, hch.only⟩
theorem bytes_KS (g : Nat) (l : List UInt8) (m : Int) (w : World) (h : KC w g l) (hm : m < 0 ∨ (l.length : Int) < m) :
    Calls Try.prog 40 #[.pointer (some ⟨g, 0, none⟩), .int .i64 m] w fun e w' => e = .returned (.slice none 0 0) ∧ KB w' g ∧ Only g w w' := by
  obtain ⟨A, c, hb, _, _⟩ := h
  refine (bytes_bad g l.length c A true m w hb (.inr hm)).mono ?_
  rintro e w' ⟨rfl, hch⟩
  exact ⟨rfl, ⟨_, _, _, hch.new⟩, hch.only⟩
theorem Only.grown {g : Nat} {w w' : World} (h : Only g w w') : w.grownBy w' (some g) := ⟨h.os, h.tape, h.output, by rw [h.size]; exact Nat.le_refl _, fun k _ hk => h.old k (fun e => hk (by rw [e]))⟩
theorem ownsRow_only {w w' : World} {g base : Nat} {e : TypeId} {size : Nat} {v : Value} {n : Nat} {xs : List Value} (h : w.ownsRow base e size v n xs) (ho : Only g w w') (hg : g < base) : w'.ownsRow base e size v n xs :=
  h.kept ho.grown (by
    rcases hx : v.ownBlock with _ | k
    · exact .inl rfl
    · refine .inr fun e => ?_
      have := (h.lt k hx).1
      cases e
      omega)
theorem Rd.none_nil {w : World} {n : Nat} {l : List UInt8} (h : Rd w n none l) : l = [] := by
  rcases Nat.eq_zero_or_pos l.length with h0 | h0
  · exact List.eq_nil_of_length_eq_zero h0
  · obtain ⟨b, o, e, _⟩ := h h0
    cases e
theorem Only.size_eq {g : Nat} {w w' : World} (h : Only g w w') : w'.heap.size = w.heap.size := h.size

end Go.Proofs.Ytbfiakikhkiefaa
/- Literal slices; a cutter is kept. -/
namespace Go.Proofs.Ytbfiakikhkiefaa
open Go.RowKit
set_option maxRecDepth 100000
theorem Rd.lit (w : World) (l : List UInt8) (t : TypeId) : Rd (w.alloc (.cells (l.map B).toArray t (0, 0))) (w.alloc (.cells (l.map B).toArray t (0, 0))).heap.size (some ⟨w.heap.size, 0, none⟩) l :=
  Rd.of_bk (bk_alloc_at _ _ _ rfl) (by simp [World.size_alloc]) fun j hj => by rw [Nat.zero_add, List.getElem?_eq_getElem hj]
theorem Rd.of_take {w : World} {g n m : Nat} {cur : Array Value} {l : List UInt8} {t : TypeId} {fr : Nat × Nat} (h : bk w g = some (.cells cur t fr)) (ht : cur.toList.take m = l.map B) (hg : g < n) : Rd w n (some ⟨g, 0, none⟩) l := fun _ => ⟨g, 0, rfl, hg, fun j hj => by
  rw [bk_cell h, Nat.zero_add]
  have e : (cur.toList.take m)[j]? = (l.map B)[j]? := by rw [ht]
  have hm : j < m := by
    rcases Nat.lt_or_ge j m with h' | h'
    · exact h'
    · rw [List.getElem?_eq_none (by rw [List.length_take]; omega), List.getElem?_map, List.getElem?_eq_getElem hj] at e; cases e
  rw [List.getElem?_take_of_lt hm, List.getElem?_map, List.getElem?_eq_getElem hj] at e
  rw [← Array.getElem?_toList]
  exact e⟩
theorem KC.keep {w w' : World} {g n : Nat} {l : List UInt8} (h : KC w g l) (hb : Below n w w') (hn : g < n) : KC w' g l := by
  obtain ⟨A, c, h1, h2, h3⟩ := h
  exact ⟨A, c, bk_keep hb hn h1, h2.below hb (by omega), h3⟩
theorem KB.keep {w w' : World} {g n : Nat} (h : KB w g) (hb : Below n w w') (hn : g < n) : KB w' g := by
  obtain ⟨A, N, c, h1⟩ := h
  exact ⟨A, N, c, bk_keep hb hn h1⟩
theorem KC.lt {w : World} {g : Nat} {l : List UInt8} (h : KC w g l) : g < w.heap.size := by
  obtain ⟨A, c, h1, _⟩ := h
  exact bk_lt h1
end Go.Proofs.Ytbfiakikhkiefaa
/- Numbers in bytes: plain laws. -/
namespace Go.Proofs.Ytbfiakikhkiefaa
open Go.RowKit
theorem val_go (l : List UInt8) : ∀ n, l.foldl (fun n b => 256 * n + b.toNat) n = n * 256 ^ l.length + val l := by
  induction l with
  | nil => intro n; simp [val]
  | cons b l ih =>
    intro n
    simp only [List.foldl_cons, List.length_cons, val]
    rw [ih, ih (256 * 0 + b.toNat), Nat.pow_succ, Nat.add_mul, Nat.mul_zero, Nat.zero_add]
    have : 256 * n * 256 ^ l.length = n * (256 ^ l.length * 256) := by rw [Nat.mul_comm 256 n, Nat.mul_assoc, Nat.mul_comm 256]
    omega
theorem val_cons (b : UInt8) (l : List UInt8) : val (b :: l) = b.toNat * 256 ^ l.length + val l := by
  show List.foldl _ (256 * 0 + b.toNat) l = _
  rw [val_go]; simp
theorem less_val : ∀ a b : List UInt8, a.length = b.length → Op.bytesLess a b = decide (val a < val b)
  | [], [], _ => by simp [Op.bytesLess]
  | [], _ :: _, h => by simp at h
  | _ :: _, [], h => by simp at h
  | x :: a, y :: b, h => by
    have hl : a.length = b.length := by simpa using h
    have ih := less_val a b hl
    have ha := val_lt a
    have hb := val_lt b
    rw [← hl] at hb
    rw [Op.bytesLess, ih, val_cons, val_cons, ← hl]
    have hx : (decide (x < y)) = decide (x.toNat < y.toNat) := by rw [Bool.eq_iff_iff]; simp [UInt8.lt_iff_toNat_lt]
    have he : (x == y) = decide (x.toNat = y.toNat) := by rw [Bool.eq_iff_iff]; simp [← UInt8.toNat_inj]
    rw [hx, he]
    generalize x.toNat = p, y.toNat = q, val a = s, val b = t, 256 ^ a.length = N at *
    rw [Bool.eq_iff_iff]
    simp only [Bool.or_eq_true, Bool.and_eq_true, decide_eq_true_eq]
    constructor
    · rintro (h1 | ⟨rfl, h2⟩)
      · have : (p + 1) * N ≤ q * N := Nat.mul_le_mul_right _ h1
        rw [Nat.add_mul] at this; omega
      · omega
    · intro h3
      rcases Nat.lt_trichotomy p q with h4 | h4 | h4
      · exact .inl h4
      · subst h4; exact .inr ⟨rfl, by omega⟩
      · have : (q + 1) * N ≤ p * N := Nat.mul_le_mul_right _ h4
        rw [Nat.add_mul] at this; omega
theorem val_inj : ∀ a b : List UInt8, a.length = b.length → val a = val b → a = b
  | [], [], _, _ => rfl
  | [], _ :: _, h, _ => by simp at h
  | _ :: _, [], h, _ => by simp at h
  | x :: a, y :: b, h, hv => by
    have hl : a.length = b.length := by simpa using h
    have ha := val_lt a
    have hb := val_lt b
    rw [← hl] at hb
    rw [val_cons, val_cons, ← hl] at hv
    have hxy : x.toNat = y.toNat := by
      generalize x.toNat = p, y.toNat = q, val a = s, val b = t, 256 ^ a.length = N at *
      rcases Nat.lt_trichotomy p q with h4 | h4 | h4
      · have : (p + 1) * N ≤ q * N := Nat.mul_le_mul_right _ h4
        rw [Nat.add_mul] at this; omega
      · exact h4
      · have : (q + 1) * N ≤ p * N := Nat.mul_le_mul_right _ h4
        rw [Nat.add_mul] at this; omega
    rw [hxy] at hv
    rw [UInt8.toNat_inj.1 hxy, val_inj a b hl (by omega)]
theorem val_nb_take (k m : Nat) : ∀ j, j ≤ k → val ((nb k m).take j) = m / 256 ^ (k - j) % 256 ^ j
  | 0, _ => by simp [val, Nat.mod_one]
  | j + 1, h => by
    have hj : j < (nb k m).length := by rw [nb_length]; omega
    rw [val_take _ _ hj, val_nb_take k m j (by omega)]
    have e : ((nb k m)[j]).toNat = m / 256 ^ (k - 1 - j) % 256 := by
      simp [nb]
    rw [e, show k - (j + 1) = k - 1 - j by omega, show k - j = (k - 1 - j) + 1 by omega, Nat.pow_succ 256 (k - 1 - j), ← Nat.div_div_eq_div_mul]
    generalize m / 256 ^ (k - 1 - j) = q
    rw [Nat.pow_succ, Nat.mul_comm (256 ^ j) 256, Nat.mod_mul]
    omega
theorem val_nb (k m : Nat) : val (nb k m) = m % 256 ^ k := by
  have := val_nb_take k m k (Nat.le_refl _)
  rwa [List.take_of_length_le (by rw [nb_length]; omega), Nat.sub_self, Nat.pow_zero, Nat.div_one] at this
theorem less_nb (k m n : Nat) (hm : m < 256 ^ k) (hn : n < 256 ^ k) : Op.bytesLess (nb k m) (nb k n) = decide (m < n) := by
  rw [less_val _ _ (by simp [nb_length]), val_nb, val_nb, Nat.mod_eq_of_lt hm, Nat.mod_eq_of_lt hn]
theorem same_nb (k m n : Nat) (hm : m < 256 ^ k) (hn : n < 256 ^ k) : (nb k m == nb k n) = decide (m = n) := by
  rw [Bool.eq_iff_iff, beq_iff_eq, decide_eq_true_eq]
  constructor
  · intro h
    have := congrArg val h
    rwa [val_nb, val_nb, Nat.mod_eq_of_lt hm, Nat.mod_eq_of_lt hn] at this
  · rintro rfl; rfl
end Go.Proofs.Ytbfiakikhkiefaa
/- What a cutter gives: plain. -/
namespace Go.Proofs.Ytbfiakikhkiefaa
open Go.RowKit
/-- What is cut, and what is left, when n bytes are asked for. -/
def cutB (n : Int) : Option (List UInt8) → List UInt8 × Option (List UInt8)
  | none => ([], none)
  | some l => if n < 0 ∨ (l.length : Int) < n then ([], none) else (l.take n.toNat, some (l.drop n.toNat))
theorem cutB_none (n : Int) : cutB n none = ([], none) := rfl
theorem cutB_bad {n : Int} {l : List UInt8} (h : n < 0 ∨ (l.length : Int) < n) : cutB n (some l) = ([], none) := by simp [cutB, h]
theorem cutB_good {n : Nat} {l : List UInt8} (h : n ≤ l.length) : cutB n (some l) = (l.take n, some (l.drop n)) := by
  simp only [cutB]
  rw [if_neg (by omega)]
  simp
/-- How many bytes a number asks for. -/
def ask (n : Int) : Int := if n < 1 ∨ 8 < n then -1 else n
theorem cutB_len (n : Int) (st : Option (List UInt8)) : (cutB (ask n) st).1.length ≤ 8 := by
  cases st with
  | none => simp [cutB]
  | some l =>
    unfold ask
    split
    · rw [cutB_bad (.inl (by omega))]; simp
    · by_cases hb : n < 0 ∨ (l.length : Int) < n
      · rw [cutB_bad hb]; simp
      · obtain ⟨m, rfl⟩ := Int.eq_ofNat_of_zero_le (show 0 ≤ n by omega)
        have := cutB_good (n := m) (l := l) (by omega)
        rw [show ((m : Nat) : Int) = (m : Int) from rfl] at this
        rw [this, List.length_take]; omega
end Go.Proofs.Ytbfiakikhkiefaa
/- The program's cutter, by where it stands. -/
namespace Go.Proofs.Ytbfiakikhkiefaa
open Go.RowKit
set_option maxRecDepth 100000
/-- The bytes that are cut lie in block gb. -/
def PB (w : World) (gb : Nat) (L : List UInt8) : Prop := 0 < L.length → ∃ cur, bk w gb = some (.cells cur 5 (0, 0)) ∧ L.length ≤ cur.size ∧ cur.toList.take L.length = L.map B
/-- A cutter of them stands behind q of them, or is spoilt. -/
def PK (w : World) (gc gb : Nat) (L : List UInt8) : Option Nat → Prop
  | some q => q ≤ L.length ∧ ∃ A c, bk w gc = some (cut A (L.length - q) c true) ∧ L.length - q ≤ c ∧ (q < L.length → A = some ⟨gb, q, none⟩)
  | none => KB w gc
def stOf (L : List UInt8) (p : Option Nat) : Option (List UInt8) := p.map fun q => L.drop q
def posB (n : Int) (L : List UInt8) : Option Nat → Option Nat
  | none => none
  | some q => if n < 0 ∨ ((L.length - q : Nat) : Int) < n then none else some (q + n.toNat)
theorem posB_st (n : Int) (L : List UInt8) (p : Option Nat) : (cutB n (stOf L p)).2 = stOf L (posB n L p) := by
  cases p with
  | none => rfl
  | some q =>
    show (cutB n (some (L.drop q))).2 = _
    unfold cutB posB stOf
    simp only [List.length_drop]
    split
    · rfl
    · simp
theorem PB.rd {w : World} {gb q m n : Nat} {L : List UInt8} (h : PB w gb L) (hg : gb < n) : Rd w n (some ⟨gb, q, none⟩) ((L.drop q).take m) := fun h0 => by
  rw [List.length_take, List.length_drop] at h0
  obtain ⟨cur, hb, hl, ht⟩ := h (by omega)
  refine ⟨gb, q, rfl, hg, fun j hj => ?_⟩
  rw [List.length_take, List.length_drop] at hj
  rw [bk_cell hb]
  have e : (cur.toList.take L.length)[q + j]? = (L.map B)[q + j]? := by rw [ht]
  rw [List.getElem?_take_of_lt (by omega), List.getElem?_map, List.getElem?_eq_getElem (show q + j < L.length by omega)] at e
  rw [← Array.getElem?_toList]
  simpa using e
theorem PB.grown {w w' : World} {gb g : Nat} {L : List UInt8} (h : PB w gb L) (hg : w.grownBy w' (some g)) (hne : gb ≠ g) : PB w' gb L := fun h0 => by
  obtain ⟨cur, hb, h1, h2⟩ := h h0
  exact ⟨cur, (hg.block gb (bk_lt hb) (fun e => hne (by injection e))).trans hb, h1, h2⟩
def PTook (gc gb : Nat) (L : List UInt8) (p : Option Nat) (n : Int) (w : World) (e : Ending) (w' : World) : Prop :=
  ∃ A, e = .returned (.slice A (cutB n (stOf L p)).1.length (cutB n (stOf L p)).1.length) ∧ (0 < (cutB n (stOf L p)).1.length → ∃ q, p = some q ∧ A = some ⟨gb, q, none⟩ ∧ posB n L p = some (q + (cutB n (stOf L p)).1.length) ∧ q + (cutB n (stOf L p)).1.length ≤ L.length ∧ (cutB n (stOf L p)).1 = (L.drop q).take (cutB n (stOf L p)).1.length) ∧
    PK w' gc gb L (posB n L p) ∧ w.grownBy w' (some gc)
theorem Chg.grown {g : Nat} {o : Obj} {w w' : World} (h : Chg g o w w') : w.grownBy w' (some g) := h.only.grown
theorem PK.next {w w' : World} {gc gb q m N c : Nat} {L : List UInt8} {A : Option Addr} (hq : q ≤ L.length) (hN : N = L.length - q) (hc : N ≤ c) (hm : m ≤ N) (hA : q < L.length → A = some ⟨gb, q, none⟩) (h : Chg gc (cut (adv A c m) (N - m) (c - m) true) w w') : PK w' gc gb L (some (q + m)) := by
  refine ⟨by omega, adv A c m, c - m, ?_, by omega, fun hlt => ?_⟩
  · rw [show L.length - (q + m) = N - m by omega]; exact h.new
  · have := hA (by omega)
    subst this
    unfold adv
    rw [if_neg (by omega)]
    show some (Addr.add _ m) = _
    unfold Addr.add
    split
    · rename_i h0; rw [h0]; rfl
    · rfl
theorem pbytes_any (gc gb : Nat) (L : List UInt8) (p : Option Nat) (n : Int) (w : World) (h : PK w gc gb L p) :
    Calls Try.prog 40 #[.pointer (some ⟨gc, 0, none⟩), .int .i64 n] w (PTook gc gb L p n w) := by
  cases p with
  | none =>
    obtain ⟨A, N, c, hb⟩ := h
    refine (bytes_bad gc N c A false n w hb (.inl rfl)).mono ?_
    rintro e w' ⟨rfl, hch⟩
    exact ⟨none, rfl, fun h0 => absurd h0 (by simp [stOf, cutB]), ⟨_, _, _, hch.new⟩, hch.grown⟩
  | some q =>
    obtain ⟨hq, A, c, hb, hc, hA⟩ := h
    by_cases hbad : n < 0 ∨ ((L.length - q : Nat) : Int) < n
    · refine (bytes_bad gc _ c A true n w hb (.inr hbad)).mono ?_
      rintro e w' ⟨rfl, hch⟩
      have e1 : cutB n (stOf L (some q)) = ([], none) := cutB_bad (by rw [List.length_drop]; exact hbad)
      have e2 : posB n L (some q) = none := by simp only [posB, if_pos hbad]
      unfold PTook
      rw [e1, e2]
      exact ⟨none, rfl, fun h0 => absurd h0 (by simp), ⟨_, _, _, hch.new⟩, hch.grown⟩
    · obtain ⟨m, rfl⟩ := Int.eq_ofNat_of_zero_le (show 0 ≤ n by omega)
      have hm : m ≤ L.length - q := by omega
      refine (bytes_good gc (L.length - q) c A m w hb hm hc).mono ?_
      rintro e w' ⟨rfl, hch⟩
      have e1 : cutB (m : Int) (stOf L (some q)) = ((L.drop q).take m, some ((L.drop q).drop m)) := cutB_good (by rw [List.length_drop]; exact hm)
      have e2 : posB (m : Int) L (some q) = some (q + m) := by simp only [posB, if_neg hbad]; simp
      have e3 : ((L.drop q).take m).length = m := by rw [List.length_take, List.length_drop]; omega
      unfold PTook
      rw [show ((m : Nat) : Int) = (m : Int) from rfl, e1, e2]
      simp only [e3]
      exact ⟨A, rfl, fun h0 => ⟨q, rfl, hA (by omega), rfl, by omega, rfl⟩, PK.next hq rfl hc hm hA hch, hch.grown⟩

def PNum (gc gb : Nat) (L : List UInt8) (p : Option Nat) (n : Int) (w : World) (e : Ending) (w' : World) : Prop :=
  e = .returned (.int .u64 (val (cutB (ask n) (stOf L p)).1)) ∧ PK w' gc gb L (posB (ask n) L p) ∧ w.grownBy w' (some gc)
theorem pnum_any (gc gb : Nat) (L : List UInt8) (p : Option Nat) (n : Int) (w : World) (h : PK w gc gb L p) (hB : PB w gb L) (hg : gb < gc) :
    Calls Try.prog 39 #[.pointer (some ⟨gc, 0, none⟩), .int .i64 n] w (PNum gc gb L p n w) := by
  cases p with
  | none =>
    obtain ⟨A, N, c, hb⟩ := h
    refine (num_take gc N c A false n w hb (.inl rfl)).mono ?_
    rintro e w' ⟨rfl, hch⟩
    exact ⟨rfl, ⟨_, _, _, hch.new⟩, hch.grown⟩
  | some q =>
    obtain ⟨hq, A, c, hb, hc, hA⟩ := h
    by_cases hbad : n < 1 ∨ 8 < n ∨ ((L.length - q : Nat) : Int) < n
    · refine (num_take gc _ c A true n w hb (.inr hbad)).mono ?_
      rintro e w' ⟨rfl, hch⟩
      have hb2 : ask n < 0 ∨ ((L.length - q : Nat) : Int) < ask n := by unfold ask; split <;> omega
      have e1 : cutB (ask n) (stOf L (some q)) = ([], none) := cutB_bad (by rw [List.length_drop]; exact hb2)
      have e2 : posB (ask n) L (some q) = none := by simp only [posB, if_pos hb2]
      unfold PNum
      rw [e1, e2]
      exact ⟨rfl, ⟨_, _, _, hch.new⟩, hch.grown⟩
    · obtain ⟨m, rfl⟩ := Int.eq_ofNat_of_zero_le (show 0 ≤ n by omega)
      have hm : m ≤ L.length - q := by omega
      have hask : ask (m : Int) = m := by unfold ask; rw [if_neg (by omega)]
      have hA' := hA (by omega)
      subst hA'
      refine (num_good gc (L.length - q) c _ ((L.drop q).take m) m w hb (hB.rd hg) (by rw [List.length_take, List.length_drop]; omega) (by omega) (by omega) hm hc).mono ?_
      rintro e w' ⟨rfl, hch⟩
      have e1 : cutB (m : Int) (stOf L (some q)) = ((L.drop q).take m, some ((L.drop q).drop m)) := cutB_good (by rw [List.length_drop]; exact hm)
      have e2 : posB (m : Int) L (some q) = some (q + m) := by simp only [posB]; rw [if_neg (by omega)]; simp
      unfold PNum
      rw [show ((m : Nat) : Int) = (m : Int) from rfl, hask, e1, e2]
      exact ⟨rfl, PK.next hq rfl hc hm hA hch, hch.grown⟩
theorem PK.obj {w : World} {gc gb : Nat} {L : List UInt8} {p : Option Nat} (h : PK w gc gb L p) : ∃ cs, Go.Proofs.Ytbfiakikhkiefaa.bk w gc = some (.cells cs 97 (0, 0)) := by
  cases p with
  | none => obtain ⟨A, N, c, hb⟩ := h; exact ⟨_, hb⟩
  | some q => obtain ⟨_, A, c, hb, _⟩ := h; exact ⟨_, hb⟩
theorem PK.keep {w w' : World} {gc gb : Nat} {L : List UInt8} {p : Option Nat} (h : PK w gc gb L p) (hk : Go.Proofs.Ytbfiakikhkiefaa.bk w' gc = Go.Proofs.Ytbfiakikhkiefaa.bk w gc) : PK w' gc gb L p := by
  cases p with
  | none => obtain ⟨A, N, c, hb⟩ := h; exact ⟨A, N, c, hk.trans hb⟩
  | some q => obtain ⟨h1, A, c, hb, h2⟩ := h; exact ⟨h1, A, c, hk.trans hb, h2⟩
theorem PB.keep {w w' : World} {gb : Nat} {L : List UInt8} (h : PB w gb L) (hk : gb < w.heap.size → Go.Proofs.Ytbfiakikhkiefaa.bk w' gb = Go.Proofs.Ytbfiakikhkiefaa.bk w gb) : PB w' gb L := fun h0 => by
  obtain ⟨cur, hb, h1, h2⟩ := h h0
  exact ⟨cur, (hk (bk_lt hb)).trans hb, h1, h2⟩
/-- A cutter of a slice that was just made. -/
theorem of_PK (A : Option Addr) (l : List UInt8) (c : Nat) (w : World) (h : Rd w w.heap.size A l) (hA : A = none → l = [] ∧ c = 0) (hl : l.length < 2 ^ 46) (d : Nat) (hd : d < w.heap.size) :
    Calls Try.prog 38 #[.slice A l.length c] w fun e w' => ∃ g gb, e = .returned (.pointer (some ⟨g, 0, none⟩)) ∧ w.heap.size ≤ g ∧ d ≤ gb ∧ gb < g ∧ (0 < l.length → w.heap.size ≤ gb) ∧ PK w' g gb l (some 0) ∧ PB w' gb l ∧ Below w.heap.size w w' := by
  refine (of_cut A l c w h hA hl).mono ?_
  rintro e w' ⟨g, A', c', rfl, hg, hb, ho, hr, hlc, hbel⟩
  rcases Nat.eq_zero_or_pos l.length with h0 | h0
  · have : l = [] := List.eq_nil_of_length_eq_zero h0
    subst this
    exact ⟨g, d, rfl, hg, Nat.le_refl _, by omega, fun h => absurd h (by simp), ⟨Nat.le_refl _, A', c', hb, by simp, fun h => absurd h (by simp)⟩, fun h => absurd h (by simp), hbel⟩
  · obtain ⟨_, ⟨_, e0⟩ | ⟨gb, cap, cur, e1, hgb, hbk, hle, _, hcs, ht⟩⟩ := ho
    · omega
    · cases e1
      obtain ⟨b, o, e2, hlt, _⟩ := hr h0
      cases e2
      exact ⟨g, gb, rfl, hg, by omega, hlt, fun _ => hgb, ⟨by omega, _, c', hb, hlc, fun _ => rfl⟩, fun _ => ⟨cur, hbk, by omega, by simpa using ht⟩, hbel⟩
theorem bytes_at (gc gb : Nat) (L : List UInt8) (q m : Nat) (w : World) (h : PK w gc gb L (some q)) (hm : q + m ≤ L.length) (h0 : 0 < m) :
    Calls Try.prog 40 #[.pointer (some ⟨gc, 0, none⟩), .int .i64 m] w fun e w' => e = .returned (.slice (some ⟨gb, q, none⟩) m m) ∧ PK w' gc gb L (some (q + m)) ∧ w.grownBy w' (some gc) := by
  refine (pbytes_any gc gb L (some q) m w h).mono ?_
  have e1 : cutB (m : Int) (stOf L (some q)) = ((L.drop q).take m, some ((L.drop q).drop m)) := cutB_good (by rw [List.length_drop]; omega)
  have e2 : posB (m : Int) L (some q) = some (q + m) := by simp only [posB]; rw [if_neg (by omega)]; simp
  have e3 : ((L.drop q).take m).length = m := by rw [List.length_take, List.length_drop]; omega
  rintro e w' ⟨A, he, h1, h2, h3⟩
  rw [e1] at he h1
  rw [e2] at h1 h2
  simp only [e3] at he h1
  obtain ⟨q', hq, rfl, _⟩ := h1 h0
  cases hq
  exact ⟨he, h2, h3⟩
theorem num_at (gc gb : Nat) (L : List UInt8) (q m : Nat) (w : World) (h : PK w gc gb L (some q)) (hB : PB w gb L) (hg : gb < gc) (hm : q + m ≤ L.length) (h1 : 1 ≤ m) (h8 : m ≤ 8) :
    Calls Try.prog 39 #[.pointer (some ⟨gc, 0, none⟩), .int .i64 m] w fun e w' => e = .returned (.int .u64 (val ((L.drop q).take m))) ∧ PK w' gc gb L (some (q + m)) ∧ w.grownBy w' (some gc) := by
  refine (pnum_any gc gb L (some q) m w h hB hg).mono ?_
  have e0 : ask (m : Int) = m := by unfold ask; rw [if_neg (by omega)]
  have e1 : cutB (m : Int) (stOf L (some q)) = ((L.drop q).take m, some ((L.drop q).drop m)) := cutB_good (by rw [List.length_drop]; omega)
  have e2 : posB (m : Int) L (some q) = some (q + m) := by simp only [posB]; rw [if_neg (by omega)]; simp
  rintro e w' ⟨he, h2, h3⟩
  rw [e0] at he h2
  rw [e1] at he
  rw [e2] at h2
  exact ⟨he, h2, h3⟩

end Go.Proofs.Ytbfiakikhkiefaa
/- Regions whose calls hand back slices of bytes. -/
namespace Go.Proofs.Ytbfiakikhkiefaa
open Go.RowKit
/-- A slice of the call's own that reads as l. -/
def Made.sl (m : Nat) (l : List UInt8) : Made m where
  T v := ∃ A c, v = .slice A l.length c
  R v w := ∃ A c, v = .slice A l.length c ∧ Rd w w.heap.size A l
  mono := fun _ _ _ hb ⟨A, c, h1, h2⟩ => ⟨A, c, h1, (h2.below hb (Nat.le_refl _)).mono hb.size⟩
  gives := fun w _ => ⟨.slice (some ⟨w.heap.size, 0, none⟩) l.length l.length, w.alloc (.cells (l.map B).toArray 5 (0, 0)), (Below.refl _ _).alloc (Nat.le_refl _) _, ⟨_, _, rfl⟩, _, _, rfl, Rd.lit w l 5⟩
theorem sl_T {m : Nat} {M : Made m} {l : List UInt8} {v : Value} (HM : Hid (M = Made.sl m l)) (h : M.T v) : ∃ A c, v = .slice A l.length c := by
  have := HM.out
  subst this
  exact h
theorem sl_R {m : Nat} {M : Made m} {l : List UInt8} {A : Option Addr} {n c : Nat} {w : World} (HM : Hid (M = Made.sl m l)) (h : M.R (.slice A n c) w) : n = l.length ∧ Rd w w.heap.size A l := by
  have := HM.out
  subst this
  obtain ⟨A', c', e, hr⟩ := h
  cases e
  exact ⟨rfl, hr⟩
theorem sl_end {m : Nat} {M : Made m} {l : List UInt8} (HM : Hid (M = Made.sl m l)) {w w' : World} {A : Option Addr} {c : Nat} (hb : Below w.heap.size w w') (h : Rd w' w'.heap.size A l) : madeEnd M w (.returned (.slice A l.length c)) w' := by
  have := HM.out
  subst this
  exact ⟨_, rfl, hb, ⟨A, c, rfl⟩, A, c, rfl, h⟩
theorem own_room {w : World} {base n c : Nat} {A : Option Addr} {xs : List Value} {e : TypeId} (h : w.ownsRow base e 1 (.slice A n c) n xs) : (0 < c → ∃ b cur, A = some ⟨b, 0, none⟩ ∧ base ≤ b ∧ bk w b = some (.cells cur e (0, 0)) ∧ c ≤ cur.size) ∧ n ≤ c ∧ c ≤ 9223372036854775807 := by
  obtain ⟨_, ⟨h1, h0⟩ | ⟨g, cap, cur, h1, hg, hb, hle, hm, hs, _⟩⟩ := h
  · cases h1; exact ⟨fun h => absurd h (by omega), by omega, by omega⟩
  · cases h1; unfold maxLen at hm
    exact ⟨fun _ => ⟨g, cur, rfl, hg, hb, by omega⟩, hle, by omega⟩
end Go.Proofs.Ytbfiakikhkiefaa
