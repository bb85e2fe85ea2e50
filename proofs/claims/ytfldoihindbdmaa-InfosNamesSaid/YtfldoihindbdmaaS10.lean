/- The cutter, by what it holds. -/
import Derived.Test.YtfldoihindbdmaaS9
namespace Go.Proofs.Ytfldoihindbdmaa
open Go.RowKit
set_option maxRecDepth 100000
theorem Rd.adv {w : World} {n c m : Nat} {A : Option Addr} {l : List UInt8} (h : Rd w n A l) (hc : l.length ≤ c) : Rd w n (Go.Proofs.Ytfldoihindbdmaa.adv A c m) (l.drop m) := fun h0 => by
  have hlt : m < l.length := by rw [List.length_drop] at h0; omega
  obtain ⟨b, o, rfl, hb, hcell⟩ := h (by omega)
  unfold Go.Proofs.Ytfldoihindbdmaa.adv
  rw [if_neg (by omega)]
  refine ⟨b, o + m, ?_, hb, fun j hj => ?_⟩
  · show some (Addr.add _ m) = _
    unfold Addr.add
    split
    · rename_i h; subst h; rfl
    · rfl
  · rw [List.length_drop] at hj
    have := hcell (m + j) (by omega)
    rw [show o + m + j = o + (m + j) by omega, this]
    simp
theorem Rd.take {w : World} {n m : Nat} {A : Option Addr} {l : List UInt8} (h : Rd w n A l) : Rd w n A (l.take m) := fun h0 => by
  obtain ⟨b, o, rfl, hb, hcell⟩ := h (by rw [List.length_take] at h0; omega)
  refine ⟨b, o, rfl, hb, fun j hj => ?_⟩
  rw [List.length_take] at hj
  rw [hcell j (by omega)]
  simp
/-- A cutter that holds the bytes l; one that is spoilt. -/
def KC (w : World) (g : Nat) (l : List UInt8) : Prop := ∃ A c, bk w g = some (cut A l.length c true) ∧ Rd w g A l ∧ l.length ≤ c
def KB (w : World) (g : Nat) : Prop := ∃ A N c, bk w g = some (cut A N c false)
structure Only (g : Nat) (w w' : World) : Prop where
  os : w'.os = w.os
  tape : w'.tape = w.tape
  output : w'.output = w.output
  size : w'.heap.size = w.heap.size
  old : ∀ k, k ≠ g → bk w' k = bk w k
theorem Chg.only {g : Nat} {o : Obj} {w w' : World} (h : Chg g o w w') : Only g w w' := ⟨h.os, h.tape, h.output, h.size, h.old⟩
theorem Only.below {g n : Nat} {w w' : World} (h : Only g w w') (hn : n ≤ g) : Below n w w' := ⟨h.os, h.tape, h.output, by rw [h.size]; exact Nat.le_refl _, fun k hk => h.old k (by omega)⟩
theorem Only.refl (g : Nat) (w : World) : Only g w w := ⟨rfl, rfl, rfl, rfl, fun _ _ => rfl⟩
theorem Only.trans {g : Nat} {a b c : World} (h : Only g a b) (k : Only g b c) : Only g a c := ⟨k.os.trans h.os, k.tape.trans h.tape, k.output.trans h.output, k.size.trans h.size, fun j hj => (k.old j hj).trans (h.old j hj)⟩
theorem KC.next {g m c N : Nat} {A : Option Addr} {l : List UInt8} {w w' : World} (hr : Rd w g A l) (hN : N = l.length) (hc : l.length ≤ c) (h : Chg g (cut (Go.Proofs.Ytfldoihindbdmaa.adv A c m) (N - m) (c - m) true) w w') : KC w' g (l.drop m) := by
  subst hN
  exact ⟨_, _, by rw [List.length_drop]; exact h.new, (hr.adv hc).below (h.below (Nat.le_refl _)) (Nat.le_refl _), by rw [List.length_drop]; omega⟩
theorem num_K (g : Nat) (l : List UInt8) (m : Nat) (w : World) (h : KC w g l) (h1 : 1 ≤ m) (h8 : m ≤ 8) (hm : m ≤ l.length) :
    Calls Try.prog 56 #[.pointer (some ⟨g, 0, none⟩), .int .i64 m] w fun e w' => e = .returned (.int .u64 (val (l.take m))) ∧ KC w' g (l.drop m) ∧ Only g w w' := by
  obtain ⟨A, c, hb, hr, hc⟩ := h
  refine (num_good g l.length c A (l.take m) m w hb hr.take (by rw [List.length_take]; omega) h1 h8 hm hc).mono ?_
  rintro e w' ⟨rfl, hch⟩
  exact ⟨rfl, KC.next hr rfl hc hch, hch.only⟩
theorem num_KB (g : Nat) (m : Int) (w : World) (h : KB w g) :
    Calls Try.prog 56 #[.pointer (some ⟨g, 0, none⟩), .int .i64 m] w fun e w' => e = .returned (.int .u64 0) ∧ KB w' g ∧ Only g w w' := by
  obtain ⟨A, N, c, hb⟩ := h
  refine (num_take g N c A false m w hb (.inl rfl)).mono ?_
  rintro e w' ⟨rfl, hch⟩
  exact ⟨rfl, ⟨_, _, _, hch.new⟩, hch.only⟩
theorem num_KS (g : Nat) (l : List UInt8) (m : Int) (w : World) (h : KC w g l) (hm : m < 1 ∨ 8 < m ∨ (l.length : Int) < m) :
    Calls Try.prog 56 #[.pointer (some ⟨g, 0, none⟩), .int .i64 m] w fun e w' => e = .returned (.int .u64 0) ∧ KB w' g ∧ Only g w w' := by
  obtain ⟨A, c, hb, _, _⟩ := h
  refine (num_take g l.length c A true m w hb (.inr hm)).mono ?_
  rintro e w' ⟨rfl, hch⟩
  exact ⟨rfl, ⟨_, _, _, hch.new⟩, hch.only⟩
theorem bytes_K (g : Nat) (l : List UInt8) (m : Nat) (w : World) (h : KC w g l) (hm : m ≤ l.length) :
    Calls Try.prog 57 #[.pointer (some ⟨g, 0, none⟩), .int .i64 m] w fun e w' => ∃ A, e = .returned (.slice A m m) ∧ Rd w' g A (l.take m) ∧ KC w' g (l.drop m) ∧ Only g w w' := by
  obtain ⟨A, c, hb, hr, hc⟩ := h
  refine (bytes_good g l.length c A m w hb hm hc).mono ?_
  rintro e w' ⟨rfl, hch⟩
  exact ⟨A, rfl, hr.take.below (hch.below (Nat.le_refl _)) (Nat.le_refl _), KC.next hr rfl hc hch, hch.only⟩
theorem bad_K (g : Nat) (l : List UInt8) (w : World) (h : KC w g l) : Calls Try.prog 55 #[.pointer (some ⟨g, 0, none⟩)] w fun e w' => e = .returned (.bool false) ∧ w = w' := by
  obtain ⟨A, c, hb, _, _⟩ := h
  exact bad_any g _ c A true w hb
theorem bad_KB (g : Nat) (w : World) (h : KB w g) : Calls Try.prog 55 #[.pointer (some ⟨g, 0, none⟩)] w fun e w' => e = .returned (.bool true) ∧ w = w' := by
  obtain ⟨A, N, c, hb⟩ := h
  exact bad_any g _ c A false w hb
theorem left_K (g : Nat) (l : List UInt8) (w : World) (h : KC w g l) : Calls Try.prog 54 #[.pointer (some ⟨g, 0, none⟩)] w fun e w' => e = .returned (.int .i64 l.length) ∧ w = w' := by
  obtain ⟨A, c, hb, _, _⟩ := h
  exact left_cut g _ c A true w hb
theorem left_KB (g : Nat) (w : World) (h : KB w g) : Calls Try.prog 54 #[.pointer (some ⟨g, 0, none⟩)] w fun e w' => e = .returned (.int .i64 0) ∧ w = w' := by
  obtain ⟨A, N, c, hb⟩ := h
  exact left_cut g _ c A false w hb

theorem of_K (A : Option Addr) (l : List UInt8) (c : Nat) (w : World) (h : Rd w w.heap.size A l) (hA : A = none → l = [] ∧ c = 0) (hl : l.length < 2 ^ 46) :
    Calls Try.prog 53 #[.slice A l.length c] w fun e w' => ∃ g, e = .returned (.pointer (some ⟨g, 0, none⟩)) ∧ w.heap.size ≤ g ∧ KC w' g l ∧ Below w.heap.size w w' := by
  refine (of_cut A l c w h hA hl).mono ?_
  rintro e w' ⟨g, A', c', rfl, hg, hb, _, hr, hlc, hbel⟩
  exact ⟨g, rfl, hg, ⟨A', c', hb, hr, hlc⟩, hbel⟩
theorem bytes_KB (g : Nat) (m : Int) (w : World) (h : KB w g) :
    Calls Try.prog 57 #[.pointer (some ⟨g, 0, none⟩), .int .i64 m] w fun e w' => e = .returned (.slice none 0 0) ∧ KB w' g ∧ Only g w w' := by
  obtain ⟨A, N, c, hb⟩ := h
  refine (bytes_bad g N c A false m w hb (.inl rfl)).mono ?_
  rintro e w' ⟨rfl, hch⟩
  exact ⟨rfl, ⟨_, _, _, hch.new⟩, hch.only⟩
theorem bytes_KS (g : Nat) (l : List UInt8) (m : Int) (w : World) (h : KC w g l) (hm : m < 0 ∨ (l.length : Int) < m) :
    Calls Try.prog 57 #[.pointer (some ⟨g, 0, none⟩), .int .i64 m] w fun e w' => e = .returned (.slice none 0 0) ∧ KB w' g ∧ Only g w w' := by
  obtain ⟨A, c, hb, _, _⟩ := h
  refine (bytes_bad g l.length c A true m w hb (.inr hm)).mono ?_
  rintro e w' ⟨rfl, hch⟩
  exact ⟨rfl, ⟨_, _, _, hch.new⟩, hch.only⟩
theorem Only.grown {g : Nat} {w w' : World} (h : Only g w w') : w.grownBy w' (some g) := ⟨h.os, h.tape, h.output, by rw [h.size]; exact Nat.le_refl _, fun k _ hk => h.old k (fun e => hk (by rw [e]))⟩
theorem ownsRow_only {w w' : World} {g base : Nat} {e : TypeId} {size : Nat} {v : Value} {n : Nat} {xs : List Value} (h : w.ownsRow base e size v n xs) (ho : Only g w w') (hg : g < base) : w'.ownsRow base e size v n xs :=
  h.kept ho.grown (by
    rcases hx : v.ownBlock with _ | k
    · exact .inl rfl
    · refine .inr fun e => ?_
      have := (h.lt k hx).1
      cases e
      omega)
theorem Rd.none_nil {w : World} {n : Nat} {l : List UInt8} (h : Rd w n none l) : l = [] := by
  rcases Nat.eq_zero_or_pos l.length with h0 | h0
  · exact List.eq_nil_of_length_eq_zero h0
  · obtain ⟨b, o, e, _⟩ := h h0
    cases e
theorem Only.size_eq {g : Nat} {w w' : World} (h : Only g w w') : w'.heap.size = w.heap.size := h.size

end Go.Proofs.Ytfldoihindbdmaa
