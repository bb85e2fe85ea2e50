/- OctetsCut, walked. -/
import Derived.Test.YtmpmddgledahbaaS26
namespace Go.Proofs.Ytmpmddgledahbaa
open Go.RowKit
set_option maxRecDepth 100000
/-- A slice of asks. -/
def Asks (w : World) (n : Nat) (A : Option Addr) (l : List (UInt8 × Int)) : Prop := ∀ k (h : k < l.length), ∃ b o, A = some ⟨b, o, none⟩ ∧ b < n ∧ w.cell? ⟨b, o + k * 2, none⟩ = some (B l[k].1) ∧ w.cell? ⟨b, o + k * 2 + 1, none⟩ = some (.int .i64 l[k].2)
theorem Asks.below {w w' : World} {n m : Nat} {A : Option Addr} {l : List (UInt8 × Int)} (h : Asks w n A l) (hb : Below m w w') (hn : n ≤ m) : Asks w' n A l := fun k hk => by
  obtain ⟨b, o, e, h1, h2, h3⟩ := h k hk
  exact ⟨b, o, e, h1, (hb.cell (p := ⟨b, _, none⟩) (by show b < m; omega)).trans h2, (hb.cell (p := ⟨b, _, none⟩) (by show b < m; omega)).trans h3⟩
theorem octetsCut_long (A A2 : Option Addr) (l : List UInt8) (n c c2 : Nat) (w : World) (hl : 5000 < l.length ∨ 100 < n) (h1 : l.length < 2 ^ 63) (h2 : n < 2 ^ 63) :
    Calls Try.prog 3 #[.slice A l.length c, .slice A2 n c2] w fun e w' => e = .returned (.bool true) ∧ Below w.heap.size w w' := by
  by_cases hb : 5000 < l.length
  · have d1 : decide (5000 < (l.length : Int)) = true := by simp; omega
    have d2 : decide (5000 < l.length) = true := by simp; omega
    clear hl
    go_enter Try.func3, Try.ntmps3
    go_wp2_with fail
    refine (lives_any _).mono ?_
    rintro e w1 ⟨rfl, b1⟩
    go_wp2_with fail
    go_ret
    exact ⟨rfl, b1⟩
  · have hb2 : 100 < n := by omega
    have d1 : decide (5000 < (l.length : Int)) = false := by simp; omega
    have d2 : decide (5000 < l.length) = false := by simp; omega
    have d3 : decide (100 < (n : Int)) = true := by simp; omega
    have d4 : decide (100 < n) = true := by simp; omega
    clear hl
    go_enter Try.func3, Try.ntmps3
    go_wp2_with fail
    refine (lives_any _).mono ?_
    rintro e w1 ⟨rfl, b1⟩
    go_wp2_with fail
    go_ret
    exact ⟨rfl, b1⟩
theorem pleft_PK {w : World} {gc gb : Nat} {L : List UInt8} {p : Option Nat} (h : PK w gc gb L p) : Calls Try.prog 14 #[.pointer (some ⟨gc, 0, none⟩)] w fun e w' => e = .returned (.int .i64 (((stOf L p).getD []).length : Nat)) ∧ w = w' := by
  cases p with
  | none => obtain ⟨A, N, c, hb⟩ := h; exact left_cut gc N c A false w hb
  | some q =>
    obtain ⟨hq, A, c, hb, _⟩ := h
    have := left_cut gc (L.length - q) c A true w hb
    simpa [stOf] using this
theorem pbad_PK {w : World} {gc gb : Nat} {L : List UInt8} {p : Option Nat} (h : PK w gc gb L p) : Calls Try.prog 15 #[.pointer (some ⟨gc, 0, none⟩)] w fun e w' => e = .returned (.bool p.isNone) ∧ w = w' := by
  cases p with
  | none => obtain ⟨A, N, c, hb⟩ := h; exact bad_any gc N c A false w hb
  | some q =>
    obtain ⟨hq, A, c, hb, _⟩ := h
    exact bad_any gc _ c A true w hb
theorem RS.cells {lo : Nat} {w : World} {g : Nat} {L : List UInt8} {p : Option Nat} (h : RS lo w g (stOf L p)) : ∃ A c, bk w g = some (rcut A ((stOf L p).getD []).length c p.isNone) := by
  cases p with
  | none => exact ⟨none, 0, h⟩
  | some q => obtain ⟨A, c, hb, _⟩ := h; exact ⟨A, c, hb⟩
theorem RS.mono {lo lo' : Nat} {w : World} {g : Nat} {st : Option (List UInt8)} (h : RS lo w g st) (hl : lo' ≤ lo) : RS lo' w g st := by
  cases st with
  | none => exact h
  | some l => obtain ⟨A, c, h1, h2, h3, h4⟩ := h; exact ⟨A, c, h1, h2, h3, fun a e => Nat.le_trans hl (h4 a e)⟩
/-- A cutter of a slice that was just made. -/
theorem of_PK (A : Option Addr) (l : List UInt8) (c : Nat) (w : World) (h : Rd w w.heap.size A l) (hA : A = none → l = [] ∧ c = 0) (hl : l.length < 2 ^ 46) (d : Nat) (hd : d < w.heap.size) :
    Calls Try.prog 11 #[.slice A l.length c] w fun e w' => ∃ g gb, e = .returned (.pointer (some ⟨g, 0, none⟩)) ∧ w.heap.size ≤ g ∧ d ≤ gb ∧ gb < g ∧ (0 < l.length → w.heap.size ≤ gb) ∧ PK w' g gb l (some 0) ∧ PB w' gb l ∧ Below w.heap.size w w' := by
  refine (of_cut A l c w h hA hl).mono ?_
  rintro e w' ⟨g, A', c', rfl, hg, hb, ho, hr, hlc, hbel⟩
  rcases Nat.eq_zero_or_pos l.length with h0 | h0
  · have : l = [] := List.eq_nil_of_length_eq_zero h0
    subst this
    exact ⟨g, d, rfl, hg, Nat.le_refl _, by omega, fun h => absurd h (by simp), ⟨Nat.le_refl _, A', c', hb, by simp, fun h => absurd h (by simp)⟩, fun h => absurd h (by simp), hbel⟩
  · obtain ⟨_, ⟨_, e0⟩ | ⟨gb, cap, cur, e1, hgb, hbk, hle, _, hcs, ht⟩⟩ := ho
    · omega
    · cases e1
      obtain ⟨b, o, e2, hlt, _⟩ := hr h0
      cases e2
      exact ⟨g, gb, rfl, hg, by omega, hlt, fun _ => hgb, ⟨by omega, _, c', hb, hlc, fun _ => rfl⟩, fun _ => ⟨cur, hbk, by omega, by simpa using ht⟩, hbel⟩
/-- Of the book a step that changes one block of bytes keeps all, if no list lies there. -/
theorem Bk.grown2 {w w' : World} {kb base g : Nat} {LL : List Lf} {cur : Array Value} (h : Bk w kb base LL) (hg : w.grownBy w' (some g)) (ho : Go.Proofs.Ytmpmddgledahbaa.bk w g = some (.cells cur 5 (0, 0))) (h1 : ∀ l ∈ LL, ∀ k j, rg l.A 0 l.c k j → k ≠ g) (h3 : g ≠ kb) : Bk w' kb base LL := by
  refine ⟨?_, fun l hl => ?_, h.dis⟩
  · obtain ⟨hv, hb, hown⟩ := h.book
    refine ⟨hv, (hg.block kb (bk_lt hb) (fun e => h3 (by injection e with e; exact e.symm))).trans hb, hown.kept hg (by
      rcases hx : hv.ownBlock with _ | k
      · exact .inl rfl
      · refine .inr fun e => ?_
        injection e with e
        subst e
        obtain ⟨c, hh⟩ : ∃ c, Go.Proofs.Ytmpmddgledahbaa.bk w k = some (.cells c 64 (0, 0)) := by
          obtain ⟨_, ⟨rfl, _⟩ | ⟨g', cap, cur, rfl, _, hg', _⟩⟩ := hown
          · cases hx
          · have : g' = k := by simpa [Value.ownBlock] using hx
            subst this
            exact ⟨cur, hg'⟩
        rw [ho] at hh
        cases hh)⟩
  · have ok := h.ok l hl
    refine ⟨fun hc => ?_, ok.le, ok.small, ok.base⟩
    obtain ⟨b, o', cur', hA, hb, hle⟩ := ok.room hc
    refine ⟨b, o', cur', hA, (hg.block b (bk_lt hb) (fun e => ?_)).trans hb, hle⟩
    injection e with e
    exact h1 l hl b o' ⟨o', hA, by omega, by omega⟩ e
theorem rest_whole (gd gbd : Nat) (l : List UInt8) (w : World) (h : PK w gd gbd l (some 0)) (hB : PB w gbd l) (hg : gbd < gd) :
    Calls Try.prog 17 #[.pointer (some ⟨gd, 0, none⟩)] w fun e w' => ∃ A, e = .returned (.slice A l.length l.length) ∧ Rd w' w'.heap.size A l ∧ Room w' A l.length 5 ∧ (0 < l.length → A = some ⟨gbd, 0, none⟩) ∧ w.grownBy w' (some gd) := by
  have hgl : gd < w.heap.size := by obtain ⟨cs, hc⟩ := h.obj; exact bk_lt hc
  have e1 : cutB ((l.length : Nat) : Int) (stOf l (some 0)) = (l, some []) := by
    have := cutB_good (n := l.length) (l := l) (Nat.le_refl _)
    simpa [stOf] using this
  have C := prest_any gd gbd l (some 0) w h
  have e0 : ((stOf l (some 0)).getD []).length = l.length := by simp [stOf]
  rw [e0] at C
  refine C.mono ?_
  rintro e w' ⟨A, rfl, h1, h2, h3⟩
  rw [e1] at h1 ⊢
  have hs := h3.size
  have hB' := hB.grown h3 (by omega)
  refine ⟨A, rfl, fun h0 => ?_, fun h0 => ?_, fun h0 => ?_, h3⟩
  · obtain ⟨q, hq, rfl, _⟩ := h1 h0
    cases hq
    have := hB'.rd (q := 0) (m := l.length) (n := w'.heap.size) (by omega)
    simp only [List.drop_zero, List.take_length] at this
    exact this h0
  · obtain ⟨q, hq, rfl, _⟩ := h1 h0
    cases hq
    obtain ⟨cur, hb, hc, _⟩ := hB' h0
    exact ⟨gbd, 0, cur, rfl, hb, by omega⟩
  · obtain ⟨q, hq, hA, _⟩ := h1 h0
    cases hq
    exact hA
theorem B_succ (y : UInt8) : Value.int .u8 (((y.toNat : Int) + 1) % 256) = B (y + 1) := by
  have h : ((y + 1).toNat : Int) = ((y.toNat : Int) + 1) % 256 := by
    rw [UInt8.toNat_add]
    rfl
  unfold B
  rw [h]
end Go.Proofs.Ytmpmddgledahbaa
