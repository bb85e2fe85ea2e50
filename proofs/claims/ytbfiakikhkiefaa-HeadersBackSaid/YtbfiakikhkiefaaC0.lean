/- slices.Concat of slices of bytes. -/
import Derived.Test.YtbfiakikhkiefaaS6
import Derived.Test.YtbfiakikhkiefaaMgB
namespace Go.Proofs.Ytbfiakikhkiefaa
open Go.RowKit
set_option maxRecDepth 100000
theorem ownsRow_cut {w : World} {base : Nat} {e : TypeId} {A : Option Addr} {n c : Nat} {xs : List Value} (h : w.ownsRow base e 1 (.slice A n c) n xs) (hA : A ≠ none) : w.ownsRow base e 1 (.slice A 0 c) 0 [] := by
  obtain ⟨_, ⟨h1, _⟩ | ⟨g, cap, cur, h1, hg, hb, hle, hm, hs, _⟩⟩ := h
  · cases h1; exact absurd rfl hA
  · cases h1
    exact ⟨by simp, .inr ⟨g, c, cur, rfl, hg, hb, by omega, hm, hs, by simp⟩⟩
/-- Grow of nothing. -/
theorem grow_any (n : Nat) (w : World) (hn : n < 2 ^ 40) :
    Calls Try.prog 44 #[.slice none 0 0, .int .i64 n] w fun e w' => ∃ v, e = .returned v ∧ w'.ownsRow w.heap.size 5 1 v 0 [] ∧ Below w.heap.size w w' := by
  have d1 : decide ((n : Int) < 0) = false := by simp
  by_cases h0 : n = 0
  · subst h0
    go_enter Try.func44, Try.ntmps44
    go_wp2
    go_ret
    exact ⟨_, rfl, World.ownsRow_nil _ _ _ _, Below.refl _ _⟩
  · have d2 : decide (0 < (n : Int)) = true := by simp; omega
    have d3 : decide (0 < n) = true := by simp; omega
    have hcap := nextslicecap_zero (show 0 < n by omega)
    have hby : Try.t5.bytes = 1 := rfl
    go_enter Try.func44, Try.ntmps44
    go_wp2_with fail
    have hk : n ≤ (Question.appendCap n 0 5).cut (w.tape w.drawn (Question.appendCap n 0 5)) ∧ (Question.appendCap n 0 5).cut (w.tape w.drawn (Question.appendCap n 0 5)) < 2 ^ 63 := by
      show n ≤ n + _ % (2 ^ 63 - n) ∧ n + _ % (2 ^ 63 - n) < 2 ^ 63
      have := Nat.mod_lt (w.tape w.drawn (Question.appendCap n 0 5)) (show 0 < 2 ^ 63 - n by omega)
      omega
    generalize (Question.appendCap n 0 5).cut (w.tape w.drawn (Question.appendCap n 0 5)) = k at *
    go_ret
    refine ⟨_, rfl, ⟨by simp, .inr ⟨w.heap.size, k, _, rfl, Nat.le_refl _, bk_alloc_at _ _ _ rfl, by omega, by unfold maxLen; omega, ?_, by simp⟩⟩, ((Below.refl _ _).alloc (Nat.le_refl _) _).drew⟩
    simp [Builtin.zeroCells]
    omega
abbrev Src : Type := Option Addr × List UInt8 × Nat
abbrev Src.v (s : Src) : Value := .slice s.1 s.2.1.length s.2.2
def Src.ok (w : World) (s : Src) : Prop := Rd w w.heap.size s.1 s.2.1 ∧ (s.1 = none → s.2.1 = [] ∧ s.2.2 = 0)
/-- All bytes of slices, one behind the other. -/
def flat (ls : List Src) : List UInt8 := (ls.map fun s => s.2.1).flatten
theorem flat_take {ls : List Src} {k : Nat} (h : k < ls.length) : flat (ls.take (k + 1)) = flat (ls.take k) ++ ls[k].2.1 := by
  rw [List.take_succ_eq_append_getElem h]; unfold flat; rw [List.map_append, List.flatten_append]; simp
theorem flat_le {ls : List Src} (k : Nat) : (flat (ls.take k)).length ≤ (flat ls).length := by
  conv => rhs; rw [← List.take_append_drop k ls]
  unfold flat
  rw [List.map_append, List.flatten_append, List.length_append]
  omega
set_option maxHeartbeats 1000000 in
theorem concat_any (p : Nat) (ls : List Src) (t : TypeId) (fr : Nat × Nat) (w : World) (hb : bk w p = some (.cells (ls.map Src.v).toArray t fr)) (hr : ∀ s ∈ ls, s.ok w) (hs : (flat ls).length < 2 ^ 40) (hk : ls.length < 2 ^ 30) :
    Calls Try.prog 28 #[.slice (some ⟨p, 0, none⟩) ls.length ls.length] w fun e w' => ∃ v, e = .returned v ∧ w'.ownsRow w.heap.size 5 1 v (flat ls).length ((flat ls).map B) ∧ Below w.heap.size w w' := by
  have hpl := bk_lt hb
  have HB := Lib.hid hb; have HR := Lib.hid hr
  obtain ⟨N, hN⟩ : ∃ N, N = ls.length := ⟨_, rfl⟩
  have HN := Lib.hid hN
  rw [← hN] at hk
  rw [← hN]
  clear hb hr hN
  have hcell : ∀ k, (h : k < N) → w.cell? ⟨p, k, none⟩ = some (ls[k]'(by rw [← HN.out]; exact h)).v := fun k h => by
    rw [bk_cell HB.out]
    simp [List.getElem?_eq_getElem (show k < ls.length by rw [← HN.out]; exact h)]
  have HC := Lib.hid hcell
  clear hcell
  go_enter Try.func28, Try.ntmps28
  go_wp2_with fail
  go_loopw [3, 5, 11] (fun s x i wr => ∃ k : Nat, k ≤ N ∧ i = .int .i64 k ∧ s = .int .i64 ((flat (ls.take k)).length : Nat) ∧ w = wr) (fun _ _ i _ => N - (intOf i).toNat)
  case atStart => exact ⟨0, by omega, rfl, rfl, rfl⟩
  case round =>
    obtain ⟨k, hkN, rfl, rfl, rfl⟩ := hrel
    have hle := flat_le (ls := ls) k
    by_cases hlt : k < N
    · have e1 : decide ((k : Int) < (N : Int)) = true := by simp; omega
      have hkl : k < ls.length := by rw [← HN.out]; exact hlt
      have hc := HC.out k hlt
      have hf := flat_take hkl
      have hle2 := flat_le (ls := ls) (k + 1)
      rw [hf, List.length_append] at hle2
      obtain ⟨s, hs'⟩ : ∃ s, s = ls[k] := ⟨_, rfl⟩
      rw [← hs'] at hc hf hle2
      obtain ⟨A, l, c⟩ := s
      simp only [Src.v] at hc hle2
      have hfl : (flat (ls.take (k + 1))).length = (flat (ls.take k)).length + l.length := by rw [hf, List.length_append]
      have HF := Lib.hid hfl
      obtain ⟨X, hX⟩ : ∃ X, X = (flat (ls.take k)).length := ⟨_, rfl⟩
      rw [← hX] at HF hle2
      rw [← hX]
      clear hf hs' hfl hX hle
      have e2 : decide ((X : Int) + (l.length : Int) < 0) = false := by simp; omega
      go_wp2_with fail
      go_roundw
      case rel => exact ⟨k + 1, by omega, by go_num, by rw [HF.out]; go_num, by trivial⟩
      case measure => simp [intOf]; omega
    · have e1 : decide ((k : Int) < (N : Int)) = false := by simp; omega
      obtain rfl : k = N := by omega
      have hall : flat (ls.take k) = flat ls := by rw [List.take_of_length_le]; have := HN.out; omega
      rw [hall]
      obtain ⟨X, hX⟩ : ∃ X, X = (flat ls).length := ⟨_, rfl⟩
      rw [← hX] at hs
      have HX := Lib.hid hX
      rw [← hX]
      clear hX hall hlt hle
      go_wp2_with fail
      refine (grow_any X w (by omega)).mono ?_
      rintro e w1 ⟨v0, rfl, ho, hb1⟩
      have HO := Lib.hid ho
      clear ho
      go_wp2_with fail
      go_loopw [6, 8, 27] (fun v x i wr => ∃ j : Nat, j ≤ k ∧ i = .int .i64 j ∧ Hid (wr.ownsRow w.heap.size 5 1 v (flat (ls.take j)).length ((flat (ls.take j)).map B)) ∧ Below w.heap.size w wr) (fun _ _ i _ => k - (intOf i).toNat)
      case atStart => exact ⟨0, by omega, rfl, Lib.hid (by simpa [flat] using HO.out), hb1⟩
      case round =>
        obtain ⟨j, hjk, rfl, ho, hB⟩ := hrel
        by_cases hlt : j < k
        · have e1 : decide ((j : Int) < (k : Int)) = true := by simp; omega
          have hjl : j < ls.length := by rw [← HN.out]; exact hlt
          have hc := (hB.cell (p := ⟨p, j, none⟩) hpl).trans (HC.out j hlt)
          have hf := flat_take hjl
          have hle2 := flat_le (ls := ls) (j + 1)
          rw [hf, List.length_append, ← HX.out] at hle2
          obtain ⟨s, hs'⟩ : ∃ s, s = ls[j] := ⟨_, rfl⟩
          have hok : s.ok w := by rw [hs']; exact HR.out _ (List.getElem_mem _)
          rw [← hs'] at hc hf hle2
          obtain ⟨A, l, c⟩ := s
          simp only [Src.v] at hc hle2
          have HRD := Lib.hid ((hok.1.below hB (Nat.le_refl _)).mono hB.size)
          have HA := Lib.hid hok.2
          have HF := Lib.hid hf
          obtain ⟨Y, hY⟩ : ∃ Y, Y = flat (ls.take j) := ⟨_, rfl⟩
          rw [← hY] at HF ho hle2
          clear hf hs' hY hok
          have hbs := hB.size
          go_wp2_with (at_builtin; refine append_rd rfl _ _ rfl w.heap.size u6 Y.length (Y.map B) rfl ho.out A l c rfl HA.out HRD.out (by omega) hbs ?_)
          intro v2 w2 hown hgrow
          have ho2 : w2.ownsRow w.heap.size 5 1 v2 (Y ++ l).length ((Y ++ l).map B) := by rw [List.length_append]; exact hown
          have hb2 : Below w.heap.size w w2 := hB.grown hgrow hbs (fun g hg => (ho.out.lt g hg).1)
          have HO2 := Lib.hid ho2
          clear hown hgrow ho2 ho HRD
          go_wp2_with fail
          go_roundw
          case rel => exact ⟨j + 1, by omega, by go_num, by rw [HF.out]; exact HO2, hb2⟩
          case measure => simp [intOf]; omega
        · have e1 : decide ((j : Int) < (k : Int)) = false := by simp; omega
          obtain rfl : j = k := by omega
          have hall : flat (ls.take j) = flat ls := by rw [List.take_of_length_le]; have := HN.out; omega
          rw [hall] at ho
          clear hlt hall
          go_wp2_with fail
          go_ret
          exact ⟨_, rfl, by rw [HX.out]; exact ho.out, hB⟩
end Go.Proofs.Ytbfiakikhkiefaa
