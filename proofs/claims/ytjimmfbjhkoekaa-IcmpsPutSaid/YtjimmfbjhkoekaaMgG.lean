import Derived.Test.YtjimmfbjhkoekaaMgB
import Derived.Test.YtjimmfbjhkoekaaMgF
import Derived.Deep.Onto
import Derived.Lib.AppendZeros
/- slices.Concat of slices of bytes. -/
namespace Go.Proofs.Ytjimmfbjhkoekaa
open Go.RowKit
set_option maxRecDepth 100000
theorem ownsRow_cut {w : World} {base : Nat} {e : TypeId} {A : Option Addr} {n c : Nat} {xs : List Value} (h : w.ownsRow base e 1 (.slice A n c) n xs) (hA : A ≠ none) : w.ownsRow base e 1 (.slice A 0 c) 0 [] := by
  obtain ⟨_, ⟨h1, _⟩ | ⟨g, cap, cur, h1, hg, hb, hle, hm, hs, _⟩⟩ := h
  · cases h1; exact absurd rfl hA
  · cases h1
    exact ⟨by simp, .inr ⟨g, c, cur, rfl, hg, hb, by omega, hm, hs, by simp⟩⟩
/-- Grow of nothing. -/
theorem grow_any (n : Nat) (w : World) (hn : n < 2 ^ 40) :
    Calls Try.prog 107 #[.slice none 0 0, .int .i64 n] w fun e w' => ∃ v, e = .returned v ∧ w'.ownsRow w.heap.size 5 1 v 0 [] ∧ Below w.heap.size w w' := by
  have d1 : decide ((n : Int) < 0) = false := by simp
  by_cases h0 : n = 0
  · subst h0
    go_enter Try.func107, Try.ntmps107
    go_wp2
    go_ret
    exact ⟨_, rfl, World.ownsRow_nil _ _ _ _, Below.refl _ _⟩
  · have d2 : decide (0 < (n : Int)) = true := by simp; omega
    have d3 : decide (0 < n) = true := by simp; omega
    have hcap := nextslicecap_zero (show 0 < n by omega)
    have hby : Try.t5.bytes = 1 := rfl
    go_enter Try.func107, Try.ntmps107
    go_wp2_with fail
    have hk : n ≤ (Question.appendCap n 0 5).cut (w.tape w.drawn (Question.appendCap n 0 5)) ∧ (Question.appendCap n 0 5).cut (w.tape w.drawn (Question.appendCap n 0 5)) < 2 ^ 63 := by
      show n ≤ n + _ % (2 ^ 63 - n) ∧ n + _ % (2 ^ 63 - n) < 2 ^ 63
      have := Nat.mod_lt (w.tape w.drawn (Question.appendCap n 0 5)) (show 0 < 2 ^ 63 - n by omega)
      omega
    generalize (Question.appendCap n 0 5).cut (w.tape w.drawn (Question.appendCap n 0 5)) = k at *
    go_ret
    refine ⟨_, rfl, ⟨by simp, .inr ⟨w.heap.size, k, _, rfl, Nat.le_refl _, bk_alloc_at _ _ _ rfl, by omega, by unfold maxLen; omega, ?_, by simp⟩⟩, ((Below.refl _ _).alloc (Nat.le_refl _) _).drew⟩
    simp [Builtin.zeroCells]
    omega
abbrev Src : Type := Option Addr × List UInt8 × Nat
abbrev Src.v (s : Src) : Value := .slice s.1 s.2.1.length s.2.2
def Src.ok (w : World) (s : Src) : Prop := Rd w w.heap.size s.1 s.2.1 ∧ (s.1 = none → s.2.1 = [] ∧ s.2.2 = 0)
/-- All bytes of slices, one behind the other. -/
def flat (ls : List Src) : List UInt8 := (ls.map fun s => s.2.1).flatten
theorem flat_take {ls : List Src} {k : Nat} (h : k < ls.length) : flat (ls.take (k + 1)) = flat (ls.take k) ++ ls[k].2.1 := by
  rw [List.take_succ_eq_append_getElem h]; unfold flat; rw [List.map_append, List.flatten_append]; simp
theorem flat_le {ls : List Src} (k : Nat) : (flat (ls.take k)).length ≤ (flat ls).length := by
  conv => rhs; rw [← List.take_append_drop k ls]
  unfold flat
  rw [List.map_append, List.flatten_append, List.length_append]
  omega
set_option maxHeartbeats 1000000 in
theorem concat_any (p : Nat) (ls : List Src) (t : TypeId) (fr : Nat × Nat) (w : World) (hb : bk w p = some (.cells (ls.map Src.v).toArray t fr)) (hr : ∀ s ∈ ls, s.ok w) (hs : (flat ls).length < 2 ^ 40) (hk : ls.length < 2 ^ 30) :
    Calls Try.prog 106 #[.slice (some ⟨p, 0, none⟩) ls.length ls.length] w fun e w' => ∃ v, e = .returned v ∧ w'.ownsRow w.heap.size 5 1 v (flat ls).length ((flat ls).map B) ∧ Below w.heap.size w w' := by
  have hpl := bk_lt hb
  have HB := Lib.hid hb; have HR := Lib.hid hr
  obtain ⟨N, hN⟩ : ∃ N, N = ls.length := ⟨_, rfl⟩
  have HN := Lib.hid hN
  rw [← hN] at hk
  rw [← hN]
  clear hb hr hN
  have hcell : ∀ k, (h : k < N) → w.cell? ⟨p, k, none⟩ = some (ls[k]'(by rw [← HN.out]; exact h)).v := fun k h => by
    rw [bk_cell HB.out]
    simp [List.getElem?_eq_getElem (show k < ls.length by rw [← HN.out]; exact h)]
  have HC := Lib.hid hcell
  clear hcell
  go_enter Try.func106, Try.ntmps106
  go_wp2_with fail
  go_loopw [3, 5, 11] (fun s x i wr => ∃ k : Nat, k ≤ N ∧ i = .int .i64 k ∧ s = .int .i64 ((flat (ls.take k)).length : Nat) ∧ w = wr) (fun _ _ i _ => N - (intOf i).toNat)
  case atStart => exact ⟨0, by omega, rfl, rfl, rfl⟩
  case round =>
    obtain ⟨k, hkN, rfl, rfl, rfl⟩ := hrel
    have hle := flat_le (ls := ls) k
    by_cases hlt : k < N
    · have e1 : decide ((k : Int) < (N : Int)) = true := by simp; omega
      have hkl : k < ls.length := by rw [← HN.out]; exact hlt
      have hc := HC.out k hlt
      have hf := flat_take hkl
      have hle2 := flat_le (ls := ls) (k + 1)
      rw [hf, List.length_append] at hle2
      obtain ⟨s, hs'⟩ : ∃ s, s = ls[k] := ⟨_, rfl⟩
      rw [← hs'] at hc hf hle2
      obtain ⟨A, l, c⟩ := s
      simp only [Src.v] at hc hle2
      have hfl : (flat (ls.take (k + 1))).length = (flat (ls.take k)).length + l.length := by rw [hf, List.length_append]
      have HF := Lib.hid hfl
      obtain ⟨X, hX⟩ : ∃ X, X = (flat (ls.take k)).length := ⟨_, rfl⟩
      rw [← hX] at HF hle2
      rw [← hX]
      clear hf hs' hfl hX hle
      have e2 : decide ((X : Int) + (l.length : Int) < 0) = false := by simp; omega
      go_wp2_with fail
      go_roundw
      case rel => exact ⟨k + 1, by omega, by go_num, by rw [HF.out]; go_num, by trivial⟩
      case measure => simp [intOf]; omega
    · have e1 : decide ((k : Int) < (N : Int)) = false := by simp; omega
      obtain rfl : k = N := by omega
      have hall : flat (ls.take k) = flat ls := by rw [List.take_of_length_le]; have := HN.out; omega
      rw [hall]
      obtain ⟨X, hX⟩ : ∃ X, X = (flat ls).length := ⟨_, rfl⟩
      rw [← hX] at hs
      have HX := Lib.hid hX
      rw [← hX]
      clear hX hall hlt hle
      go_wp2_with fail
      refine (grow_any X w (by omega)).mono ?_
      rintro e w1 ⟨v0, rfl, ho, hb1⟩
      have HO := Lib.hid ho
      clear ho
      go_wp2_with fail
      go_loopw [6, 8, 27] (fun v x i wr => ∃ j : Nat, j ≤ k ∧ i = .int .i64 j ∧ Hid (wr.ownsRow w.heap.size 5 1 v (flat (ls.take j)).length ((flat (ls.take j)).map B)) ∧ Below w.heap.size w wr) (fun _ _ i _ => k - (intOf i).toNat)
      case atStart => exact ⟨0, by omega, rfl, Lib.hid (by simpa [flat] using HO.out), hb1⟩
      case round =>
        obtain ⟨j, hjk, rfl, ho, hB⟩ := hrel
        by_cases hlt : j < k
        · have e1 : decide ((j : Int) < (k : Int)) = true := by simp; omega
          have hjl : j < ls.length := by rw [← HN.out]; exact hlt
          have hc := (hB.cell (p := ⟨p, j, none⟩) hpl).trans (HC.out j hlt)
          have hf := flat_take hjl
          have hle2 := flat_le (ls := ls) (j + 1)
          rw [hf, List.length_append, ← HX.out] at hle2
          obtain ⟨s, hs'⟩ : ∃ s, s = ls[j] := ⟨_, rfl⟩
          have hok : s.ok w := by rw [hs']; exact HR.out _ (List.getElem_mem _)
          rw [← hs'] at hc hf hle2
          obtain ⟨A, l, c⟩ := s
          simp only [Src.v] at hc hle2
          have HRD := Lib.hid ((hok.1.below hB (Nat.le_refl _)).mono hB.size)
          have HA := Lib.hid hok.2
          have HF := Lib.hid hf
          obtain ⟨Y, hY⟩ : ∃ Y, Y = flat (ls.take j) := ⟨_, rfl⟩
          rw [← hY] at HF ho hle2
          clear hf hs' hY hok
          have hbs := hB.size
          go_wp2_with (at_builtin; refine append_rd rfl _ _ rfl w.heap.size u6 Y.length (Y.map B) rfl ho.out A l c rfl HA.out HRD.out (by omega) hbs ?_)
          intro v2 w2 hown hgrow
          have ho2 : w2.ownsRow w.heap.size 5 1 v2 (Y ++ l).length ((Y ++ l).map B) := by rw [List.length_append]; exact hown
          have hb2 : Below w.heap.size w w2 := hB.grown hgrow hbs (fun g hg => (ho.out.lt g hg).1)
          have HO2 := Lib.hid ho2
          clear hown hgrow ho2 ho HRD
          go_wp2_with fail
          go_roundw
          case rel => exact ⟨j + 1, by omega, by go_num, by rw [HF.out]; exact HO2, hb2⟩
          case measure => simp [intOf]; omega
        · have e1 : decide ((j : Int) < (k : Int)) = false := by simp; omega
          obtain rfl : j = k := by omega
          have hall : flat (ls.take j) = flat ls := by rw [List.take_of_length_le]; have := HN.out; omega
          rw [hall] at ho
          clear hlt hall
          go_wp2_with fail
          go_ret
          exact ⟨_, rfl, by rw [HX.out]; exact ho.out, hB⟩
end Go.Proofs.Ytjimmfbjhkoekaa
/- Numbers in bytes: plain laws. -/
namespace Go.Proofs.Ytjimmfbjhkoekaa
open Go.RowKit
theorem val_go (l : List UInt8) : ∀ n, l.foldl (fun n b => 256 * n + b.toNat) n = n * 256 ^ l.length + val l := by
  induction l with
  | nil => intro n; simp [val]
  | cons b l ih =>
    intro n
    simp only [List.foldl_cons, List.length_cons, val]
    rw [ih, ih (256 * 0 + b.toNat), Nat.pow_succ, Nat.add_mul, Nat.mul_zero, Nat.zero_add]
    have : 256 * n * 256 ^ l.length = n * (256 ^ l.length * 256) := by rw [Nat.mul_comm 256 n, Nat.mul_assoc, Nat.mul_comm 256]
    omega
theorem val_cons (b : UInt8) (l : List UInt8) : val (b :: l) = b.toNat * 256 ^ l.length + val l := by
  show List.foldl _ (256 * 0 + b.toNat) l = _
  rw [val_go]; simp
theorem less_val : ∀ a b : List UInt8, a.length = b.length → Op.bytesLess a b = decide (val a < val b)
  | [], [], _ => by simp [Op.bytesLess]
  | [], _ :: _, h => by simp at h
  | _ :: _, [], h => by simp at h
  | x :: a, y :: b, h => by
    have hl : a.length = b.length := by simpa using h
    have ih := less_val a b hl
    have ha := val_lt a
    have hb := val_lt b
    rw [← hl] at hb
    rw [Op.bytesLess, ih, val_cons, val_cons, ← hl]
    have hx : (decide (x < y)) = decide (x.toNat < y.toNat) := by rw [Bool.eq_iff_iff]; simp [UInt8.lt_iff_toNat_lt]
    have he : (x == y) = decide (x.toNat = y.toNat) := by rw [Bool.eq_iff_iff]; simp [← UInt8.toNat_inj]
    rw [hx, he]
    generalize x.toNat = p, y.toNat = q, val a = s, val b = t, 256 ^ a.length = N at *
    rw [Bool.eq_iff_iff]
    simp only [Bool.or_eq_true, Bool.and_eq_true, decide_eq_true_eq]
    constructor
    · rintro (h1 | ⟨rfl, h2⟩)
      · have : (p + 1) * N ≤ q * N := Nat.mul_le_mul_right _ h1
        rw [Nat.add_mul] at this; omega
      · omega
    · intro h3
      rcases Nat.lt_trichotomy p q with h4 | h4 | h4
      · exact .inl h4
      · subst h4; exact .inr ⟨rfl, by omega⟩
      · have : (q + 1) * N ≤ p * N := Nat.mul_le_mul_right _ h4
        rw [Nat.add_mul] at this; omega
theorem val_inj : ∀ a b : List UInt8, a.length = b.length → val a = val b → a = b
  | [], [], _, _ => rfl
  | [], _ :: _, h, _ => by simp at h
  | _ :: _, [], h, _ => by simp at h
  | x :: a, y :: b, h, hv => by
    have hl : a.length = b.length := by simpa using h
    have ha := val_lt a
    have hb := val_lt b
    rw [← hl] at hb
    rw [val_cons, val_cons, ← hl] at hv
    have hxy : x.toNat = y.toNat := by
      generalize x.toNat = p, y.toNat = q, val a = s, val b = t, 256 ^ a.length = N at *
      rcases Nat.lt_trichotomy p q with h4 | h4 | h4
      · have : (p + 1) * N ≤ q * N := Nat.mul_le_mul_right _ h4
        rw [Nat.add_mul] at this; omega
      · exact h4
      · have : (q + 1) * N ≤ p * N := Nat.mul_le_mul_right _ h4
        rw [Nat.add_mul] at this; omega
    rw [hxy] at hv
    rw [UInt8.toNat_inj.1 hxy, val_inj a b hl (by omega)]
theorem val_nb_take (k m : Nat) : ∀ j, j ≤ k → val ((nb k m).take j) = m / 256 ^ (k - j) % 256 ^ j
  | 0, _ => by simp [val, Nat.mod_one]
  | j + 1, h => by
    have hj : j < (nb k m).length := by rw [nb_length]; omega
    rw [val_take _ _ hj, val_nb_take k m j (by omega)]
    have e : ((nb k m)[j]).toNat = m / 256 ^ (k - 1 - j) % 256 := by
      simp [nb]
    rw [e, show k - (j + 1) = k - 1 - j by omega, show k - j = (k - 1 - j) + 1 by omega, Nat.pow_succ 256 (k - 1 - j), ← Nat.div_div_eq_div_mul]
    generalize m / 256 ^ (k - 1 - j) = q
    rw [Nat.pow_succ, Nat.mul_comm (256 ^ j) 256, Nat.mod_mul]
    omega
theorem val_nb (k m : Nat) : val (nb k m) = m % 256 ^ k := by
  have := val_nb_take k m k (Nat.le_refl _)
  rwa [List.take_of_length_le (by rw [nb_length]; omega), Nat.sub_self, Nat.pow_zero, Nat.div_one] at this
theorem less_nb (k m n : Nat) (hm : m < 256 ^ k) (hn : n < 256 ^ k) : Op.bytesLess (nb k m) (nb k n) = decide (m < n) := by
  rw [less_val _ _ (by simp [nb_length]), val_nb, val_nb, Nat.mod_eq_of_lt hm, Nat.mod_eq_of_lt hn]
theorem same_nb (k m n : Nat) (hm : m < 256 ^ k) (hn : n < 256 ^ k) : (nb k m == nb k n) = decide (m = n) := by
  rw [Bool.eq_iff_iff, beq_iff_eq, decide_eq_true_eq]
  constructor
  · intro h
    have := congrArg val h
    rwa [val_nb, val_nb, Nat.mod_eq_of_lt hm, Nat.mod_eq_of_lt hn] at this
  · rintro rfl; rfl
end Go.Proofs.Ytjimmfbjhkoekaa
/- Checksums: plain laws. -/
namespace Go.Proofs.Ytjimmfbjhkoekaa
open Go.RowKit
/-- A byte, and whether it is a word's high one; what it weighs. -/
abbrev Pr : Type := UInt8 × Bool
def wt (x : Pr) : Nat := if x.2 then 256 * x.1.toNat else x.1.toNat
def ws (l : List Pr) : Nat := (l.map wt).sum
/-- The first k bytes, each with its place's. -/
def tk (L : List UInt8) (k : Nat) : List Pr := (List.range k).map fun j => (L[j]?.getD 0, j % 2 == 0)
/-- The sum of all words. -/
def WS (L : List UInt8) : Nat := ws (tk L L.length)
/-- A sum with its carries added. -/
def red (n : Nat) : Nat := if n = 0 then 0 else (n - 1) % 65535 + 1
theorem ws_snoc (l : List Pr) (x : Pr) : ws (l ++ [x]) = ws l + wt x := by simp [ws]
theorem wt_le (x : Pr) : wt x ≤ 65280 := by
  have := x.1.toNat_lt
  unfold wt; split <;> omega
theorem ws_le (l : List Pr) : ws l ≤ 65280 * l.length := by
  induction l with
  | nil => simp [ws]
  | cons x l ih =>
    have := wt_le x
    simp only [ws, List.map_cons, List.sum_cons, List.length_cons] at *
    omega
theorem tk_length (L : List UInt8) (k : Nat) : (tk L k).length = k := by simp [tk]
theorem tk_succ (L : List UInt8) (k : Nat) : tk L (k + 1) = tk L k ++ [(L[k]?.getD 0, k % 2 == 0)] := by simp [tk, List.range_succ]
theorem red_le (n : Nat) : red n ≤ 65535 := by unfold red; split <;> omega
theorem red_small {n : Nat} (h : n ≤ 65535) : red n = n := by unfold red; split <;> omega
theorem red_add (a x : Nat) (h : x ≤ 65535) : (if 65535 < red a + x then red a + x - 65535 else red a + x) = red (a + x) := by
  unfold red
  split <;> split <;> split <;> omega
theorem red_fold (a : Nat) (h : 65535 < a) : red (a / 65536 + a % 65536) = red a := by
  unfold red
  split <;> split <;> omega
theorem fold_lt (a : Nat) (h : 65535 < a) : a / 65536 + a % 65536 < a := by omega
/-- A list's sum. -/
def sumOf (L : List UInt8) : Nat := 65535 - red (WS L)
/-- With the pseudo header. -/
def ovr (src dst : List UInt8) (nx : UInt8) (b : List UInt8) : List UInt8 := src ++ dst ++ nb 4 b.length ++ [0, 0, 0, nx] ++ b
theorem ovr_length (src dst : List UInt8) (nx : UInt8) (b : List UInt8) (h1 : src.length = 16) (h2 : dst.length = 16) : (ovr src dst nx b).length = 40 + b.length := by simp [ovr, nb_length, h1, h2]; omega
end Go.Proofs.Ytjimmfbjhkoekaa
/- append to a slice without room: a new row; numbers put behind bytes, handed back. -/
namespace Go.Proofs.Ytjimmfbjhkoekaa
open Go.RowKit
theorem run_full {w : World} (ty : TypeId) (ad : Addr) (l1 l2 : List UInt8) (h1 : Rd w w.heap.size (some ad) l1) (bd : Addr) (c2 : Nat) (h2 : Rd w w.heap.size (some bd) l2) (h0 : 0 < l2.length) (hb : l1.length + l2.length < 2 ^ 47) :
    ∃ v' w', (Builtin.append_ #[27, 27] ty #[.slice (some ad) l1.length l1.length, .slice (some bd) l2.length c2]).run Try.prog w = .ok v' w' ∧ w'.ownsRow w.heap.size 5 1 v' (l1 ++ l2).length ((l1 ++ l2).map B) ∧ Below w.heap.size w w' := by
  obtain ⟨i0, hi, hz0, hz1, hz2⟩ := info_parts infoB
  have h63 : ((l1.length + l2.length : Nat) : Int) ≤ 9223372036854775807 := by omega
  have hr := run_append_grow (P := Try.prog) w 27 ty 5 i0 (.int .u8 0) Try.underlying27 hi hz0 ad l1.length l1.length (l1.map B) (by rw [hz1]; simp) h1.news bd l2.length c2 (l2.map B) (by rw [hz1]; simp) h2.news (by omega) h63
    (growslice_fits (by omega) (by rw [hz2]; omega))
  refine ⟨_, _, hr, ?_, ?_⟩
  · refine ⟨by simp, .inr ⟨w.heap.size, _, _, by rw [List.length_append], Nat.le_refl _, heap_alloc_new w.drew _, ?_, ?_, ?_, ?_⟩⟩
    · rw [List.length_append]; exact grownCap_ge w _ _ _
    · exact grownCap_le_maxLen w _ _ _ (by unfold maxLen; omega)
    · have hge := grownCap_ge w (l1.length + l2.length) l1.length 5
      simp only [Array.size_append, List.size_toArray, size_zeroCells, List.length_map]
      show l1.length + l2.length + (_ - _) * 1 = _ * 1
      omega
    · simp only [Array.toList_append, List.append_assoc]
      rw [← List.append_assoc, ← List.map_append]
      exact List.take_left' (by simp)
  · exact (Below.refl _ _).drew.alloc (show w.heap.size ≤ w.drew.heap.size from Nat.le_refl _) _
theorem append_full {w : World} {ops : Array Oper} {rest : List Oper} {o : Oper} {a : Act} {Q : Exit → Act → World → Prop} (hgd : o.guard = none) (s x : Operand)
    (ho : o.op = .call { callee := .builtin .append, args := #[s, x], argTypes := #[27, 27] }) (ad : Addr) (l1 : List UInt8) (n1 c1 : Nat) (hs : a.eval s = .slice (some ad) n1 c1) (hn1 : n1 = l1.length) (hc1 : c1 = n1) (h1 : Rd w w.heap.size (some ad) l1)
    (bd : Addr) (l2 : List UInt8) (n2 c2 : Nat) (hx : a.eval x = .slice (some bd) n2 c2) (hn2 : n2 = l2.length) (h2 : Rd w w.heap.size (some bd) l2) (h0 : 0 < l2.length) (hb : l1.length + l2.length < 2 ^ 47)
    (h : ∀ v' w', w'.ownsRow w.heap.size 5 1 v' (l1 ++ l2).length ((l1 ++ l2).map B) → Below w.heap.size w w' → wpList Try.prog ops Q rest (a.put o.dst v') w') : wpList Try.prog ops Q (o :: rest) a w := by
  subst hc1 hn1 hn2
  obtain ⟨v', w', hr, h3, h4⟩ := run_full o.type ad l1 l2 h1 bd c2 h2 h0 hb
  refine wpList_plain hgd fun K hK => ?_
  unfold Oper.wp execOp
  simp only [ho, resolve, invoke, builtin, Sem.run_bind, Sem.run_pure, Result.andThen_ok, List.map_toArray, List.map_cons, List.map_nil, hs, hx, hr]
  exact hK _ _ (h v' w' h3 h4)
theorem full_mk {m : Nat} {M : MadeW m} {D : List TypeId} {o : Oper} {a : Act} {w : World} {s x : Operand} (ho : o.op = .call { callee := .builtin .append, args := #[s, x], argTypes := #[27, 27] })
    {l1 l2 l : List UInt8} (HM : Hid (M = MadeW.own m D l)) (hl : l = l1 ++ l2) {ad bd : Addr} {n1 c1 n2 c2 : Nat} (hs : a.eval s = .slice (some ad) n1 c1) (hn1 : n1 = l1.length) (hc1 : c1 = n1) (h1 : Rd w w.heap.size (some ad) l1) (hx : a.eval x = .slice (some bd) n2 c2) (hn2 : n2 = l2.length) (h2 : Rd w w.heap.size (some bd) l2)
    (h0 : 0 < l2.length) (hb : l1.length + l2.length < 2 ^ 47) (hbase : m ≤ w.heap.size) : madeAtW Try.prog M o a w := by
  subst hc1 hn1 hn2 hl
  obtain ⟨v', w', hr, h3, h4⟩ := run_full o.type ad l1 l2 h1 bd c2 h2 h0 hb
  unfold madeAtW execOp
  simp only [ho, resolve, invoke, builtin, Sem.run_bind, Sem.run_pure, Result.andThen_ok, List.map_toArray, List.map_cons, List.map_nil, hs, hx, hr]
  exact own_mk HM (Kept.of_below h4 hbase) (World.ownsRow.mono h3 hbase)
/-- A number put behind bytes. -/
theorem put_gots (A : Option Addr) (l : List UInt8) (c n : Nat) (m : Int) (k : Nat) (D : List UInt8) (w : World) (h : Rd w w.heap.size A l) (hA : A = none → l = [] ∧ c = 0) (hl : l.length < 2 ^ 45) (hn : n < 2 ^ 64) (hm : -2 ^ 63 ≤ m ∧ m < 2 ^ 63) (hk : wid m = k) (hD : D = l ++ nb k n) :
    Calls Try.prog 105 #[.slice A l.length c, .int .u64 n, .int .i64 m] w fun e w' => ∃ ad, e = .returned (.slice (some ad) D.length D.length) ∧ Gots D w.heap.size (some ad) w' ∧ Below w.heap.size w w' := by
  refine (put_any A l c n m w h hA hl hn hm).mono ?_
  rintro e w' ⟨g, cur, rfl, hg, hb, hle, htk, hbl⟩
  rw [hk] at hle htk ⊢
  rw [← hD] at htk
  have hDl : D.length = l.length + k := by rw [hD, List.length_append, nb_length]
  refine ⟨⟨g, 0, none⟩, by rw [hDl], ⟨Rd.of_take hb htk (bk_lt hb), fun _ => ⟨g, 0, cur, rfl, hb, by omega⟩, ?_, fun e => by cases e⟩, hbl⟩
  rintro b j ⟨o, e, _⟩
  cases e
  exact hg
/-! ### Rows of one's own, written; bits turned -/
theorem own_set {w : World} {base n g cap j : Nat} {L : List UInt8} (h : w.ownsRow base 5 1 (.slice (some ⟨g, 0, none⟩) n cap) n (L.map B)) (x : UInt8) :
    (w.setCell ⟨g, j, none⟩ (B x)).ownsRow base 5 1 (.slice (some ⟨g, 0, none⟩) n cap) n ((L.set j x).map B) := by
  obtain ⟨hl, ⟨h1, _⟩ | ⟨g', cap', cur, h1, hg, hb, hle, hm, hs, ht⟩⟩ := h
  · cases h1
  · cases h1
    refine ⟨by simpa using hl, .inr ⟨g, cap, cur.setIfInBounds j (B x), rfl, hg, ?_, hle, hm, by simpa using hs, ?_⟩⟩
    · have : bk (w.setCell ⟨g, j, none⟩ (B x)) g = some (.cells (cur.setIfInBounds j (B x)) 5 (0, 0)) := by rw [bk_setCell_same, show bk w g = _ from hb]; rfl
      exact this
    · rw [Array.toList_setIfInBounds, List.take_set, ht, List.map_set]
theorem own_below {w w' : World} {base n : Nat} {v : Value} {xs : List Value} (h : w.ownsRow base 5 1 v n xs) (hb : Below w.heap.size w w') : w'.ownsRow base 5 1 v n xs := by
  obtain ⟨hl, h1 | ⟨g, cap, cur, h1, hg, hk, h2⟩⟩ := h
  · exact ⟨hl, .inl h1⟩
  · exact ⟨hl, .inr ⟨g, cap, cur, h1, hg, bk_keep hb (bk_lt (w := w) hk) hk, h2⟩⟩
theorem own_some {w : World} {base n c : Nat} {A : Option Addr} {xs : List Value} (h : w.ownsRow base 5 1 (.slice A n c) n xs) (h0 : 0 < n) : ∃ g cur, A = some ⟨g, 0, none⟩ ∧ bk w g = some (.cells cur 5 (0, 0)) ∧ n ≤ cur.size ∧ base ≤ g := by
  obtain ⟨hl, ⟨h1, h2⟩ | ⟨g, cap, cur, h1, hg, hk, h2, h3, h4, _⟩⟩ := h
  · omega
  · cases h1
    exact ⟨g, cur, rfl, hk, by omega, hg⟩
theorem nb2' (k : Nat) : nb 2 k = [UInt8.ofNat (k / 256), UInt8.ofNat k] := by simp [nb, List.range_succ]
theorem sumOf_le (L : List UInt8) : sumOf L ≤ 65535 := by unfold sumOf; omega
theorem own_parts {w : World} {base n c : Nat} {A : Option Addr} {xs : List Value} (h : w.ownsRow base 5 1 (.slice A n c) n xs) (h0 : 0 < n) : ∃ g cur, A = some ⟨g, 0, none⟩ ∧ bk w g = some (.cells cur 5 (0, 0)) ∧ base ≤ g ∧ n ≤ c ∧ cur.size = c ∧ cur.toList.take n = xs := by
  obtain ⟨hl, ⟨h1, h2⟩ | ⟨g, cap, cur, h1, hg, hk, h2, h3, h4, h5⟩⟩ := h
  · omega
  · cases h1
    exact ⟨g, cur, rfl, hk, hg, h2, by omega, by simpa using h5⟩
theorem own_cell {w : World} {g n j : Nat} {cur : Array Value} {t : TypeId} {fr : Nat × Nat} {L : List UInt8} {x : UInt8} (h : bk w g = some (.cells cur t fr)) (ht : cur.toList.take n = L.map B) (hj : L[j]? = some x) : w.cell? ⟨g, j, none⟩ = some (B x) := by
  rw [bk_cell h]
  have h1 : (cur.toList.take n)[j]? = some (B x) := by rw [ht, List.getElem?_map, hj]; rfl
  rw [List.getElem?_take] at h1
  split at h1
  · simpa using h1
  · cases h1
theorem take_put {n i : Nat} {cur : Array Value} {L : List UInt8} (h : cur.toList.take n = L.map B) (y : UInt8) : (cur.setIfInBounds i (B y)).toList.take n = (L.set i y).map B := by
  rw [Array.toList_setIfInBounds, List.take_set, h, List.map_set]
def flipB (a : UInt8) (k : Nat) : UInt8 := a ^^^ (1 <<< UInt8.ofNat k)
theorem flipB_ne : ∀ (a : UInt8) (k : Nat), k < 8 → flipB a k ≠ a := by
  have : ∀ a : Fin 256, ∀ k : Fin 8, flipB (UInt8.ofNat a.1) k.1 ≠ UInt8.ofNat a.1 := by decide +kernel
  intro a k hk
  have := this ⟨a.toNat, a.toNat_lt⟩ ⟨k, hk⟩
  simpa using this
theorem flipB_flipB (a : UInt8) (k : Nat) : flipB (flipB a k) k = a := by
  unfold flipB
  rw [UInt8.xor_assoc, UInt8.xor_self, UInt8.xor_zero]
theorem bits_flip (x : UInt8) (r : Nat) (hr : r < 8) : bits BinOp.xor IntKind.u8 (x.toNat : Int) (2 ^ r % 256) = ((flipB x r).toNat : Int) := by
  have : ∀ a : Fin 256, ∀ k : Fin 8, bits BinOp.xor IntKind.u8 (a.1 : Int) (2 ^ k.1 % 256) = ((flipB (UInt8.ofNat a.1) k.1).toNat : Int) := by decide +kernel
  have h := this ⟨x.toNat, x.toNat_lt⟩ ⟨r, hr⟩
  simpa using h
theorem bits_one (x : UInt8) : bits BinOp.xor IntKind.u8 (x.toNat : Int) 1 = ((flipB x 0).toNat : Int) := by
  have h := bits_flip x 0 (by omega)
  exact h
theorem cell_of_bk {w w' : World} {b : Nat} (h : bk w' b = bk w b) (o : Nat) : w'.cell? ⟨b, o, none⟩ = w.cell? ⟨b, o, none⟩ := by
  have h' : w'.heap[b]? = w.heap[b]? := h
  simp only [World.cell?, h']
theorem Rd.turn {w w' : World} {n n' : Nat} {A : Option Addr} {l : List UInt8} (h : Rd w n A l) (hc : ∀ b o, A = some ⟨b, o, none⟩ → ∀ j, w'.cell? ⟨b, o + j, none⟩ = w.cell? ⟨b, o + j, none⟩) (hn : n ≤ n') : Rd w' n' A l := fun h0 => by
  obtain ⟨b, o, e, hlt, hj⟩ := h h0
  exact ⟨b, o, e, by omega, fun j hj' => (hc b o e j).trans (hj j hj')⟩
theorem own_lo {w : World} {base n c : Nat} {A : Option Addr} {xs : List Value} (h : w.ownsRow base 5 1 (.slice A n c) n xs) : ∀ b o, A = some ⟨b, o, none⟩ → base ≤ b := fun b o e => by
  obtain ⟨_, ⟨h1, h0⟩ | ⟨g, cap, cur, h1, hg, _⟩⟩ := h
  · cases h1; cases e
  · cases h1; cases e; exact hg
end Go.Proofs.Ytjimmfbjhkoekaa
/- append(b, make([]byte, n)...), b without room. -/
namespace Go.Proofs.Ytjimmfbjhkoekaa
open Go.RowKit
theorem zeroCells_B (m : Nat) : Builtin.zeroCells (Value.int .u8 0).cells m = ((List.replicate m (0 : UInt8)).map B).toArray := by
  apply Array.ext'
  simp only [Builtin.zeroCells, Value.cells, Array.toList_map, Array.toList_range]
  apply List.ext_getElem
  · simp
  · intro i h1 h2
    simp [Nat.mod_one]
theorem run_zeros {w : World} (ty : TypeId) (base : Nat) (ad : Addr) (l1 : List UInt8) (h1 : Rd w w.heap.size (some ad) l1) (hown : w.ownsRow base 5 1 (.slice (some ad) l1.length l1.length) l1.length (l1.map B)) (m : Nat) (hb : l1.length + m < 2 ^ 40) (hbase : base ≤ w.heap.size) :
    ∃ v' w', (Builtin.append_ #[27, 3] ty #[.slice (some ad) l1.length l1.length, .int .i64 m]).run Try.prog w = .ok v' w' ∧ w'.ownsRow base 5 1 v' (l1.length + m) ((l1 ++ List.replicate m 0).map B) ∧ Below w.heap.size w w' := by
  obtain ⟨i0, hi, hz0, hz1, hz2⟩ := info_parts infoB
  have hw : IntKind.i64.wrap (m : Int) = m := by rw [IntKind.wrap_i64]; omega
  have hneg : ¬ ((m : Int) < 0) := by omega
  have h48i : ¬ (281474976710656 < (m : Int) * (i0.bytes : Int)) := by rw [hz2]; omega
  rcases Nat.eq_zero_or_pos m with h0 | h0
  · subst h0
    refine ⟨.slice (some ad) l1.length l1.length, w, ?_, by simpa using hown, Below.refl _ _⟩
    have hw0 : IntKind.i64.wrap 0 = 0 := by decide
    simp [Builtin.append_, run_underlying Try.underlying27, run_underlying Try.underlying3, sizeOf, typeInfo, hi, asInt, asIntOf, hw0, storeCells]
  · have hn : ¬ (l1.length + m ≤ l1.length) := by omega
    have hm : m ≠ 0 := by omega
    have h63' : ¬ (9223372036854775807 < ((l1.length : Int) + (m : Int))) := by omega
    have h48' : ¬ (281474976710656 < Builtin.nextslicecap (l1.length + m) l1.length * i0.bytes) := by
      have := growslice_fits (need := l1.length + m) (old := l1.length) (bytes := i0.bytes) (by omega) (by rw [hz2]; omega)
      omega
    have hfo := run_firstCells_some (P := Try.prog) w.drew i0.size l1.length ad l1.length l1.length (l1.map B) (by rw [hz1]; simp) (by simpa using h1.news)
    have hns : ¬ (m * i0.size = 0) := Nat.mul_ne_zero hm (by omega)
    have hr : (Builtin.append_ #[27, 3] ty #[.slice (some ad) l1.length l1.length, .int .i64 m]).run Try.prog w = .ok (.slice (some ⟨w.heap.size, 0, none⟩) (l1.length + m) (grownCap w (l1.length + m) l1.length 5))
        (w.drew.alloc (.cells ((l1.map B).toArray ++ Builtin.zeroCells (Value.int .u8 0).cells m ++ Builtin.zeroCells (Value.int .u8 0).cells (grownCap w (l1.length + m) l1.length 5 - (l1.length + m))) 5)) := by
      simp [Builtin.append_, run_underlying Try.underlying27, run_underlying Try.underlying3, sizeOf, typeInfo, zeroValue, hi, hz0, asInt, asIntOf, hw, hn, hneg, hns, h63', h48', h48i, Question.forced, hfo, newRow, grownCap]
    refine ⟨_, _, hr, ?_, (Below.refl _ _).drew.alloc (show w.heap.size ≤ w.drew.heap.size from Nat.le_refl _) _⟩
    refine World.ownsRow.mono (base := w.heap.size) ?_ hbase
    refine ⟨by simp, .inr ⟨w.heap.size, _, _, rfl, Nat.le_refl _, heap_alloc_new w.drew _, ?_, ?_, ?_, ?_⟩⟩
    · exact grownCap_ge w _ _ _
    · exact grownCap_le_maxLen w _ _ _ (by unfold maxLen; omega)
    · have hge := grownCap_ge w (l1.length + m) l1.length 5
      simp only [Array.size_append, List.size_toArray, size_zeroCells, List.length_map]
      show l1.length + m * 1 + (_ - _) * 1 = _ * 1
      omega
    · rw [zeroCells_B]
      simp only [Array.toList_append, List.append_assoc]
      rw [← List.append_assoc, ← List.map_append]
      exact List.take_left' (by simp)
theorem append_zeros {w : World} {ops : Array Oper} {rest : List Oper} {o : Oper} {a : Act} {Q : Exit → Act → World → Prop} (hgd : o.guard = none) (s x : Operand)
    (ho : o.op = .call { callee := .builtin .append, args := #[s, x], argTypes := #[27, 3] }) (base : Nat) (ad : Addr) (l1 : List UInt8) (n1 c1 : Nat) (hs : a.eval s = .slice (some ad) n1 c1) (hn1 : n1 = l1.length) (hc1 : c1 = l1.length) (h1 : Rd w w.heap.size (some ad) l1)
    (hown : w.ownsRow base 5 1 (.slice (some ad) l1.length l1.length) l1.length (l1.map B)) (m : Nat) (hx : a.eval x = .int .i64 m) (hb : l1.length + m < 2 ^ 40) (hbase : base ≤ w.heap.size)
    (h : ∀ v' w', w'.ownsRow base 5 1 v' (l1.length + m) ((l1 ++ List.replicate m 0).map B) → Below w.heap.size w w' → wpList Try.prog ops Q rest (a.put o.dst v') w') : wpList Try.prog ops Q (o :: rest) a w := by
  subst hc1 hn1
  obtain ⟨v', w', hr, h3, h4⟩ := run_zeros o.type base ad l1 h1 hown m hb hbase
  refine wpList_plain hgd fun K hK => ?_
  unfold Oper.wp execOp
  simp only [ho, resolve, invoke, builtin, Sem.run_bind, Sem.run_pure, Result.andThen_ok, List.map_toArray, List.map_cons, List.map_nil, hs, hx, hr]
  exact hK _ _ (h v' w' h3 h4)
theorem own_lit {w : World} (L : List UInt8) (hl : L.length < 2 ^ 40) : (w.alloc (.cells (L.map B).toArray 5 (0, 0))).ownsRow w.heap.size 5 1 (.slice (some ⟨w.heap.size, 0, none⟩) L.length L.length) L.length (L.map B) := by
  refine ⟨by simp, .inr ⟨w.heap.size, _, _, rfl, Nat.le_refl _, heap_alloc_new w _, Nat.le_refl _, ?_, by simp, ?_⟩⟩
  · unfold maxLen; omega
  · exact List.take_of_length_le (by simp)
end Go.Proofs.Ytjimmfbjhkoekaa
