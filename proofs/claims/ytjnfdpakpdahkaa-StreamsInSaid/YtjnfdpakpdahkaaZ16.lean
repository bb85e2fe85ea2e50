/- Streams: acts; are they too great? -/
import Derived.Test.YtjnfdpakpdahkaaZ13
namespace Go.Proofs.Ytjnfdpakpdahkaa
open Go.RowKit
set_option maxRecDepth 100000
set_option maxHeartbeats 2000000
@[go_sem ↓] theorem ldAc (dst : Option Tmp) (x : Operand) (t : TypeId) (pos : String) (af : Array Edge) (g : Option (Nat × Bool)) (a : Act) (w : World) (K : Act → World → Prop) (Q : Exit → Act → World → Prop) :
    Oper.wp Try.prog ⟨dst, .load 34 x, t, pos, af, g⟩ a w K Q = ldPtr (wpHid Try.prog ⟨dst, .load 34 x, t, pos, af, g⟩ a w K Q) 5 w (fun c => K (a.put dst (.agg c)) w) (a.eval x) :=
  wp_load_bk 34 5 _ Try.underlying34 rfl (by kernel_rfl) dst x t pos af g a w K Q
@[go_sem ↓] theorem stAc (dst : Option Tmp) (x y : Operand) (t : TypeId) (pos : String) (af : Array Edge) (g : Option (Nat × Bool)) (a : Act) (w : World) (K : Act → World → Prop) (Q : Exit → Act → World → Prop) :
    Oper.wp Try.prog ⟨dst, .store 34 x y, t, pos, af, g⟩ a w K Q = stPtr (wpHid Try.prog ⟨dst, .store 34 x y, t, pos, af, g⟩ a w K Q) 5 w (fun w' => K (a.put dst undef) w') (a.eval x) (a.eval y) :=
  wp_store_bk 34 5 (by kernel_rfl) dst x y t pos af g a w K Q
@[go_sem ↓] theorem qlAc (dst : Option Tmp) (x : Operand) (t : TypeId) (pos : String) (af : Array Edge) (g : Option (Nat × Bool)) (a : Act) (m : Nat) (W : World) (K : Act → Prop) :
    Oper.quiet Try.prog ⟨dst, .load 34 x, t, pos, af, g⟩ a (fun w' => ∃ x : Later m W, w' = x.w) K =
      ldLater (quietHid Try.prog ⟨dst, .load 34 x, t, pos, af, g⟩ a (fun w' => ∃ x : Later m W, w' = x.w) K) m 5 W (fun c => K (a.put dst (.agg c))) (a.eval x) :=
  quiet_load_bk 34 5 _ Try.underlying34 rfl (by kernel_rfl) dst x t pos af g a m W K
structure Ac where
  kind : UInt8
  at' : Nat
  A : Option Addr
  l : List UInt8
  c : Nat
  fin : Bool
  n : Int
def Ac.row (x : Ac) : Array Value := #[B x.kind, .int .u32 (x.at' : Int), .slice x.A x.l.length x.c, .bool x.fin, .int .i64 x.n]
/-- An act in a box of its own: its fields. -/
theorem act_box {w : World} {b : Nat} {x : Ac} (h : bk w b = some (.cells x.row 34 (0, 0))) : w.cell? ⟨b, 0, none⟩ = some (B x.kind) ∧ w.cell? ⟨b, 1, none⟩ = some (.int .u32 (x.at' : Int)) ∧ w.cell? ⟨b, 2, none⟩ = some (.slice x.A x.l.length x.c) ∧ w.cell? ⟨b, 3, none⟩ = some (.bool x.fin) ∧ w.cell? ⟨b, 4, none⟩ = some (.int .i64 x.n) :=
  ⟨by rw [bk_cell h]; rfl, by rw [bk_cell h]; rfl, by rw [bk_cell h]; rfl, by rw [bk_cell h]; rfl, by rw [bk_cell h]; rfl⟩
@[go_sem] theorem Ac.row_size (x : Ac) : x.row.size = 5 := rfl
@[go_sem] theorem Ac.row_ones (x : Ac) : ones x.row.toList = true := rfl
structure AcOk (w : World) (n : Nat) (x : Ac) : Prop where
  rd : Rd w n x.A x.l
  nil : x.A = none → x.l = [] ∧ x.c = 0
  le : x.l.length ≤ x.c
  lt : x.l.length < 2 ^ 63
  a32 : x.at' < m32
  nlo : -2 ^ 63 ≤ x.n
  nhi : x.n < 2 ^ 63
/-- A slice of acts. -/
def As (w : World) (n : Nat) (A : Option Addr) (l : List Ac) : Prop :=
  (l ≠ [] → ∃ g o c t fr, A = some ⟨g, o, none⟩ ∧ g < n ∧ bk w g = some (.cells c t fr) ∧ ∀ j (h : j < l.length), o + j * 5 + 5 ≤ c.size ∧ xt c (o + j * 5) 5 = l[j].row) ∧ ∀ x ∈ l, AcOk w n x
theorem As.below {w w' : World} {n m : Nat} {A : Option Addr} {l : List Ac} (h : As w n A l) (hb : Below m w w') (hm : n ≤ m) : As w' n A l := ⟨fun h0 => by
  obtain ⟨g, o, c, t, fr, h1, h2, h3, h4⟩ := h.1 h0
  exact ⟨g, o, c, t, fr, h1, h2, bk_keep hb (by omega) h3, h4⟩, fun x hx => by
  obtain ⟨h1, h2, h3, h4, h5, h6, h7⟩ := h.2 x hx
  exact ⟨h1.below hb hm, h2, h3, h4, h5, h6, h7⟩⟩
theorem As.at {w : World} {n : Nat} {A : Option Addr} {l : List Ac} (h : As w n A l) {j : Nat} (hj : j < l.length) : ∃ g o c t fr, A = some ⟨g, o, none⟩ ∧ g < n ∧ bk w g = some (.cells c t fr) ∧ o + j * 5 + 5 ≤ c.size ∧ xt c (o + j * 5) 5 = l[j].row ∧
    ∀ i, i < 5 → w.cell? ⟨g, o + j * 5 + i, none⟩ = l[j].row[i]? := by
  obtain ⟨g, o, c, t, fr, h1, h2, h3, h4⟩ := h.1 (by intro e; rw [e] at hj; simp at hj)
  obtain ⟨h5, h6⟩ := h4 j hj
  refine ⟨g, o, c, t, fr, h1, h2, h3, h5, h6, fun i hi => ?_⟩
  rw [bk_cell h3, ← h6]
  simp [xt, Array.getElem?_extract]
  omega
def sumL (l : List Ac) : Nat := (l.map fun x => x.l.length).sum
theorem sumL_take {l : List Ac} {k : Nat} (h : k < l.length) : sumL (l.take (k + 1)) = sumL (l.take k) + l[k].l.length := by
  unfold sumL
  rw [List.take_succ_eq_append_getElem h]
  simp only [List.map_append, List.map_cons, List.map_nil, List.sum_append, List.sum_cons, List.sum_nil, Nat.add_zero]
theorem sumL_mem : ∀ {l : List Ac} {x : Ac}, x ∈ l → x.l.length ≤ sumL l
  | y :: l, x, h => by
    have e : sumL (y :: l) = y.l.length + sumL l := by simp [sumL]
    rcases List.mem_cons.1 h with rfl | h
    · omega
    · have := sumL_mem h; omega
theorem sumL_le : ∀ {l : List Ac} {m : Nat}, (∀ x ∈ l, x.l.length < m) → sumL l ≤ l.length * m
  | [], _, _ => by simp [sumL]
  | y :: l, m, h => by
    have e : sumL (y :: l) = y.l.length + sumL l := by simp [sumL]
    have h1 := h y (List.mem_cons_self ..)
    have h2 := sumL_le (l := l) (m := m) fun x hx => h x (List.mem_cons_of_mem _ hx)
    rw [List.length_cons, Nat.succ_mul]
    omega
theorem great_any (A : Option Addr) (l : List Ac) (c : Nat) (w : World) (h : As w w.heap.size A l) (hl : l.length < 2 ^ 63) :
    Calls Try.prog 12 #[.slice A l.length c] w fun e w' => ∃ b, e = .returned (.bool b) ∧ (b = false → l.length ≤ 100 ∧ ((∀ x ∈ l, x.l.length < 2 ^ 50) → sumL l ≤ 20000)) ∧ Below w.heap.size w w' := by
  have HA := Lib.hid h
  by_cases h100 : 100 < l.length
  · have d1 : decide ((l.length : Int) > 100) = true := by simp; omega
    clear h
    go_enter Try.func12, Try.ntmps12
    go_wp2
    go_ret
    exact ⟨true, rfl, (fun h => by cases h), Below.refl _ _⟩
  · have d1 : decide ((l.length : Int) > 100) = false := by simp; omega
    have hl100 : l.length ≤ 100 := by omega
    clear h h100
    go_enter Try.func12, Try.ntmps12
    go_wp2_with fail
    go_loopw [3, 4] (fun sv iv wr => ∃ (k : Nat) (s : Int), k ≤ l.length ∧ iv = .int .i64 (k : Int) ∧ sv = .int .i64 s ∧ wr = w ∧ Hid ((∀ x ∈ l, x.l.length < 2 ^ 50) → s = (sumL (l.take k) : Int))) (fun _ iv _ => l.length - (intOf iv).toNat)
    case atStart => exact ⟨0, 0, by omega, rfl, rfl, rfl, Lib.hid fun _ => by simp [sumL]⟩
    case round =>
      obtain ⟨k, s, hk, rfl, rfl, rfl, HS⟩ := hrel
      by_cases hlt : k < l.length
      · have d2 : decide ((k : Int) < (l.length : Int)) = true := by simp; omega
        obtain ⟨g, o, cc, t, fr, rfl, _, _, _, _, hc⟩ := HA.out.at hlt
        have c2 := hc 2 (by omega)
        simp [Ac.row] at c2
        have hL := (HA.out.2 _ (List.getElem_mem hlt)).lt
        obtain ⟨x, hx⟩ : ∃ x, x = l[k] := ⟨_, rfl⟩
        rw [← hx] at c2 hL
        obtain ⟨L, hLL⟩ : ∃ L, L = x.l.length := ⟨_, rfl⟩
        rw [← hLL] at c2 hL
        obtain ⟨s', hs'⟩ : ∃ s', s' = IntKind.i64.wrap (s + (L : Int)) := ⟨_, rfl⟩
        have HN : Hid ((∀ x ∈ l, x.l.length < 2 ^ 50) → s' = (sumL (l.take (k + 1)) : Int)) := Lib.hid fun hs => by
          have h1 := HS.out hs
          have h2 := sumL_le (l := l.take k) (m := 2 ^ 50) fun x hx => hs x (List.mem_of_mem_take hx)
          have h3 : (l.take k).length ≤ 100 := by rw [List.length_take]; omega
          have h4 := hs x (hx ▸ List.getElem_mem hlt)
          have h5 : (l.take k).length * 2 ^ 50 ≤ 100 * 2 ^ 50 := Nat.mul_le_mul_right _ h3
          rw [sumL_take hlt, ← hx, hs', h1, ← hLL, IntKind.wrap_i64]
          omega
        have g5 : IntKind.i64.wrap (s + (L : Int)) = s' := hs'.symm
        have g6 := g5
        rw [IntKind.wrap_i64] at g6
        clear hx hLL hs' hc HS
        go_wp2_with fail
        exact ⟨⟨k + 1, s', by omega, by simp, rfl, trivial, HN⟩, by simp [intOf]; omega⟩
      · obtain rfl : k = l.length := by omega
        have d2 : decide ((l.length : Int) < (l.length : Int)) = false := by simp
        have HE : Hid (decide (s > 20000) = false → l.length ≤ 100 ∧ ((∀ x ∈ l, x.l.length < 2 ^ 50) → sumL l ≤ 20000)) := Lib.hid fun hs => ⟨hl100, fun h => by
          have := HS.out h
          rw [List.take_length] at this
          simp at hs
          omega⟩
        obtain ⟨q, hq⟩ : ∃ q, q = decide (s > 20000) := ⟨_, rfl⟩
        rw [← hq] at HE
        have hq' := hq.symm
        clear hq HS
        go_wp2_with fail
        go_ret
        exact ⟨q, by simp, HE.out, Below.refl _ _⟩
end Go.Proofs.Ytjnfdpakpdahkaa
