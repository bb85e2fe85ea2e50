import Derived.Test.YtfldoihindbdmaaG13
import Derived.Test.YtfldoihindbdmaaMgE
/- Infos: what is due is always told; both ticks. -/
namespace Go.Proofs.Ytfldoihindbdmaa
open Go.RowKit
set_option maxRecDepth 100000
set_option maxHeartbeats 1000000
/-- What always holds of a client. -/
structure Cl.Inv (c : Cl) : Prop where
  s : c.since ≤ c.tm
  f : c.fresh = true → c.asks = false
  n64 : c.next ≤ far
  t64 : c.tm ≤ far
  i24 : c.id < 16777216
  w : c.wait = 0 ∨ 900 ≤ c.wait
  w22 : c.wait ≤ 3960000
theorem lat_ge (c : Cl) (h : c.Inv) {a : Nat} (ha : a < 4294967296) : 900 ≤ c.lat a ∧ c.lat a ≤ 3960000 := by
  have hb := belT_lt (n := 201) ha (by decide)
  refine ⟨?_, (c.lat_pos ha).2⟩
  unfold Cl.lat laterT
  obtain ⟨R, hR⟩ : ∃ R : Int, R = ((belT a 201 : Nat) : Int) - 100 := ⟨_, rfl⟩
  rw [← hR]
  have hr : -100 ≤ R ∧ R ≤ 100 := by omega
  have h1 := partT_eq 1000 R hr
  have h2 := partT_eq 3600000 R hr
  have h3 := h.w
  split <;> split <;> omega
theorem start_inv (c : Cl) (h : c.Inv) (now : Nat) (hn : now ≤ far) (l : List Nat) (hl : ∀ x ∈ l, x < 4294967296) : (c.start now l).Inv := by
  have h1 := h.s; have h2 := h.t64
  refine ⟨by show c.since ≤ max c.tm now; omega, fun e => (by cases e), addT_le _ _, by show max c.tm now ≤ far; omega, ?_, .inl rfl, Nat.zero_le _⟩
  show l.headD 0 / 256 < 16777216
  cases l with
  | nil => decide
  | cons a t =>
    have := hl a (by simp)
    show a / 256 < _
    omega
theorem goes_inv (c : Cl) (h : c.Inv) (t : Nat) (ht : t ≤ far) : (c.goes t).Inv := by
  have h1 := h.s; have h2 := h.t64
  exact ⟨by show c.since ≤ max c.tm t; omega, h.f, h.n64, by show max c.tm t ≤ far; omega, h.i24, h.w, h.w22⟩
theorem ask2_inv (c : Cl) (h : c.Inv) {a : Nat} (ha : a < 4294967296) : (c.ask2 a).Inv := by
  have h1 := h.s; have h2 := h.t64; have h3 := h.n64
  have h4 : c.ask1.Inv := by
    refine ⟨?_, h.f, h.n64, by show max c.tm c.next ≤ far; omega, h.i24, h.w, h.w22⟩
    show (if c.wait = 0 then max c.tm c.next else c.since) ≤ max c.tm c.next
    split <;> omega
  have h5 := lat_ge c.ask1 h4 ha
  exact ⟨h4.s, h4.f, addT_le _ _, h4.t64, h4.i24, .inr h5.1, h5.2⟩
theorem tail_lt {l : List Nat} (hl : ∀ x ∈ l, x < 4294967296) : ∀ x ∈ l.tail, x < 4294967296 := fun x hx => hl x (List.mem_of_mem_tail hx)
theorem head_lt {l : List Nat} (hl : ∀ x ∈ l, x < 4294967296) : l.headD 0 < 4294967296 := by
  cases l with
  | nil => decide
  | cons a t => exact hl a (by simp)
theorem run_total (nw : Nat) (hnw : nw ≤ far) : ∀ (n : Nat) (c : Cl) (l : List Nat), 2 * (nw + 1 - c.next) + c.fresh.toNat ≤ n → c.Inv → (∀ x ∈ l, x < 4294967296) →
    ∃ d m os, Run nw c l d m os ∧ d.Inv ∧ (∀ x ∈ m, x < 4294967296) ∧ (os ≠ [] → os.length * 900 ≤ (nw - c.next) + 900 ∧ c.next ≤ nw) ∧ (c.due = far → os = [])
  | n, c, l, hn, hi, hl => by
    by_cases hd : c.due = far ∨ nw < c.next
    · exact ⟨c, l, [], .done c l hd, hi, hl, fun h => absurd rfl h, fun _ => rfl⟩
    · have hdu : c.due ≠ far := fun e => hd (.inl e)
      have hle : c.next ≤ nw := by
        rcases Nat.lt_or_ge nw c.next with h | h
        · exact absurd (.inr h) hd
        · exact h
      have hnf := (Cl.due_next hdu).2
      have hn64 := hi.n64
      cases hfr : c.fresh with
      | true =>
        have ha := hi.f hfr
        obtain ⟨c2, hc2⟩ : ∃ c2, c2 = (c.goes c.next).start (max c.tm c.next) l := ⟨_, rfl⟩
        have hi2 : c2.Inv := by rw [hc2]; exact start_inv _ (goes_inv c hi _ hi.n64) _ (by have := hi.t64; omega) l hl
        have hnx : c.next ≤ c2.next := by
          rw [hc2]
          show c.next ≤ addT (max (max c.tm c.next) (max c.tm c.next)) _
          unfold addT
          split <;> omega
        have hf2 : c2.fresh = false := by rw [hc2]; rfl
        cases n with
        | zero => rw [hfr] at hn; simp at hn
        | succ k =>
          obtain ⟨d, m, os, h1, h2, h3, h4, _⟩ := run_total nw hnw k c2 l.tail.tail (by rw [hf2]; rw [hfr] at hn; simp at hn ⊢; omega) hi2 (tail_lt (tail_lt hl))
          exact ⟨d, m, os, .again c l d m os hdu hle hfr ha (by rw [← hc2]; exact h1), h2, h3, fun h => ⟨by have := h4 h; omega, hle⟩, fun e => absurd e hdu⟩
      | false =>
        have hh := head_lt hl
        obtain ⟨c2, hc2⟩ : ∃ c2, c2 = c.ask2 (l.headD 0) := ⟨_, rfl⟩
        have hi2 : c2.Inv := by rw [hc2]; exact ask2_inv c hi hh
        have hla : 900 ≤ c.ask1.lat (l.headD 0) := by
          have h1 := hi.s; have h2 := hi.t64
          have h4 : c.ask1.Inv := by
            refine ⟨?_, hi.f, hi.n64, by show max c.tm c.next ≤ far; omega, hi.i24, hi.w, hi.w22⟩
            show (if c.wait = 0 then max c.tm c.next else c.since) ≤ max c.tm c.next
            split <;> omega
          exact (lat_ge c.ask1 h4 hh).1
        have hnx : c.next + 900 ≤ c2.next ∨ c2.next = far := by
          rw [hc2]
          show c.next + 900 ≤ addT (max c.tm c.next) _ ∨ addT (max c.tm c.next) _ = far
          unfold addT
          split
          · exact .inr rfl
          · left; omega
        have hnx2 : c.next < c2.next := by rcases hnx with h | h <;> omega
        have hf2 : c2.fresh = false := by rw [hc2]; exact hfr
        cases n with
        | zero => omega
        | succ k =>
          obtain ⟨d, m, os, h1, h2, h3, h4, h5⟩ := run_total nw hnw k c2 l.tail (by rw [hf2]; rw [hfr] at hn; simp at hn ⊢; omega) hi2 (tail_lt hl)
          refine ⟨d, m, reqB c.ask1 c.ask1.tm :: os, .ask c l d m os hdu hle hfr hi.s (by rw [← hc2]; exact h1), h2, h3, fun _ => ⟨?_, hle⟩, fun e => absurd e hdu⟩
          rw [List.length_cons]
          by_cases ho : os = []
          · rw [ho]; simp
          · obtain ⟨q1, q2⟩ := h4 ho
            rcases hnx with h | h
            · omega
            · have : c2.due = far := by
                unfold Cl.due; split
                · exact h
                · rfl
              exact absurd (h5 this) ho
theorem clamp_inv (c : Cl) (h : c.Inv) (nw : Nat) (hnw : nw ≤ far) : (c.clamp nw).Inv := by
  unfold Cl.clamp
  split
  · exact ⟨h.s, h.f, by show nw - 86400000 ≤ far; omega, h.t64, h.i24, h.w, h.w22⟩
  · exact h
/-- Within a day. -/
theorem run_day (c : Cl) (h : c.Inv) (nw : Nat) (hnw : nw ≤ far) (l : List Nat) (hl : ∀ x ∈ l, x < 4294967296) : ∃ d m os, Run nw (c.clamp nw) l d m os ∧ d.Inv ∧ (∀ x ∈ m, x < 4294967296) ∧ os.length < 2 ^ 20 := by
  obtain ⟨d, m, os, h1, h2, h3, h4, h5⟩ := run_total nw hnw _ (c.clamp nw) l (Nat.le_refl _) (clamp_inv c h nw hnw) hl
  refine ⟨d, m, os, h1, h2, h3, ?_⟩
  by_cases ho : os = []
  · rw [ho]; decide
  · obtain ⟨q1, q2⟩ := h4 ho
    have hd : (c.clamp nw).due ≠ far := fun e => ho (h5 e)
    have hdn := (Cl.due_next hd).1
    have : nw - (c.clamp nw).next ≤ 86400000 := by
      rw [← hdn]
      unfold Cl.clamp at hd hdn ⊢
      split
      · rename_i hc
        rw [if_pos hc] at hd
        rw [(Cl.due_next hd).1]
        show nw - (nw - 86400000) ≤ _
        omega
      · rename_i hc
        omega
    omega
theorem ptick_any (x : Nat) (c : Cl) (now : Nat) (p : Option Addr) (l : List Nat) (w : World) (h : ClB w x c) (hw : WdB w p l) (hp : ¬ WF p x) (hn : now ≤ far) (d : Cl) (m : List Nat) (os : List (List UInt8)) (hrun : Run (max now c.tm) (c.clamp (max now c.tm)) l d m os) (hos : os.length < 2 ^ 20) :
    Calls Try.prog 11 #[.pointer (some ⟨x, 0, none⟩), .int .u64 (now : Int), .pointer p] w fun e w' => ∃ A, e = .returned (.slice A os.length os.length) ∧ Got w' w.heap.size A os ∧ ClB w' x (d.goes (max now c.tm)) ∧ WdB w' p m ∧ Tn (XF x p) w w' := by
  by_cases hc : 86400000 < max now c.tm ∧ c.due < max now c.tm - 86400000
  · have e : c.clamp (max now c.tm) = { c with next := max now c.tm - 86400000 } := by unfold Cl.clamp; rw [if_pos hc]
    rw [e] at hrun
    exact tick_far x c now p l w h hw hp hn (by omega) d m os hrun hos
  · have e : c.clamp (max now c.tm) = c := by unfold Cl.clamp; rw [if_neg hc]
    rw [e] at hrun
    exact tick_any x c now p l w h hw hp hn (by omega) d m os hrun hos
end Go.Proofs.Ytfldoihindbdmaa
/- InfosPlay: two lists of addresses that are the same. -/
namespace Go.Proofs.Ytfldoihindbdmaa
open Go.RowKit
set_option maxRecDepth 100000
@[go_sem ↓] theorem ldAddrC (dst : Option Tmp) (x : Operand) (t : TypeId) (pos : String) (af : Array Edge) (g : Option (Nat × Bool)) (a : Act) (w : World) (K : Act → World → Prop) (Q : Exit → Act → World → Prop) :
    Oper.wp Try.prog ⟨dst, .load 110 x, t, pos, af, g⟩ a w K Q = ldPtr (wpHid Try.prog ⟨dst, .load 110 x, t, pos, af, g⟩ a w K Q) 16 w (fun c => K (a.put dst (.agg c)) w) (a.eval x) :=
  wp_load_bk 110 16 _ Try.underlying110 rfl (by kernel_rfl) dst x t pos af g a w K Q
@[go_sem ↓] theorem stAddrC (dst : Option Tmp) (x y : Operand) (t : TypeId) (pos : String) (af : Array Edge) (g : Option (Nat × Bool)) (a : Act) (w : World) (K : Act → World → Prop) (Q : Exit → Act → World → Prop) :
    Oper.wp Try.prog ⟨dst, .store 110 x y, t, pos, af, g⟩ a w K Q = stAt (wpHid Try.prog ⟨dst, .store 110 x y, t, pos, af, g⟩ a w K Q) 16 w (fun w' => K (a.put dst undef) w') (a.eval x) (a.eval y) :=
  wp_store_any 110 16 (by kernel_rfl) dst x y t pos af g a w K Q
@[go_sem ↓] theorem qlAddrC (dst : Option Tmp) (x : Operand) (t : TypeId) (pos : String) (af : Array Edge) (g : Option (Nat × Bool)) (a : Act) (m : Nat) (W : World) (K : Act → Prop) :
    Oper.quiet Try.prog ⟨dst, .load 110 x, t, pos, af, g⟩ a (fun w' => ∃ x : Later m W, w' = x.w) K =
      ldLater (quietHid Try.prog ⟨dst, .load 110 x, t, pos, af, g⟩ a (fun w' => ∃ x : Later m W, w' = x.w) K) m 16 W (fun c => K (a.put dst (.agg c))) (a.eval x) :=
  quiet_load_bk 110 16 _ Try.underlying110 rfl (by kernel_rfl) dst x t pos af g a m W K
theorem svf_16 (b : List UInt8) : ∀ (l : List Nat) (z : List UInt8), z ∈ svf b l → z.length = 16
  | [], z, h => by simp [svf] at h
  | x :: l, z, h => by
    have h' : z ∈ (if 16 * (x + 1) ≤ b.length then [(b.drop (16 * x)).take 16] else []) ++ svf b l := h
    rcases List.mem_append.1 h' with h1 | h1
    · split at h1
      · obtain rfl := List.mem_singleton.1 h1
        rw [List.length_take, List.length_drop]; omega
      · simp at h1
    · exact svf_16 b l z h1
theorem adV_at : ∀ (ss : List (List UInt8)) (k : Nat) (z : List UInt8), (∀ z ∈ ss, z.length = 16) → ss[k]? = some z → ((adV ss).drop (k * 16)).take 16 = z.map B
  | [], k, z, _, h => by simp at h
  | s :: ss, 0, z, hs, h => by
    simp at h
    subst h
    have := hs s (by simp)
    show (((s.map B) ++ adV ss).drop (0 * 16)).take 16 = _
    rw [Nat.zero_mul, List.drop_zero, List.take_left' (by simp [this])]
  | s :: ss, k + 1, z, hs, h => by
    have h1 := hs s (by simp)
    have := adV_at ss k z (fun z hz => hs z (List.mem_cons_of_mem _ hz)) (by simpa using h)
    show (((s.map B) ++ adV ss).drop ((k + 1) * 16)).take 16 = _
    rw [show (k + 1) * 16 = (s.map B).length + k * 16 by simp [h1]; omega, List.drop_length_add_append]
    exact this
/-- A list of addresses, to be read. -/
def RdA (w : World) (A : Option Addr) (ss : List (List UInt8)) : Prop := ∀ (k : Nat) (z : List UInt8), ss[k]? = some z → ∃ g cur, A = some ⟨g, 0, none⟩ ∧ bk w g = some (.cells cur 110 (0, 0)) ∧ k * 16 + 16 ≤ cur.size ∧ xt cur (k * 16) 16 = (z.map B).toArray ∧ z.length = 16
theorem RdA.below {w w' : World} {A : Option Addr} {ss : List (List UInt8)} (h : RdA w A ss) (hb : Below w.heap.size w w') : RdA w' A ss := fun k z hz => by
  obtain ⟨g, cur, h1, h2, h3⟩ := h k z hz
  exact ⟨g, cur, h1, bk_keep hb (bk_lt h2) h2, h3⟩
theorem OutA.rdA {w : World} {n c : Nat} {A : Option Addr} {ss : List (List UInt8)} (h : OutA w n (.slice A ss.length c) ss) (hs : ∀ z ∈ ss, z.length = 16) : RdA w A ss := fun k z hz => by
  have hk : k < ss.length := (List.getElem?_eq_some_iff.1 hz).1
  rcases h.2 with ⟨_, h0⟩ | ⟨g, cap, cur, e, _, hg, h1, _, h2, h3⟩
  · omega
  · cases e
    refine ⟨g, cur, rfl, hg, by omega, ?_, hs z (List.mem_of_getElem? hz)⟩
    have h4 := adV_at ss k z hs hz
    rw [← h3] at h4
    unfold xt
    apply Array.ext'
    rw [← h4, Array.toList_extract, List.extract_eq_take_drop, List.drop_take, List.take_take, Nat.add_sub_cancel_left, Nat.min_eq_left (by omega)]
theorem sameA_any (A1 A2 : Option Addr) (ss : List (List UInt8)) (c1 c2 : Nat) (w : World) (h1 : RdA w A1 ss) (h2 : RdA w A2 ss) (hl : ss.length ≤ 9223372036854775807) :
    Calls Try.prog 81 #[.slice A1 ss.length c1, .slice A2 ss.length c2] w fun e w' => e = .returned (.bool true) ∧ Below w.heap.size w w' := by
  have H1 := Lib.hid h1; have H2 := Lib.hid h2
  clear h1 h2
  obtain ⟨N, hN⟩ : ∃ N, N = ss.length := ⟨_, rfl⟩
  rw [← hN] at hl ⊢
  have HN := Lib.hid hN
  clear hN
  go_enter Try.func81, Try.ntmps81
  go_wp2
  go_loopw [5] (fun i w' => ∃ k : Nat, k ≤ N ∧ i = .int .i64 k ∧ Below w.heap.size w w') (fun i _ => N - (intOf i).toNat)
  case atStart => exact ⟨0, by omega, rfl, Below.refl _ _⟩
  case round =>
    obtain ⟨k, hk, rfl, hbel⟩ := hrel
    by_cases hlt : k < N
    · have d1 : decide ((k : Int) < (N : Int)) = true := by simp; omega
      have d2 : decide (k < N) = true := by simp; omega
      obtain ⟨z, hz⟩ : ∃ z, ss[k]? = some z := ⟨ss[k]'(by rw [← HN.out]; exact hlt), List.getElem?_eq_getElem _⟩
      obtain ⟨g1, cur1, rfl, hb1, hs1, hx1, hz16⟩ := (H1.out.below hbel) k z hz
      obtain ⟨g2, cur2, rfl, hb2, hs2, hx2, _⟩ := (H2.out.below hbel) k z hz
      have l1 := bk_lt hb1
      have l2 := bk_lt hb2
      have q1 := fun w => eqAddrS z hz16 w
      clear hz hz16
      go_wp2
      refine wp_region_later (wr.heap.size) (by kernel_rfl) (by kernel_rfl) ?_
      repeat (go_big_quiet_step (fail))
      (first | refine wpQuiet_nil ?_ | (go_big_quiet_want; (try go_big_quiet_op); trace_state; fail))
      intro w1 hw'
      have q3 := later_elim hw'
      clear hw'
      go_wp2
      go_roundw
      case rel => exact ⟨k + 1, by omega, by go_num, hbel.trans (q3.mono hbel.size)⟩
      case measure => simp [intOf]; omega
    · have d1 : decide ((k : Int) < (N : Int)) = false := by simp; omega
      have d2 : decide (k < N) = false := by simp; omega
      obtain rfl : k = N := by omega
      clear hlt
      go_wp2
      go_ret
      exact ⟨rfl, hbel⟩
theorem sameAddrs_any (A1 A2 : Option Addr) (ss : List (List UInt8)) (c1 c2 : Nat) (w : World) (h1 : RdA w A1 ss) (h2 : RdA w A2 ss) (hl : ss.length ≤ 9223372036854775807) :
    Calls Try.prog 71 #[.slice A1 ss.length c1, .slice A2 ss.length c2] w fun e w' => e = .returned (.bool true) ∧ Below w.heap.size w w' := by
  have C := Lib.hid (sameA_any A1 A2 ss c1 c2 w h1 h2 hl)
  clear h1 h2
  go_enter Try.func71, Try.ntmps71
  go_wp2_with fail
  refine C.out.mono ?_
  rintro e w1 ⟨rfl, b1⟩
  go_wp2_with fail
  go_ret
  exact ⟨rfl, b1⟩
end Go.Proofs.Ytfldoihindbdmaa
/- InfosPlay: two answers that are the same. -/
namespace Go.Proofs.Ytfldoihindbdmaa
open Go.RowKit
set_option maxRecDepth 100000
set_option maxHeartbeats 1000000
/-- A list of texts, to be read. -/
def RdT (w : World) (A : Option Addr) (ss : List (List UInt8)) : Prop := ∀ (k : Nat) (s : List UInt8), ss[k]? = some s → ∃ g, A = some ⟨g, 0, none⟩ ∧ g < w.heap.size ∧ w.cell? ⟨g, k, none⟩ = some (St s)
theorem RdT.below {w w' : World} {A : Option Addr} {ss : List (List UInt8)} (h : RdT w A ss) (hb : Below w.heap.size w w') : RdT w' A ss := fun k z hz => by
  obtain ⟨g, h1, h2, h3⟩ := h k z hz
  exact ⟨g, h1, Nat.lt_of_lt_of_le h2 hb.size, (hb.cell (p := ⟨g, k, none⟩) h2).trans h3⟩
theorem OutT.rdT {w : World} {n c : Nat} {A : Option Addr} {ss : List (List UInt8)} (h : OutT w n (.slice A ss.length c) ss) : RdT w A ss := fun k s hz => by
  have hk : k < ss.length := (List.getElem?_eq_some_iff.1 hz).1
  obtain ⟨g, h1, _, h3, h4, _⟩ := own_at h k (by simpa using hk)
  refine ⟨g, h1, h3, h4.trans ?_⟩
  rw [List.getElem_map, (List.getElem?_eq_some_iff.1 hz).2]
theorem sameAnswer_any (SA DA SA' DA' : Option Addr) (sv ds : List (List UInt8)) (F c1 c2 c3 c4 : Nat) (w : World) (h1 : RdA w SA sv) (h2 : RdA w SA' sv) (h3 : RdT w DA ds) (h4 : RdT w DA' ds) (hl : sv.length ≤ 9223372036854775807) (hd : ds.length ≤ 9223372036854775807) :
    Calls Try.prog 40 #[.agg #[.slice SA sv.length c1, .slice DA ds.length c2, .int .u32 (F : Int)], .agg #[.slice SA' sv.length c3, .slice DA' ds.length c4, .int .u32 (F : Int)]] w fun e w' => e = .returned (.bool true) ∧ Below w.heap.size w w' := by
  have C : Hid (∀ W, Below w.heap.size w W → Calls Try.prog 71 #[.slice SA sv.length c1, .slice SA' sv.length c3] W fun e w' => e = .returned (.bool true) ∧ Below W.heap.size W w') := Lib.hid fun W hb => sameAddrs_any SA SA' sv c1 c3 W (h1.below hb) (h2.below hb) hl
  have H3 := Lib.hid h3; have H4 := Lib.hid h4
  clear h1 h2 h3 h4
  obtain ⟨N, hN⟩ : ∃ N, N = ds.length := ⟨_, rfl⟩
  rw [← hN] at hd ⊢
  have HN := Lib.hid hN
  clear hN
  obtain ⟨M, hM⟩ : ∃ M, M = sv.length := ⟨_, rfl⟩
  rw [← hM] at C ⊢
  clear hM hl
  go_enter Try.func40, Try.ntmps40
  go_wp2_with fail
  refine (C.out _ (((Below.refl _ _).alloc (Nat.le_refl _) _).alloc (by simp) _)).mono ?_
  rintro e w1 ⟨rfl, b1⟩
  have a0 : Below w.heap.size w ((w.alloc (.cells #[.slice SA M c1, .slice DA N c2, .int .u32 (F : Int)] 36)).alloc (.cells #[.slice SA' M c3, .slice DA' N c4, .int .u32 (F : Int)] 91)) := ((Below.refl _ _).alloc (Nat.le_refl _) _).alloc (by simp) _
  have k0 : Hid (bk w1 w.heap.size = some (.cells #[.slice SA M c1, .slice DA N c2, .int .u32 (F : Int)] 36 (0, 0))) := Lib.hid (bk_keep b1 (by simp; omega) (by rw [bk_alloc_past _ _ _ (by simp)]; exact bk_alloc_at _ _ _ rfl))
  have k1 : Hid (bk w1 (w.heap.size + 1) = some (.cells #[.slice SA' M c3, .slice DA' N c4, .int .u32 (F : Int)] 91 (0, 0))) := Lib.hid (bk_keep b1 (by simp) (bk_alloc_at _ _ _ (by simp)))
  have BW := Lib.hid (a0.trans (b1.mono a0.size))
  clear a0 b1 C
  have c0 : w1.cell? ⟨w.heap.size, 1, none⟩ = some (.slice DA N c2) := bk_cell k0.out 1
  have c1' : w1.cell? ⟨w.heap.size + 1, 1, none⟩ = some (.slice DA' N c4) := bk_cell k1.out 1
  have c2' : w1.cell? ⟨w.heap.size, 2, none⟩ = some (.int .u32 (F : Int)) := bk_cell k0.out 2
  have c3' : w1.cell? ⟨w.heap.size + 1, 2, none⟩ = some (.int .u32 (F : Int)) := bk_cell k1.out 2
  go_wp2_with fail
  go_loopw [5] (fun i w' => ∃ k : Nat, k ≤ N ∧ i = .int .i64 k ∧ Below w1.heap.size w1 w') (fun i _ => N - (intOf i).toNat)
  case atStart => exact ⟨0, by omega, rfl, Below.refl _ _⟩
  case round =>
    obtain ⟨k, hk, rfl, hbel⟩ := hrel
    clear c0 c1' c2' c3'
    have e0 := bk_keep hbel (bk_lt k0.out) k0.out
    have e1 := bk_keep hbel (bk_lt k1.out) k1.out
    have l0 := bk_lt e0
    have l1 := bk_lt e1
    have c0 : wr.cell? ⟨w.heap.size, 1, none⟩ = some (.slice DA N c2) := bk_cell e0 1
    have c1' : wr.cell? ⟨w.heap.size + 1, 1, none⟩ = some (.slice DA' N c4) := bk_cell e1 1
    clear e0 e1
    by_cases hlt : k < N
    · have d1 : decide ((k : Int) < (N : Int)) = true := by simp; omega
      have d2 : decide (k < N) = true := by simp; omega
      obtain ⟨z, hz⟩ : ∃ z, ds[k]? = some z := ⟨ds[k]'(by rw [← HN.out]; exact hlt), List.getElem?_eq_getElem _⟩
      have hb0 := BW.out.trans (hbel.mono BW.out.size)
      obtain ⟨g1, rfl, hg1, hx1⟩ := (H3.out.below hb0) k z hz
      obtain ⟨g2, rfl, hg2, hx2⟩ := (H4.out.below hb0) k z hz
      clear hz hb0
      unfold St at hx1 hx2
      generalize (⟨z.toArray⟩ : ByteArray) = u at hx1 hx2
      go_wp2_with fail
      refine wp_region_later (wr.heap.size) (by kernel_rfl) (by kernel_rfl) ?_
      repeat (go_big_quiet_step (fail))
      (first | refine wpQuiet_nil ?_ | (go_big_quiet_want; (try go_big_quiet_op); trace_state; fail))
      intro w2 hw'
      have q3 := later_elim hw'
      clear hw'
      go_wp2_with fail
      go_roundw
      case rel => exact ⟨k + 1, by omega, by go_num, hbel.trans (q3.mono hbel.size)⟩
      case measure => simp [intOf]; omega
    · have d1 : decide ((k : Int) < (N : Int)) = false := by simp; omega
      have d2 : decide (k < N) = false := by simp; omega
      obtain rfl : k = N := by omega
      clear hlt
      go_wp2_with fail
      go_ret
      exact ⟨rfl, BW.out.trans (hbel.mono BW.out.size)⟩
end Go.Proofs.Ytfldoihindbdmaa
/- InfosPlay: acts; are they too great? -/
namespace Go.Proofs.Ytfldoihindbdmaa
open Go.RowKit
set_option maxRecDepth 100000
set_option maxHeartbeats 2000000
@[go_sem ↓] theorem ldAi (dst : Option Tmp) (x : Operand) (t : TypeId) (pos : String) (af : Array Edge) (g : Option (Nat × Bool)) (a : Act) (w : World) (K : Act → World → Prop) (Q : Exit → Act → World → Prop) :
    Oper.wp Try.prog ⟨dst, .load 25 x, t, pos, af, g⟩ a w K Q = ldPtr (wpHid Try.prog ⟨dst, .load 25 x, t, pos, af, g⟩ a w K Q) 4 w (fun c => K (a.put dst (.agg c)) w) (a.eval x) :=
  wp_load_bk 25 4 _ Try.underlying25 rfl (by kernel_rfl) dst x t pos af g a w K Q
@[go_sem ↓] theorem stAi (dst : Option Tmp) (x y : Operand) (t : TypeId) (pos : String) (af : Array Edge) (g : Option (Nat × Bool)) (a : Act) (w : World) (K : Act → World → Prop) (Q : Exit → Act → World → Prop) :
    Oper.wp Try.prog ⟨dst, .store 25 x y, t, pos, af, g⟩ a w K Q = stPtr (wpHid Try.prog ⟨dst, .store 25 x y, t, pos, af, g⟩ a w K Q) 4 w (fun w' => K (a.put dst undef) w') (a.eval x) (a.eval y) :=
  wp_store_bk 25 4 (by kernel_rfl) dst x y t pos af g a w K Q
@[go_sem ↓] theorem qlAi (dst : Option Tmp) (x : Operand) (t : TypeId) (pos : String) (af : Array Edge) (g : Option (Nat × Bool)) (a : Act) (m : Nat) (W : World) (K : Act → Prop) :
    Oper.quiet Try.prog ⟨dst, .load 25 x, t, pos, af, g⟩ a (fun w' => ∃ x : Later m W, w' = x.w) K =
      ldLater (quietHid Try.prog ⟨dst, .load 25 x, t, pos, af, g⟩ a (fun w' => ∃ x : Later m W, w' = x.w) K) m 4 W (fun c => K (a.put dst (.agg c))) (a.eval x) :=
  quiet_load_bk 25 4 _ Try.underlying25 rfl (by kernel_rfl) dst x t pos af g a m W K
structure Ai where
  kind : UInt8
  A : Option Addr
  l : List UInt8
  c : Nat
  ours : Bool
  n : Nat
def Ai.row (x : Ai) : Array Value := #[B x.kind, .slice x.A x.l.length x.c, .bool x.ours, .int .u32 (x.n : Int)]
/-- An act in a box of its own: its fields. -/
theorem ai_box {w : World} {b : Nat} {x : Ai} (h : bk w b = some (.cells x.row 25 (0, 0))) : w.cell? ⟨b, 0, none⟩ = some (B x.kind) ∧ w.cell? ⟨b, 1, none⟩ = some (.slice x.A x.l.length x.c) ∧ w.cell? ⟨b, 2, none⟩ = some (.bool x.ours) ∧ w.cell? ⟨b, 3, none⟩ = some (.int .u32 (x.n : Int)) :=
  ⟨by rw [bk_cell h]; rfl, by rw [bk_cell h]; rfl, by rw [bk_cell h]; rfl, by rw [bk_cell h]; rfl⟩
@[go_sem] theorem Ai.row_size (x : Ai) : x.row.size = 4 := rfl
@[go_sem] theorem Ai.row_ones (x : Ai) : ones x.row.toList = true := rfl
structure AiOk (w : World) (n : Nat) (x : Ai) : Prop where
  rd : Rd w n x.A x.l
  nil : x.A = none → x.l = [] ∧ x.c = 0
  le : x.l.length ≤ x.c
  lt : x.l.length < 2 ^ 63
  n32 : x.n < 4294967296
/-- A slice of acts. -/
def Ais (w : World) (n : Nat) (A : Option Addr) (l : List Ai) : Prop :=
  (l ≠ [] → ∃ g o c t fr, A = some ⟨g, o, none⟩ ∧ g < n ∧ bk w g = some (.cells c t fr) ∧ ∀ j (h : j < l.length), o + j * 4 + 4 ≤ c.size ∧ xt c (o + j * 4) 4 = l[j].row) ∧ ∀ x ∈ l, AiOk w n x
theorem Ais.below {w w' : World} {n m : Nat} {A : Option Addr} {l : List Ai} (h : Ais w n A l) (hb : Below m w w') (hm : n ≤ m) : Ais w' n A l := ⟨fun h0 => by
  obtain ⟨g, o, c, t, fr, h1, h2, h3, h4⟩ := h.1 h0
  exact ⟨g, o, c, t, fr, h1, h2, bk_keep hb (by omega) h3, h4⟩, fun x hx => by
  obtain ⟨h1, h2, h3, h4, h5⟩ := h.2 x hx
  exact ⟨h1.below hb hm, h2, h3, h4, h5⟩⟩
theorem Ais.at {w : World} {n : Nat} {A : Option Addr} {l : List Ai} (h : Ais w n A l) {j : Nat} (hj : j < l.length) : ∃ g o c t fr, A = some ⟨g, o, none⟩ ∧ g < n ∧ bk w g = some (.cells c t fr) ∧ o + j * 4 + 4 ≤ c.size ∧ xt c (o + j * 4) 4 = l[j].row ∧
    ∀ i, i < 4 → w.cell? ⟨g, o + j * 4 + i, none⟩ = l[j].row[i]? := by
  obtain ⟨g, o, c, t, fr, h1, h2, h3, h4⟩ := h.1 (by intro e; rw [e] at hj; simp at hj)
  obtain ⟨h5, h6⟩ := h4 j hj
  refine ⟨g, o, c, t, fr, h1, h2, h3, h5, h6, fun i hi => ?_⟩
  rw [bk_cell h3, ← h6]
  simp [xt, Array.getElem?_extract]
  omega
theorem great_any (A : Option Addr) (l : List Ai) (c : Nat) (PA : Option Addr) (m pc : Nat) (w : World) (h : Ais w w.heap.size A l) (hl : l.length < 2 ^ 63) (hm : m < 2 ^ 63) :
    Calls Try.prog 19 #[.slice A l.length c, .slice PA m pc] w fun e w' => ∃ b, e = .returned (.bool b) ∧ (b = false → l.length ≤ 80 ∧ m ≤ 256 ∧ ∀ x ∈ l, x.l.length ≤ 1500) ∧ w = w' := by
  have HA := Lib.hid h
  by_cases h100 : 80 < l.length ∨ 256 < m
  · have d1 : decide ((l.length : Int) > 80) = true ∨ decide ((l.length : Int) > 80) = false ∧ decide ((m : Int) > 256) = true := by
      rcases Nat.lt_or_ge 80 l.length with q | q
      · exact .inl (by simp; omega)
      · exact .inr ⟨by simp; omega, by simp; omega⟩
    clear h h100
    rcases d1 with d1 | ⟨d1, d2⟩
    all_goals
      go_enter Try.func19, Try.ntmps19
      go_wp2
      go_ret
      exact ⟨true, rfl, (fun h => by cases h), rfl⟩
  · have d1 : decide ((l.length : Int) > 80) = false := by simp; omega
    have d2 : decide ((m : Int) > 256) = false := by simp; omega
    have hl100 : l.length ≤ 80 ∧ m ≤ 256 := by omega
    clear h h100
    go_enter Try.func19, Try.ntmps19
    go_wp2_with fail
    go_loopw [5] (fun iv wr => ∃ (k : Nat), k ≤ l.length ∧ iv = .int .i64 (k : Int) ∧ wr = w ∧ Hid (∀ x ∈ l.take k, x.l.length ≤ 1500)) (fun iv _ => l.length - (intOf iv).toNat)
    case atStart => exact ⟨0, by omega, rfl, rfl, Lib.hid fun x hx => by simp at hx⟩
    case round =>
      obtain ⟨k, hk, rfl, rfl, HS⟩ := hrel
      by_cases hlt : k < l.length
      · have d3 : decide ((k : Int) < (l.length : Int)) = true := by simp; omega
        obtain ⟨g, o, cc, t, fr, rfl, _, _, _, _, hc⟩ := HA.out.at hlt
        have c2 := hc 1 (by omega)
        simp [Ai.row] at c2
        have hL := (HA.out.2 _ (List.getElem_mem hlt)).lt
        have HT : Hid (l.take (k + 1) = l.take k ++ [l[k]]) := Lib.hid (List.take_succ_eq_append_getElem hlt)
        obtain ⟨x, hx⟩ : ∃ x, x = l[k] := ⟨_, rfl⟩
        rw [← hx] at c2 hL HT
        clear hx hc
        by_cases hq : x.l.length ≤ 1500
        · have d4 : decide ((x.l.length : Int) > 1500) = false := by simp; omega
          have HN : Hid (∀ x ∈ l.take (k + 1), x.l.length ≤ 1500) := Lib.hid fun y hy => by
            rw [HT.out] at hy
            rcases List.mem_append.1 hy with q | q
            · exact HS.out y q
            · obtain rfl := List.mem_singleton.1 q
              exact hq
          clear HT HS
          go_wp2_with fail
          go_roundw
          case rel => exact ⟨k + 1, by omega, by go_num, trivial, HN⟩
          case measure => simp [intOf]; omega
        · have d4 : decide ((x.l.length : Int) > 1500) = true := by simp; omega
          clear HT HS
          go_wp2_with fail
          go_ret
          exact ⟨true, rfl, (fun h => by cases h), rfl⟩
      · obtain rfl : k = l.length := by omega
        have d3 : decide ((l.length : Int) < (l.length : Int)) = false := by simp
        have HE : Hid (∀ x ∈ l, x.l.length ≤ 1500) := Lib.hid (by have := HS.out; rwa [List.take_length] at this)
        clear HS
        go_wp2_with fail
        go_ret
        exact ⟨false, rfl, fun _ => ⟨hl100.1, hl100.2, HE.out⟩, rfl⟩
end Go.Proofs.Ytfldoihindbdmaa
/- InfosPlay: both sides. -/
namespace Go.Proofs.Ytfldoihindbdmaa
open Go.RowKit
set_option maxRecDepth 100000
set_option maxHeartbeats 1000000
theorem wplen_any (p : Option Addr) (l : List Nat) (w : World) (h : WdB w p l) :
    Calls Try.prog 48 #[.pointer p] w fun e w' => e = .returned (.int .i64 ((l.length : Nat) : Int)) ∧ w = w' := by
  rcases h with ⟨rfl, rfl⟩ | ⟨g, R, f, rfl, h⟩
  · go_enter Try.func48, Try.ntmps48
    go_wp2
    go_ret
    exact ⟨rfl, rfl⟩
  · have c1 := (bk_cell h.box 257).trans (wdC_many h.ring)
    have lg := bk_lt h.box
    obtain ⟨N, hN⟩ : ∃ N, N = l.length := ⟨_, rfl⟩
    rw [← hN] at c1 ⊢
    clear h hN
    go_enter Try.func48, Try.ntmps48
    go_wp2
    go_ret
    exact ⟨rfl, rfl⟩
/-- Both sides hold the same: the client c, and the words l. -/
structure Wv (w : World) (n x y : Nat) (p : Option Addr) (m q : Nat) (c : Cl) (l : List Nat) : Prop where
  cx : ClB w x c
  cy : RClB w y c
  wp : WdB w p l
  wq : RWd w m q l
  inv : c.Inv
  u32 : ∀ z ∈ l, z < 4294967296
  xn : n ≤ x
  yn : n ≤ y
  qn : n ≤ q
  pn : ∀ k, WF p k → n ≤ k ∧ k < m ∧ k ≠ x ∧ k ≠ y ∧ k ≠ q
  xm : x < m
  ym : y < m
  xy : x ≠ y
  xq : x ≠ q
  yq : y ≠ q
theorem Wv.nm {w : World} {n x y m q : Nat} {p : Option Addr} {c : Cl} {l : List Nat} (h : Wv w n x y p m q c l) : n ≤ w.heap.size ∧ m ≤ w.heap.size := by
  have h1 := h.wq.hm; have h2 := h.xn; have h3 := h.xm
  omega
theorem Wv.below {w w' : World} {n x y m q : Nat} {p : Option Addr} {c : Cl} {l : List Nat} (h : Wv w n x y p m q c l) (hb : Below w.heap.size w w') : Wv w' n x y p m q c l :=
  ⟨h.cx.below hb, h.cy.below hb, h.wp.keep (Tn.of (F := fun _ => False) hb) fun _ _ e => e, h.wq.keep (Tn.of (F := fun _ => False) hb) fun _ e => e.elim, h.inv, h.u32, h.xn, h.yn, h.qn, h.pn, h.xm, h.ym, h.xy, h.xq, h.yq⟩
/-- What only turns blocks from n on. -/
theorem Tn.bel {F : Nat → Prop} {w w' : World} {n : Nat} (h : Tn F w w') (hn : n ≤ w.heap.size) (hF : ∀ k, F k → n ≤ k) : Below n w w' :=
  ⟨h.os, h.tape, h.output, h.size, fun k hk => h.old k (by omega) fun e => by have := hF k e; omega⟩
end Go.Proofs.Ytfldoihindbdmaa
/- InfosPlay: world.does where a client starts. -/
namespace Go.Proofs.Ytfldoihindbdmaa
open Go.RowKit
set_option maxRecDepth 100000
set_option maxHeartbeats 1000000
theorem Tn.wide {F G : Nat → Prop} {w w' : World} (h : Tn F w w') (hg : ∀ k, F k → G k) : Tn G w w' := ⟨h.os, h.tape, h.output, h.size, fun k hk hn => h.old k hk fun e => hn (hg k e)⟩
/-- The program's side, the document's side. -/
structure Px (w : World) (x : Nat) (p : Option Addr) (c : Cl) (l : List Nat) : Prop where
  cl : ClB w x c
  wd : WdB w p l
structure Dy (w : World) (y m q : Nat) (c : Cl) (l : List Nat) : Prop where
  cl : RClB w y c
  wd : RWd w m q l
/-- How they lie. -/
structure St26 (n x y : Nat) (p : Option Addr) (m q : Nat) : Prop where
  xn : n ≤ x
  yn : n ≤ y
  qn : n ≤ q
  pn : ∀ k, WF p k → n ≤ k ∧ k < m ∧ k ≠ x ∧ k ≠ y ∧ k ≠ q
  xm : x < m
  ym : y < m
  xy : x ≠ y
  xq : x ≠ q
  yq : y ≠ q
theorem Wv.px {w : World} {n x y m q : Nat} {p : Option Addr} {c : Cl} {l : List Nat} (h : Wv w n x y p m q c l) : Px w x p c l := ⟨h.cx, h.wp⟩
theorem Wv.dy {w : World} {n x y m q : Nat} {p : Option Addr} {c : Cl} {l : List Nat} (h : Wv w n x y p m q c l) : Dy w y m q c l := ⟨h.cy, h.wq⟩
theorem Wv.st {w : World} {n x y m q : Nat} {p : Option Addr} {c : Cl} {l : List Nat} (h : Wv w n x y p m q c l) : St26 n x y p m q := ⟨h.xn, h.yn, h.qn, h.pn, h.xm, h.ym, h.xy, h.xq, h.yq⟩
theorem St26.wv {w : World} {n x y m q : Nat} {p : Option Addr} {c : Cl} {l : List Nat} (h : St26 n x y p m q) (h1 : Px w x p c l) (h2 : Dy w y m q c l) (h3 : c.Inv) (h4 : ∀ z ∈ l, z < 4294967296) : Wv w n x y p m q c l :=
  ⟨h1.cl, h2.cl, h1.wd, h2.wd, h3, h4, h.xn, h.yn, h.qn, h.pn, h.xm, h.ym, h.xy, h.xq, h.yq⟩
theorem Px.turn {w w' : World} {n x y m q : Nat} {p : Option Addr} {c : Cl} {l : List Nat} (h : Px w x p c l) (s : St26 n x y p m q) (t : Tn (YF y q) w w') : Px w' x p c l :=
  ⟨h.cl.keep t fun e => e.elim s.xy s.xq, h.wd.keep t fun k hk e => by have := s.pn k hk; rcases e with e | e <;> omega⟩
theorem Dy.turn {w w' : World} {n x y m q : Nat} {p : Option Addr} {c : Cl} {l : List Nat} (h : Dy w y m q c l) (s : St26 n x y p m q) (t : Tn (XF x p) w w') : Dy w' y m q c l :=
  ⟨h.cl.keep t fun e => by
    rcases e with e | e
    · exact s.xy e.symm
    · exact (s.pn y e).2.2.2.1 rfl, h.wd.keep t fun k hk => by
    rcases hk with rfl | hk
    · exact ⟨s.xm, s.xq⟩
    · exact ⟨(s.pn k hk).2.1, (s.pn k hk).2.2.2.2⟩⟩
theorem fin_calls {w : World} {n x y m q : Nat} {p : Option Addr} {c : Cl} {l : List Nat} (h : Wv w n x y p m q c l) (W : World) (hb : Below w.heap.size w W) :
    (Calls Try.prog 12 #[.pointer (some ⟨x, 0, none⟩)] W fun e w' => e = .returned (.int .u64 ((c.due : Nat) : Int)) ∧ Below W.heap.size W w') ∧
    (Calls Try.prog 47 #[.pointer (some ⟨y, 0, none⟩)] W fun e w' => e = .returned (.int .u64 ((c.due : Nat) : Int)) ∧ Below W.heap.size W w') ∧
    (Calls Try.prog 13 #[.pointer (some ⟨x, 0, none⟩)] W fun e w' => e = .returned (.bool c.asks) ∧ Below W.heap.size W w') ∧
    (Calls Try.prog 48 #[.pointer p] W fun e w' => e = .returned (.int .i64 ((l.length : Nat) : Int)) ∧ Below W.heap.size W w') ∧
    (Calls Try.prog 49 #[.pointer (some ⟨q, 0, none⟩)] W fun e w' => e = .returned (.int .i64 ((l.length : Nat) : Int)) ∧ Below W.heap.size W w') := by
  have H := h.below hb
  refine ⟨(next_any x c W H.cx).mono ?_, (rdue_any y c W H.cy).mono ?_, (busy_any x c W H.cx).mono ?_, (wplen_any p l W H.wp).mono ?_, (rwlen_any m q l W H.wq).mono ?_⟩
  all_goals
    rintro e w' ⟨rfl, rfl⟩
    exact ⟨rfl, Below.refl _ _⟩
theorem start_both (n x y m q now : Nat) (p : Option Addr) (c : Cl) (l : List Nat) (s : St26 n x y p m q) (hn : now ≤ far) (hi : c.Inv) (hl : ∀ z ∈ l, z < 4294967296) : ∃ (r : Bool) (c1 : Cl) (l1 : List Nat), c1.Inv ∧ (∀ z ∈ l1, z < 4294967296) ∧
    (∀ W, Px W x p c l → Calls Try.prog 10 #[.pointer (some ⟨x, 0, none⟩), .int .u64 (now : Int), .pointer p] W fun e w' => e = .returned (.bool r) ∧ Px w' x p c1 l1 ∧ Tn (XF x p) W w') ∧
    (∀ W, Dy W y m q c l → Calls Try.prog 37 #[.pointer (some ⟨y, 0, none⟩), .int .u64 (now : Int), .pointer (some ⟨q, 0, none⟩)] W fun e w' => e = .returned (.bool r) ∧ Dy w' y m q c1 l1 ∧ Tn (YF y q) W w') := by
  have hpx : ¬ WF p x := fun e => (s.pn x e).2.2.1 rfl
  cases ha : c.asks with
  | true =>
    have hi' := goes_inv c hi now hn
    refine ⟨false, { c with tm := max c.tm now }, l, hi', hl, fun W h => (start_busy x c now p W h.cl hn ha).mono ?_, fun W h => (rstart_busy y q c now W h.cl hn ha).mono ?_⟩
    · rintro e w' ⟨rfl, h1, h2⟩
      exact ⟨rfl, ⟨h1, h.wd.keep h2 fun k hk e => hpx (e ▸ hk)⟩, h2.wide fun k e => .inl e⟩
    · rintro e w' ⟨rfl, h1, h2⟩
      exact ⟨rfl, ⟨h1, h.wd.keep h2 fun k hk => hk ▸ ⟨s.ym, s.yq⟩⟩, h2.wide fun k e => .inl e⟩
  | false =>
    refine ⟨true, c.start now l, l.tail.tail, start_inv c hi now hn l hl, fun z hz => hl z (List.mem_of_mem_tail (List.mem_of_mem_tail hz)), fun W h => (start_any x c now p l W h.cl h.wd hpx hn ha).mono ?_, fun W h => (rstart_any y q m c now l W h.cl h.wd ⟨s.ym, s.yq⟩ hn ha).mono ?_⟩
    · rintro e w' ⟨rfl, h1, h2, h3⟩
      exact ⟨rfl, ⟨h1, h2⟩, h3⟩
    · rintro e w' ⟨rfl, h1, h2, h3⟩
      exact ⟨rfl, ⟨h1, h2⟩, h3⟩
end Go.Proofs.Ytfldoihindbdmaa
