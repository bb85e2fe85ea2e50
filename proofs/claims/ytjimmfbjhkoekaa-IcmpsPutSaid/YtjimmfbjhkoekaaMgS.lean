import Derived.Test.YtjimmfbjhkoekaaMgM
/- Icmps: is it too great? -/
namespace Go.Proofs.Ytjimmfbjhkoekaa
open Go.RowKit
set_option maxRecDepth 100000
set_option maxHeartbeats 2000000
/-- How long options' data are together, and how many they are. -/
def optsSum (l : List Ov) : Nat := l.length + (l.map fun x => x.d.length).sum
def optsUp (l : List Ov) (k : Nat) : Nat := l.length + ((l.take k).map fun x => x.d.length).sum
theorem optsUp_next {l : List Ov} {k : Nat} (h : k < l.length) : optsUp l (k + 1) = optsUp l k + l[k].d.length := by
  unfold optsUp
  rw [List.take_succ_eq_append_getElem h, List.map_append, List.sum_append]
  simp; omega
theorem optsUp_all (l : List Ov) : optsUp l l.length = optsSum l := by unfold optsUp optsSum; rw [List.take_length]
theorem great10_any (A : Option Addr) (l : List Ov) (c : Nat) (w : World) (h : Ovs w w.heap.size A l) (hl : l.length < 2 ^ 60) (hd : ∀ x ∈ l, x.d.length < 2 ^ 60) :
    Calls Try.prog 26 #[.slice A l.length c] w fun e w' => ∃ b, e = .returned (.bool b) ∧ (b = false → optsSum l ≤ 5000) ∧ w = w' := by
  have HA := Lib.hid h; have HD := Lib.hid hd
  obtain ⟨N, hN⟩ : ∃ N, N = l.length := ⟨_, rfl⟩
  have HN := Lib.hid hN
  rw [← hN] at hl ⊢
  clear h hd hN
  go_enter Try.func26, Try.ntmps26
  go_wp2_with fail
  go_loopw [3, 4] (fun n i wr => ∃ (k s : Nat), k ≤ N ∧ i = .int .i64 (k : Int) ∧ n = .int .i64 (s : Int) ∧ s < 2 ^ 62 ∧ wr = w ∧ Hid (s = optsUp l k)) (fun _ i _ => N - (intOf i).toNat)
  case atStart => exact ⟨0, N, by omega, rfl, rfl, by omega, rfl, Lib.hid (by rw [HN.out]; simp [optsUp])⟩
  case round =>
    obtain ⟨k, s, hk, rfl, rfl, hs, rfl, HS⟩ := hrel
    by_cases h9 : s < 9000
    · have d9 : decide ((s : Int) < 9000) = true := by simp; omega
      by_cases hlt : k < N
      · have d1 : decide ((k : Int) < (N : Int)) = true := by simp; omega
        have hkl : k < l.length := by rw [← HN.out]; exact hlt
        obtain ⟨g, o, cc, t, fr, rfl, _, _, _, _, hc⟩ := HA.out.1.at hkl Ov.row_size
        obtain ⟨x, hx⟩ : ∃ x, x = l[k] := ⟨_, rfl⟩
        rw [← hx] at hc
        have c2 := hc 1 (by omega)
        simp [Ov.row] at c2
        have hL : x.d.length < 2 ^ 60 := by rw [hx]; exact HD.out _ (List.getElem_mem hkl)
        have HT : Hid (s + x.d.length = optsUp l (k + 1)) := Lib.hid (by rw [optsUp_next hkl, HS.out, hx])
        have w1 : IntKind.i64.wrap ((s : Int) + (x.d.length : Int)) = ((s + x.d.length : Nat) : Int) := by rw [IntKind.wrap_i64]; omega
        clear hx hc HS
        go_wp2_with fail
        go_roundw
        case rel => exact ⟨k + 1, s + x.d.length, by omega, by go_num, by go_num, by omega, trivial, HT⟩
        case measure => simp [intOf]; omega
      · obtain rfl : k = N := by omega
        have d1 : decide ((k : Int) < (k : Int)) = false := by simp
        have HE : Hid (decide ((s : Int) > 5000) = false → optsSum l ≤ 5000) := Lib.hid fun e => by
          have h1 := HS.out
          rw [HN.out, optsUp_all] at h1
          simp at e
          omega
        clear HS
        go_wp2_with fail
        go_ret
        exact ⟨_, rfl, HE.out, rfl⟩
    · have d9 : decide ((s : Int) < 9000) = false := by simp; omega
      have d5 : decide ((s : Int) > 5000) = true := by simp; omega
      have d5' : decide ((5000 : Int) < (s : Int)) = true := by simp; omega
      by_cases hlt : k < N
      · have d1 : decide ((k : Int) < (N : Int)) = true := by simp; omega
        clear HS
        go_wp2_with fail
        go_ret
        exact ⟨true, rfl, (fun h => by cases h), rfl⟩
      · have d1 : decide ((k : Int) < (N : Int)) = false := by simp; omega
        clear HS
        go_wp2_with fail
        go_ret
        exact ⟨true, rfl, (fun h => by cases h), rfl⟩
end Go.Proofs.Ytjimmfbjhkoekaa
/- Icmps: is a message too great? -/
namespace Go.Proofs.Ytjimmfbjhkoekaa
open Go.RowKit
set_option maxRecDepth 100000
set_option maxHeartbeats 2000000
/-- How much memory a message's lists are. -/
def msgSum (m : Mv) : Nat := m.dd.length + 16 * m.ss.length + (m.rs.map fun x => 20 + 16 * x.s.length).sum
def msgUp (m : Mv) (k : Nat) : Nat := m.dd.length + 16 * m.ss.length + ((m.rs.take k).map fun x => 20 + 16 * x.s.length).sum
theorem msgUp_next {m : Mv} {k : Nat} (h : k < m.rs.length) : msgUp m (k + 1) = msgUp m k + (20 + 16 * m.rs[k].s.length) := by
  unfold msgUp
  rw [List.take_succ_eq_append_getElem h, List.map_append, List.sum_append]
  simp; omega
theorem msgUp_all (m : Mv) : msgUp m m.rs.length = msgSum m := by unfold msgUp msgSum; rw [List.take_length]
/-- What a message in memory is known to be, however great. -/
structure Big (m : Mv) : Prop where
  d : m.dd.length < 2 ^ 50
  s : m.ss.length < 2 ^ 50
  r : m.rs.length < 2 ^ 50
  rs : ∀ r ∈ m.rs, r.s.length < 2 ^ 50
  o : m.os.length < 2 ^ 50
  od : ∀ x ∈ m.os, x.d.length < 2 ^ 50
theorem great11_any (m : Mv) (w : World) (h : MvOk w w.heap.size m) (hb : Big m) :
    Calls Try.prog 8 #[.agg (mC m)] w fun e w' => ∃ b, e = .returned (.bool b) ∧ (b = false → msgSum m ≤ 6000 ∧ optsSum m.os ≤ 5000) ∧ Below w.heap.size w w' := by
  have b0 : Below w.heap.size w (w.alloc (.cells (mC m) 33)) := (by (repeat (first | exact Below.refl _ _ | assumption | refine Below.drew ?_ | refine bdrewN ?_ _ | refine Below.alloc ?_ (by first | omega | (simp <;> omega) | (simp only [World.size_alloc] <;> omega)) _ | refine below_setRow ?_ (by first | omega | (simp <;> omega)) _ | refine Below.setCell ?_ (by first | omega | (simp <;> omega)) _)))
  obtain ⟨g, hg⟩ : ∃ g, g = w.heap.size := ⟨_, rfl⟩
  have k0 : bk (w.alloc (.cells (mC m) 33)) g = some (.cells (mC m) 33 (0, 0)) := bk_alloc_at _ _ _ hg
  have B0 := Lib.hid b0; have HB := Lib.hid hb; have OK := Lib.hid (h.below b0 (Nat.le_refl _))
  have HZ := Lib.hid b0.size
  obtain ⟨N, hN⟩ : ∃ N, N = m.rs.length := ⟨_, rfl⟩
  obtain ⟨D, hD⟩ : ∃ N, N = m.dd.length := ⟨_, rfl⟩
  obtain ⟨S, hS⟩ : ∃ N, N = m.ss.length := ⟨_, rfl⟩
  have hl : N < 2 ^ 50 ∧ D < 2 ^ 50 ∧ S < 2 ^ 50 := ⟨by rw [hN]; exact hb.r, by rw [hD]; exact hb.d, by rw [hS]; exact hb.s⟩
  have HN := Lib.hid (And.intro hN (And.intro hD hS))
  clear h hb b0
  go_enter Try.func8, Try.ntmps8
  go_upto_region 1 with fail
  rw [← hg]
  generalize w.alloc (.cells (mC m) 33) = w1 at *
  have c3 : w1.cell? ⟨g, 3, none⟩ = some (.slice m.DA D m.dc) := by rw [hD]; exact (bk_cell k0 3).trans (mC_3 m)
  have c61 : w1.cell? ⟨g, 61, none⟩ = some (.slice m.SA S m.sc) := by rw [hS]; exact (bk_cell k0 61).trans (mC_61 m)
  have c62 : w1.cell? ⟨g, 62, none⟩ = some (.slice m.RA N m.rc) := by rw [hN]; exact (bk_cell k0 62).trans (mC_62 m)
  have c41 : w1.cell? ⟨g, 41, none⟩ = some (.slice m.OA m.os.length m.oc) := (bk_cell k0 41).trans (mC_41 m)
  have lg := bk_lt k0
  have w2 : IntKind.i64.wrap (16 * (S : Int)) = 16 * (S : Int) := by rw [IntKind.wrap_i64]; omega
  have w3 : IntKind.i64.wrap ((D : Int) + 16 * (S : Int)) = ((D + 16 * S : Nat) : Int) := by rw [IntKind.wrap_i64]; omega
  have CG := Lib.hid (great10_any m.OA m.os m.oc w1 (OK.out.os.mono HZ.out) (by have := HB.out.o; omega) (fun x hx => by have := HB.out.od x hx; omega))
  clear hN hD hS hg
  go_wp2_with fail
  go_loopw [3, 4] (fun n i wr => ∃ (k s : Nat), k ≤ N ∧ i = .int .i64 (k : Int) ∧ n = .int .i64 (s : Int) ∧ s < 2 ^ 62 ∧ wr = w1 ∧ Hid (s = msgUp m k)) (fun _ i _ => N - (intOf i).toNat)
  case atStart => exact ⟨0, D + 16 * S, by omega, rfl, rfl, by omega, rfl, Lib.hid (by rw [HN.out.2.1, HN.out.2.2]; simp [msgUp])⟩
  case round =>
    obtain ⟨k, s, hk, rfl, rfl, hs, rfl, HS⟩ := hrel
    by_cases h9 : s < 9000
    · have d9 : decide ((s : Int) < 9000) = true := by simp; omega
      by_cases hlt : k < N
      · have d1 : decide ((k : Int) < (N : Int)) = true := by simp; omega
        have hkl : k < m.rs.length := by rw [← HN.out.1]; exact hlt
        obtain ⟨g', o, cc, t, fr, hRA, _, _, _, _, hc⟩ := OK.out.rs.at hkl Rv.row_size
        rw [hRA] at c62
        obtain ⟨x, hx⟩ : ∃ x, x = m.rs[k] := ⟨_, rfl⟩
        rw [← hx] at hc
        have c17 := (hc 17 (by omega)).trans (show x.row[17]? = some (.slice x.A x.s.length x.c) by
          have := x.hg
          simp [Rv.row, this])
        have hL : x.s.length < 2 ^ 50 := by rw [hx]; exact HB.out.rs _ (List.getElem_mem hkl)
        obtain ⟨K, hK⟩ : ∃ K, K = x.s.length := ⟨_, rfl⟩
        rw [← hK] at c17 hL
        have HT : Hid (s + 20 + 16 * K = msgUp m (k + 1)) := Lib.hid (by rw [msgUp_next hkl, ← HS.out, hK, hx]; omega)
        have w4 : IntKind.i64.wrap ((s : Int) + 20) = (s : Int) + 20 := by rw [IntKind.wrap_i64]; omega
        have w5 : IntKind.i64.wrap (16 * (K : Int)) = 16 * (K : Int) := by rw [IntKind.wrap_i64]; omega
        have w6 : IntKind.i64.wrap ((s : Int) + 20 + 16 * (K : Int)) = ((s + 20 + 16 * K : Nat) : Int) := by rw [IntKind.wrap_i64]; omega
        clear hx hc HS hK CG
        go_wp2_with fail
        go_roundw
        case rel => exact ⟨k + 1, s + 20 + 16 * K, by omega, by go_num, by go_num, by omega, trivial, HT⟩
        case measure => simp [intOf]; omega
      · obtain rfl : k = N := by omega
        have d1 : decide ((k : Int) < (k : Int)) = false := by simp
        have HE : Hid (s = msgSum m) := Lib.hid (by rw [HS.out, HN.out.1, msgUp_all])
        by_cases h6 : s ≤ 6000
        · have d5 : decide ((s : Int) > 6000) = false := by simp; omega
          clear HS
          go_wp2_with fail
          refine CG.out.mono ?_
          rintro e w9 ⟨b, rfl, hb, rfl⟩
          have FX : Hid (b = false → msgSum m ≤ 6000 ∧ optsSum m.os ≤ 5000) := Lib.hid fun e => ⟨by rw [← HE.out]; exact h6, hb e⟩
          clear hb CG
          go_wp2_with fail
          go_ret
          exact ⟨_, rfl, FX.out, B0.out⟩
        · have d5 : decide ((s : Int) > 6000) = true := by simp; omega
          clear HS CG
          go_wp2_with fail
          go_ret
          exact ⟨true, rfl, (fun h => by cases h), B0.out⟩
    · have d9 : decide ((s : Int) < 9000) = false := by simp; omega
      have d5 : decide ((s : Int) > 6000) = true := by simp; omega
      by_cases hlt : k < N
      · have d1 : decide ((k : Int) < (N : Int)) = true := by simp; omega
        clear HS CG
        go_wp2_with fail
        go_ret
        exact ⟨true, rfl, (fun h => by cases h), B0.out⟩
      · have d1 : decide ((k : Int) < (N : Int)) = false := by simp; omega
        clear HS CG
        go_wp2_with fail
        go_ret
        exact ⟨true, rfl, (fun h => by cases h), B0.out⟩
end Go.Proofs.Ytjimmfbjhkoekaa
/- Icmps: lists of addresses, and of options, that are the same. -/
namespace Go.Proofs.Ytjimmfbjhkoekaa
open Go.RowKit
set_option maxRecDepth 100000
set_option maxHeartbeats 2000000
@[go_sem ↓] theorem ldOpS (dst : Option Tmp) (x : Operand) (t : TypeId) (pos : String) (af : Array Edge) (g : Option (Nat × Bool)) (a : Act) (w : World) (K : Act → World → Prop) (Q : Exit → Act → World → Prop) :
    Oper.wp Try.prog ⟨dst, .load 97 x, t, pos, af, g⟩ a w K Q = ldPtr (wpHid Try.prog ⟨dst, .load 97 x, t, pos, af, g⟩ a w K Q) 2 w (fun c => K (a.put dst (.agg c)) w) (a.eval x) :=
  wp_load_bk 97 2 _ Try.underlying97 rfl (by kernel_rfl) dst x t pos af g a w K Q
@[go_sem ↓] theorem stOpS (dst : Option Tmp) (x y : Operand) (t : TypeId) (pos : String) (af : Array Edge) (g : Option (Nat × Bool)) (a : Act) (w : World) (K : Act → World → Prop) (Q : Exit → Act → World → Prop) :
    Oper.wp Try.prog ⟨dst, .store 97 x y, t, pos, af, g⟩ a w K Q = stPtr (wpHid Try.prog ⟨dst, .store 97 x y, t, pos, af, g⟩ a w K Q) 2 w (fun w' => K (a.put dst undef) w') (a.eval x) (a.eval y) :=
  wp_store_bk 97 2 (by kernel_rfl) dst x y t pos af g a w K Q
@[go_sem ↓] theorem qlOpS (dst : Option Tmp) (x : Operand) (t : TypeId) (pos : String) (af : Array Edge) (g : Option (Nat × Bool)) (a : Act) (m : Nat) (W : World) (K : Act → Prop) :
    Oper.quiet Try.prog ⟨dst, .load 97 x, t, pos, af, g⟩ a (fun w' => ∃ x : Later m W, w' = x.w) K =
      ldLater (quietHid Try.prog ⟨dst, .load 97 x, t, pos, af, g⟩ a (fun w' => ∃ x : Later m W, w' = x.w) K) m 2 W (fun c => K (a.put dst (.agg c))) (a.eval x) :=
  quiet_load_bk 97 2 _ Try.underlying97 rfl (by kernel_rfl) dst x t pos af g a m W K
theorem eqAddrK (a : List UInt8) (ha : a.length = 16) (w : World) : (Op.equalIn 10000 23 (.agg (List.map B a).toArray) (.agg (List.map B a).toArray)).run Try.prog w = .ok true w := by
  have := run_equalIn_bytes (P := Try.prog) w 9998 23 5 16 Try.underlying23 Try.underlying5 (fun _ => by kernel_rfl) a a ha ha
  rwa [beq_self_eq_true] at this
theorem sameA_any (A1 A2 : Option Addr) (ss : List (List UInt8)) (c1 c2 : Nat) (w : World) (h1 : Rws 16 (fun z : List UInt8 => (z.map B).toArray) w w.heap.size A1 ss) (h2 : Rws 16 (fun z : List UInt8 => (z.map B).toArray) w w.heap.size A2 ss) (h16 : ∀ z ∈ ss, z.length = 16) (hl : ss.length ≤ 9223372036854775807) :
    Calls Try.prog 53 #[.slice A1 ss.length c1, .slice A2 ss.length c2] w fun e w' => e = .returned (.bool true) ∧ Below w.heap.size w w' := by
  have H1 := Lib.hid h1; have H2 := Lib.hid h2; have H16 := Lib.hid h16
  clear h1 h2 h16
  obtain ⟨N, hN⟩ : ∃ N, N = ss.length := ⟨_, rfl⟩
  rw [← hN] at hl ⊢
  have HN := Lib.hid hN
  clear hN
  go_enter Try.func53, Try.ntmps53
  go_wp2
  go_loopw [5] (fun i w' => ∃ k : Nat, k ≤ N ∧ i = .int .i64 k ∧ Below w.heap.size w w') (fun i _ => N - (intOf i).toNat)
  case atStart => exact ⟨0, by omega, rfl, Below.refl _ _⟩
  case round =>
    obtain ⟨k, hk, rfl, hbel⟩ := hrel
    by_cases hlt : k < N
    · have d1 : decide ((k : Int) < (N : Int)) = true := by simp; omega
      have d2 : decide (k < N) = true := by simp; omega
      have hks : k < ss.length := by rw [← HN.out]; exact hlt
      obtain ⟨z, hz⟩ : ∃ z, z = ss[k] := ⟨_, rfl⟩
      have hz16 : z.length = 16 := by rw [hz]; exact H16.out _ (List.getElem_mem hks)
      obtain ⟨g1, o1, cur1, t1, f1, e1, hg1, hb1, hk1⟩ := (H1.out.below hbel (Nat.le_refl _)) (by intro e; rw [e] at hks; simp at hks)
      obtain ⟨g2, o2, cur2, t2, f2, e2, hg2, hb2, hk2⟩ := (H2.out.below hbel (Nat.le_refl _)) (by intro e; rw [e] at hks; simp at hks)
      subst e1
      subst e2
      obtain ⟨hs1, hx1⟩ := hk1 k hks
      obtain ⟨hs2, hx2⟩ := hk2 k hks
      simp only [← hz] at hx1 hx2
      have l1 := bk_lt hb1
      have l2 := bk_lt hb2
      have q1 := fun w => eqAddrK z hz16 w
      clear hz hz16 hk1 hk2
      go_wp2
      refine wp_region_later (wr.heap.size) (by kernel_rfl) (by kernel_rfl) ?_
      repeat (go_big_quiet_step (fail))
      (first | refine wpQuiet_nil ?_ | (go_big_quiet_want; (try go_big_quiet_op); trace_state; fail))
      intro w1 hw'
      have q3 := later_elim hw'
      clear hw'
      go_wp2
      go_roundw
      case rel => exact ⟨k + 1, by omega, by go_num, hbel.trans (q3.mono hbel.size)⟩
      case measure => simp [intOf]; omega
    · have d1 : decide ((k : Int) < (N : Int)) = false := by simp; omega
      have d2 : decide (k < N) = false := by simp; omega
      obtain rfl : k = N := by omega
      clear hlt
      go_wp2
      go_ret
      exact ⟨rfl, hbel⟩
theorem sameOption_any (x y : Ov) (w : World) (hx : OvOk w w.heap.size x) (hy : OvOk w w.heap.size y) (e : x.pl = y.pl) (hl : x.d.length < 2 ^ 60) :
    Calls Try.prog 72 #[.agg x.row, .agg y.row] w fun e w' => e = .returned (.bool true) ∧ Below w.heap.size w w' := by
  obtain ⟨k, A, d, c⟩ := x
  obtain ⟨k', A', d', c'⟩ := y
  obtain ⟨rfl, rfl⟩ : k = k' ∧ d = d' := by cases e; exact ⟨rfl, rfl⟩
  have b0 : Below w.heap.size w ((w.alloc (.cells #[.int .u8 (k.toNat : Int), .slice A d.length c] 97)).alloc (.cells #[.int .u8 (k.toNat : Int), .slice A' d.length c'] 97)) := (by (repeat (first | exact Below.refl _ _ | assumption | refine Below.drew ?_ | refine bdrewN ?_ _ | refine Below.alloc ?_ (by first | omega | (simp <;> omega) | (simp only [World.size_alloc] <;> omega)) _ | refine below_setRow ?_ (by first | omega | (simp <;> omega)) _ | refine Below.setCell ?_ (by first | omega | (simp <;> omega)) _)))
  have B0 := Lib.hid b0
  have C := Lib.hid (same_any A A' d d c c' _ ((hx.rd.below b0 (Nat.le_refl _)).mono b0.size) ((hy.rd.below b0 (Nat.le_refl _)).mono b0.size) hl hl)
  clear hx hy b0 e
  show Calls Try.prog 72 #[.agg #[.int .u8 (k.toNat : Int), .slice A d.length c], .agg #[.int .u8 (k.toNat : Int), .slice A' d.length c']] w _
  go_enter Try.func72, Try.ntmps72
  go_wp2_with fail
  refine C.out.mono ?_
  rintro e w1 ⟨rfl, b1⟩
  have F := Lib.hid (B0.out.trans (b1.mono B0.out.size))
  clear b1 C
  go_wp2_with fail
  go_ret
  exact ⟨by simp, F.out⟩
end Go.Proofs.Ytjimmfbjhkoekaa
/- Icmps: lists of options, and of reports, that are the same. -/
namespace Go.Proofs.Ytjimmfbjhkoekaa
open Go.RowKit
set_option maxRecDepth 100000
set_option maxHeartbeats 2000000
theorem sameOptions_any (A1 A2 : Option Addr) (l1 l2 : List Ov) (c1 c2 : Nat) (w : World) (h1 : Ovs w w.heap.size A1 l1) (h2 : Ovs w w.heap.size A2 l2) (he : l1.map Ov.pl = l2.map Ov.pl) (hl : l1.length ≤ 9223372036854775807) (hd : ∀ x ∈ l1, x.d.length < 2 ^ 60) :
    Calls Try.prog 52 #[.slice A1 l1.length c1, .slice A2 l2.length c2] w fun e w' => e = .returned (.bool true) ∧ Below w.heap.size w w' := by
  have H1 := Lib.hid h1; have H2 := Lib.hid h2; have HE := Lib.hid he; have HD := Lib.hid hd
  have hle : l2.length = l1.length := by have := congrArg List.length he; simpa using this.symm
  rw [hle]
  clear h1 h2 he hd
  obtain ⟨N, hN⟩ : ∃ N, N = l1.length := ⟨_, rfl⟩
  rw [← hN] at hl hle ⊢
  have HN := Lib.hid (And.intro hN hle)
  clear hN hle
  go_enter Try.func52, Try.ntmps52
  go_wp2
  go_loopw [5] (fun i w' => ∃ k : Nat, k ≤ N ∧ i = .int .i64 k ∧ Below w.heap.size w w') (fun i _ => N - (intOf i).toNat)
  case atStart => exact ⟨0, by omega, rfl, Below.refl _ _⟩
  case round =>
    obtain ⟨k, hk, rfl, hbel⟩ := hrel
    by_cases hlt : k < N
    · have d1 : decide ((k : Int) < (N : Int)) = true := by simp; omega
      have d2 : decide (k < N) = true := by simp; omega
      have hk1 : k < l1.length := by rw [← HN.out.1]; exact hlt
      have hk2 : k < l2.length := by rw [HN.out.2]; exact hlt
      obtain ⟨x, hx⟩ : ∃ x, x = l1[k] := ⟨_, rfl⟩
      obtain ⟨y, hy⟩ : ∃ y, y = l2[k] := ⟨_, rfl⟩
      have hxy : x.pl = y.pl := by
        have h3 : (l1.map Ov.pl)[k]? = (l2.map Ov.pl)[k]? := by rw [HE.out]
        rw [List.getElem?_map, List.getElem?_map, List.getElem?_eq_getElem hk1, List.getElem?_eq_getElem hk2] at h3
        rw [hx, hy]
        exact Option.some.inj h3
      obtain ⟨g1, o1, cur1, t1, f1, e1, hg1, hb1, hr1⟩ := ((H1.out.below hbel (Nat.le_refl _)).1) (by intro e; rw [e] at hk1; simp at hk1)
      obtain ⟨g2, o2, cur2, t2, f2, e2, hg2, hb2, hr2⟩ := ((H2.out.below hbel (Nat.le_refl _)).1) (by intro e; rw [e] at hk2; simp at hk2)
      subst e1
      subst e2
      obtain ⟨hs1, hx1⟩ := hr1 k hk1
      obtain ⟨hs2, hx2⟩ := hr2 k hk2
      rw [← hx] at hx1
      rw [← hy] at hx2
      have l1' := bk_lt hb1
      have l2' := bk_lt hb2
      have CE : Hid (∀ W, Below wr.heap.size wr W → Calls Try.prog 72 #[.agg x.row, .agg y.row] W fun e w' => e = .returned (.bool true) ∧ Below W.heap.size W w') := Lib.hid fun W hW => by
        have hsz := Nat.le_trans hbel.size hW.size
        have hbb := hbel.trans (hW.mono hbel.size)
        refine sameOption_any x y W ?_ ?_ hxy (by rw [hx]; exact HD.out _ (List.getElem_mem hk1))
        · rw [hx]; exact ((H1.out.2 _ (List.getElem_mem hk1)).below hbb (Nat.le_refl _)).mono hsz
        · rw [hy]; exact ((H2.out.2 _ (List.getElem_mem hk2)).below hbb (Nat.le_refl _)).mono hsz
      clear hx hy hxy hr1 hr2 hk1 hk2
      go_wp2
      refine wp_region_later (wr.heap.size) (by kernel_rfl) (by kernel_rfl) ?_
      repeat (go_big_quiet_step (((rename_i xq; with_reducible exact later_call xq (Nat.le_refl _) (CE.out xq.w xq.h)))))
      (first | refine wpQuiet_nil ?_ | (go_big_quiet_want; (try go_big_quiet_op); trace_state; fail))
      intro w1 hw'
      have q3 := later_elim hw'
      clear hw'
      go_wp2
      go_roundw
      case rel => exact ⟨k + 1, by omega, by go_num, hbel.trans (q3.mono hbel.size)⟩
      case measure => simp [intOf]; omega
    · have d1 : decide ((k : Int) < (N : Int)) = false := by simp; omega
      have d2 : decide (k < N) = false := by simp; omega
      obtain rfl : k = N := by omega
      clear hlt
      go_wp2
      go_ret
      exact ⟨rfl, hbel⟩
theorem row_parts {cur : Array Value} {o : Nat} {x : Rv} (h : xt cur o 18 = x.row) (hs : o + 18 ≤ cur.size) : cur[o]? = some (B x.kind) ∧ xt cur (o + 1) 16 = (x.g.map B).toArray ∧ cur[o + 17]? = some (.slice x.A x.s.length x.c) := by
  have hg := x.hg
  have key : ∀ i, i < 18 → cur[o + i]? = x.row[i]? := fun i hi => by
    rw [← h]
    unfold xt
    rw [Array.getElem?_extract, if_pos (by omega)]
  refine ⟨?_, ?_, ?_⟩
  · have := key 0 (by omega)
    rw [Nat.add_zero] at this
    rw [this]; rfl
  · apply Array.ext_getElem?
    intro i
    unfold xt
    rw [Array.getElem?_extract]
    by_cases hi : i < 16
    · rw [if_pos (by omega), Nat.add_assoc, key (1 + i) (by omega)]
      simp only [Rv.row, List.getElem?_toArray]
      rw [Nat.add_comm 1 i, List.getElem?_cons_succ, List.getElem?_append_left (by rw [List.length_map, hg]; exact hi)]
    · rw [if_neg (by omega), List.getElem?_toArray, List.getElem?_eq_none (by rw [List.length_map, hg]; omega)]
  · rw [key 17 (by omega)]
    simp only [Rv.row, List.getElem?_toArray]
    rw [List.getElem?_cons_succ, List.getElem?_append_right (by simp [hg])]
    simp [hg]
theorem sameRecords_any (A1 A2 : Option Addr) (l1 l2 : List Rv) (c1 c2 : Nat) (w : World) (h1 : Rws 18 Rv.row w w.heap.size A1 l1) (h2 : Rws 18 Rv.row w w.heap.size A2 l2)
    (k1 : ∀ r ∈ l1, Rws 16 (fun z : List UInt8 => (z.map B).toArray) w w.heap.size r.A r.s ∧ (∀ z ∈ r.s, z.length = 16) ∧ r.s.length ≤ 9223372036854775807) (k2 : ∀ r ∈ l2, Rws 16 (fun z : List UInt8 => (z.map B).toArray) w w.heap.size r.A r.s)
    (he : l1.map Rv.pl = l2.map Rv.pl) (hl : l1.length ≤ 9223372036854775807) :
    Calls Try.prog 54 #[.slice A1 l1.length c1, .slice A2 l2.length c2] w fun e w' => e = .returned (.bool true) ∧ Below w.heap.size w w' := by
  have H1 := Lib.hid h1; have H2 := Lib.hid h2; have HE := Lib.hid he; have K1 := Lib.hid k1; have K2 := Lib.hid k2
  have hle : l2.length = l1.length := by have := congrArg List.length he; simpa using this.symm
  rw [hle]
  clear h1 h2 he k1 k2
  obtain ⟨N, hN⟩ : ∃ N, N = l1.length := ⟨_, rfl⟩
  rw [← hN] at hl hle ⊢
  have HN := Lib.hid (And.intro hN hle)
  clear hN hle
  go_enter Try.func54, Try.ntmps54
  go_wp2
  go_loopw [5] (fun i w' => ∃ k : Nat, k ≤ N ∧ i = .int .i64 k ∧ Below w.heap.size w w') (fun i _ => N - (intOf i).toNat)
  case atStart => exact ⟨0, by omega, rfl, Below.refl _ _⟩
  case round =>
    obtain ⟨k, hk, rfl, hbel⟩ := hrel
    by_cases hlt : k < N
    · have d1 : decide ((k : Int) < (N : Int)) = true := by simp; omega
      have d2 : decide (k < N) = true := by simp; omega
      have hk1 : k < l1.length := by rw [← HN.out.1]; exact hlt
      have hk2 : k < l2.length := by rw [HN.out.2]; exact hlt
      have hxy : l1[k].pl = l2[k].pl := by
        have h3 : (l1.map Rv.pl)[k]? = (l2.map Rv.pl)[k]? := by rw [HE.out]
        rw [List.getElem?_map, List.getElem?_map, List.getElem?_eq_getElem hk1, List.getElem?_eq_getElem hk2] at h3
        exact Option.some.inj h3
      obtain ⟨g1, o1, cur1, t1, f1, e1, hg1, hb1, hr1⟩ := (H1.out.below hbel (Nat.le_refl _)) (by intro e; rw [e] at hk1; simp at hk1)
      obtain ⟨g2, o2, cur2, t2, f2, e2, hg2, hb2, hr2⟩ := (H2.out.below hbel (Nat.le_refl _)) (by intro e; rw [e] at hk2; simp at hk2)
      subst e1
      subst e2
      obtain ⟨hs1, hx1⟩ := hr1 k hk1
      obtain ⟨hs2, hx2⟩ := hr2 k hk2
      obtain ⟨a1, a2, a3⟩ := row_parts hx1 hs1
      obtain ⟨b1, b2, b3⟩ := row_parts hx2 hs2
      have hkx := K1.out _ (List.getElem_mem hk1)
      have hky := K2.out _ (List.getElem_mem hk2)
      have hgx := l1[k].hg
      obtain ⟨⟨kx, gx, Ax, sx, cx, _⟩, hx⟩ : ∃ x, x = l1[k] := ⟨_, rfl⟩
      obtain ⟨⟨ky, gy, Ay, sy, cy, _⟩, hy⟩ : ∃ x, x = l2[k] := ⟨_, rfl⟩
      rw [← hx] at a1 a2 a3 hkx hgx hxy
      rw [← hy] at b1 b2 b3 hky hxy
      obtain ⟨rfl, rfl, rfl⟩ : kx = ky ∧ gx = gy ∧ sx = sy := by cases hxy; exact ⟨rfl, rfl, rfl⟩
      simp only at a1 a2 a3 b1 b2 b3 hkx hky hgx
      have p1 : wr.cell? ⟨g1, o1 + k * 18, none⟩ = some (.int .u8 (kx.toNat : Int)) := (bk_cell hb1 _).trans a1
      have p2 : wr.cell? ⟨g2, o2 + k * 18, none⟩ = some (.int .u8 (kx.toNat : Int)) := (bk_cell hb2 _).trans b1
      have p3 : wr.cell? ⟨g1, o1 + k * 18 + 17, none⟩ = some (.slice Ax sx.length cx) := (bk_cell hb1 _).trans a3
      have p4 : wr.cell? ⟨g2, o2 + k * 18 + 17, none⟩ = some (.slice Ay sx.length cy) := (bk_cell hb2 _).trans b3
      have s1 : o1 + k * 18 + 1 + 16 ≤ cur1.size := by omega
      have s2 : o2 + k * 18 + 1 + 16 ≤ cur2.size := by omega
      have l1' := bk_lt hb1
      have l2' := bk_lt hb2
      have q1 := fun w => eqAddrK gx hgx w
      have CE : Hid (∀ W, Below wr.heap.size wr W → Calls Try.prog 53 #[.slice Ax sx.length cx, .slice Ay sx.length cy] W fun e w' => e = .returned (.bool true) ∧ Below W.heap.size W w') := Lib.hid fun W hW => by
        have hsz := Nat.le_trans hbel.size hW.size
        have hbb := hbel.trans (hW.mono hbel.size)
        exact sameA_any Ax Ay sx cx cy W ((hkx.1.below hbb (Nat.le_refl _)).mono hsz) ((hky.below hbb (Nat.le_refl _)).mono hsz) hkx.2.1 hkx.2.2
      clear hx hy hxy hr1 hr2 hk1 hk2 a1 a3 b1 b3 hkx hky hgx hx1 hx2 hs1 hs2
      go_wp2
      refine wp_region_later (wr.heap.size) (by kernel_rfl) (by kernel_rfl) ?_
      repeat (go_big_quiet_step (((rename_i xq; with_reducible exact later_call xq (Nat.le_refl _) (CE.out xq.w xq.h)))))
      (first | refine wpQuiet_nil ?_ | (go_big_quiet_want; (try go_big_quiet_op); trace_state; fail))
      intro w1 hw'
      have q3 := later_elim hw'
      clear hw'
      go_wp2
      go_roundw
      case rel => exact ⟨k + 1, by omega, by go_num, hbel.trans (q3.mono hbel.size)⟩
      case measure => simp [intOf]; omega
    · have d1 : decide ((k : Int) < (N : Int)) = false := by simp; omega
      have d2 : decide (k < N) = false := by simp; omega
      obtain rfl : k = N := by omega
      clear hlt
      go_wp2
      go_ret
      exact ⟨rfl, hbel⟩
end Go.Proofs.Ytjimmfbjhkoekaa
/- Icmps: two messages that are the same. -/
namespace Go.Proofs.Ytjimmfbjhkoekaa
open Go.RowKit
set_option maxRecDepth 100000
set_option maxHeartbeats 2000000
theorem xt_mid (a b c : List Value) (o n : Nat) (ha : a.length = o) (hb : b.length = n) : xt (a ++ b ++ c).toArray o n = b.toArray := by
  apply Array.ext_getElem?
  intro i
  unfold xt
  rw [Array.getElem?_extract]
  by_cases hi : i < n
  · rw [if_pos (by simp; omega), List.getElem?_toArray, List.append_assoc, List.getElem?_append_right (by omega), ha, Nat.add_sub_cancel_left, List.getElem?_append_left (by omega), List.getElem?_toArray]
  · rw [if_neg (by simp; omega), List.getElem?_toArray, List.getElem?_eq_none (by omega)]
theorem mC_x9 (m : Mv) : xt (mC m) 9 16 = (m.tgt.map B).toArray := by
  have := xt_mid [B m.kind, B m.code, .int .u32 (m.param : Int), .slice m.DA m.dd.length m.dc, B m.hops, B m.flags, .int .u16 (m.life : Int), .int .u32 (m.reach : Int), .int .u32 (m.retr : Int)] (m.tgt.map B) (m.dst.map B ++ [Value.slice m.OA m.os.length m.oc, Value.int .u16 (m.mx : Int)] ++ m.grp.map B ++ [B m.rob, B m.int, Value.slice m.SA m.ss.length m.sc, Value.slice m.RA m.rs.length m.rc]) 9 16 rfl (by rw [List.length_map, m.ht])
  unfold mC
  simpa [List.append_assoc] using this
theorem mC_x25 (m : Mv) : xt (mC m) 25 16 = (m.dst.map B).toArray := by
  have := xt_mid ([B m.kind, B m.code, .int .u32 (m.param : Int), .slice m.DA m.dd.length m.dc, B m.hops, B m.flags, .int .u16 (m.life : Int), .int .u32 (m.reach : Int), .int .u32 (m.retr : Int)] ++ m.tgt.map B) (m.dst.map B) ([Value.slice m.OA m.os.length m.oc, Value.int .u16 (m.mx : Int)] ++ m.grp.map B ++ [B m.rob, B m.int, Value.slice m.SA m.ss.length m.sc, Value.slice m.RA m.rs.length m.rc]) 25 16 (by simp [m.ht]) (by rw [List.length_map, m.hd])
  unfold mC
  simpa [List.append_assoc] using this
theorem mC_x43 (m : Mv) : xt (mC m) 43 16 = (m.grp.map B).toArray := by
  have := xt_mid ([B m.kind, B m.code, .int .u32 (m.param : Int), .slice m.DA m.dd.length m.dc, B m.hops, B m.flags, .int .u16 (m.life : Int), .int .u32 (m.reach : Int), .int .u32 (m.retr : Int)] ++ m.tgt.map B ++ m.dst.map B ++ [Value.slice m.OA m.os.length m.oc, Value.int .u16 (m.mx : Int)]) (m.grp.map B) ([B m.rob, B m.int, Value.slice m.SA m.ss.length m.sc, Value.slice m.RA m.rs.length m.rc]) 43 16 (by simp [m.ht, m.hd]) (by rw [List.length_map, m.hg])
  unfold mC
  simpa [List.append_assoc] using this
theorem sameMessage_any (m m' : Mv) (w : World) (h1 : MvOk w w.heap.size m) (h2 : MvOk w w.heap.size m') (he : m.pl = m'.pl) (hb : Big m) :
    Calls Try.prog 21 #[.agg (mC m), .agg (mC m')] w fun e w' => e = .returned (.bool true) ∧ Below w.heap.size w w' := by
  have b0 : Below w.heap.size w ((w.alloc (.cells (mC m) 33)).alloc (.cells (mC m') 33)) := (by (repeat (first | exact Below.refl _ _ | assumption | refine Below.drew ?_ | refine bdrewN ?_ _ | refine Below.alloc ?_ (by first | omega | (simp <;> omega) | (simp only [World.size_alloc] <;> omega)) _ | refine below_setRow ?_ (by first | omega | (simp <;> omega)) _ | refine Below.setCell ?_ (by first | omega | (simp <;> omega)) _)))
  obtain ⟨g, hg⟩ : ∃ g, g = w.heap.size := ⟨_, rfl⟩
  have ka : bk ((w.alloc (.cells (mC m) 33)).alloc (.cells (mC m') 33)) g = some (.cells (mC m) 33 (0, 0)) := by rw [hg, bk_alloc_past _ _ _ (by simp)]; exact bk_alloc_at _ _ _ rfl
  have kb : bk ((w.alloc (.cells (mC m) 33)).alloc (.cells (mC m') 33)) (g + 1) = some (.cells (mC m') 33 (0, 0)) := by rw [hg]; exact bk_alloc_at _ _ _ (by simp)
  have B0 := Lib.hid b0; have HB := Lib.hid hb; have O1 := Lib.hid h1; have O2 := Lib.hid h2; have HE := Lib.hid he
  have E : m'.kind = m.kind ∧ m'.code = m.code ∧ m'.param = m.param ∧ m'.hops = m.hops ∧ m'.flags = m.flags ∧ m'.life = m.life ∧ m'.reach = m.reach ∧ m'.retr = m.retr ∧ m'.tgt = m.tgt ∧ m'.dst = m.dst ∧ m'.mx = m.mx ∧ m'.grp = m.grp ∧ m'.rob = m.rob ∧ m'.int = m.int ∧ m'.dd = m.dd ∧ m'.ss = m.ss := by
    have := he
    unfold Mv.pl at this
    simp only [Msg.mk.injEq] at this
    obtain ⟨a1, a2, a3, a4, a5, a6, a7, a8, a9, a10, a11, a12, a13, a14, a15, a16, a17, a18⟩ := this
    exact ⟨a1.symm, a2.symm, a3.symm, a5.symm, a6.symm, a7.symm, a8.symm, a9.symm, a10.symm, a11.symm, a13.symm, a14.symm, a15.symm, a16.symm, a4.symm, a17.symm⟩
  obtain ⟨e0, e1, e2, e4, e5, e6, e7, e8, e9, e25, e42, e43, e59, e60, e3, e61⟩ := E
  clear h1 h2 he hb b0
  go_enter Try.func21, Try.ntmps21
  go_upto_region 1 with fail
  rw [← hg]
  clear hg
  generalize (w.alloc (.cells (mC m) 33)).alloc (.cells (mC m') 33) = W at *
  have u0 := (bk_cell ka 0).trans (mC_0 m); have v0 := (bk_cell kb 0).trans (mC_0 m'); rw [e0] at v0
  have u1 := (bk_cell ka 1).trans (mC_1 m); have v1 := (bk_cell kb 1).trans (mC_1 m'); rw [e1] at v1
  have u2 := (bk_cell ka 2).trans (mC_2 m); have v2 := (bk_cell kb 2).trans (mC_2 m'); rw [e2] at v2
  have u4 := (bk_cell ka 4).trans (mC_4 m); have v4 := (bk_cell kb 4).trans (mC_4 m'); rw [e4] at v4
  have u5 := (bk_cell ka 5).trans (mC_5 m); have v5 := (bk_cell kb 5).trans (mC_5 m'); rw [e5] at v5
  have u6 := (bk_cell ka 6).trans (mC_6 m); have v6 := (bk_cell kb 6).trans (mC_6 m'); rw [e6] at v6
  have u7 := (bk_cell ka 7).trans (mC_7 m); have v7 := (bk_cell kb 7).trans (mC_7 m'); rw [e7] at v7
  have u8 := (bk_cell ka 8).trans (mC_8 m); have v8 := (bk_cell kb 8).trans (mC_8 m'); rw [e8] at v8
  have u42 := (bk_cell ka 42).trans (mC_42 m); have v42 := (bk_cell kb 42).trans (mC_42 m'); rw [e42] at v42
  have u59 := (bk_cell ka 59).trans (mC_59 m); have v59 := (bk_cell kb 59).trans (mC_59 m'); rw [e59] at v59
  have u60 := (bk_cell ka 60).trans (mC_60 m); have v60 := (bk_cell kb 60).trans (mC_60 m'); rw [e60] at v60
  have x9 := mC_x9 m; have y9 := mC_x9 m'; rw [e9] at y9
  have x25 := mC_x25 m; have y25 := mC_x25 m'; rw [e25] at y25
  have x43 := mC_x43 m; have y43 := mC_x43 m'; rw [e43] at y43
  have u3 := (bk_cell ka 3).trans (mC_3 m); have v3 := (bk_cell kb 3).trans (mC_3 m'); rw [e3] at v3
  have s1 := mC_size m; have s2 := mC_size m'
  have la := bk_lt ka; have lb := bk_lt kb
  have q9 := fun w => eqAddrK m.tgt m.ht w
  have q25 := fun w => eqAddrK m.dst m.hd w
  have q43 := fun w => eqAddrK m.grp m.hg w
  have n1 : ∀ x : Int, (x != x) = false := fun x => by simp
  have HEE := Lib.hid (And.intro e3 e61)
  clear e0 e1 e2 e4 e5 e6 e7 e8 e9 e25 e42 e43 e59 e60 e3 e61
  have C1 := Lib.hid (same_any m.DA m'.DA m.dd m.dd m.dc m'.dc W ((O1.out.d.below B0.out (Nat.le_refl _)).mono B0.out.size) (HEE.out.1 ▸ ((O2.out.d.below B0.out (Nat.le_refl _)).mono B0.out.size)) (by have := HB.out.d; omega) (by have := HB.out.d; omega))
  go_wp2_with fail
  refine C1.out.mono ?_
  rintro e w1 ⟨rfl, b1⟩
  rw [show (m.dd == m.dd) = true by simp]
  have F1 := Lib.hid (B0.out.trans (b1.mono B0.out.size))
  have ka1 := bk_keep b1 la ka; have kb1 := bk_keep b1 lb kb
  have KA1 := Lib.hid ka1; have KB1 := Lib.hid kb1
  have p41 := (bk_cell ka1 41).trans (mC_41 m); have r41 := (bk_cell kb1 41).trans (mC_41 m')
  have la1 := bk_lt ka1; have lb1 := bk_lt kb1
  have hs1 := F1.out.size
  have C2 := Lib.hid (sameOptions_any m.OA m'.OA m.os m'.os m.oc m'.oc w1 ((O1.out.os.below F1.out (Nat.le_refl _)).mono hs1) ((O2.out.os.below F1.out (Nat.le_refl _)).mono hs1) (congrArg Msg.opts HE.out) (by have := HB.out.o; omega) (fun x hx => by have := HB.out.od x hx; omega))
  clear u0 v0 u1 v1 u2 v2 u4 v4 u5 v5 u6 v6 u7 v7 u8 v8 u42 v42 u59 v59 u60 v60 u3 v3 x9 y9 x25 y25 x43 y43 q9 q25 q43 la lb ka kb b1 C1 B0
  go_wp2_with fail
  refine C2.out.mono ?_
  rintro e w2 ⟨rfl, b2⟩
  have F2 := Lib.hid (F1.out.trans (b2.mono F1.out.size))
  have ka2 := bk_keep b2 la1 ka1; have kb2 := bk_keep b2 lb1 kb1
  have p61 := (bk_cell ka2 61).trans (mC_61 m); have r61 := (bk_cell kb2 61).trans (mC_61 m'); rw [HEE.out.2] at r61
  have la2 := bk_lt ka2; have lb2 := bk_lt kb2
  have hs2 := F2.out.size
  have C3 := Lib.hid (sameA_any m.SA m'.SA m.ss m.sc m'.sc w2 ((O1.out.ss.below F2.out (Nat.le_refl _)).mono hs2) (HEE.out.2 ▸ ((O2.out.ss.below F2.out (Nat.le_refl _)).mono hs2)) O1.out.s16 (by have := HB.out.s; omega))
  clear p41 r41 la1 lb1 ka1 kb1 b2 C2 F1 KA1 KB1 hs1
  go_wp2_with fail
  refine C3.out.mono ?_
  rintro e w3 ⟨rfl, b3⟩
  have F3 := Lib.hid (F2.out.trans (b3.mono F2.out.size))
  have ka3 := bk_keep b3 la2 ka2; have kb3 := bk_keep b3 lb2 kb2
  have p62 := (bk_cell ka3 62).trans (mC_62 m); have r62 := (bk_cell kb3 62).trans (mC_62 m')
  have la3 := bk_lt ka3; have lb3 := bk_lt kb3
  have hs3 := F3.out.size
  have C4 := Lib.hid (sameRecords_any m.RA m'.RA m.rs m'.rs m.rc m'.rc w3 ((O1.out.rs.below F3.out (Nat.le_refl _)).mono hs3) ((O2.out.rs.below F3.out (Nat.le_refl _)).mono hs3)
    (fun r hr => ⟨((O1.out.rss r hr).1.below F3.out (Nat.le_refl _)).mono hs3, (O1.out.rss r hr).2.1, by have := HB.out.rs r hr; omega⟩) (fun r hr => ((O2.out.rss r hr).1.below F3.out (Nat.le_refl _)).mono hs3) (congrArg Msg.recs HE.out) (by have := HB.out.r; omega))
  clear p61 r61 la2 lb2 ka2 kb2 b3 C3 F2 hs2
  go_wp2_with fail
  refine C4.out.mono ?_
  rintro e w4 ⟨rfl, b4⟩
  have F4 := Lib.hid (F3.out.trans (b4.mono F3.out.size))
  clear p62 r62 la3 lb3 ka3 kb3 b4 C4 F3 hs3
  go_wp2_with fail
  go_ret
  exact ⟨rfl, F4.out⟩
end Go.Proofs.Ytjimmfbjhkoekaa
