/- SelectsChoose: whatever candidates there are, the one from which one speaks, and each label, is the document's. -/
import Derived.Test.YtcoonncedlbbkaaDoorX15
namespace Go.Proofs.YtcoonncedlbbkaaDoor
open Go.RowKit Ad
set_option maxRecDepth 100000
set_option maxHeartbeats 2000000
/-- What the walk holds. -/
structure Sc (n : Nat) (dst r : List UInt8) (A A' : Option Addr) (l : List Cd) (x6 x8 : Nat) (w0 w : World) : Prop where
  f : Below n w0 w
  k0 : bk w n = some (.cells (List.map B dst).toArray 23 (0, 0))
  k6 : bk w x6 = some (.cells (List.map B r).toArray 23 (0, 0))
  k8 : bk w x8 = some (.cells (List.map B r).toArray 23 (0, 0))
  g : GK w
  c1 : Cs w w.heap.size A l
  c2 : Cs w w.heap.size A' l
theorem GK.up {w w' : World} (h : GK w) (hb : Below w.heap.size w w') : GK w' := h.below hb (by obtain ⟨c, t, fr, h1, _⟩ := h; exact bk_lt h1)
theorem Cs.up {w w' : World} {A : Option Addr} {l : List Cd} (h : Cs w w.heap.size A l) (hb : Below w.heap.size w w') : Cs w' w'.heap.size A l := (h.below hb (Nat.le_refl _)).mono hb.size
theorem Sc.next {n : Nat} {dst r : List UInt8} {A A' : Option Addr} {l : List Cd} {x6 x8 : Nat} {w0 w w' : World} (h : Sc n dst r A A' l x6 x8 w0 w) (hb : Below w.heap.size w w') : Sc n dst r A A' l x6 x8 w0 w' := by
  have l0 := bk_lt h.k0; have l1 := bk_lt h.k6; have l2 := bk_lt h.k8
  exact ⟨h.f.trans (hb.mono (by omega)), bk_keep hb l0 h.k0, bk_keep hb l1 h.k6, bk_keep hb l2 h.k8, h.g.up hb, h.c1.up hb, h.c2.up hb⟩
theorem selectsChoose_walk (dst : List UInt8) (hd : dst.length = 16) (A : Option Addr) (l : List Cd) (c : Nat) (w : World) (hk : GK w) (hc : Cs w w.heap.size A l) (hl : l.length ≤ c) :
    Calls Tryd.prog 3 #[av dst, .slice A l.length c] w fun e w' => e = .returned (.bool true) ∧ Below w.heap.size w w' := by
  obtain ⟨n, hn⟩ : ∃ n, n = l.length := ⟨_, rfl⟩
  rw [← hn] at hl ⊢
  have HN := Lib.hid hn
  have ba : Below w.heap.size w (w.alloc (.cells (List.map B dst).toArray 23 (0, 0))) := (by (repeat (first | exact Below.refl _ _ | assumption | refine Below.drew ?_ | refine bdrewN ?_ _ | refine Below.alloc ?_ (by first | omega | (simp <;> omega) | (simp only [World.size_alloc] <;> omega)) _ | refine below_setRow ?_ (by first | omega | (simp <;> omega)) _ | refine Below.setCell ?_ (by first | omega | (simp <;> omega)) _)))
  have HA := Lib.hid (And.intro ba (And.intro (hk.up ba) (And.intro (hc.up ba) (bk_alloc_at w (.cells (List.map B dst).toArray 23 (0, 0)) _ rfl))))
  clear hn ba hk hc
  by_cases hn60 : 60 < n
  · have d0 : decide (60 < n) = true := by simp; omega
    have d0' : decide ((60 : Int) < (n : Int)) = true := by simp; omega
    go_enter Tryd.func3, Tryd.ntmps3
    go_wp2_with fail
    refine (lives23_any _ HA.out.2.1).mono ?_
    rintro e w1 ⟨rfl, b1⟩
    have B1 := Lib.hid (HA.out.1.trans (b1.mono HA.out.1.size))
    clear b1
    go_wp2_with fail
    go_ret
    exact ⟨rfl, B1.out⟩
  have d0 : decide (60 < n) = false := by simp; omega
  have d0' : decide ((60 : Int) < (n : Int)) = false := by simp; omega
  go_enter Tryd.func3, Tryd.ntmps3
  go_wp2_with fail
  have C := other_any A l c _ HA.out.2.2.1 (by rw [← HN.out]; omega)
  rw [← HN.out] at C
  refine C.mono ?_
  rintro e w1 ⟨A', c', rfl, hc', hcs', b1⟩
  clear C
  have k0 := bk_keep b1 (bk_lt HA.out.2.2.2) HA.out.2.2.2
  have HS := Lib.hid (And.intro (HA.out.1.trans (b1.mono HA.out.1.size)) (And.intro (HA.out.2.1.up b1) (And.intro (HA.out.2.2.1.up b1) (And.intro hcs' k0))))
  clear hcs' b1 HA d0 d0'
  have q0 := bk_lt k0
  go_wp2_with fail
  have C := choose_any dst hd A l c w1 HS.out.2.1 HS.out.2.2.1 (by rw [← HN.out]; exact hl) (by rw [← HN.out]; omega)
  rw [← HN.out] at C
  refine C.mono ?_
  rintro e w2 ⟨rfl, b2⟩
  clear C
  obtain ⟨r, hr⟩ : ∃ r, r = (choose dst l).1 := ⟨_, rfl⟩
  obtain ⟨y, hy⟩ : ∃ y, y = (choose dst l).2 := ⟨_, rfl⟩
  rw [← hr, ← hy]
  have hrl : r.length = 16 := by
    rw [hr]
    unfold choose
    split
    · rfl
    · exact Cd.h _
  have HR := Lib.hid (And.intro hr hy)
  clear hr hy
  have k02 := bk_keep b2 q0 k0
  have HS2 := Lib.hid (And.intro (HS.out.1.trans (b2.mono HS.out.1.size)) (And.intro (HS.out.2.1.up b2) (And.intro (HS.out.2.2.1.up b2) (And.intro (HS.out.2.2.2.1.up b2) k02))))
  have q02 := bk_lt k02
  clear b2 HS k0 q0
  go_wp2_with fail
  have a3 : Below w2.heap.size w2 (w2.alloc (.cells (List.map B r).toArray 23 (0, 0))) := (Below.refl _ _).alloc (Nat.le_refl _) _
  have k3 := bk_keep a3 q02 k02
  have k6 : bk (w2.alloc (.cells (List.map B r).toArray 23 (0, 0))) w2.heap.size = some (.cells (List.map B r).toArray 23 (0, 0)) := bk_alloc_at _ _ _ rfl
  have HS3 := Lib.hid (And.intro (HS2.out.1.trans (a3.mono HS2.out.1.size)) (And.intro (HS2.out.2.1.up a3) (And.intro (HS2.out.2.2.1.up a3) (And.intro (HS2.out.2.2.2.1.up a3) (And.intro k3 k6)))))
  clear HS2 k02 q02 a3 k3 k6
  generalize w2.alloc (.cells (List.map B r).toArray 23 (0, 0)) = w3 at *
  generalize w2.heap.size = x6 at *
  have C := choose23_any dst hd A' l c' w3 HS3.out.2.2.2.1 (by rw [← HN.out]; exact hc') (by rw [← HN.out]; omega)
  rw [← HN.out, ← choose_choose2, ← HR.out.1, ← HR.out.2] at C
  refine C.mono ?_
  rintro e w4 ⟨rfl, b4⟩
  clear C
  have k0 := bk_keep b4 (bk_lt HS3.out.2.2.2.2.1) HS3.out.2.2.2.2.1
  have k6 := bk_keep b4 (bk_lt HS3.out.2.2.2.2.2) HS3.out.2.2.2.2.2
  have HS4 := Lib.hid (And.intro (HS3.out.1.trans (b4.mono HS3.out.1.size)) (And.intro (HS3.out.2.1.up b4) (And.intro (HS3.out.2.2.1.up b4) (HS3.out.2.2.2.1.up b4))))
  have q0 := bk_lt k0; have q6 := bk_lt k6
  clear b4 HS3
  go_upto_region 6 with fail
  have a5 : Below w4.heap.size w4 (w4.alloc (.cells (List.map B r).toArray 23 (0, 0))) := (Below.refl _ _).alloc (Nat.le_refl _) _
  have HX : Hid (Sc w.heap.size dst r A A' l x6 w4.heap.size w (w4.alloc (.cells (List.map B r).toArray 23 (0, 0)))) := Lib.hid
    ⟨HS4.out.1.trans (a5.mono HS4.out.1.size), bk_keep a5 q0 k0, bk_keep a5 q6 k6, bk_alloc_at _ _ _ rfl, HS4.out.2.1.up a5, HS4.out.2.2.1.up a5, HS4.out.2.2.2.up a5⟩
  clear HS4 k0 k6 q0 q6 a5
  generalize w4.alloc (.cells (List.map B r).toArray 23 (0, 0)) = w5 at *
  generalize w4.heap.size = x8 at *
  have v0 := HX.out.k0; have v6 := HX.out.k6; have v8 := HX.out.k8
  have l0 := bk_lt v0; have l6 := bk_lt v6; have l8 := bk_lt v8
  have E1 := eqAddr r r hrl hrl
  rw [show (r == r) = true by simp] at E1
  have L1 : Hid (∀ w', Below w5.heap.size w5 w' → Calls Tryd.prog 10 #[av dst] w' fun e w2 => e = .returned (.int .i64 (label dst)) ∧ Below w'.heap.size w' w2) := Lib.hid fun w' h => slabel_any dst hd w' (HX.out.g.up h)
  have L2 : Hid (∀ w', Below w5.heap.size w5 w' → Calls Tryd.prog 11 #[av dst] w' fun e w2 => e = .returned (.int .i64 (label dst)) ∧ Below w'.heap.size w' w2) := Lib.hid fun w' h => by rw [← label2_label]; exact label23_any dst hd w'
  obtain ⟨ld, hld⟩ : ∃ x, x = label dst := ⟨_, rfl⟩
  rw [← hld] at L1 L2
  clear hld
  refine wp_region_later (w5.heap.size) (by kernel_rfl) (by kernel_rfl) ?_
  repeat (go_big_quiet_step (((rename_i xq; first | with_reducible exact later_call xq (Nat.le_refl _) (L1.out xq.w xq.h) | with_reducible exact later_call xq (Nat.le_refl _) (L2.out xq.w xq.h)))))
  (first | refine wpQuiet_nil ?_ | (go_big_quiet_want; (try go_big_quiet_op); trace_state; fail))
  intro w6 hw'
  have q6 := later_elim hw'
  clear hw'
  replace HX := Lib.hid (HX.out.next q6)
  clear q6 v0 v6 v8 l0 l6 l8 E1 L1 L2
  go_wp2_with fail
  go_loopw [10] (fun i wr => ∃ k : Nat, k ≤ n ∧ i = .int .i64 k ∧ Hid (Sc w.heap.size dst r A A' l x6 x8 w wr)) (fun i _ => n - (intOf i).toNat)
  case atStart => exact ⟨0, by omega, rfl, HX⟩
  case round =>
    clear HX
    obtain ⟨k, hk, rfl, HX⟩ := hrel
    by_cases hkn : k < n
    · have d1 : decide ((k : Int) < (n : Int)) = true := by simp; omega
      have hkl : k < l.length := by rw [← HN.out]; exact hkn
      have hne : l ≠ [] := fun e => by rw [e] at hkl; simp at hkl
      obtain ⟨g, o, cc, t, fr, rfl, hg, kc, hcs⟩ := HX.out.c1 hne
      obtain ⟨g2, o2, cc2, t2, fr2, rfl, hg2, kc2, hcs2⟩ := HX.out.c2 hne
      obtain ⟨h1, h2⟩ := hcs k hkl
      obtain ⟨h3, h4⟩ := hcs2 k hkl
      obtain ⟨x1, _, _⟩ := xt_sub h2 h1
      obtain ⟨cd, hcd⟩ : ∃ x, x = l[k] := ⟨_, rfl⟩
      rw [← hcd] at h2 h4 x1
      have h1' : o + k * 18 + 16 ≤ cc.size := by omega
      have L1 : Hid (∀ w', Below wr.heap.size wr w' → Calls Tryd.prog 10 #[av cd.a] w' fun e w2 => e = .returned (.int .i64 (label cd.a)) ∧ Below w'.heap.size w' w2) := Lib.hid fun w' h => slabel_any cd.a cd.h w' (HX.out.g.up h)
      have L2 : Hid (∀ w', Below wr.heap.size wr w' → Calls Tryd.prog 11 #[av cd.a] w' fun e w2 => e = .returned (.int .i64 (label cd.a)) ∧ Below w'.heap.size w' w2) := Lib.hid fun w' h => by rw [← label2_label]; exact label23_any cd.a cd.h w'
      obtain ⟨lc, hlc⟩ : ∃ x, x = label cd.a := ⟨_, rfl⟩
      rw [← hlc] at L1 L2
      have v0 := HX.out.k0
      have l0 := bk_lt v0; have lg := bk_lt kc; have lg2 := bk_lt kc2
      clear hlc hcd
      cases k with
      | zero =>
        simp only [Nat.zero_mul, Nat.add_zero] at x1 h1'
        clear hcs hcs2
        go_upto_region 11 with fail
        refine wp_region_later (wr.heap.size) (by kernel_rfl) (by kernel_rfl) ?_
        repeat (go_big_quiet_step (((rename_i xq; first | with_reducible exact later_call xq (Nat.le_refl _) (L1.out xq.w xq.h) | with_reducible exact later_call xq (Nat.le_refl _) (L2.out xq.w xq.h)))))
        (first | refine wpQuiet_nil ?_ | (go_big_quiet_want; (try go_big_quiet_op); trace_state; fail))
        intro w6 hw'
        have q6 := later_elim hw'
        clear hw'
        replace HX := Lib.hid (HX.out.next q6)
        clear q6 v0 l0 lg lg2 L1 L2 kc kc2 h1 h2 h3 h4 x1 h1'
        go_wp2_with fail
        refine ⟨⟨1, by omega, rfl, HX⟩, by simp [intOf]; omega⟩
      | succ j =>
        have hjl : j < l.length := by omega
        obtain ⟨i1, i2⟩ := hcs j hjl
        obtain ⟨i3, i4⟩ := hcs2 j hjl
        obtain ⟨ce, hce⟩ : ∃ x, x = l[j] := ⟨_, rfl⟩
        rw [← hce] at i2 i4
        have d2 : decide ((0 : Int) < ((j + 1 : Nat) : Int)) = true := decide_eq_true (by omega)
        have d2' : decide (0 < j + 1) = true := by simp
        have M1 : Hid (∀ w', Below wr.heap.size wr w' → Calls Tryd.prog 12 #[av dst, .agg ce.row, .agg cd.row] w' fun e w2 => e = .returned (.bool (better dst ce cd)) ∧ Below w'.heap.size w' w2) := Lib.hid fun w' h => sbetter_any dst hd ce cd w' (HX.out.g.up h)
        have M2 : Hid (∀ w', Below wr.heap.size wr w' → Calls Tryd.prog 13 #[av dst, .agg ce.row, .agg cd.row] w' fun e w2 => e = .returned (.bool (better dst ce cd)) ∧ Below w'.heap.size w' w2) := Lib.hid fun w' h => by rw [better_better2]; exact better23_any dst hd ce cd w'
        obtain ⟨p, hp⟩ : ∃ x, x = better dst ce cd := ⟨_, rfl⟩
        rw [← hp] at M1 M2
        have e1 : ((j + 1 : Nat) : Int) - 1 = (j : Int) := by omega
        have p1 : (p != p) = false := by simp
        have p2 : (!(p == p)) = false := by simp
        clear hcs hcs2 hce hp
        go_upto_region 11 with fail
        refine wp_region_later (wr.heap.size) (by kernel_rfl) (by kernel_rfl) ?_
        repeat (go_big_quiet_step (((rename_i xq; first | with_reducible exact later_call xq (Nat.le_refl _) (L1.out xq.w xq.h) | with_reducible exact later_call xq (Nat.le_refl _) (L2.out xq.w xq.h) | with_reducible exact later_call xq (Nat.le_refl _) (M1.out xq.w xq.h) | with_reducible exact later_call xq (Nat.le_refl _) (M2.out xq.w xq.h)))))
        (first | refine wpQuiet_nil ?_ | (go_big_quiet_want; (try go_big_quiet_op); trace_state; fail))
        intro w6 hw'
        have q6 := later_elim hw'
        clear hw'
        replace HX := Lib.hid (HX.out.next q6)
        clear q6 v0 l0 lg lg2 L1 L2 kc kc2 h1 h2 h3 h4 x1 h1' i1 i2 i3 i4 M1 M2
        go_wp2_with fail
        refine ⟨⟨j + 1 + 1, by omega, by go_num, HX⟩, by simp [intOf]; omega⟩
    · obtain rfl : k = n := by omega
      have d1 : decide ((k : Int) < (k : Int)) = false := by simp
      go_wp2_with fail
      refine (lives23_any _ HX.out.g).mono ?_
      rintro e w7 ⟨rfl, b7⟩
      have B7 := Lib.hid (HX.out.f.trans (b7.mono HX.out.f.size))
      clear b7
      go_wp2_with fail
      go_ret
      exact ⟨rfl, B7.out⟩
end Go.Proofs.YtcoonncedlbbkaaDoor
