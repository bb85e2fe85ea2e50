/- SelectsBest: nobody is better than who is chosen; nobody is better than himself, and of three no order goes round. -/
import Derived.Test.YtcoonncedlbbkaaDoorX16
namespace Go.Proofs.YtcoonncedlbbkaaDoor
open Go.RowKit Ad
set_option maxRecDepth 100000
set_option maxHeartbeats 2000000
def rows3 (x y z : Cd) : Array Value := (x.row.toList ++ y.row.toList ++ z.row.toList).toArray
@[go_sem] theorem rows3_size (x y z : Cd) : (rows3 x y z).size = 54 := by simp [rows3, Cd.row_size]
theorem rows3_at (x y z : Cd) : xt (rows3 x y z) 0 18 = x.row ∧ xt (rows3 x y z) 18 18 = y.row ∧ xt (rows3 x y z) 36 18 = z.row := by
  have hx : x.row.toList.length = 18 := by simp [Cd.row_size]
  have hy : y.row.toList.length = 18 := by simp [Cd.row_size]
  have hz : z.row.toList.length = 18 := by simp [Cd.row_size]
  unfold xt rows3
  generalize hX : x.row.toList = X at *; generalize hY : y.row.toList = Y at *; generalize hZ : z.row.toList = Z at *
  have eX : x.row = X.toArray := by rw [← hX]
  have eY : y.row = Y.toArray := by rw [← hY]
  have eZ : z.row = Z.toArray := by rw [← hZ]
  rw [eX, eY, eZ]
  refine ⟨?_, ?_, ?_⟩
  · rw [List.extract_toArray, List.extract_eq_take_drop, List.append_assoc, List.drop_zero]
    simp [hx]
  · rw [List.extract_toArray, List.extract_eq_take_drop, List.append_assoc, List.drop_append_of_le_length (by omega), List.drop_of_length_le (by omega)]
    simp [hy]
  · rw [List.extract_toArray, List.extract_eq_take_drop, show (X ++ Y ++ Z).drop 36 = Z by rw [← show (X ++ Y).length = 36 by simp [hx, hy], List.drop_left], ← hz]
    simp
/-- What the walk holds. -/
structure Sb (n : Nat) (dst r : List UInt8) (A : Option Addr) (l : List Cd) (x y z : Cd) (x7 : Nat) (w0 w : World) : Prop where
  f : Below n w0 w
  n0 : 0 < n
  n7 : n + 1 < x7
  k0 : bk w n = some (.cells (List.map B dst).toArray 23 (0, 0))
  k1 : bk w (n + 1) = some (.cells (rows3 x y z) 38 (0, 0))
  k7 : bk w x7 = some (.cells (List.map B r).toArray 23 (0, 0))
  g : GK w
  c1 : Cs w n A l
theorem Sb.next {n : Nat} {dst r : List UInt8} {A : Option Addr} {l : List Cd} {x y z : Cd} {x7 : Nat} {w0 w w' : World} (h : Sb n dst r A l x y z x7 w0 w) (hb : Below w.heap.size w w') : Sb n dst r A l x y z x7 w0 w' := by
  have l0 := bk_lt h.k0; have l1 := bk_lt h.k1; have l2 := bk_lt h.k7
  exact ⟨h.f.trans (hb.mono (by omega)), h.n0, h.n7, bk_keep hb l0 h.k0, bk_keep hb l1 h.k1, bk_keep hb l2 h.k7, h.g.up hb, h.c1.below hb (by omega)⟩
theorem Sb.set {n : Nat} {dst r : List UInt8} {A : Option Addr} {l : List Cd} {x y z : Cd} {x7 : Nat} {w0 w : World} (h : Sb n dst r A l x y z x7 w0 w) {x9 : Nat} (h9 : x7 < x9) (c : Array Value) : Sb n dst r A l x y z x7 w0 (w.setRow x9 c) := by
  have h7 := h.n7; have h0 := h.n0
  have ke : ∀ i, i ≠ x9 → bk (w.setRow x9 c) i = bk w i := fun i hi => bk_setRow_other _ _ _ _ hi
  obtain ⟨cg, tg, fg, g1, g2⟩ := h.g
  refine ⟨below_setRow h.f (by omega) _, h0, h7, (ke _ (by omega)).trans h.k0, (ke _ (by omega)).trans h.k1, (ke _ (by omega)).trans h.k7, ⟨cg, tg, fg, (ke _ (by omega)).trans g1, g2⟩, fun hl => ?_⟩
  obtain ⟨g, o, cc, t, fr, e, hg, kc, hcs⟩ := h.c1 hl
  exact ⟨g, o, cc, t, fr, e, hg, (ke _ (by omega)).trans kc, hcs⟩
def mineB (dst r : List UInt8) (l : List Cd) (c : Cd) : Bool := !(l.any fun x => better dst x c) && c.a == r
theorem choose_is (dst : List UInt8) (l : List Cd) : (choose dst l).2 = decide (0 < l.length) ∧ (choose dst l).1.length = 16 := by
  cases l with
  | nil => exact ⟨rfl, rfl⟩
  | cons a b => exact ⟨by simp [choose], Cd.h _⟩
theorem choose_mine (dst : List UInt8) (l : List Cd) (h0 : 0 < l.length) : l.any (mineB dst (choose dst l).1 l) = true ∧ ∃ j, ∃ h : j < l.length, l[j].a = (choose dst l).1 := by
  obtain ⟨i, h, h1, h2, _⟩ := chosen dst l (fun e => by rw [e] at h0; simp at h0)
  rw [h1]
  refine ⟨List.any_eq_true.2 ⟨l[i], List.getElem_mem _, ?_⟩, i, h, rfl⟩
  unfold mineB
  have e : (l.any fun x => better dst x l[i]) = false := by
    refine List.any_eq_false.2 fun x hx => ?_
    obtain ⟨j, hj, rfl⟩ := List.getElem_of_mem hx
    rw [h2 j hj]
    decide
  rw [e]
  simp
/-- What the last steps hold. -/
structure St (n : Nat) (dst : List UInt8) (x y z : Cd) (s : Nat) (w0 w : World) : Prop where
  f : Below n w0 w
  k0 : bk w n = some (.cells (List.map B dst).toArray 23 (0, 0))
  kx : bk w s = some (.cells x.row 33 (0, 0))
  ky : bk w (s + 1) = some (.cells y.row 33 (0, 0))
  kz : bk w (s + 2) = some (.cells z.row 33 (0, 0))
  g : GK w
theorem St.next {n : Nat} {dst : List UInt8} {x y z : Cd} {s : Nat} {w0 w w' : World} (h : St n dst x y z s w0 w) (hb : Below w.heap.size w w') : St n dst x y z s w0 w' :=
  ⟨h.f.trans (hb.mono (Nat.le_of_lt (bk_lt h.k0))), bk_keep hb (bk_lt h.k0) h.k0, bk_keep hb (bk_lt h.kx) h.kx, bk_keep hb (bk_lt h.ky) h.ky, bk_keep hb (bk_lt h.kz) h.kz, h.g.up hb⟩
theorem selectsBest_walk (dst : List UInt8) (hd : dst.length = 16) (A : Option Addr) (l : List Cd) (c : Nat) (x y z : Cd) (w : World) (hk : GK w) (hc : Cs w w.heap.size A l) (hl : l.length ≤ c) :
    Calls Tryd.prog 4 #[av dst, .slice A l.length c, .agg (rows3 x y z)] w fun e w' => e = .returned (.bool true) ∧ Below w.heap.size w w' := by
  obtain ⟨n, hn⟩ : ∃ n, n = l.length := ⟨_, rfl⟩
  rw [← hn] at hl ⊢
  have HN := Lib.hid hn
  have hw0 : 0 < w.heap.size := by obtain ⟨c, t, fr, h1, _⟩ := hk; exact bk_lt h1
  have ba : Below w.heap.size w ((w.alloc (.cells (List.map B dst).toArray 23 (0, 0))).alloc (.cells (rows3 x y z) 38 (0, 0))) := (by (repeat (first | exact Below.refl _ _ | assumption | refine Below.drew ?_ | refine bdrewN ?_ _ | refine Below.alloc ?_ (by first | omega | (simp <;> omega) | (simp only [World.size_alloc] <;> omega)) _ | refine below_setRow ?_ (by first | omega | (simp <;> omega)) _ | refine Below.setCell ?_ (by first | omega | (simp <;> omega)) _)))
  have v0 : bk ((w.alloc (.cells (List.map B dst).toArray 23 (0, 0))).alloc (.cells (rows3 x y z) 38 (0, 0))) w.heap.size = some (.cells (List.map B dst).toArray 23 (0, 0)) := (bk_alloc_past _ _ _ (by simp)).trans (bk_alloc_at _ _ _ rfl)
  have v1 : bk ((w.alloc (.cells (List.map B dst).toArray 23 (0, 0))).alloc (.cells (rows3 x y z) 38 (0, 0))) (w.heap.size + 1) = some (.cells (rows3 x y z) 38 (0, 0)) := bk_alloc_at _ _ _ (by simp)
  have sz : ((w.alloc (.cells (List.map B dst).toArray 23 (0, 0))).alloc (.cells (rows3 x y z) 38 (0, 0))).heap.size = w.heap.size + 2 := by simp
  have HA := Lib.hid (And.intro ba (And.intro (hk.up ba) (And.intro (hc.below ba (Nat.le_refl _)) (And.intro v0 v1))))
  obtain ⟨r, hr⟩ : ∃ r, r = (choose dst l).1 := ⟨_, rfl⟩
  have hrl : r.length = 16 := by rw [hr]; exact (choose_is dst l).2
  have HR := Lib.hid hr
  clear hn ba hk hc hr
  by_cases hn60 : 60 < n
  · have d0 : decide (60 < n) = true := by simp; omega
    have d0' : decide ((60 : Int) < (n : Int)) = true := by simp; omega
    go_enter Tryd.func4, Tryd.ntmps4
    go_wp2_with fail
    refine (lives23_any _ HA.out.2.1).mono ?_
    rintro e w1 ⟨rfl, b1⟩
    have B1 := Lib.hid (HA.out.1.trans (b1.mono HA.out.1.size))
    clear b1
    go_wp2_with fail
    go_ret
    exact ⟨rfl, B1.out⟩
  have d0 : decide (60 < n) = false := by simp; omega
  have d0' : decide ((60 : Int) < (n : Int)) = false := by simp; omega
  go_enter Tryd.func4, Tryd.ntmps4
  go_wp2_with fail
  have C := choose_any dst hd A l c _ HA.out.2.1 (HA.out.2.2.1.mono HA.out.1.size) (by rw [← HN.out]; exact hl) (by rw [← HN.out]; omega)
  obtain ⟨y0, hy0⟩ : ∃ y, decide (0 < n) = y := ⟨_, rfl⟩
  rw [← HR.out, (choose_is dst l).1, ← HN.out, hy0] at C
  have hy0' : decide ((0 : Int) < (n : Int)) = y0 := by rw [← hy0]; simp
  refine C.mono ?_
  rintro e w1 ⟨rfl, b1⟩
  clear C v0 v1 d0 d0'
  have k0 := bk_keep b1 (bk_lt HA.out.2.2.2.1) HA.out.2.2.2.1
  have k1 := bk_keep b1 (bk_lt HA.out.2.2.2.2) HA.out.2.2.2.2
  have HS := Lib.hid (And.intro (HA.out.1.trans (b1.mono HA.out.1.size)) (And.intro (HA.out.2.1.up b1) (HA.out.2.2.1.below b1 HA.out.1.size)))
  have q0 := bk_lt k0; have q1 := bk_lt k1
  clear b1 HA sz
  have HX : Hid (∀ w2, Below w1.heap.size w1 w2 → bk w2 w1.heap.size = some (.cells (List.map B r).toArray 23 (0, 0)) → Sb w.heap.size dst r A l x y z w1.heap.size w w2) := Lib.hid fun w2 a5 k7 =>
    ⟨HS.out.1.trans (a5.mono HS.out.1.size), hw0, q1, bk_keep a5 q0 k0, bk_keep a5 q1 k1, k7, HS.out.2.1.up a5, HS.out.2.2.below a5 HS.out.1.size⟩
  have n1 : (y0 != y0) = false := by simp
  have n2 : (!(y0 == y0)) = false := by simp
  obtain ⟨z0, hz0⟩ : ∃ z : Int, z = (n : Int) - 1 := ⟨_, rfl⟩
  have hz1 : IntKind.i64.wrap ((n : Int) - 1) = z0 := by rw [IntKind.wrap_i64]; omega
  have HZ0 := Lib.hid hz0
  clear hz0 k0 k1
  go_wp2_with fail
  rw [← zrow]
  have a2 : Below w1.heap.size w1 (w1.alloc (.cells (List.map B r).toArray 23 (0, 0))) := (Below.refl _ _).alloc (Nat.le_refl _) _
  have a3 := a2.alloc (Nat.le_of_lt (by simp)) (.cells zeroCd.row 33 (0, 0))
  have k7 := (bk_alloc_past (w1.alloc (.cells (List.map B r).toArray 23 (0, 0))) (.cells zeroCd.row 33 (0, 0)) w1.heap.size (by simp)).trans (bk_alloc_at w1 (.cells (List.map B r).toArray 23 (0, 0)) _ rfl)
  have HX2 := Lib.hid (HX.out _ a3 k7)
  have K9 := Lib.hid (bk_alloc_at (w1.alloc (.cells (List.map B r).toArray 23 (0, 0))) (.cells zeroCd.row 33 (0, 0)) (w1.heap.size + 1) (by simp))
  clear a2 a3 k7 HX HS q0 q1 n1 n2
  generalize (w1.alloc (.cells (List.map B r).toArray 23 (0, 0))).alloc (.cells zeroCd.row 33 (0, 0)) = w3 at *
  obtain ⟨x9, h9⟩ : ∃ x, x = w1.heap.size + 1 := ⟨_, rfl⟩
  rw [← h9] at K9 ⊢
  have h79 : w1.heap.size < x9 := by omega
  generalize w1.heap.size = x7 at *
  clear h9
  go_loopw [10] (fun i wr => ∃ (k : Nat) (zi : Int) (b : Cd), k ≤ n ∧ i = .int .i64 zi ∧ zi = (k : Int) - 1 ∧ Hid (bk wr x9 = some (.cells b.row 33 (0, 0))) ∧ Hid (∀ j (h : j < l.length), k ≤ j → l[j].a = r → b.a = r) ∧ Hid (Sb w.heap.size dst r A l x y z x7 w wr)) (fun i _ => ((intOf i) + 1).toNat)
  case atStart => exact ⟨n, z0, zeroCd, Nat.le_refl _, rfl, HZ0.out, K9, Lib.hid (fun j h hj => by have := HN.out; omega), HX2⟩
  case round =>
    clear K9 HX2 hz1 HZ0
    obtain ⟨k, z1, b, hk, rfl, hz, K9, HJ, HX⟩ := hrel
    cases k with
    | zero =>
      obtain rfl : z1 = -1 := by omega
      have d1 : decide ((0 : Int) ≤ -1) = false := by decide
      clear hz
      have HB : Hid (0 < n → b.a = r) := Lib.hid fun h0 => by
        obtain ⟨j, hj, e⟩ := (choose_mine dst l (by rw [← HN.out]; exact h0)).2
        exact HJ.out j hj (Nat.zero_le _) (e.trans HR.out.symm)
      have HMI : Hid (0 < n → l.any (mineB dst r l) = true) := Lib.hid fun h0 => by rw [HR.out]; exact (choose_mine dst l (by rw [← HN.out]; exact h0)).1
      clear HJ
      go_wp2_with fail
      go_loopw [11, 12, 13, 14] (fun m i _ _ wr => ∃ (k : Nat) (q : Bool), k ≤ n ∧ i = .int .i64 k ∧ m = .bool q ∧ Hid (q = (l.take k).any (mineB dst r l)) ∧ Hid (bk wr x9 = some (.cells b.row 33 (0, 0))) ∧ Hid (Sb w.heap.size dst r A l x y z x7 w wr)) (fun _ i _ _ _ => n - (intOf i).toNat)
      case atStart => exact ⟨0, false, by omega, rfl, rfl, Lib.hid (by simp), K9, HX⟩
      case round =>
        clear K9 HX d1
        obtain ⟨k, q, hk, rfl, rfl, HQ, K9, HX⟩ := hrel
        by_cases hkn : k < n
        · have d1 : decide ((k : Int) < (n : Int)) = true := by simp; omega
          have hkl : k < l.length := by rw [← HN.out]; exact hkn
          have hne : l ≠ [] := fun e => by rw [e] at hkl; simp at hkl
          obtain ⟨ci, hci⟩ : ∃ x, x = l[k] := ⟨_, rfl⟩
          have HCI := Lib.hid hci
          clear hci
          go_wp2_with fail
          go_loopw [13, 14] (fun m i wr => ∃ (j : Nat) (p : Bool), j ≤ n ∧ i = .int .i64 j ∧ m = .bool p ∧ Hid (p = (l.take j).any fun x => better dst x ci) ∧ Hid (bk wr x9 = some (.cells b.row 33 (0, 0))) ∧ Hid (Sb w.heap.size dst r A l x y z x7 w wr)) (fun _ i _ => n - (intOf i).toNat)
          case atStart => exact ⟨0, false, by omega, rfl, rfl, Lib.hid (by simp), K9, HX⟩
          case round =>
            clear K9 HX d1
            obtain ⟨j, p, hj, rfl, rfl, HP, K9, HX⟩ := hrel
            obtain ⟨g, o, cc, t, fr, rfl, hg, kc, hcs⟩ := HX.out.c1 hne
            obtain ⟨h1, h2⟩ := hcs k hkl
            rw [← HCI.out] at h2
            have v0 := HX.out.k0; have v7 := HX.out.k7
            have l0 := bk_lt v0; have l7 := bk_lt v7; have lg := bk_lt kc
            by_cases hjn : j < n
            · have d1 : decide ((j : Int) < (n : Int)) = true := by simp; omega
              have hjl : j < l.length := by rw [← HN.out]; exact hjn
              obtain ⟨h3, h4⟩ := hcs j hjl
              obtain ⟨cj, hcj⟩ : ∃ x, x = l[j] := ⟨_, rfl⟩
              rw [← hcj] at h4
              have HP' : Hid (((l.take (j + 1)).any fun x => better dst x ci) = (p || better dst cj ci)) := Lib.hid (by
                rw [List.take_succ_eq_append_getElem hjl, List.any_append, ← HP.out, ← hcj]; simp)
              have M1 : Hid (∀ w', Below wr.heap.size wr w' → Calls Tryd.prog 12 #[av dst, .agg cj.row, .agg ci.row] w' fun e w2 => e = .returned (.bool (better dst cj ci)) ∧ Below w'.heap.size w' w2) := Lib.hid fun w' h => sbetter_any dst hd cj ci w' (HX.out.g.up h)
              generalize better dst cj ci = u at *
              clear hcs hcj v7 l7
              cases p
              case false =>
                go_upto_region 20 with fail
                refine wp_region_later (wr.heap.size) (by kernel_rfl) (by kernel_rfl) ?_
                repeat (go_big_quiet_step (((rename_i xq; with_reducible exact later_call xq (Nat.le_refl _) (M1.out xq.w xq.h)))))
                (first | refine wpQuiet_nil ?_ | (go_big_quiet_want; (try go_big_quiet_op); trace_state; fail))
                intro w6 hw'
                have q6 := later_elim hw'
                clear hw'
                replace HX := Lib.hid (HX.out.next q6)
                replace K9 := Lib.hid (bk_keep q6 (bk_lt K9.out) K9.out)
                clear q6 v0 l0 lg kc h1 h2 h3 h4 M1
                go_wp2_with fail
                refine ⟨⟨j + 1, u, by omega, by go_num, rfl, Lib.hid (by rw [HP'.out]; rfl), K9, HX⟩, by simp [intOf]; omega⟩
              case true =>
                go_upto_region 20 with fail
                refine wp_region_later (wr.heap.size) (by kernel_rfl) (by kernel_rfl) ?_
                repeat (go_big_quiet_step ((fail)))
                (first | refine wpQuiet_nil ?_ | (go_big_quiet_want; (try go_big_quiet_op); trace_state; fail))
                intro w6 hw'
                have q6 := later_elim hw'
                clear hw'
                replace HX := Lib.hid (HX.out.next q6)
                replace K9 := Lib.hid (bk_keep q6 (bk_lt K9.out) K9.out)
                clear q6 v0 l0 lg kc h1 h2 h3 h4 M1
                go_wp2_with fail
                refine ⟨⟨j + 1, true, by omega, by go_num, rfl, Lib.hid (by rw [HP'.out]; rfl), K9, HX⟩, by simp [intOf]; omega⟩
            · obtain rfl : j = n := by omega
              have d1 : decide ((j : Int) < (j : Int)) = false := by simp
              obtain ⟨x1, _, _⟩ := xt_sub h2 h1
              have h1' : o + k * 18 + 16 ≤ cc.size := by omega
              have E1 := eqAddr ci.a r ci.h hrl
              obtain ⟨u, hu⟩ : ∃ q, q = (ci.a == r) := ⟨_, rfl⟩
              rw [← hu] at E1
              have HQ' : Hid (((l.take (k + 1)).any (mineB dst r l)) = (q || (!p && u))) := Lib.hid (by
                rw [List.take_succ_eq_append_getElem hkl, List.any_append, ← HQ.out, ← HCI.out, hu]
                simp only [List.any_cons, List.any_nil, Bool.or_false, mineB]
                rw [HP.out, HN.out, List.take_length])
              have hkj : (k : Int) < (j : Int) := by omega
              clear hcs hu h2
              cases q
              case true =>
                go_upto_region 21 with fail
                refine wp_region_later (wr.heap.size) (by kernel_rfl) (by kernel_rfl) ?_
                repeat (go_big_quiet_step ((fail)))
                (first | refine wpQuiet_nil ?_ | (go_big_quiet_want; (try go_big_quiet_op); trace_state; fail))
                intro w6 hw'
                have q6 := later_elim hw'
                clear hw'
                replace HX := Lib.hid (HX.out.next q6)
                replace K9 := Lib.hid (bk_keep q6 (bk_lt K9.out) K9.out)
                clear q6 v0 l0 v7 l7 lg kc h1 x1 h1' E1
                go_wp2_with fail
                refine ⟨⟨k + 1, true, by omega, by go_num, rfl, Lib.hid (by rw [HQ'.out]; rfl), K9, HX⟩, by simp [intOf]; omega⟩
              case false =>
                cases p
                case true =>
                  go_upto_region 21 with fail
                  refine wp_region_later (wr.heap.size) (by kernel_rfl) (by kernel_rfl) ?_
                  repeat (go_big_quiet_step ((fail)))
                  (first | refine wpQuiet_nil ?_ | (go_big_quiet_want; (try go_big_quiet_op); trace_state; fail))
                  intro w6 hw'
                  have q6 := later_elim hw'
                  clear hw'
                  replace HX := Lib.hid (HX.out.next q6)
                  replace K9 := Lib.hid (bk_keep q6 (bk_lt K9.out) K9.out)
                  clear q6 v0 l0 v7 l7 lg kc h1 x1 h1' E1
                  go_wp2_with fail
                  refine ⟨⟨k + 1, false, by omega, by go_num, rfl, Lib.hid (by rw [HQ'.out]; rfl), K9, HX⟩, by simp [intOf]; omega⟩
                case false =>
                  go_upto_region 21 with fail
                  refine wp_region_later (wr.heap.size) (by kernel_rfl) (by kernel_rfl) ?_
                  repeat (go_big_quiet_step ((fail)))
                  (first | refine wpQuiet_nil ?_ | (go_big_quiet_want; (try go_big_quiet_op); trace_state; fail))
                  intro w6 hw'
                  have q6 := later_elim hw'
                  clear hw'
                  replace HX := Lib.hid (HX.out.next q6)
                  replace K9 := Lib.hid (bk_keep q6 (bk_lt K9.out) K9.out)
                  clear q6 v0 l0 v7 l7 lg kc h1 x1 h1' E1
                  go_wp2_with fail
                  refine ⟨⟨k + 1, u, by omega, by go_num, rfl, Lib.hid (by rw [HQ'.out]; rfl), K9, HX⟩, by simp [intOf]; omega⟩
        · obtain rfl : k = n := by omega
          have d1 : decide ((k : Int) < (k : Int)) = false := by simp
          have hqa : Hid (0 < k → q = true) := Lib.hid fun h0 => by rw [HQ.out, HN.out, List.take_length]; exact HMI.out h0
          have E1 := eqAddr b.a r b.h hrl
          have v9 := K9.out; have v7 := HX.out.k7; have v1 := HX.out.k1
          have l9 := bk_lt v9; have l7 := bk_lt v7; have l1 := bk_lt v1
          obtain ⟨r0, r1, r2⟩ := rows3_at x y z
          by_cases h0 : 0 < k
          · obtain rfl : y0 = true := by rw [← hy0]; simpa using h0
            obtain rfl : q = true := hqa.out h0
            rw [show (b.a == r) = true by rw [HB.out h0]; simp] at E1
            go_upto_region 27 with fail
            have a3 : Below wr.heap.size wr (((wr.alloc (.cells x.row 33 (0, 0))).alloc (.cells y.row 33 (0, 0))).alloc (.cells z.row 33 (0, 0))) := by
              (repeat (first | exact Below.refl _ _ | assumption | refine Below.drew ?_ | refine bdrewN ?_ _ | refine Below.alloc ?_ (by first | omega | (simp <;> omega) | (simp only [World.size_alloc] <;> omega)) _ | refine below_setRow ?_ (by first | omega | (simp <;> omega)) _ | refine Below.setCell ?_ (by first | omega | (simp <;> omega)) _))
            have HY := Lib.hid (St.mk (x := x) (y := y) (z := z) (HX.out.f.trans (a3.mono HX.out.f.size)) (bk_keep a3 (bk_lt HX.out.k0) HX.out.k0) ((bk_alloc_past _ _ _ (by simp; omega)).trans ((bk_alloc_past _ _ _ (by simp)).trans (bk_alloc_at _ _ _ rfl))) ((bk_alloc_past _ _ _ (by simp)).trans (bk_alloc_at _ _ _ (by simp))) (bk_alloc_at _ _ _ (by simp)) (HX.out.g.up a3))
            clear a3 K9 HX HQ hqa v9 v7 v1 l9 l7 l1 r0 r1 r2 E1 HB HMI
            generalize ((wr.alloc (.cells x.row 33 (0, 0))).alloc (.cells y.row 33 (0, 0))).alloc (.cells z.row 33 (0, 0)) = w5 at *
            generalize wr.heap.size = s at *
            have I0 := Lib.hid (better_irr dst x)
            have I1 : Hid (better dst x y = true → better dst y x = false) := Lib.hid (better_asym dst x y)
            have I2 : Hid (better dst x y = true → better dst y z = true → better dst x z = true) := Lib.hid (better_trans dst x y z)
            have M0 := Lib.hid (sbetter_any dst hd x x); have M1 := Lib.hid (sbetter_any dst hd x y); have M2 := Lib.hid (sbetter_any dst hd y x); have M3 := Lib.hid (sbetter_any dst hd y z); have M4 := Lib.hid (sbetter_any dst hd x z)
            rw [I0.out] at M0
            generalize better dst x y = p at *; generalize better dst y x = q' at *; generalize better dst y z = u at *; generalize better dst x z = v at *
            clear I0
            have v0 := HY.out.k0; have vx := HY.out.kx; have vy := HY.out.ky; have vz := HY.out.kz
            have l0 := bk_lt v0; have lx := bk_lt vx; have ly := bk_lt vy; have lz := bk_lt vz
            go_wp2_with fail
            refine (M0.out _ HY.out.g).mono ?_
            rintro e w6 ⟨rfl, b6⟩
            replace HY := Lib.hid (HY.out.next b6)
            clear b6 v0 vx vy vz l0 lx ly lz
            have v0 := HY.out.k0; have vx := HY.out.kx; have vy := HY.out.ky; have vz := HY.out.kz
            have l0 := bk_lt v0; have lx := bk_lt vx; have ly := bk_lt vy; have lz := bk_lt vz
            go_wp2_with fail
            refine (M1.out _ HY.out.g).mono ?_
            rintro e w6 ⟨rfl, b6⟩
            replace HY := Lib.hid (HY.out.next b6)
            clear b6 v0 vx vy vz l0 lx ly lz
            cases p
            case false =>
              have v0 := HY.out.k0; have vx := HY.out.kx; have vy := HY.out.ky; have vz := HY.out.kz
              have l0 := bk_lt v0; have lx := bk_lt vx; have ly := bk_lt vy; have lz := bk_lt vz
              go_wp2_with fail
              refine (M1.out _ HY.out.g).mono ?_
              rintro e w6 ⟨rfl, b6⟩
              replace HY := Lib.hid (HY.out.next b6)
              clear b6 v0 vx vy vz l0 lx ly lz
              go_wp2_with fail
              refine (lives23_any _ HY.out.g).mono ?_
              rintro e w7 ⟨rfl, b7⟩
              have B7 := Lib.hid (HY.out.f.trans (b7.mono HY.out.f.size))
              clear b7
              go_wp2_with fail
              go_ret
              exact ⟨rfl, B7.out⟩
            case true =>
              obtain rfl : q' = false := I1.out rfl
              have v0 := HY.out.k0; have vx := HY.out.kx; have vy := HY.out.ky; have vz := HY.out.kz
              have l0 := bk_lt v0; have lx := bk_lt vx; have ly := bk_lt vy; have lz := bk_lt vz
              go_wp2_with fail
              refine (M2.out _ HY.out.g).mono ?_
              rintro e w6 ⟨rfl, b6⟩
              replace HY := Lib.hid (HY.out.next b6)
              clear b6 v0 vx vy vz l0 lx ly lz
              have v0 := HY.out.k0; have vx := HY.out.kx; have vy := HY.out.ky; have vz := HY.out.kz
              have l0 := bk_lt v0; have lx := bk_lt vx; have ly := bk_lt vy; have lz := bk_lt vz
              go_wp2_with fail
              refine (M1.out _ HY.out.g).mono ?_
              rintro e w6 ⟨rfl, b6⟩
              replace HY := Lib.hid (HY.out.next b6)
              clear b6 v0 vx vy vz l0 lx ly lz
              have v0 := HY.out.k0; have vx := HY.out.kx; have vy := HY.out.ky; have vz := HY.out.kz
              have l0 := bk_lt v0; have lx := bk_lt vx; have ly := bk_lt vy; have lz := bk_lt vz
              go_wp2_with fail
              refine (M3.out _ HY.out.g).mono ?_
              rintro e w6 ⟨rfl, b6⟩
              replace HY := Lib.hid (HY.out.next b6)
              clear b6 v0 vx vy vz l0 lx ly lz
              cases u
              case false =>
                go_wp2_with fail
                refine (lives23_any _ HY.out.g).mono ?_
                rintro e w7 ⟨rfl, b7⟩
                have B7 := Lib.hid (HY.out.f.trans (b7.mono HY.out.f.size))
                clear b7
                go_wp2_with fail
                go_ret
                exact ⟨rfl, B7.out⟩
              case true =>
                obtain rfl : v = true := I2.out (by first | rfl | trivial) (by first | rfl | trivial)
                have v0 := HY.out.k0; have vx := HY.out.kx; have vy := HY.out.ky; have vz := HY.out.kz
                have l0 := bk_lt v0; have lx := bk_lt vx; have ly := bk_lt vy; have lz := bk_lt vz
                go_wp2_with fail
                refine (M4.out _ HY.out.g).mono ?_
                rintro e w6 ⟨rfl, b6⟩
                replace HY := Lib.hid (HY.out.next b6)
                clear b6 v0 vx vy vz l0 lx ly lz
                go_wp2_with fail
                refine (lives23_any _ HY.out.g).mono ?_
                rintro e w7 ⟨rfl, b7⟩
                have B7 := Lib.hid (HY.out.f.trans (b7.mono HY.out.f.size))
                clear b7
                go_wp2_with fail
                go_ret
                exact ⟨rfl, B7.out⟩
          · obtain rfl : y0 = false := by rw [← hy0]; simpa using h0
            go_upto_region 27 with fail
            have a3 : Below wr.heap.size wr (((wr.alloc (.cells x.row 33 (0, 0))).alloc (.cells y.row 33 (0, 0))).alloc (.cells z.row 33 (0, 0))) := by
              (repeat (first | exact Below.refl _ _ | assumption | refine Below.drew ?_ | refine bdrewN ?_ _ | refine Below.alloc ?_ (by first | omega | (simp <;> omega) | (simp only [World.size_alloc] <;> omega)) _ | refine below_setRow ?_ (by first | omega | (simp <;> omega)) _ | refine Below.setCell ?_ (by first | omega | (simp <;> omega)) _))
            have HY := Lib.hid (St.mk (x := x) (y := y) (z := z) (HX.out.f.trans (a3.mono HX.out.f.size)) (bk_keep a3 (bk_lt HX.out.k0) HX.out.k0) ((bk_alloc_past _ _ _ (by simp; omega)).trans ((bk_alloc_past _ _ _ (by simp)).trans (bk_alloc_at _ _ _ rfl))) ((bk_alloc_past _ _ _ (by simp)).trans (bk_alloc_at _ _ _ (by simp))) (bk_alloc_at _ _ _ (by simp)) (HX.out.g.up a3))
            clear a3 K9 HX HQ hqa v9 v7 v1 l9 l7 l1 r0 r1 r2 E1 HB HMI
            generalize ((wr.alloc (.cells x.row 33 (0, 0))).alloc (.cells y.row 33 (0, 0))).alloc (.cells z.row 33 (0, 0)) = w5 at *
            generalize wr.heap.size = s at *
            have I0 := Lib.hid (better_irr dst x)
            have I1 : Hid (better dst x y = true → better dst y x = false) := Lib.hid (better_asym dst x y)
            have I2 : Hid (better dst x y = true → better dst y z = true → better dst x z = true) := Lib.hid (better_trans dst x y z)
            have M0 := Lib.hid (sbetter_any dst hd x x); have M1 := Lib.hid (sbetter_any dst hd x y); have M2 := Lib.hid (sbetter_any dst hd y x); have M3 := Lib.hid (sbetter_any dst hd y z); have M4 := Lib.hid (sbetter_any dst hd x z)
            rw [I0.out] at M0
            generalize better dst x y = p at *; generalize better dst y x = q' at *; generalize better dst y z = u at *; generalize better dst x z = v at *
            clear I0
            have v0 := HY.out.k0; have vx := HY.out.kx; have vy := HY.out.ky; have vz := HY.out.kz
            have l0 := bk_lt v0; have lx := bk_lt vx; have ly := bk_lt vy; have lz := bk_lt vz
            go_wp2_with fail
            refine (M0.out _ HY.out.g).mono ?_
            rintro e w6 ⟨rfl, b6⟩
            replace HY := Lib.hid (HY.out.next b6)
            clear b6 v0 vx vy vz l0 lx ly lz
            have v0 := HY.out.k0; have vx := HY.out.kx; have vy := HY.out.ky; have vz := HY.out.kz
            have l0 := bk_lt v0; have lx := bk_lt vx; have ly := bk_lt vy; have lz := bk_lt vz
            go_wp2_with fail
            refine (M1.out _ HY.out.g).mono ?_
            rintro e w6 ⟨rfl, b6⟩
            replace HY := Lib.hid (HY.out.next b6)
            clear b6 v0 vx vy vz l0 lx ly lz
            cases p
            case false =>
              have v0 := HY.out.k0; have vx := HY.out.kx; have vy := HY.out.ky; have vz := HY.out.kz
              have l0 := bk_lt v0; have lx := bk_lt vx; have ly := bk_lt vy; have lz := bk_lt vz
              go_wp2_with fail
              refine (M1.out _ HY.out.g).mono ?_
              rintro e w6 ⟨rfl, b6⟩
              replace HY := Lib.hid (HY.out.next b6)
              clear b6 v0 vx vy vz l0 lx ly lz
              go_wp2_with fail
              refine (lives23_any _ HY.out.g).mono ?_
              rintro e w7 ⟨rfl, b7⟩
              have B7 := Lib.hid (HY.out.f.trans (b7.mono HY.out.f.size))
              clear b7
              go_wp2_with fail
              go_ret
              exact ⟨rfl, B7.out⟩
            case true =>
              obtain rfl : q' = false := I1.out rfl
              have v0 := HY.out.k0; have vx := HY.out.kx; have vy := HY.out.ky; have vz := HY.out.kz
              have l0 := bk_lt v0; have lx := bk_lt vx; have ly := bk_lt vy; have lz := bk_lt vz
              go_wp2_with fail
              refine (M2.out _ HY.out.g).mono ?_
              rintro e w6 ⟨rfl, b6⟩
              replace HY := Lib.hid (HY.out.next b6)
              clear b6 v0 vx vy vz l0 lx ly lz
              have v0 := HY.out.k0; have vx := HY.out.kx; have vy := HY.out.ky; have vz := HY.out.kz
              have l0 := bk_lt v0; have lx := bk_lt vx; have ly := bk_lt vy; have lz := bk_lt vz
              go_wp2_with fail
              refine (M1.out _ HY.out.g).mono ?_
              rintro e w6 ⟨rfl, b6⟩
              replace HY := Lib.hid (HY.out.next b6)
              clear b6 v0 vx vy vz l0 lx ly lz
              have v0 := HY.out.k0; have vx := HY.out.kx; have vy := HY.out.ky; have vz := HY.out.kz
              have l0 := bk_lt v0; have lx := bk_lt vx; have ly := bk_lt vy; have lz := bk_lt vz
              go_wp2_with fail
              refine (M3.out _ HY.out.g).mono ?_
              rintro e w6 ⟨rfl, b6⟩
              replace HY := Lib.hid (HY.out.next b6)
              clear b6 v0 vx vy vz l0 lx ly lz
              cases u
              case false =>
                go_wp2_with fail
                refine (lives23_any _ HY.out.g).mono ?_
                rintro e w7 ⟨rfl, b7⟩
                have B7 := Lib.hid (HY.out.f.trans (b7.mono HY.out.f.size))
                clear b7
                go_wp2_with fail
                go_ret
                exact ⟨rfl, B7.out⟩
              case true =>
                obtain rfl : v = true := I2.out (by first | rfl | trivial) (by first | rfl | trivial)
                have v0 := HY.out.k0; have vx := HY.out.kx; have vy := HY.out.ky; have vz := HY.out.kz
                have l0 := bk_lt v0; have lx := bk_lt vx; have ly := bk_lt vy; have lz := bk_lt vz
                go_wp2_with fail
                refine (M4.out _ HY.out.g).mono ?_
                rintro e w6 ⟨rfl, b6⟩
                replace HY := Lib.hid (HY.out.next b6)
                clear b6 v0 vx vy vz l0 lx ly lz
                go_wp2_with fail
                refine (lives23_any _ HY.out.g).mono ?_
                rintro e w7 ⟨rfl, b7⟩
                have B7 := Lib.hid (HY.out.f.trans (b7.mono HY.out.f.size))
                clear b7
                go_wp2_with fail
                go_ret
                exact ⟨rfl, B7.out⟩
    | succ j =>
      obtain rfl : z1 = (j : Int) := by omega
      clear hz
      have d1 : decide ((0 : Int) ≤ (j : Int)) = true := by simp
      have hjl : j < l.length := by have := HN.out; omega
      have hne : l ≠ [] := fun e => by rw [e] at hjl; simp at hjl
      obtain ⟨g, o, cc, t, fr, rfl, hg, kc, hcs⟩ := HX.out.c1 hne
      obtain ⟨h1, h2⟩ := hcs j hjl
      obtain ⟨x1, _, _⟩ := xt_sub h2 h1
      obtain ⟨cd, hcd⟩ : ∃ x, x = l[j] := ⟨_, rfl⟩
      rw [← hcd] at h2 x1
      have HCD := Lib.hid hcd
      have h1' : o + j * 18 + 16 ≤ cc.size := by omega
      have v7 := HX.out.k7
      have lg := bk_lt kc; have l7 := bk_lt v7
      have hjn : (j : Int) < (n : Int) := by omega
      have E1 := eqAddr cd.a r cd.h hrl
      obtain ⟨q, hq⟩ : ∃ q, q = (cd.a == r) := ⟨_, rfl⟩
      rw [← hq] at E1
      have HQ := Lib.hid hq
      clear hcs hcd hq
      go_upto_region 10 with fail
      refine wp_region_later (wr.heap.size) (by kernel_rfl) (by kernel_rfl) ?_
      repeat (go_big_quiet_step ((fail)))
      (first | refine wpQuiet_nil ?_ | (go_big_quiet_want; (try go_big_quiet_op); trace_state; fail))
      intro w6 hw'
      have q6 := later_elim hw'
      clear hw'
      replace HX := Lib.hid (HX.out.next q6)
      replace K9 := Lib.hid (bk_keep q6 (bk_lt K9.out) K9.out)
      have kc' := bk_keep q6 lg kc
      have lg' := bk_lt kc'
      have k9' := K9.out
      have l9 := bk_lt k9'
      clear q6 kc v7 lg l7 x1 h1' E1
      cases q
      case false =>
        clear k9' l9 kc' lg' h1 h2
        go_wp2_with fail
        refine ⟨⟨j, (j : Int) - 1, b, by omega, by go_num, rfl, K9, Lib.hid fun i hi hji he => ?_, HX⟩, by simp [intOf]⟩
        by_cases e : i = j
        · subst e
          rw [← HCD.out] at he
          have hq := HQ.out
          rw [he] at hq
          simp at hq
        · exact HJ.out i hi (by omega) he
      case true =>
        have h18 : o + j * 18 + 18 ≤ cc.size := h1
        go_wp2_with fail
        have HX2 := Lib.hid (HX.out.set h79 cd.row)
        refine ⟨⟨j, (j : Int) - 1, cd, by omega, by go_num, rfl, Lib.hid (by rw [bk_setRow_same, k9']; rfl), Lib.hid fun i hi hji he => by simpa using HQ.out.symm, HX2⟩, by simp [intOf]⟩
end Go.Proofs.YtcoonncedlbbkaaDoor
