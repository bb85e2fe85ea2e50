/- Selects, the document's: which is better. -/
import Derived.Test.YtcoonncedlbbkaaDoorX10
namespace Go.Proofs.YtcoonncedlbbkaaDoor
open Go.RowKit Ad
set_option maxRecDepth 100000
set_option maxHeartbeats 2000000
abbrev B4 (w : World) (dst : List UInt8) (a b : Cd) : World := ((w.alloc (.cells (List.map B dst).toArray 23)).alloc (.cells a.row 36)).alloc (.cells b.row 36)
def better2 (dst : List UInt8) (a b : Cd) : Bool :=
  if (a.a == dst) != (b.a == dst) then a.a == dst
  else if scope a.a < scope b.a then decide (scope dst ≤ scope a.a)
  else if scope b.a < scope a.a then decide (scope b.a < scope dst)
  else if a.d != b.d then b.d
  else if (label2 a.a == label2 dst) != (label2 b.a == label2 dst) then label2 a.a == label2 dst
  else if a.t != b.t then a.t
  else decide (min 64 (common b.a dst) < min 64 (common a.a dst))
/-- What the law's walk needs of three boxes. -/
structure Bx3 (n : Nat) (dst : List UInt8) (a b : Cd) (w0 w : World) : Prop where
  f : Below n w0 w
  k0 : bk w n = some (.cells (List.map B dst).toArray 23 (0, 0))
  k1 : bk w (n + 1) = some (.cells a.row 36 (0, 0))
  k2 : bk w (n + 2) = some (.cells b.row 36 (0, 0))
theorem Bx3.next {n : Nat} {dst : List UInt8} {a b : Cd} {w0 w w' : World} (h : Bx3 n dst a b w0 w) (hb : Below w.heap.size w w') : Bx3 n dst a b w0 w' := by
  have l0 := bk_lt h.k0; have l1 := bk_lt h.k1; have l2 := bk_lt h.k2
  exact ⟨h.f.trans (hb.mono (by omega)), bk_keep hb l0 h.k0, bk_keep hb l1 h.k1, bk_keep hb l2 h.k2⟩
theorem better23_any (dst : List UInt8) (hd : dst.length = 16) (a b : Cd) (w : World) :
    Calls Tryd.prog 13 #[av dst, .agg a.row, .agg b.row] w fun e w' => e = .returned (.bool (better2 dst a b)) ∧ Below w.heap.size w w' := by
  have E1 := eqAddr a.a dst a.h hd; have E2 := eqAddr b.a dst b.h hd
  have HB : Hid (better2 dst a b = if (a.a == dst) != (b.a == dst) then a.a == dst
  else if scope a.a < scope b.a then decide (scope dst ≤ scope a.a)
  else if scope b.a < scope a.a then decide (scope b.a < scope dst)
  else if a.d != b.d then b.d
  else if (label2 a.a == label2 dst) != (label2 b.a == label2 dst) then label2 a.a == label2 dst
  else if a.t != b.t then a.t
  else decide (min 64 (common b.a dst) < min 64 (common a.a dst))) := Lib.hid rfl
  have S1 := Lib.hid (scope23_any a.a a.h); have S2 := Lib.hid (scope23_any b.a b.h); have S3 := Lib.hid (scope23_any dst hd)
  have L1 := Lib.hid (label23_any a.a a.h); have L2 := Lib.hid (label23_any b.a b.h); have L3 := Lib.hid (label23_any dst hd)
  have M1 := Lib.hid (common23_any a.a dst a.h hd); have M2 := Lib.hid (common23_any b.a dst b.h hd)
  obtain ⟨res, hres⟩ : ∃ r, r = better2 dst a b := ⟨_, rfl⟩
  rw [← hres] at HB ⊢
  generalize (a.a == dst) = p at *; generalize (b.a == dst) = q at *
  generalize scope a.a = x at *; generalize scope b.a = y at *; generalize scope dst = d at *
  generalize label2 a.a = la at *; generalize label2 b.a = lb at *; generalize label2 dst = ld at *
  generalize min 64 (common a.a dst) = ca at *; generalize min 64 (common b.a dst) = cb at *
  have HX : Hid (Bx3 w.heap.size dst a b w (B4 w dst a b)) := Lib.hid ⟨by unfold B4; exact (by (repeat (first | exact Below.refl _ _ | assumption | refine Below.drew ?_ | refine bdrewN ?_ _ | refine Below.alloc ?_ (by first | omega | (simp <;> omega) | (simp only [World.size_alloc] <;> omega)) _ | refine below_setRow ?_ (by first | omega | (simp <;> omega)) _ | refine Below.setCell ?_ (by first | omega | (simp <;> omega)) _))), (bk_alloc_past _ _ _ (by simp; omega)).trans ((bk_alloc_past _ _ _ (by simp)).trans (bk_alloc_at _ _ _ rfl)), (bk_alloc_past _ _ _ (by simp)).trans (bk_alloc_at _ _ _ (by simp)), bk_alloc_at _ _ _ (by simp)⟩
  clear hres
  go_enter Tryd.func13, Tryd.ntmps13
  go_upto_region 1 with fail
  change Code.wp _ _ _ _ (B4 w dst a b)
  generalize B4 w dst a b = w1 at *
  have v0 := HX.out.k0; have v1 := HX.out.k1; have v2 := HX.out.k2
  have l0 := bk_lt v0; have l1 := bk_lt v1; have l2 := bk_lt v2
  have cd1 := (bk_cell v1 16).trans a.row_d; have ct1 := (bk_cell v1 17).trans a.row_t
  have cd2 := (bk_cell v2 16).trans b.row_d; have ct2 := (bk_cell v2 17).trans b.row_t
  refine wp_region_later (w1.heap.size) (by kernel_rfl) (by kernel_rfl) ?_
  repeat (go_big_quiet_step ((fail)))
  (first | refine wpQuiet_nil ?_ | (go_big_quiet_want; (try go_big_quiet_op); trace_state; fail))
  intro w2 hw'
  have q2 := later_elim hw'
  clear hw'
  replace HX := Lib.hid (HX.out.next q2)
  clear v0 v1 v2 l0 l1 l2 cd1 cd2 ct1 ct2
  clear q2
  by_cases hpq : p = q
  case neg =>
    have d1 : (p != q) = true := by simp [hpq]
    have e1 : (!(p == q)) = true := by simp [hpq]
    rw [e1]
    clear e1
    rw [if_pos d1] at HB
    have HR := HB
    clear HB d1 hpq
    have v0 := HX.out.k0; have v1 := HX.out.k1; have v2 := HX.out.k2
    have l0 := bk_lt v0; have l1 := bk_lt v1; have l2 := bk_lt v2
    have cd1 := (bk_cell v1 16).trans a.row_d; have ct1 := (bk_cell v1 17).trans a.row_t
    have cd2 := (bk_cell v2 16).trans b.row_d; have ct2 := (bk_cell v2 17).trans b.row_t
    go_wp2_with fail
    go_ret
    exact ⟨by rw [HR.out]; rfl, HX.out.f⟩
  subst hpq
  have d1 : (p != p) = false := by simp
  have e1 : (!(p == p)) = false := by simp
  rw [e1]
  clear e1
  rw [if_neg (by rw [d1]; decide)] at HB
  clear E1 E2
  have v0 := HX.out.k0; have v1 := HX.out.k1; have v2 := HX.out.k2
  have l0 := bk_lt v0; have l1 := bk_lt v1; have l2 := bk_lt v2
  have cd1 := (bk_cell v1 16).trans a.row_d; have ct1 := (bk_cell v1 17).trans a.row_t
  have cd2 := (bk_cell v2 16).trans b.row_d; have ct2 := (bk_cell v2 17).trans b.row_t
  go_wp2_with fail
  refine (S1.out _).mono ?_
  rintro e w3 ⟨rfl, b3⟩
  replace HX := Lib.hid (HX.out.next b3)
  clear v0 v1 v2 l0 l1 l2 cd1 cd2 ct1 ct2
  clear b3 S1
  have v0 := HX.out.k0; have v1 := HX.out.k1; have v2 := HX.out.k2
  have l0 := bk_lt v0; have l1 := bk_lt v1; have l2 := bk_lt v2
  have cd1 := (bk_cell v1 16).trans a.row_d; have ct1 := (bk_cell v1 17).trans a.row_t
  have cd2 := (bk_cell v2 16).trans b.row_d; have ct2 := (bk_cell v2 17).trans b.row_t
  go_wp2_with fail
  refine (S2.out _).mono ?_
  rintro e w4 ⟨rfl, b4⟩
  replace HX := Lib.hid (HX.out.next b4)
  clear v0 v1 v2 l0 l1 l2 cd1 cd2 ct1 ct2
  clear b4 S2
  have v0 := HX.out.k0; have v1 := HX.out.k1; have v2 := HX.out.k2
  have l0 := bk_lt v0; have l1 := bk_lt v1; have l2 := bk_lt v2
  have cd1 := (bk_cell v1 16).trans a.row_d; have ct1 := (bk_cell v1 17).trans a.row_t
  have cd2 := (bk_cell v2 16).trans b.row_d; have ct2 := (bk_cell v2 17).trans b.row_t
  go_wp2_with fail
  refine (S3.out _).mono ?_
  rintro e w5 ⟨rfl, b5⟩
  replace HX := Lib.hid (HX.out.next b5)
  clear v0 v1 v2 l0 l1 l2 cd1 cd2 ct1 ct2
  clear b5 S3
  by_cases hxy : x < y
  · have d2 : decide (x < y) = true := by simp; omega
    rw [if_pos hxy] at HB
    go_wp2_with fail
    go_ret
    exact ⟨by rw [HB.out]; first | rfl | simp, HX.out.f⟩
  have d2 : decide (x < y) = false := by simp; omega
  rw [if_neg hxy] at HB
  by_cases hyx : y < x
  · have d3 : decide (y < x) = true := by simp; omega
    rw [if_pos hyx] at HB
    go_wp2_with fail
    go_ret
    exact ⟨by rw [HB.out]; first | rfl | simp, HX.out.f⟩
  have d3 : decide (y < x) = false := by simp; omega
  rw [if_neg hyx] at HB
  by_cases hdd : a.d = b.d
  case neg =>
    have d4 : (a.d != b.d) = true := by simp [hdd]
    have e4 : (!(a.d == b.d)) = true := by simp [hdd]
    rw [if_pos d4] at HB
    have v0 := HX.out.k0; have v1 := HX.out.k1; have v2 := HX.out.k2
    have l0 := bk_lt v0; have l1 := bk_lt v1; have l2 := bk_lt v2
    have cd1 := (bk_cell v1 16).trans a.row_d; have ct1 := (bk_cell v1 17).trans a.row_t
    have cd2 := (bk_cell v2 16).trans b.row_d; have ct2 := (bk_cell v2 17).trans b.row_t
    go_wp2_with fail
    go_ret
    exact ⟨by rw [HB.out]; rfl, HX.out.f⟩
  have d4 : (a.d != b.d) = false := by simp [hdd]
  have e4 : (!(a.d == b.d)) = false := by simp [hdd]
  rw [if_neg (by rw [d4]; decide)] at HB
  have HDD := Lib.hid hdd
  clear hdd
  have v0 := HX.out.k0; have v1 := HX.out.k1; have v2 := HX.out.k2
  have l0 := bk_lt v0; have l1 := bk_lt v1; have l2 := bk_lt v2
  have cd1 := (bk_cell v1 16).trans a.row_d; have ct1 := (bk_cell v1 17).trans a.row_t
  have cd2 := (bk_cell v2 16).trans b.row_d; have ct2 := (bk_cell v2 17).trans b.row_t
  go_wp2_with fail
  refine (L3.out _).mono ?_
  rintro e w6 ⟨rfl, b6⟩
  replace HX := Lib.hid (HX.out.next b6)
  clear v0 v1 v2 l0 l1 l2 cd1 cd2 ct1 ct2
  clear b6 L3 d1 d2 d3 d4 e4 hxy hyx
  obtain ⟨u, hu⟩ : ∃ p, (la == ld) = p := ⟨_, rfl⟩
  obtain ⟨v, hv⟩ : ∃ p, (lb == ld) = p := ⟨_, rfl⟩
  have hu' : ((la : Int) == (ld : Int)) = u := by rw [← hu, Bool.eq_iff_iff]; simp; omega
  have hv' : ((lb : Int) == (ld : Int)) = v := by rw [← hv, Bool.eq_iff_iff]; simp; omega
  rw [hu, hv] at HB
  have v0 := HX.out.k0; have v1 := HX.out.k1; have v2 := HX.out.k2
  have l0 := bk_lt v0; have l1 := bk_lt v1; have l2 := bk_lt v2
  have cd1 := (bk_cell v1 16).trans a.row_d; have ct1 := (bk_cell v1 17).trans a.row_t
  have cd2 := (bk_cell v2 16).trans b.row_d; have ct2 := (bk_cell v2 17).trans b.row_t
  go_upto_region 13 with fail
  refine wp_region_later (w6.heap.size) (by kernel_rfl) (by kernel_rfl) ?_
  repeat (go_big_quiet_step (((rename_i xq; first | (with_reducible exact later_call xq (Nat.le_refl _) (L1.out xq.w)) | (with_reducible exact later_call xq (Nat.le_refl _) (L2.out xq.w))))))
  (first | refine wpQuiet_nil ?_ | (go_big_quiet_want; (try go_big_quiet_op); trace_state; fail))
  intro w7 hw'
  have q7 := later_elim hw'
  clear hw'
  replace HX := Lib.hid (HX.out.next q7)
  clear v0 v1 v2 l0 l1 l2 cd1 cd2 ct1 ct2
  clear q7 L2
  by_cases huv : u = v
  case neg =>
    have d5 : (u != v) = true := by simp [huv]
    have e5 : (!(u == v)) = true := by simp [huv]
    rw [if_pos d5] at HB
    rw [e5]
    have v0 := HX.out.k0; have v1 := HX.out.k1; have v2 := HX.out.k2
    have l0 := bk_lt v0; have l1 := bk_lt v1; have l2 := bk_lt v2
    have cd1 := (bk_cell v1 16).trans a.row_d; have ct1 := (bk_cell v1 17).trans a.row_t
    have cd2 := (bk_cell v2 16).trans b.row_d; have ct2 := (bk_cell v2 17).trans b.row_t
    go_wp2_with fail
    refine (L1.out _).mono ?_
    rintro e w8 ⟨rfl, b8⟩
    replace HX := Lib.hid (HX.out.next b8)
    clear v0 v1 v2 l0 l1 l2 cd1 cd2 ct1 ct2
    clear b8 L1
    go_wp2_with fail
    go_ret
    exact ⟨by rw [HB.out]; rfl, HX.out.f⟩
  have d5 : (u != v) = false := by simp [huv]
  have e5 : (!(u == v)) = false := by simp [huv]
  rw [if_neg (by rw [d5]; decide)] at HB
  rw [e5]
  by_cases htt : a.t = b.t
  case neg =>
    have d6 : (a.t != b.t) = true := by simp [htt]
    have e6 : (!(a.t == b.t)) = true := by simp [htt]
    rw [if_pos d6] at HB
    have v0 := HX.out.k0; have v1 := HX.out.k1; have v2 := HX.out.k2
    have l0 := bk_lt v0; have l1 := bk_lt v1; have l2 := bk_lt v2
    have cd1 := (bk_cell v1 16).trans a.row_d; have ct1 := (bk_cell v1 17).trans a.row_t
    have cd2 := (bk_cell v2 16).trans b.row_d; have ct2 := (bk_cell v2 17).trans b.row_t
    go_wp2_with fail
    go_ret
    exact ⟨by rw [HB.out]; rfl, HX.out.f⟩
  have d6 : (a.t != b.t) = false := by simp [htt]
  have e6 : (!(a.t == b.t)) = false := by simp [htt]
  rw [if_neg (by rw [d6]; decide)] at HB
  have HTT := Lib.hid htt
  clear htt
  have v0 := HX.out.k0; have v1 := HX.out.k1; have v2 := HX.out.k2
  have l0 := bk_lt v0; have l1 := bk_lt v1; have l2 := bk_lt v2
  have cd1 := (bk_cell v1 16).trans a.row_d; have ct1 := (bk_cell v1 17).trans a.row_t
  have cd2 := (bk_cell v2 16).trans b.row_d; have ct2 := (bk_cell v2 17).trans b.row_t
  go_upto_region 17 with fail
  refine wp_region_later (w7.heap.size) (by kernel_rfl) (by kernel_rfl) ?_
  repeat (go_big_quiet_step (((rename_i xq; first | (with_reducible exact later_call xq (Nat.le_refl _) (M1.out xq.w)) | (with_reducible exact later_call xq (Nat.le_refl _) (M2.out xq.w))))))
  (first | refine wpQuiet_nil ?_ | (go_big_quiet_want; (try go_big_quiet_op); trace_state; fail))
  intro w8 hw'
  have q8 := later_elim hw'
  clear hw'
  replace HX := Lib.hid (HX.out.next q8)
  clear v0 v1 v2 l0 l1 l2 cd1 cd2 ct1 ct2
  clear q8
  go_wp2_with fail
  go_ret
  exact ⟨by rw [HB.out]; first | rfl | simp, HX.out.f⟩
end Go.Proofs.YtcoonncedlbbkaaDoor
