/- Infos: the document's request. -/
import Derived.Test.YtfldoihindbdmaaG2
import Derived.Test.YtfldoihindbdmaaF12
namespace Go.Proofs.Ytfldoihindbdmaa
open Go.RowKit
set_option maxRecDepth 100000
set_option maxHeartbeats 2000000
theorem rshare_any (t : Nat) (r : Int) (w : World) (ht : t ≤ 3960000) (hr : -100 ≤ r ∧ r ≤ 100) : Calls Try.prog 76 #[.int .u64 (t : Int), .int .i64 r] w fun e w' => e = .returned (.int .i64 (((t : Int) * r).tdiv 1000)) ∧ w = w' := by
  have h1 : (t : Int) * r ≤ (t : Int) * 100 := Int.mul_le_mul_of_nonneg_left hr.2 (by omega)
  have h2 : (t : Int) * (-100) ≤ (t : Int) * r := Int.mul_le_mul_of_nonneg_left hr.1 (by omega)
  have w0 : wrap64 (t : Int) = (t : Int) := by unfold wrap64; omega
  obtain ⟨z, hz⟩ : ∃ z, z = (t : Int) * r := ⟨_, rfl⟩
  rw [← hz] at h1 h2 ⊢
  have w1 : wrap64 ((t : Int) * r) = z := by rw [← hz]; unfold wrap64; omega
  obtain ⟨y, hy⟩ : ∃ y, y = z.tdiv 1000 := ⟨_, rfl⟩
  rw [← hy]
  rcases Int.lt_or_le z 0 with hn | hn
  · obtain ⟨m, hm⟩ : ∃ m : Int, m = -z := ⟨_, rfl⟩
    obtain ⟨q, hq⟩ : ∃ q : Int, q = m / 1000 := ⟨_, rfl⟩
    have d1 : decide (z < 0) = true := by simp; omega
    have w2 : wrap64 (-z) = m := by unfold wrap64; omega
    have w3 : m.tdiv 1000 = q := by rw [Int.tdiv_eq_ediv_of_nonneg (by omega), hq]
    have w4 : wrap64 q = q := by unfold wrap64; omega
    have w5 : wrap64 (-q) = y := by
      have : y = -q := by rw [hy, show z = -m by omega, Int.neg_tdiv, w3]
      unfold wrap64; omega
    have w6 : -q = y := by rw [hy, show z = -m by omega, Int.neg_tdiv, w3]
    have w7 : -z = m := hm.symm
    have w9 : wrap64 y = y := by rw [← w6]; unfold wrap64; omega
    have w8 : wrap64 m = m := by unfold wrap64; omega
    have HQ := Lib.hid hq
    clear hz hy hm hq h1 h2 hn
    go_enter Try.func76, Try.ntmps76
    go_wp2_with fail
    go_ret
    refine ⟨?_, rfl⟩
    show Ending.returned (Value.int IntKind.i64 (wrap64 y)) = _
    rw [w9]
  · have d1 : decide (z < 0) = false := by simp; omega
    have w3 : z.tdiv 1000 = y := hy.symm
    have w5 : wrap64 y = y := by rw [hy, Int.tdiv_eq_ediv_of_nonneg hn]; unfold wrap64; omega
    clear hz hy h1 h2 hn
    go_enter Try.func76, Try.ntmps76
    go_wp2_with fail
    go_ret
    refine ⟨?_, rfl⟩
    show Ending.returned (Value.int IntKind.i64 (wrap64 y)) = _
    rw [w5]
theorem nb2 (k : Nat) : nb 2 k = [UInt8.ofNat (k / 256), UInt8.ofNat k] := by simp [nb, List.range_succ]
theorem rtwo_any (n : Nat) (w : World) (hn : n < 65536) : Calls Try.prog 82 #[.int .u64 (n : Int)] w fun e w' => ∃ g, e = .returned (.slice (some ⟨g, 0, none⟩) 2 2) ∧ w.heap.size ≤ g ∧ Rd w' w'.heap.size (some ⟨g, 0, none⟩) (nb 2 n) ∧ Below w.heap.size w w' := by
  rw [nb2]
  obtain ⟨x, hx⟩ : ∃ x, x = UInt8.ofNat (n / 256) := ⟨_, rfl⟩
  obtain ⟨y, hy⟩ : ∃ x, x = UInt8.ofNat n := ⟨_, rfl⟩
  rw [← hx, ← hy]
  obtain ⟨q, hq⟩ : ∃ q, q = n / 256 := ⟨_, rfl⟩
  have e0 : (n : Int) / 256 = (q : Int) := by omega
  have e0' : (n : Int).tdiv 256 = (q : Int) := by rw [Int.tdiv_eq_ediv_of_nonneg (by omega)]; omega
  have hxx := x.toNat_lt
  have hyy := y.toNat_lt
  have e1 : (q : Int) % 256 = (x.toNat : Int) := by rw [hx, UInt8.toNat_ofNat']; omega
  have e1' : (q : Int).tmod 256 = (x.toNat : Int) := by rw [Int.tmod_eq_emod_of_nonneg (by omega)]; exact e1
  have e2 : (n : Int) % 256 = (y.toNat : Int) := by rw [hy, UInt8.toNat_ofNat']; omega
  have e2' : (n : Int).tmod 256 = (y.toNat : Int) := by rw [Int.tmod_eq_emod_of_nonneg (by omega)]; exact e2
  have e5 : IntKind.u64.wrap (q : Int) = (q : Int) := by rw [IntKind.wrap_u64]; omega
  have e3 : (x.toNat : Int) % 256 = (x.toNat : Int) := by omega
  have e4 : (y.toNat : Int) % 256 = (y.toNat : Int) := by omega
  have b1 : Below w.heap.size w (w.alloc (.cells #[.int .u8 (x.toNat : Int), .int .u8 (y.toNat : Int)] 5)) := (by (repeat (first | exact Below.refl _ _ | assumption | refine Below.drew ?_ | refine bdrewN ?_ _ | refine Below.alloc ?_ (by first | omega | (simp <;> omega) | (simp only [World.size_alloc] <;> omega)) _ | refine below_setRow ?_ (by first | omega | (simp <;> omega)) _ | refine Below.setCell ?_ (by first | omega | (simp <;> omega)) _)))
  have FIN : Hid (Rd (w.alloc (.cells #[.int .u8 (x.toNat : Int), .int .u8 (y.toNat : Int)] 5)) (w.alloc (.cells #[.int .u8 (x.toNat : Int), .int .u8 (y.toNat : Int)] 5)).heap.size (some ⟨w.heap.size, 0, none⟩) [x, y] ∧ Below w.heap.size w (w.alloc (.cells #[.int .u8 (x.toNat : Int), .int .u8 (y.toNat : Int)] 5))) := Lib.hid ⟨Rd.lit w [x, y] 5, b1⟩
  clear hx hy hq hn b1 hxx hyy
  go_enter Try.func82, Try.ntmps82
  go_wp2_with fail
  go_ret
  exact ⟨_, rfl, Nat.le_refl _, FIN.out.1, FIN.out.2⟩
theorem rmac_rd {w : World} {x : Nat} {c : Cl} (h : RClB w x c) : Rd w w.heap.size (some ⟨x, 0, none⟩) [c.a0, c.a1, c.a2, c.a3, c.a4, c.a5] := fun _ => ⟨x, 0, rfl, bk_lt h.box, fun j hj => by
  rw [bk_cell h.box, Nat.zero_add]
  match j, hj with
  | 0, _ => rfl
  | 1, _ => rfl
  | 2, _ => rfl
  | 3, _ => rfl
  | 4, _ => rfl
  | 5, _ => rfl⟩
theorem reqB_flat (c : Cl) (now : Nat) : reqB c now = ((((([11] ++ nb 3 c.id) ++ [0, 8, 0, 2]) ++ elB c now) ++ [0, 1, 0, 10, 0, 3, 0, 1]) ++ [c.a0, c.a1, c.a2, c.a3, c.a4, c.a5]) ++ [0, 6, 0, 6, 0, 23, 0, 24, 0, 32] := by
  unfold reqB reqM reqA opB
  have h1 : (elB c now).length = 2 := by unfold elB; simp [nb_length]
  rw [h1]
  simp [nb2]
/-- What is held between two appends. -/
structure Rq (w0 w : World) (y : Nat) (c : Cl) (v : Value) (l : List UInt8) (n : Nat) : Prop where
  cl : RClB w y c
  ow : w.ownsRow w0.heap.size 5 1 v n (l.map B)
  bl : Below w0.heap.size w0 w
theorem Rq.app {w0 w w' : World} {y n k : Nat} {c : Cl} {v v' : Value} {l m : List UInt8} (h : Rq w0 w y c v l n) (hy : y < w0.heap.size) (ho : w'.ownsRow w0.heap.size 5 1 v' (n + m.length) (l.map B ++ m.map B)) (hg : w.grownBy w' v.ownBlock) (hm : m.length = k) : Rq w0 w' y c v' (l ++ m) (n + k) := by
  have b := h.bl.grown hg h.bl.size (fun k hk => (h.ow.lt k hk).1)
  refine ⟨?_, by rw [← hm, List.map_append]; exact ho, b⟩
  have hb : bk w' y = bk w y := hg.block y (bk_lt h.cl.box) (fun e => by have := (h.ow.lt y e.symm).1; omega)
  exact ⟨hb.trans h.cl.box, h.cl.n64, h.cl.t64, h.cl.i24, h.cl.s64, h.cl.w22⟩
theorem Rq.below {w0 w w' : World} {y n : Nat} {c : Cl} {v : Value} {l : List UInt8} (h : Rq w0 w y c v l n) (hb : Below w.heap.size w w') : Rq w0 w' y c v l n :=
  ⟨h.cl.below hb, own_turnS h.ow fun k hk => hb.block k (h.ow.lt k hk).2, h.bl.trans (hb.mono h.bl.size)⟩
theorem rrequest_any (y : Nat) (c : Cl) (w : World) (h : RClB w y c) (hs : c.since ≤ c.tm) :
    Calls Try.prog 75 #[.pointer (some ⟨y, 0, none⟩)] w fun e w' => ∃ A' c', e = .returned (.slice A' 34 c') ∧ Rd w' w'.heap.size A' (reqB c c.tm) ∧ (∀ b o, A' = some ⟨b, o, none⟩ → w.heap.size ≤ b) ∧ Below w.heap.size w w' := by
  have HC := Lib.hid h
  have c10 := bk_cell h.box 10
  simp [rcC] at c10
  have ly := bk_lt h.box
  have HLY := Lib.hid ly
  obtain ⟨D, hD⟩ : ∃ D, D = c.id := ⟨_, rfl⟩
  rw [← hD] at c10
  obtain ⟨x1, hx1⟩ : ∃ x, x = UInt8.ofNat (D / 65536) := ⟨_, rfl⟩
  obtain ⟨x2, hx2⟩ : ∃ x, x = UInt8.ofNat (D / 256) := ⟨_, rfl⟩
  obtain ⟨x3, hx3⟩ : ∃ x, x = UInt8.ofNat D := ⟨_, rfl⟩
  have hD24 : D < 16777216 := by rw [hD]; exact h.i24
  obtain ⟨q1, hq1⟩ : ∃ q, q = D / 65536 := ⟨_, rfl⟩
  obtain ⟨q2, hq2⟩ : ∃ q, q = D / 256 := ⟨_, rfl⟩
  have e1 : (D : Int) / 65536 = (q1 : Int) := by omega
  have e2 : (D : Int) / 256 = (q2 : Int) := by omega
  have f1 : (q1 : Int) % 256 = (x1.toNat : Int) := by rw [hx1, UInt8.toNat_ofNat']; omega
  have f2 : (q2 : Int) % 256 = (x2.toNat : Int) := by rw [hx2, UInt8.toNat_ofNat']; omega
  have f3 : (D : Int) % 256 = (x3.toNat : Int) := by rw [hx3, UInt8.toNat_ofNat']; omega
  have g1 : IntKind.u8.wrap (q1 : Int) = (x1.toNat : Int) := by rw [IntKind.wrap_u8]; exact f1
  have g2 : IntKind.u8.wrap (q2 : Int) = (x2.toNat : Int) := by rw [IntKind.wrap_u8]; exact f2
  have g3 : IntKind.u8.wrap (D : Int) = (x3.toNat : Int) := by rw [IntKind.wrap_u8]; exact f3
  have HHD : Hid ([11] ++ nb 3 c.id = [11, x1, x2, x3]) := Lib.hid (by rw [nb3, ← hD, ← hx1, ← hx2, ← hx3]; rfl)
  have HS := Lib.hid hs
  clear h hD hx1 hx2 hx3 hq1 hq2 hs
  go_enter Try.func75, Try.ntmps75
  go_upto_region 1 with fail
  go_region
  have b1 : Below w.heap.size w ((w.alloc (.cells #[.int .u8 11, .int .u8 (x1.toNat : Int), .int .u8 (x2.toNat : Int), .int .u8 (x3.toNat : Int)] 5)).drew) := (by (repeat (first | exact Below.refl _ _ | assumption | refine Below.drew ?_ | refine bdrewN ?_ _ | refine Below.alloc ?_ (by first | omega | (simp <;> omega) | (simp only [World.size_alloc] <;> omega)) _ | refine below_setRow ?_ (by first | omega | (simp <;> omega)) _ | refine Below.setCell ?_ (by first | omega | (simp <;> omega)) _)))
  have o1 : ((w.alloc (.cells #[.int .u8 11, .int .u8 (x1.toNat : Int), .int .u8 (x2.toNat : Int), .int .u8 (x3.toNat : Int)] 5)).drew).ownsRow w.heap.size 5 1 (.slice (some ⟨w.heap.size, 0, none⟩) 4 4) 4 ([11, x1, x2, x3].map B) := own_lit (w := w) [11, x1, x2, x3] (by simp)
  have Q1 : Hid (Rq w ((w.alloc (.cells #[.int .u8 11, .int .u8 (x1.toNat : Int), .int .u8 (x2.toNat : Int), .int .u8 (x3.toNat : Int)] 5)).drew) y c (.slice (some ⟨w.heap.size, 0, none⟩) 4 4) ([11] ++ nb 3 c.id) 4) := Lib.hid ⟨HC.out.below b1, by rw [HHD.out]; exact o1, b1⟩
  clear b1 o1 HC c10 ly e1 e2 f1 f2 f3 g1 g2 g3 HHD
  generalize hv1 : (Value.slice (some ⟨w.heap.size, 0, none⟩) 4 4) = v1 at *
  generalize ((w.alloc (.cells #[.int .u8 11, .int .u8 (x1.toNat : Int), .int .u8 (x2.toNat : Int), .int .u8 (x3.toNat : Int)] 5)).drew) = w1 at *
  obtain ⟨A1, k1, rfl, _⟩ := own_slS Q1.out.ow
  clear hv1
  have c9 := bk_cell Q1.out.cl.box 9
  have c11 := bk_cell Q1.out.cl.box 11
  simp [rcC] at c9 c11
  have ly := bk_lt Q1.out.cl.box
  obtain ⟨T, hT⟩ : ∃ T, T = c.tm := ⟨_, rfl⟩
  obtain ⟨S, hS⟩ : ∃ S, S = c.since := ⟨_, rfl⟩
  rw [← hT] at c9
  rw [← hS] at c11
  obtain ⟨d, hd⟩ : ∃ d, d = T - S := ⟨_, rfl⟩
  obtain ⟨p, hp⟩ : ∃ p, p = d / 10 := ⟨_, rfl⟩
  have htf := Q1.out.cl.t64
  have m1 : (T : Int) - (S : Int) = (d : Int) := by have := HS.out; omega
  have m2 : (d : Int) / 10 = (p : Int) := by omega
  have m2' : (d : Int).tdiv 10 = (p : Int) := by rw [Int.tdiv_eq_ediv_of_nonneg (by omega)]; omega
  have hd64 : d < 18446744073709551616 := by unfold far at htf; omega
  have m3 : (d : Int) % 18446744073709551616 = (d : Int) := by omega
  have m4 : (p : Int) % 18446744073709551616 = (p : Int) := by omega
  have m5 : IntKind.u64.wrap (d : Int) = (d : Int) := by rw [IntKind.wrap_u64]; exact m3
  have m6 : IntKind.u64.wrap ((T : Int) - (S : Int)) = (d : Int) := by rw [m1]; exact m5
  have m7 : IntKind.u64.wrap (p : Int) = (p : Int) := by rw [IntKind.wrap_u64]; exact m4
  have HE : Hid (elB c c.tm = nb 2 (min p 65535)) := Lib.hid (by unfold elB; rw [hp, hd, hT, hS])
  clear hT hS hd hp htf hd64
  go_upto_region 2 with fail
  go_region
  have b2 : Below w1.heap.size w1 w1.drew := (by (repeat (first | exact Below.refl _ _ | assumption | refine Below.drew ?_ | refine bdrewN ?_ _ | refine Below.alloc ?_ (by first | omega | (simp <;> omega) | (simp only [World.size_alloc] <;> omega)) _ | refine below_setRow ?_ (by first | omega | (simp <;> omega)) _ | refine Below.setCell ?_ (by first | omega | (simp <;> omega)) _)))
  have Q2 := Lib.hid (Q1.out.below b2)
  clear Q1 b2 c9 c11 ly m1 m2 m2' m3 m5 m6 HS
  generalize w1.drew = w2 at *
  obtain ⟨E, hE⟩ : ∃ E, E = min p 65535 := ⟨_, rfl⟩
  rw [← hE] at HE
  by_cases hp : 65535 < p
  · have d1 : decide ((65535 : Int) < (p : Int)) = true := by simp; omega
    have d1' : decide (65535 < p) = true := by simp; omega
    obtain rfl : E = 65535 := by omega
    replace HE := Lib.hid (And.intro HE.out (show 65535 < 65536 by decide))
    clear hp hE m4 m7
    go_upto_region 5 with fail
    clear d1 d1'
    obtain ⟨E, hE⟩ : ∃ E : Nat, E = 65535 := ⟨_, rfl⟩
    have hE' : (65535 : Int) = (E : Int) := by omega
    rw [hE']
    rw [← hE] at HE
    clear hE hE'
    have bA : Below w2.heap.size w2 (w2.alloc (.cells #[.int .u8 0, .int .u8 8, .int .u8 0, .int .u8 2] 5)) := (by (repeat (first | exact Below.refl _ _ | assumption | refine Below.drew ?_ | refine bdrewN ?_ _ | refine Below.alloc ?_ (by first | omega | (simp <;> omega) | (simp only [World.size_alloc] <;> omega)) _ | refine below_setRow ?_ (by first | omega | (simp <;> omega)) _ | refine Below.setCell ?_ (by first | omega | (simp <;> omega)) _)))
    have QA := Lib.hid (Q2.out.below bA)
    have RA : Hid (Rd (w2.alloc (.cells #[.int .u8 0, .int .u8 8, .int .u8 0, .int .u8 2] 5)) (w2.alloc (.cells #[.int .u8 0, .int .u8 8, .int .u8 0, .int .u8 2] 5)).heap.size (some ⟨w2.heap.size, 0, none⟩) [0, 8, 0, 2]) := Lib.hid (Rd.lit w2 [0, 8, 0, 2] 5)
    clear bA Q2
    go_wp2_with (at_builtin; refine append_rd rfl _ _ rfl w.heap.size (.slice A1 4 k1) 4 (List.map B ([11] ++ nb 3 c.id)) rfl QA.out.ow (some ⟨w2.heap.size, 0, none⟩) [0, 8, 0, 2] 4 rfl (fun h => by cases h) RA.out (by simp) QA.out.bl.size ?_)
    intro v' w3 ho3 hg3
    have Q3 : Hid (Rq w w3 y c v' (([11] ++ nb 3 c.id) ++ [0, 8, 0, 2]) 8) := Lib.hid (QA.out.app HLY.out ho3 hg3 rfl)
    clear QA RA ho3 hg3
    obtain ⟨A3, k3, rfl, _⟩ := own_slS Q3.out.ow
    have C2 := Lib.hid (rtwo_any E w3 (by have := HE.out.2; omega))
    go_wp2_with fail
    refine C2.out.mono ?_
    rintro e w4 ⟨g4, rfl, hg4, r4, b4⟩
    have Q4 := Lib.hid (Q3.out.below b4)
    have R4 := Lib.hid r4
    have HE2 := HE.out.1
    clear C2 hg4 r4 b4 Q3
    go_wp2_with (at_builtin; refine append_rd rfl _ _ rfl w.heap.size (.slice A3 8 k3) 8 (List.map B (([11] ++ nb 3 c.id) ++ [0, 8, 0, 2])) rfl Q4.out.ow (some ⟨g4, 0, none⟩) (nb 2 E) 2 (by rw [nb_length]; rfl) (fun h => by cases h) R4.out (by rw [nb_length]; decide) Q4.out.bl.size ?_)
    intro v' w5 ho5 hg5
    have Q5 : Hid (Rq w w5 y c v' ((([11] ++ nb 3 c.id) ++ [0, 8, 0, 2]) ++ elB c c.tm) 10) := Lib.hid (by rw [HE2]; exact Q4.out.app HLY.out ho5 hg5 (nb_length 2 E))
    clear Q4 R4 ho5 hg5 HE2
    obtain ⟨A5, k5, rfl, _⟩ := own_slS Q5.out.ow
    have bA : Below w5.heap.size w5 (w5.alloc (.cells #[.int .u8 0, .int .u8 1, .int .u8 0, .int .u8 10, .int .u8 0, .int .u8 3, .int .u8 0, .int .u8 1] 5)) := (by (repeat (first | exact Below.refl _ _ | assumption | refine Below.drew ?_ | refine bdrewN ?_ _ | refine Below.alloc ?_ (by first | omega | (simp <;> omega) | (simp only [World.size_alloc] <;> omega)) _ | refine below_setRow ?_ (by first | omega | (simp <;> omega)) _ | refine Below.setCell ?_ (by first | omega | (simp <;> omega)) _)))
    have QA := Lib.hid (Q5.out.below bA)
    have RA : Hid (Rd (w5.alloc (.cells #[.int .u8 0, .int .u8 1, .int .u8 0, .int .u8 10, .int .u8 0, .int .u8 3, .int .u8 0, .int .u8 1] 5)) (w5.alloc (.cells #[.int .u8 0, .int .u8 1, .int .u8 0, .int .u8 10, .int .u8 0, .int .u8 3, .int .u8 0, .int .u8 1] 5)).heap.size (some ⟨w5.heap.size, 0, none⟩) [0, 1, 0, 10, 0, 3, 0, 1]) := Lib.hid (Rd.lit w5 [0, 1, 0, 10, 0, 3, 0, 1] 5)
    clear bA Q5
    go_wp2_with (at_builtin; refine append_rd rfl _ _ rfl w.heap.size (.slice A5 10 k5) 10 (List.map B ((([11] ++ nb 3 c.id) ++ [0, 8, 0, 2]) ++ elB c c.tm)) rfl QA.out.ow (some ⟨w5.heap.size, 0, none⟩) [0, 1, 0, 10, 0, 3, 0, 1] 8 rfl (fun h => by cases h) RA.out (by simp) QA.out.bl.size ?_)
    intro v' w6 ho6 hg6
    have Q6 : Hid (Rq w w6 y c v' (((([11] ++ nb 3 c.id) ++ [0, 8, 0, 2]) ++ elB c c.tm) ++ [0, 1, 0, 10, 0, 3, 0, 1]) 18) := Lib.hid (QA.out.app HLY.out ho6 hg6 rfl)
    clear QA RA ho6 hg6
    obtain ⟨A6, k6, rfl, _⟩ := own_slS Q6.out.ow
    have ly := bk_lt Q6.out.cl.box
    go_wp2_with (at_builtin; refine append_rd rfl _ _ rfl w.heap.size (.slice A6 18 k6) 18 (List.map B (((([11] ++ nb 3 c.id) ++ [0, 8, 0, 2]) ++ elB c c.tm) ++ [0, 1, 0, 10, 0, 3, 0, 1])) rfl Q6.out.ow (some ⟨y, 0, none⟩) [c.a0, c.a1, c.a2, c.a3, c.a4, c.a5] 6 rfl (fun h => by cases h) (rmac_rd Q6.out.cl) (by simp) Q6.out.bl.size ?_)
    intro v' w7 ho7 hg7
    have Q7 : Hid (Rq w w7 y c v' ((((([11] ++ nb 3 c.id) ++ [0, 8, 0, 2]) ++ elB c c.tm) ++ [0, 1, 0, 10, 0, 3, 0, 1]) ++ [c.a0, c.a1, c.a2, c.a3, c.a4, c.a5]) 24) := Lib.hid (Q6.out.app HLY.out ho7 hg7 rfl)
    clear Q6 ho7 hg7 ly
    obtain ⟨A7, k7, rfl, _⟩ := own_slS Q7.out.ow
    have bA : Below w7.heap.size w7 (w7.alloc (.cells #[.int .u8 0, .int .u8 6, .int .u8 0, .int .u8 6, .int .u8 0, .int .u8 23, .int .u8 0, .int .u8 24, .int .u8 0, .int .u8 32] 5)) := (by (repeat (first | exact Below.refl _ _ | assumption | refine Below.drew ?_ | refine bdrewN ?_ _ | refine Below.alloc ?_ (by first | omega | (simp <;> omega) | (simp only [World.size_alloc] <;> omega)) _ | refine below_setRow ?_ (by first | omega | (simp <;> omega)) _ | refine Below.setCell ?_ (by first | omega | (simp <;> omega)) _)))
    have QA := Lib.hid (Q7.out.below bA)
    have RA : Hid (Rd (w7.alloc (.cells #[.int .u8 0, .int .u8 6, .int .u8 0, .int .u8 6, .int .u8 0, .int .u8 23, .int .u8 0, .int .u8 24, .int .u8 0, .int .u8 32] 5)) (w7.alloc (.cells #[.int .u8 0, .int .u8 6, .int .u8 0, .int .u8 6, .int .u8 0, .int .u8 23, .int .u8 0, .int .u8 24, .int .u8 0, .int .u8 32] 5)).heap.size (some ⟨w7.heap.size, 0, none⟩) [0, 6, 0, 6, 0, 23, 0, 24, 0, 32]) := Lib.hid (Rd.lit w7 [0, 6, 0, 6, 0, 23, 0, 24, 0, 32] 5)
    clear bA Q7
    go_wp2_with (at_builtin; refine append_rd rfl _ _ rfl w.heap.size (.slice A7 24 k7) 24 (List.map B ((((([11] ++ nb 3 c.id) ++ [0, 8, 0, 2]) ++ elB c c.tm) ++ [0, 1, 0, 10, 0, 3, 0, 1]) ++ [c.a0, c.a1, c.a2, c.a3, c.a4, c.a5])) rfl QA.out.ow (some ⟨w7.heap.size, 0, none⟩) [0, 6, 0, 6, 0, 23, 0, 24, 0, 32] 10 rfl (fun h => by cases h) RA.out (by simp) QA.out.bl.size ?_)
    intro v' w8 ho8 hg8
    have Q8 : Hid (Rq w w8 y c v' (((((([11] ++ nb 3 c.id) ++ [0, 8, 0, 2]) ++ elB c c.tm) ++ [0, 1, 0, 10, 0, 3, 0, 1]) ++ [c.a0, c.a1, c.a2, c.a3, c.a4, c.a5]) ++ [0, 6, 0, 6, 0, 23, 0, 24, 0, 32]) 34) := Lib.hid (QA.out.app HLY.out ho8 hg8 rfl)
    clear QA RA ho8 hg8
    obtain ⟨A8, k8, rfl, _⟩ := own_slS Q8.out.ow
    go_wp2_with fail
    go_ret
    have h8 := Q8.out
    rw [← reqB_flat] at h8
    have hl := (reqB_len c c.tm).2.2
    obtain ⟨A9, k9, e9, hR9, _, _⟩ := Rd.of_own h8.ow hl.symm
    rw [hl] at e9
    cases e9
    exact ⟨A8, k8, rfl, hR9, fun b o e => (h8.ow.lt b (by rw [e]; rfl)).1, h8.bl⟩
  · have d1 : decide ((65535 : Int) < (p : Int)) = false := by simp; omega
    have d1' : decide (65535 < p) = false := by simp; omega
    have hEp : E = p := by omega
    clear hE
    subst hEp
    replace HE := Lib.hid (And.intro HE.out (show E < 65536 by omega))
    clear hp m4 m7
    go_upto_region 5 with fail
    clear d1 d1'
    have bA : Below w2.heap.size w2 (w2.alloc (.cells #[.int .u8 0, .int .u8 8, .int .u8 0, .int .u8 2] 5)) := (by (repeat (first | exact Below.refl _ _ | assumption | refine Below.drew ?_ | refine bdrewN ?_ _ | refine Below.alloc ?_ (by first | omega | (simp <;> omega) | (simp only [World.size_alloc] <;> omega)) _ | refine below_setRow ?_ (by first | omega | (simp <;> omega)) _ | refine Below.setCell ?_ (by first | omega | (simp <;> omega)) _)))
    have QA := Lib.hid (Q2.out.below bA)
    have RA : Hid (Rd (w2.alloc (.cells #[.int .u8 0, .int .u8 8, .int .u8 0, .int .u8 2] 5)) (w2.alloc (.cells #[.int .u8 0, .int .u8 8, .int .u8 0, .int .u8 2] 5)).heap.size (some ⟨w2.heap.size, 0, none⟩) [0, 8, 0, 2]) := Lib.hid (Rd.lit w2 [0, 8, 0, 2] 5)
    clear bA Q2
    go_wp2_with (at_builtin; refine append_rd rfl _ _ rfl w.heap.size (.slice A1 4 k1) 4 (List.map B ([11] ++ nb 3 c.id)) rfl QA.out.ow (some ⟨w2.heap.size, 0, none⟩) [0, 8, 0, 2] 4 rfl (fun h => by cases h) RA.out (by simp) QA.out.bl.size ?_)
    intro v' w3 ho3 hg3
    have Q3 : Hid (Rq w w3 y c v' (([11] ++ nb 3 c.id) ++ [0, 8, 0, 2]) 8) := Lib.hid (QA.out.app HLY.out ho3 hg3 rfl)
    clear QA RA ho3 hg3
    obtain ⟨A3, k3, rfl, _⟩ := own_slS Q3.out.ow
    have C2 := Lib.hid (rtwo_any E w3 (by have := HE.out.2; omega))
    go_wp2_with fail
    refine C2.out.mono ?_
    rintro e w4 ⟨g4, rfl, hg4, r4, b4⟩
    have Q4 := Lib.hid (Q3.out.below b4)
    have R4 := Lib.hid r4
    have HE2 := HE.out.1
    clear C2 hg4 r4 b4 Q3
    go_wp2_with (at_builtin; refine append_rd rfl _ _ rfl w.heap.size (.slice A3 8 k3) 8 (List.map B (([11] ++ nb 3 c.id) ++ [0, 8, 0, 2])) rfl Q4.out.ow (some ⟨g4, 0, none⟩) (nb 2 E) 2 (by rw [nb_length]; rfl) (fun h => by cases h) R4.out (by rw [nb_length]; decide) Q4.out.bl.size ?_)
    intro v' w5 ho5 hg5
    have Q5 : Hid (Rq w w5 y c v' ((([11] ++ nb 3 c.id) ++ [0, 8, 0, 2]) ++ elB c c.tm) 10) := Lib.hid (by rw [HE2]; exact Q4.out.app HLY.out ho5 hg5 (nb_length 2 E))
    clear Q4 R4 ho5 hg5 HE2
    obtain ⟨A5, k5, rfl, _⟩ := own_slS Q5.out.ow
    have bA : Below w5.heap.size w5 (w5.alloc (.cells #[.int .u8 0, .int .u8 1, .int .u8 0, .int .u8 10, .int .u8 0, .int .u8 3, .int .u8 0, .int .u8 1] 5)) := (by (repeat (first | exact Below.refl _ _ | assumption | refine Below.drew ?_ | refine bdrewN ?_ _ | refine Below.alloc ?_ (by first | omega | (simp <;> omega) | (simp only [World.size_alloc] <;> omega)) _ | refine below_setRow ?_ (by first | omega | (simp <;> omega)) _ | refine Below.setCell ?_ (by first | omega | (simp <;> omega)) _)))
    have QA := Lib.hid (Q5.out.below bA)
    have RA : Hid (Rd (w5.alloc (.cells #[.int .u8 0, .int .u8 1, .int .u8 0, .int .u8 10, .int .u8 0, .int .u8 3, .int .u8 0, .int .u8 1] 5)) (w5.alloc (.cells #[.int .u8 0, .int .u8 1, .int .u8 0, .int .u8 10, .int .u8 0, .int .u8 3, .int .u8 0, .int .u8 1] 5)).heap.size (some ⟨w5.heap.size, 0, none⟩) [0, 1, 0, 10, 0, 3, 0, 1]) := Lib.hid (Rd.lit w5 [0, 1, 0, 10, 0, 3, 0, 1] 5)
    clear bA Q5
    go_wp2_with (at_builtin; refine append_rd rfl _ _ rfl w.heap.size (.slice A5 10 k5) 10 (List.map B ((([11] ++ nb 3 c.id) ++ [0, 8, 0, 2]) ++ elB c c.tm)) rfl QA.out.ow (some ⟨w5.heap.size, 0, none⟩) [0, 1, 0, 10, 0, 3, 0, 1] 8 rfl (fun h => by cases h) RA.out (by simp) QA.out.bl.size ?_)
    intro v' w6 ho6 hg6
    have Q6 : Hid (Rq w w6 y c v' (((([11] ++ nb 3 c.id) ++ [0, 8, 0, 2]) ++ elB c c.tm) ++ [0, 1, 0, 10, 0, 3, 0, 1]) 18) := Lib.hid (QA.out.app HLY.out ho6 hg6 rfl)
    clear QA RA ho6 hg6
    obtain ⟨A6, k6, rfl, _⟩ := own_slS Q6.out.ow
    have ly := bk_lt Q6.out.cl.box
    go_wp2_with (at_builtin; refine append_rd rfl _ _ rfl w.heap.size (.slice A6 18 k6) 18 (List.map B (((([11] ++ nb 3 c.id) ++ [0, 8, 0, 2]) ++ elB c c.tm) ++ [0, 1, 0, 10, 0, 3, 0, 1])) rfl Q6.out.ow (some ⟨y, 0, none⟩) [c.a0, c.a1, c.a2, c.a3, c.a4, c.a5] 6 rfl (fun h => by cases h) (rmac_rd Q6.out.cl) (by simp) Q6.out.bl.size ?_)
    intro v' w7 ho7 hg7
    have Q7 : Hid (Rq w w7 y c v' ((((([11] ++ nb 3 c.id) ++ [0, 8, 0, 2]) ++ elB c c.tm) ++ [0, 1, 0, 10, 0, 3, 0, 1]) ++ [c.a0, c.a1, c.a2, c.a3, c.a4, c.a5]) 24) := Lib.hid (Q6.out.app HLY.out ho7 hg7 rfl)
    clear Q6 ho7 hg7 ly
    obtain ⟨A7, k7, rfl, _⟩ := own_slS Q7.out.ow
    have bA : Below w7.heap.size w7 (w7.alloc (.cells #[.int .u8 0, .int .u8 6, .int .u8 0, .int .u8 6, .int .u8 0, .int .u8 23, .int .u8 0, .int .u8 24, .int .u8 0, .int .u8 32] 5)) := (by (repeat (first | exact Below.refl _ _ | assumption | refine Below.drew ?_ | refine bdrewN ?_ _ | refine Below.alloc ?_ (by first | omega | (simp <;> omega) | (simp only [World.size_alloc] <;> omega)) _ | refine below_setRow ?_ (by first | omega | (simp <;> omega)) _ | refine Below.setCell ?_ (by first | omega | (simp <;> omega)) _)))
    have QA := Lib.hid (Q7.out.below bA)
    have RA : Hid (Rd (w7.alloc (.cells #[.int .u8 0, .int .u8 6, .int .u8 0, .int .u8 6, .int .u8 0, .int .u8 23, .int .u8 0, .int .u8 24, .int .u8 0, .int .u8 32] 5)) (w7.alloc (.cells #[.int .u8 0, .int .u8 6, .int .u8 0, .int .u8 6, .int .u8 0, .int .u8 23, .int .u8 0, .int .u8 24, .int .u8 0, .int .u8 32] 5)).heap.size (some ⟨w7.heap.size, 0, none⟩) [0, 6, 0, 6, 0, 23, 0, 24, 0, 32]) := Lib.hid (Rd.lit w7 [0, 6, 0, 6, 0, 23, 0, 24, 0, 32] 5)
    clear bA Q7
    go_wp2_with (at_builtin; refine append_rd rfl _ _ rfl w.heap.size (.slice A7 24 k7) 24 (List.map B ((((([11] ++ nb 3 c.id) ++ [0, 8, 0, 2]) ++ elB c c.tm) ++ [0, 1, 0, 10, 0, 3, 0, 1]) ++ [c.a0, c.a1, c.a2, c.a3, c.a4, c.a5])) rfl QA.out.ow (some ⟨w7.heap.size, 0, none⟩) [0, 6, 0, 6, 0, 23, 0, 24, 0, 32] 10 rfl (fun h => by cases h) RA.out (by simp) QA.out.bl.size ?_)
    intro v' w8 ho8 hg8
    have Q8 : Hid (Rq w w8 y c v' (((((([11] ++ nb 3 c.id) ++ [0, 8, 0, 2]) ++ elB c c.tm) ++ [0, 1, 0, 10, 0, 3, 0, 1]) ++ [c.a0, c.a1, c.a2, c.a3, c.a4, c.a5]) ++ [0, 6, 0, 6, 0, 23, 0, 24, 0, 32]) 34) := Lib.hid (QA.out.app HLY.out ho8 hg8 rfl)
    clear QA RA ho8 hg8
    obtain ⟨A8, k8, rfl, _⟩ := own_slS Q8.out.ow
    go_wp2_with fail
    go_ret
    have h8 := Q8.out
    rw [← reqB_flat] at h8
    have hl := (reqB_len c c.tm).2.2
    obtain ⟨A9, k9, e9, hR9, _, _⟩ := Rd.of_own h8.ow hl.symm
    rw [hl] at e9
    cases e9
    exact ⟨A8, k8, rfl, hR9, fun b o e => (h8.ow.lt b (by rw [e]; rfl)).1, h8.bl⟩
end Go.Proofs.Ytfldoihindbdmaa
