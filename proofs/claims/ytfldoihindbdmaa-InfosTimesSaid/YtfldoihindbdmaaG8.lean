/- Infos: an answer whose options are not whole. -/
import Derived.Test.YtfldoihindbdmaaF23
import Derived.Test.YtfldoihindbdmaaG7
namespace Go.Proofs.Ytfldoihindbdmaa
open Go.RowKit
set_option maxRecDepth 100000
set_option maxHeartbeats 2000000
theorem look_none (w : World) : Sem.run Try.prog (Instr.lookup 70 (.map none) (.int .u64 13) true) w = .ok (.tuple #[.slice none 0 0, .bool false]) w := by
  exact Maps.look_nil true law64 Try.underlying70 (zeroS w) (key64 (q := 13) (by decide))
theorem reply_bad (x : Nat) (c : Cl) (now : Nat) (A : Option Addr) (b rest : List UInt8) (cb : Nat) (w : World) (h : ClB w x c) (hr : Rd w w.heap.size A b) (hn : now ≤ far) (hcb : b.length ≤ cb) (hbx : ∀ bb o, A = some ⟨bb, o, none⟩ → bb ≠ x) (hno : c.asks = true)
    (hb : b = headB c ++ rest) (hop : BadO rest) (hlen : b.length < 2 ^ 30) (hcc : cb < 2 ^ 63) :
    Calls Try.prog 9 #[.pointer (some ⟨x, 0, none⟩), .int .u64 (now : Int), .slice A b.length cb] w fun e w' =>
      e = .returned (.tuple #[.agg (ansC 0), .bool false]) ∧ ClB w' x (c.goes now) ∧ Tn (fun j => j = x) w w' := by
  have HNO := Lib.hid hno
  have HBX := Lib.hid hbx
  have HCB := Lib.hid (And.intro hcb (And.intro hlen hcc))
  have HB := Lib.hid hb
  have HOP := Lib.hid hop
  have HBL : Hid (b.length = 4 + rest.length) := Lib.hid (by rw [hb, List.length_append, headB_len])
  obtain ⟨ba, oa, rfl, _, _⟩ := hr (by have := HBL.out; omega)
  clear hno hbx hcb hb hop hlen hcc
  have C := Lib.hid (there_any x c (w.alloc (.cells (ansC 0) 36)) (h.below ((Below.refl _ _).alloc (Nat.le_refl _) _)))
  have CG := Lib.hid (goes_any x c now (w.alloc (.cells (ansC 0) 36)) (h.below ((Below.refl _ _).alloc (Nat.le_refl _) _)) hn)
  have HC := Lib.hid h
  have HR := Lib.hid hr
  have hxl := bk_lt h.box
  have HI24 := Lib.hid h.i24
  have HKR := Lib.hid (bk_alloc_at w (.cells (ansC 0) 36) _ rfl)
  have B0 : Hid (Below w.heap.size w (w.alloc (.cells (ansC 0) 36))) := Lib.hid ((Below.refl _ _).alloc (Nat.le_refl _) _)
  clear h hr hn
  go_enter Try.func9, Try.ntmps9
  go_wp2_with fail
  refine C.out.mono ?_
  rintro e w1 ⟨rfl, rfl⟩
  go_wp2_with fail
  refine CG.out.mono ?_
  rintro e w2 ⟨rfl, h2, t2⟩
  obtain ⟨T, hT⟩ : ∃ T, T = max c.tm now := ⟨_, rfl⟩
  rw [← hT] at h2 ⊢
  have HT := Lib.hid hT
  have H2 := Lib.hid h2
  have T2 := Lib.hid ((Tn.of B0.out (F := fun j => j = x)).trans t2 fun j hj => .inl hj)
  have K2 := Lib.hid (t2.keep (Nat.ne_of_gt hxl) HKR.out)
  have c11 := bk_cell h2.box 11
  simp [clC] at c11
  have lx2 := bk_lt h2.box
  have hid := HI24.out
  have R2 : Hid (Rd (w2.alloc (.cells #[.int .u8 7] 5)) (w2.alloc (.cells #[.int .u8 7] 5)).heap.size (some ⟨w2.heap.size, 0, none⟩) [7]) := Lib.hid (Rd.lit w2 [7] 5)
  have CP : Hid (Calls Try.prog 25 #[.slice (some ⟨w2.heap.size, 0, none⟩) 1 1, .int .u64 (c.id : Int), .int .i64 3] (w2.alloc (.cells #[.int .u8 7] 5)) fun e w' => ∃ g, e = .returned (.slice (some ⟨g, 0, none⟩) 4 4) ∧ (w2.alloc (.cells #[.int .u8 7] 5)).heap.size ≤ g ∧ Rd w' w'.heap.size (some ⟨g, 0, none⟩) (headB c) ∧ Below (w2.alloc (.cells #[.int .u8 7] 5)).heap.size (w2.alloc (.cells #[.int .u8 7] 5)) w') := Lib.hid (by
    have C := put_own (some ⟨w2.heap.size, 0, none⟩) [7] 1 c.id 3 3 (headB c) (w2.alloc (.cells #[.int .u8 7] 5)) R2.out (fun h => by cases h) (by decide) (by omega) (by decide) rfl rfl
    rw [headB_len] at C
    exact C)
  have b3 : Below w2.heap.size w2 (w2.alloc (.cells #[.int .u8 7] 5)) := (by (repeat (first | exact Below.refl _ _ | assumption | refine Below.drew ?_ | refine bdrewN ?_ _ | refine Below.alloc ?_ (by first | omega | (simp <;> omega) | (simp only [World.size_alloc] <;> omega)) _ | refine below_setRow ?_ (by first | omega | (simp <;> omega)) _ | refine Below.setCell ?_ (by first | omega | (simp <;> omega)) _)))
  have B3 := Lib.hid b3
  clear h2 t2 b3 CG C HKR B0 hT R2
  go_wp2_with fail
  refine CP.out.mono ?_
  rintro e w4 ⟨gh, rfl, _, r4, b4⟩
  have B24 := B3.out.trans (b4.mono B3.out.size)
  have H4 := Lib.hid (H2.out.below B24)
  have K4 := Lib.hid (bk_keep B24 (bk_lt K2.out) K2.out)
  have T4 := Lib.hid (T2.out.trans (Tn.of B24) (G := fun _ => False) fun j hj => hj.elim)
  have RH := Lib.hid r4
  have c7 := bk_cell H4.out.box 7
  simp [clC] at c7
  have lx4 := bk_lt H4.out.box
  clear c11 lx2 hid B24 b4 r4 H2 K2 T2 B3 CP
  rw [HNO.out] at c7
  have CX : Hid (Calls Try.prog 26 #[.slice (some ⟨ba, oa, none⟩) b.length cb, .slice (some ⟨gh, 0, none⟩) 4 4] w4 fun e w' => e = .returned (.bool true) ∧ w' = w4) := Lib.hid (by
    have C := prefix_any (some ⟨ba, oa, none⟩) (some ⟨gh, 0, none⟩) b (headB c) cb 4 w4 _ _ (rd_turn HR.out T4.out HBX.out) RH.out HCB.out.1
    have e : (headB c).isPrefixOf b = true := by rw [HB.out]; exact List.isPrefixOf_iff_prefix.2 (List.prefix_append _ _)
    rw [headB_len, e] at C
    exact C)
  have RB4 := Lib.hid (rd_turn HR.out T4.out HBX.out)
  obtain ⟨N, hN⟩ : ∃ N, N = b.length := ⟨_, rfl⟩
  have hN4 : N = 4 + rest.length := by rw [hN]; exact HBL.out
  have HN4 := Lib.hid hN4
  have hNc : N ≤ cb := by rw [hN]; exact HCB.out.1
  have h4N : 4 ≤ N := by omega
  have hcc := HCB.out.2.2
  have HN := Lib.hid hN
  rw [← hN] at CX ⊢
  clear hN hN4
  go_wp2_with fail
  refine CX.out.mono ?_
  rintro e w5 ⟨rfl, rfl⟩
  clear CX
  go_upto_region 7 with fail
  clear c7 lx4
  by_cases hc4 : cb = 4
  · subst hc4
    have RR : Hid (Rd w5 w5.heap.size (some ⟨ba, oa, none⟩) rest) := Lib.hid (by
      have h1 := HN4.out
      have h2 : rest.length = 0 := by omega
      rw [List.eq_nil_of_length_eq_zero h2]; exact Rd.nil)
    go_wp2_with fail
    have hrl : 0 = rest.length := by have := HN4.out; omega
    have CO0 := (options_bad ((some ⟨ba, oa, none⟩)) rest (0) w5 RR.out (fun h => by cases h) (by have h1 := HN4.out; have h2 := HN.out; have h3 := HCB.out.2.1; omega) HOP.out)
    rw [← hrl] at CO0
    have CO := Lib.hid CO0
    clear hrl CO0
    refine CO.out.mono ?_
    rintro e w6 ⟨rfl, b6⟩
    have H6 := Lib.hid (H4.out.below b6)
    have K6 := Lib.hid (bk_keep b6 (bk_lt K4.out) K4.out)
    have T6 := Lib.hid (T4.out.trans (Tn.of b6) (G := fun _ => False) fun j hj => hj.elim)
    have hl13 := look_none w6
    clear b6 CO RR
    have k6 := K6.out
    have os1 := ansC_ones 0
    have os2 := ansC_size 0
    have lr := bk_lt k6
    go_wp2_with fail
    have F9 : Hid (ClB ((w6).setRow w.heap.size (ansC 0)) x (c.goes now) ∧ Tn (fun j => j = x) w ((w6).setRow w.heap.size (ansC 0))) := Lib.hid ⟨⟨(bk_setRow_other _ _ _ _ (Nat.ne_of_lt hxl)).trans (by have := (H6).out.box; rw [HT.out] at this; exact this), (H6).out.n64, by have := (H6).out.t64; rw [HT.out] at this; exact this, (H6).out.i24, (H6).out.s64, (H6).out.w22⟩, (T6).out.setRow (Nat.le_refl _)⟩
    exact ret_two rfl rfl rfl rfl (by rw [bk_setRow_same, k6]; rfl) Try.underlying36 rfl (by rw [ansC_size]; kernel_rfl) ⟨rfl, F9.out⟩
  · have RR : Hid (Rd w5 w5.heap.size (some ⟨ba, oa + 4, none⟩) rest) := Lib.hid (fun h0 => by
      obtain ⟨b9, o9, e9, hlt9, hc9⟩ := RB4.out (by have := HBL.out; omega)
      cases e9
      refine ⟨ba, oa + 4, rfl, hlt9, fun j hj => ?_⟩
      have h1 := hc9 (4 + j) (by have := HBL.out; omega)
      rw [Nat.add_assoc, h1]
      have e : b[4 + j]'(by have := HBL.out; omega) = rest[j] := by
        have hbb := HB.out
        subst hbb
        rw [List.getElem_append_right (by rw [headB_len]; omega)]
        congr 1
        rw [headB_len]; omega
      rw [e])
    go_wp2_with fail
    have hrl : N - 4 = rest.length := by have := HN4.out; omega
    have CO0 := (options_bad ((some ⟨ba, oa + 4, none⟩)) rest ((cb - 4)) w5 RR.out (fun h => by cases h) (by have h1 := HN4.out; have h2 := HN.out; have h3 := HCB.out.2.1; omega) HOP.out)
    rw [← hrl] at CO0
    have CO := Lib.hid CO0
    clear hrl CO0
    refine CO.out.mono ?_
    rintro e w6 ⟨rfl, b6⟩
    have H6 := Lib.hid (H4.out.below b6)
    have K6 := Lib.hid (bk_keep b6 (bk_lt K4.out) K4.out)
    have T6 := Lib.hid (T4.out.trans (Tn.of b6) (G := fun _ => False) fun j hj => hj.elim)
    have hl13 := look_none w6
    clear b6 CO RR
    have k6 := K6.out
    have os1 := ansC_ones 0
    have os2 := ansC_size 0
    have lr := bk_lt k6
    go_wp2_with fail
    have F9 : Hid (ClB ((w6).setRow w.heap.size (ansC 0)) x (c.goes now) ∧ Tn (fun j => j = x) w ((w6).setRow w.heap.size (ansC 0))) := Lib.hid ⟨⟨(bk_setRow_other _ _ _ _ (Nat.ne_of_lt hxl)).trans (by have := (H6).out.box; rw [HT.out] at this; exact this), (H6).out.n64, by have := (H6).out.t64; rw [HT.out] at this; exact this, (H6).out.i24, (H6).out.s64, (H6).out.w22⟩, (T6).out.setRow (Nat.le_refl _)⟩
    exact ret_two rfl rfl rfl rfl (by rw [bk_setRow_same, k6]; rfl) Try.underlying36 rfl (by rw [ansC_size]; kernel_rfl) ⟨rfl, F9.out⟩
end Go.Proofs.Ytfldoihindbdmaa
