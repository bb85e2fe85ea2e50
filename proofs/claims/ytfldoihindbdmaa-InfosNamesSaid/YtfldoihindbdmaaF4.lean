/- Infos: how long a client waits. -/
import Derived.Test.YtfldoihindbdmaaF3
namespace Go.Proofs.Ytfldoihindbdmaa
open Go.RowKit
set_option maxRecDepth 100000
set_option maxHeartbeats 1000000
/-- How long it waits, behind a wait that was so long. -/
def laterT (wait : Nat) (r : Int) : Nat :=
  if (if wait > 0 then wait + partT wait r else partT 1000 r) > 3600000 then partT 3600000 r else if wait > 0 then wait + partT wait r else partT 1000 r
theorem laterT_pos (wait : Nat) (r : Int) (hr : -100 ≤ r ∧ r ≤ 100) : 0 < laterT wait r ∧ laterT wait r ≤ 3960000 := by
  have h1 := partT_eq 3600000 r hr
  have h2 := partT_eq wait r hr
  have h3 := partT_eq 1000 r hr
  unfold laterT
  split <;> split <;> omega
/-- Behind a word it waits so long. -/
def Cl.lat (c : Cl) (a : Nat) : Nat := laterT c.wait ((belT a 201 : Nat) - 100)
theorem Cl.lat_pos (c : Cl) {a : Nat} (h : a < 4294967296) : 0 < c.lat a ∧ c.lat a ≤ 3960000 := by
  have := belT_lt (n := 201) h (by decide)
  exact laterT_pos _ _ (by omega)
theorem wrap_add (a : Int) (y : Int) (t : Nat) (h : a + y = t) (ht : t < 18446744073709551616) : IntKind.u64.wrap (IntKind.u64.wrap a + IntKind.u64.wrap y) = (t : Int) := by
  rw [IntKind.wrap_u64, IntKind.wrap_u64, IntKind.wrap_u64, ← Int.add_emod, h, Int.emod_eq_of_lt (by omega) (by omega)]
theorem lat_facts (W : Nat) (r : Int) (hW : W ≤ 3960000) (hr : -100 ≤ r ∧ r ≤ 100) : ∃ z y : Int, (W : Int) * r = z ∧ z.tdiv 1000 = y ∧ wrap64 z = z ∧ wrap64 y = y ∧ wrap64 (W : Int) = W ∧ IntKind.u64.wrap (IntKind.u64.wrap (2 * (W : Int)) + IntKind.u64.wrap y) = ((W + partT W r : Nat) : Int) := by
  have hp := partT_eq W r hr
  have h1 : (W : Int) * r ≤ (W : Int) * 100 := Int.mul_le_mul_of_nonneg_left hr.2 (by omega)
  have h2 : (W : Int) * (-100) ≤ (W : Int) * r := Int.mul_le_mul_of_nonneg_left hr.1 (by omega)
  obtain ⟨z, hz⟩ : ∃ z, z = (W : Int) * r := ⟨_, rfl⟩
  obtain ⟨q, hq⟩ : ∃ q, q = partT W r := ⟨_, rfl⟩
  rw [← hz] at h1 h2 hp
  rw [← hq] at hp ⊢
  obtain ⟨y, hy⟩ : ∃ y, y = z.tdiv 1000 := ⟨_, rfl⟩
  rw [← hy] at hp
  refine ⟨z, y, hz.symm, hy.symm, ?_⟩
  clear hz hq hy hr
  refine ⟨by unfold wrap64; omega, by unfold wrap64; omega, by unfold wrap64; omega, wrap_add _ _ _ (by omega) (by omega)⟩
theorem later_any (x : Nat) (c : Cl) (p : Option Addr) (l : List Nat) (w : World) (h : ClB w x c) (hw : WdB w p l) (hp : ¬ WF p x) :
    Calls Try.prog 34 #[.pointer (some ⟨x, 0, none⟩), .pointer p] w fun e w' => e = .returned (.int .u64 ((c.lat (l.headD 0) : Nat) : Int)) ∧ ClB w' x { c with wait := c.lat (l.headD 0) } ∧ WdB w' p l.tail ∧ Tn (XF x p) w w' := by
  have HP := Lib.hid hp
  have HC := Lib.hid h
  have CB := Lib.hid (wbelow_any p l 201 w hw (by decide))
  have hb := belT_lt (n := 201) hw.head (by decide)
  have hR := Cl.lat_pos c hw.head
  unfold Cl.lat at hR ⊢
  obtain ⟨b, hbb⟩ : ∃ b, b = belT (l.headD 0) 201 := ⟨_, rfl⟩
  rw [← hbb] at CB hb hR ⊢
  obtain ⟨r, hr⟩ : ∃ r : Int, r = (b : Int) - 100 := ⟨_, rfl⟩
  rw [← hr] at hR ⊢
  have hrb : -100 ≤ r ∧ r ≤ 100 := by omega
  obtain ⟨W, hW⟩ : ∃ W, W = c.wait := ⟨_, rfl⟩
  obtain ⟨R, hRR⟩ : ∃ R, R = laterT c.wait r := ⟨_, rfl⟩
  rw [← hRR] at hR ⊢
  have HRB := Lib.hid hR.2
  have hWb := h.w22
  rw [← hW] at hRR hWb
  have HW := Lib.hid hW
  have HR' := Lib.hid hr
  have HRR := Lib.hid hRR
  clear h hw hp hbb hr hRR hW
  go_enter Try.func34, Try.ntmps34
  go_wp2_with fail
  refine CB.out.mono ?_
  rintro e w1 ⟨rfl, W1, t1⟩
  have H1 := Lib.hid (HC.out.keep t1 HP.out)
  have T1 : Hid (Tn (XF x p) w w1) := Lib.hid (t1.mono fun k hk => .inr hk)
  replace W1 := Lib.hid W1
  clear t1 CB HC
  go_upto_region 2 with fail
  rw [← HR'.out]
  have CP := Lib.hid (part_any 1000 r w1 (by decide) hrb)
  have CQ := Lib.hid (fun w2 => part_any 3600000 r w2 (by decide) hrb)
  have hp1 := partT_eq 1000 r hrb
  have hp2 := partT_eq 3600000 r hrb
  have hp3 := partT_eq W r hrb
  have lx := bk_lt H1.out.box
  have f13 := bk_frozen H1.out.box 13
  have c13 := bk_cell H1.out.box 13
  simp [clC] at c13
  rw [← HW.out] at c13
  have hR1 := HRR.out
  unfold laterT at hR1
  obtain ⟨q1, hq1⟩ : ∃ q, q = partT 1000 r := ⟨_, rfl⟩
  obtain ⟨q2, hq2⟩ : ∃ q, q = partT 3600000 r := ⟨_, rfl⟩
  obtain ⟨q3, hq3⟩ : ∃ q, q = partT W r := ⟨_, rfl⟩
  rw [← hq1, ← hq2, ← hq3] at hR1
  rw [← hq1] at CP hp1
  rw [← hq2] at CQ hp2
  rw [← hq3] at hp3
  clear hq1 hq2 HRR
  have FIN : Hid (∀ w2, Below w1.heap.size w1 w2 → ClB (w2.setCell ⟨x, 13, none⟩ (.int .u64 (R : Int))) x { c with wait := R } ∧ WdB (w2.setCell ⟨x, 13, none⟩ (.int .u64 (R : Int))) p l.tail ∧ Tn (XF x p) w (w2.setCell ⟨x, 13, none⟩ (.int .u64 (R : Int)))) := Lib.hid fun w2 b2 => ⟨⟨by
    rw [bk_setCell_same, (H1.out.below b2).box]; rfl, H1.out.n64, H1.out.t64, H1.out.i24, H1.out.s64, HRB.out⟩, (W1.out.keep (Tn.of b2) (F := fun _ => False) (fun k hk e => e)).keep ((Tn.refl (fun k => k = x) w2).set (.inl rfl)) (fun k hk e => HP.out (e ▸ hk)), (T1.out.trans (Tn.of (F := fun _ => False) b2) fun j hj => hj.elim).set (.inl (.inl rfl))⟩
  go_wp2_with fail
  refine CP.out.mono ?_
  rintro e w2 ⟨rfl, rfl⟩
  by_cases h0 : W = 0
  · have d1 : decide (0 < (W : Int)) = false := by simp; omega
    have d2 : decide (0 < W) = false := by simp; omega
    rw [if_neg (show ¬ W > 0 by omega), if_neg (show ¬ q1 > 3600000 by omega)] at hR1
    subst hR1
    have d3 : decide (3600000 < (R : Int)) = false := by simp; omega
    have d4 : decide (3600000 < R) = false := by simp; omega
    clear hp1 hp2 hp3 CP CQ hWb hrb hb d1 d2
    subst h0
    rw [Int.natCast_zero] at c13
    clear HW
    go_wp2_with fail
    go_ret
    exact ⟨rfl, FIN.out _ (Below.refl _ _)⟩
  · clear hp1 hp2 hp3
    rw [if_pos (show W > 0 by omega)] at hR1
    obtain ⟨V, hV⟩ : ∃ V, W = V + 1 := ⟨W - 1, by omega⟩
    obtain ⟨z, y, f1, f2, f3, f4, f5, f6⟩ := lat_facts W r hWb hrb
    rw [← hq3] at f6
    obtain ⟨t, ht⟩ : ∃ t, t = W + q3 := ⟨_, rfl⟩
    rw [← ht] at hR1 f6
    have eW : (W : Int) = (V : Int) + 1 := by omega
    rw [eW] at c13 f1 f5 f6
    have HT : Hid (t ≤ 3600000 → R = t) := Lib.hid fun h => by rw [if_neg (Nat.not_lt.2 h)] at hR1; exact hR1
    have HT2 : Hid (3600000 < t → R = q2) := Lib.hid fun h => by rw [if_pos h] at hR1; exact hR1
    clear CP hWb hrb hb ht hV eW h0 hR1 HW hq3
    have M1 := Lib.hid f1; have M2 := Lib.hid f2; have M3 := Lib.hid f3; have M4 := Lib.hid f4; have M5 := Lib.hid f5; have M6 := Lib.hid f6
    clear f1 f2 f3 f4 f5 f6
    go_upto_region 4 with fail
    have m1 := M1.out; have m2 := M2.out; have m3 := M3.out; have m4 := M4.out; have m5 := M5.out; have m6 := M6.out
    go_region
    have bd : Below w1.heap.size w1 w1.drew := (by (repeat (first | exact Below.refl _ _ | assumption | refine Below.drew ?_ | refine bdrewN ?_ _ | refine Below.alloc ?_ (by first | omega | (simp <;> omega) | (simp only [World.size_alloc] <;> omega)) _ | refine below_setRow ?_ (by first | omega | (simp <;> omega)) _ | refine Below.setCell ?_ (by first | omega | (simp <;> omega)) _)))
    have k1 := bk_keep bd (bk_lt H1.out.box) H1.out.box
    have lx' := bk_lt k1
    have f13' := bk_frozen k1 13
    have c13' : w1.drew.cell? ⟨x, 13, none⟩ = some (.int .u64 (c.wait : Int)) := bk_cell k1 13
    have FIN' := Lib.hid (FIN.out _ bd)
    clear m1 m2 m3 m4 m5 m6 M1 M2 M3 M4 M5 M6 k1 f13 lx c13 bd FIN
    generalize w1.drew = w2 at *
    by_cases h6 : 3600000 < t
    · have hR6 := HT2.out h6
      have d3 : decide (3600000 < (t : Int)) = true := by simp; omega
      have d4 : decide (3600000 < t) = true := by simp; omega
      subst hR6
      have CQ' := Lib.hid (CQ.out w2)
      clear CQ
      go_wp2_with fail
      refine CQ'.out.mono ?_
      rintro e w3 ⟨rfl, rfl⟩
      go_wp2_with fail
      go_ret
      exact ⟨rfl, FIN'.out⟩
    · have hR6 := HT.out (by omega)
      have d3 : decide (3600000 < (t : Int)) = false := by simp; omega
      have d4 : decide (3600000 < t) = false := by simp; omega
      subst hR6
      clear CQ
      go_wp2_with fail
      go_ret
      exact ⟨rfl, FIN'.out⟩
end Go.Proofs.Ytfldoihindbdmaa
