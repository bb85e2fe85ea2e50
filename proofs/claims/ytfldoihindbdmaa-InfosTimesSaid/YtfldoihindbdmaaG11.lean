/- Infos: the document's answers, where nothing is told. -/
import Derived.Test.YtfldoihindbdmaaG10
import Derived.Test.YtfldoihindbdmaaG5
import Derived.Test.YtfldoihindbdmaaG6
import Derived.BigRegion
namespace Go.Proofs.Ytfldoihindbdmaa
open Go.RowKit
set_option maxRecDepth 100000
set_option maxHeartbeats 2000000
@[go_sem ↓] theorem ldRAns (dst : Option Tmp) (x : Operand) (t : TypeId) (pos : String) (af : Array Edge) (g : Option (Nat × Bool)) (a : Act) (w : World) (K : Act → World → Prop) (Q : Exit → Act → World → Prop) :
    Oper.wp Try.prog ⟨dst, .load 91 x, t, pos, af, g⟩ a w K Q = ldPtr (wpHid Try.prog ⟨dst, .load 91 x, t, pos, af, g⟩ a w K Q) 3 w (fun c => K (a.put dst (.agg c)) w) (a.eval x) :=
  wp_load_bk 91 3 _ Try.underlying91 rfl (by kernel_rfl) dst x t pos af g a w K Q
@[go_sem ↓] theorem stRAns (dst : Option Tmp) (x y : Operand) (t : TypeId) (pos : String) (af : Array Edge) (g : Option (Nat × Bool)) (a : Act) (w : World) (K : Act → World → Prop) (Q : Exit → Act → World → Prop) :
    Oper.wp Try.prog ⟨dst, .store 91 x y, t, pos, af, g⟩ a w K Q = stPtr (wpHid Try.prog ⟨dst, .store 91 x y, t, pos, af, g⟩ a w K Q) 3 w (fun w' => K (a.put dst undef) w') (a.eval x) (a.eval y) :=
  wp_store_bk 91 3 (by kernel_rfl) dst x y t pos af g a w K Q
@[go_sem ↓] theorem qlRAns (dst : Option Tmp) (x : Operand) (t : TypeId) (pos : String) (af : Array Edge) (g : Option (Nat × Bool)) (a : Act) (m : Nat) (W : World) (K : Act → Prop) :
    Oper.quiet Try.prog ⟨dst, .load 91 x, t, pos, af, g⟩ a (fun w' => ∃ x : Later m W, w' = x.w) K =
      ldLater (quietHid Try.prog ⟨dst, .load 91 x, t, pos, af, g⟩ a (fun w' => ∃ x : Later m W, w' = x.w) K) m 3 W (fun c => K (a.put dst (.agg c))) (a.eval x) :=
  quiet_load_bk 91 3 _ Try.underlying91 rfl (by kernel_rfl) dst x t pos af g a m W K
theorem rreply_idle (y : Nat) (c : Cl) (now : Nat) (A : Option Addr) (b : List UInt8) (cb : Nat) (w : World) (h : RClB w y c) (hr : Rd w w.heap.size A b) (hn : now ≤ far) (hbx : ∀ bb o, A = some ⟨bb, o, none⟩ → bb ≠ y) (hno : c.asks = false) :
    Calls Try.prog 39 #[.pointer (some ⟨y, 0, none⟩), .int .u64 (now : Int), .slice A b.length cb] w fun e w' => e = .returned (.tuple #[.agg (ansC 0), .bool false]) ∧ RClB w' y (c.goes now) ∧ Tn (fun j => j = y) w w' := by
  have HNO := Lib.hid hno
  clear hno
  have hb9 := (h.below ((Below.refl _ _).alloc (Nat.le_refl _) (.cells (ansC 0) 91))).box
  have c9 : (w.alloc (.cells #[.slice none 0 0, .slice none 0 0, .int .u32 0] 91)).cell? ⟨y, 9, none⟩ = some (.int .u64 (c.tm : Int)) := bk_cell hb9 9
  have lx : y < (w.alloc (.cells #[.slice none 0 0, .slice none 0 0, .int .u32 0] 91)).heap.size := bk_lt hb9
  have f9 : (w.alloc (.cells #[.slice none 0 0, .slice none 0 0, .int .u32 0] 91)).frozen? ⟨y, 9, none⟩ = false := bk_frozen hb9 9
  obtain ⟨T, hT⟩ : ∃ T, T = max c.tm now := ⟨_, rfl⟩
  have hmx1 : (if (c.tm : Int) < (now : Int) then (now : Int) else (c.tm : Int)) = (T : Int) := by split <;> omega
  have hmx2 : (if c.tm < now then (now : Int) else (c.tm : Int)) = (T : Int) := by split <;> omega
  have hmx3 : max (c.tm : Int) (now : Int) = (T : Int) := by omega
  have B0 : Below w.heap.size w (w.alloc (.cells (ansC 0) 91)) := (Below.refl _ _).alloc (Nat.le_refl _) _
  have HTF : Hid (T ≤ far ∧ T = max c.tm now) := Lib.hid ⟨by have := h.t64; omega, hT⟩
  have hcg : c.goes now = { c with tm := T } := by unfold Cl.goes; rw [hT]
  have HCG := Lib.hid hcg
  have hyl := bk_lt h.box
  have h00 : RClB (w.setCell ⟨y, 9, none⟩ (.int .u64 (T : Int))) y (c.goes now) := by
    rw [hcg]
    exact ⟨by rw [bk_setCell_same, h.box]; rfl, h.n64, HTF.out.1, h.i24, h.s64, h.w22⟩
  have ba : Below (w.setCell ⟨y, 9, none⟩ (.int .u64 (T : Int))).heap.size (w.setCell ⟨y, 9, none⟩ (.int .u64 (T : Int))) ((w.setCell ⟨y, 9, none⟩ (.int .u64 (T : Int))).alloc (.cells (ansC 0) 91)) := (Below.refl _ _).alloc (Nat.le_refl _) _
  have H1 : Hid (RClB ((w.setCell ⟨y, 9, none⟩ (.int .u64 (T : Int))).alloc (.cells (ansC 0) 91)) y (c.goes now)) := Lib.hid (h00.below ba)
  have T1 : Hid (Tn (fun k => k = y) w ((w.setCell ⟨y, 9, none⟩ (.int .u64 (T : Int))).alloc (.cells (ansC 0) 91))) := Lib.hid (Tn.trans (F := fun k => k = y) (G := fun _ => False) ((Tn.refl (fun k => k = y) w).set (.inl rfl)) (Tn.of ba) fun k hk => hk.elim)
  have K1 : Hid (bk ((w.setCell ⟨y, 9, none⟩ (.int .u64 (T : Int))).alloc (.cells (ansC 0) 91)) w.heap.size = some (.cells (ansC 0) 91 (0, 0))) := Lib.hid (bk_alloc_at (w.setCell ⟨y, 9, none⟩ (.int .u64 (T : Int))) (.cells (ansC 0) 91 (0, 0)) _ (by simp))
  have HR1 : Hid (Rd ((w.setCell ⟨y, 9, none⟩ (.int .u64 (T : Int))).alloc (.cells (ansC 0) 91)) ((w.setCell ⟨y, 9, none⟩ (.int .u64 (T : Int))).alloc (.cells (ansC 0) 91)).heap.size A b) := Lib.hid (rd_turn hr T1.out hbx)
  have hyl2 : y ≠ w.heap.size := Nat.ne_of_lt hyl
  clear h hr hn hT hcg B0 hbx hb9 h00 ba
  go_enter Try.func39, Try.ntmps39
  go_upto_region 2 with fail
  clear hmx1 hmx2 hmx3 c9 lx f9
  change Code.wp _ _ _ _ ((w.setCell ⟨y, 9, none⟩ (.int .u64 (T : Int))).alloc (.cells (ansC 0) 91))
  generalize (w.setCell ⟨y, 9, none⟩ (.int .u64 (T : Int))).alloc (.cells (ansC 0) 91) = w1 at *
  have k6 := bk_cell H1.out.box 6
  have k10 := bk_cell H1.out.box 10
  simp [rcC, Cl.goes] at k6 k10
  have ly := bk_lt H1.out.box
  rw [HNO.out] at k6
  go_region
  have bd : Below w1.heap.size w1 w1.drew := (by (repeat (first | exact Below.refl _ _ | assumption | refine Below.drew ?_ | refine bdrewN ?_ _ | refine Below.alloc ?_ (by first | omega | (simp <;> omega) | (simp only [World.size_alloc] <;> omega)) _ | refine below_setRow ?_ (by first | omega | (simp <;> omega)) _ | refine Below.setCell ?_ (by first | omega | (simp <;> omega)) _)))
  have H2 := Lib.hid (H1.out.below bd)
  have T2 := Lib.hid (T1.out.trans (Tn.of (F := fun _ => False) bd) fun j hj => hj.elim)
  have K2 := Lib.hid (bk_keep bd (bk_lt K1.out) K1.out)
  clear k6 k10 ly bd H1 T1 K1 HR1
  generalize w1.drew = w2 at *
  have kr := K2.out
  have os1 := ansC_ones 0
  have os2 := ansC_size 0
  have lr := bk_lt kr
  go_wp2_with fail
  have F9 : Hid (RClB ((w2).setRow w.heap.size (ansC 0)) y (c.goes now) ∧ Tn (fun j => j = y) w ((w2).setRow w.heap.size (ansC 0))) := Lib.hid ⟨⟨(bk_setRow_other _ _ _ _ hyl2).trans (H2).out.box, (H2).out.n64, (H2).out.t64, (H2).out.i24, (H2).out.s64, (H2).out.w22⟩, (T2).out.setRow (Nat.le_refl _)⟩
  exact ret_two rfl rfl rfl rfl (by rw [bk_setRow_same, kr]; rfl) Try.underlying91 rfl (by rw [ansC_size]; kernel_rfl) ⟨rfl, F9.out⟩
theorem pref4 (c : Cl) (b : List UInt8) (h4 : 4 ≤ b.length) (hid : c.id < 16777216) :
    (headB c).isPrefixOf b = (decide (b[0].toNat = 7) && decide (b[1].toNat * 65536 + b[2].toNat * 256 + b[3].toNat = c.id)) := by
  match b, h4 with
  | x0 :: x1 :: x2 :: x3 :: r, _ =>
    unfold headB
    rw [nb3]
    have h1 := x1.toNat_lt
    have h2 := x2.toNat_lt
    have h3 := x3.toNat_lt
    simp only [List.cons_append, List.nil_append, List.isPrefixOf, List.getElem_cons_zero, List.getElem_cons_succ, Bool.and_true]
    have e0 : ((7 : UInt8) == x0) = decide (x0.toNat = 7) := by
      by_cases h : x0.toNat = 7
      · have : x0 = 7 := UInt8.toNat_inj.1 (by rw [h]; rfl)
        subst this; rfl
      · rw [decide_eq_false h]
        exact beq_eq_false_iff_ne.2 fun e => h (by rw [← e]; rfl)
    have e1 : ((UInt8.ofNat (c.id / 65536) == x1) && ((UInt8.ofNat (c.id / 256) == x2) && (UInt8.ofNat c.id == x3))) = decide (x1.toNat * 65536 + x2.toNat * 256 + x3.toNat = c.id) := by
      by_cases h : x1.toNat * 65536 + x2.toNat * 256 + x3.toNat = c.id
      · have a1 : UInt8.ofNat (c.id / 65536) = x1 := UInt8.toNat_inj.1 (by rw [UInt8.toNat_ofNat']; omega)
        have a2 : UInt8.ofNat (c.id / 256) = x2 := UInt8.toNat_inj.1 (by rw [UInt8.toNat_ofNat']; omega)
        have a3 : UInt8.ofNat c.id = x3 := UInt8.toNat_inj.1 (by rw [UInt8.toNat_ofNat']; omega)
        rw [a1, a2, a3, decide_eq_true h]; simp
      · rw [decide_eq_false h]
        by_cases b1 : UInt8.ofNat (c.id / 65536) = x1
        · by_cases b2 : UInt8.ofNat (c.id / 256) = x2
          · by_cases b3 : UInt8.ofNat c.id = x3
            · exfalso
              apply h
              rw [← b1, ← b2, ← b3, UInt8.toNat_ofNat', UInt8.toNat_ofNat', UInt8.toNat_ofNat']
              omega
            · simp [b3]
          · simp [b2]
        · simp [b1]
    rw [e0, ← e1]
theorem three32 (a b c : UInt8) (E : Nat) (h : a.toNat * 65536 + b.toNat * 256 + c.toNat = E) : ∃ z1 z2 z12 : Nat, IntKind.u32.wrap (a.toNat : Int) = (a.toNat : Int) ∧ IntKind.u32.wrap ((a.toNat : Int) * 65536) = (z1 : Int) ∧ IntKind.u32.wrap (b.toNat : Int) = (b.toNat : Int) ∧ IntKind.u32.wrap ((b.toNat : Int) * 256) = (z2 : Int) ∧ IntKind.u32.wrap ((z1 : Int) + (z2 : Int)) = (z12 : Int) ∧ IntKind.u32.wrap (c.toNat : Int) = (c.toNat : Int) ∧ IntKind.u32.wrap ((z12 : Int) + (c.toNat : Int)) = (E : Int) ∧ (a.toNat : Int) % 4294967296 = (a.toNat : Int) ∧ (b.toNat : Int) % 4294967296 = (b.toNat : Int) ∧ (c.toNat : Int) % 4294967296 = (c.toNat : Int) ∧ ((a.toNat : Int) * 65536) % 4294967296 = (z1 : Int) ∧ ((b.toNat : Int) * 256) % 4294967296 = (z2 : Int) ∧ ((z1 : Int) + (z2 : Int)) % 4294967296 = (z12 : Int) ∧ ((z12 : Int) + (c.toNat : Int)) % 4294967296 = (E : Int) := by
  have h1 := a.toNat_lt
  have h2 := b.toNat_lt
  have h3 := c.toNat_lt
  simp only [IntKind.wrap_u32]
  exact ⟨a.toNat * 65536, b.toNat * 256, a.toNat * 65536 + b.toNat * 256, by omega, by omega, by omega, by omega, by omega, by omega, by omega, by omega, by omega, by omega, by omega, by omega, by omega, by omega⟩
theorem rreply_other (y : Nat) (c : Cl) (now : Nat) (A : Option Addr) (b : List UInt8) (cb : Nat) (w : World) (h : RClB w y c) (hr : Rd w w.heap.size A b) (hn : now ≤ far) (hbx : ∀ bb o, A = some ⟨bb, o, none⟩ → bb ≠ y) (hno : c.asks = true) (hpf : (headB c).isPrefixOf b = false) :
    Calls Try.prog 39 #[.pointer (some ⟨y, 0, none⟩), .int .u64 (now : Int), .slice A b.length cb] w fun e w' => e = .returned (.tuple #[.agg (ansC 0), .bool false]) ∧ RClB w' y (c.goes now) ∧ Tn (fun j => j = y) w w' := by
  have HNO := Lib.hid (And.intro hno hpf)
  have HID := Lib.hid h.i24
  clear hno hpf
  have hb9 := (h.below ((Below.refl _ _).alloc (Nat.le_refl _) (.cells (ansC 0) 91))).box
  have c9 : (w.alloc (.cells #[.slice none 0 0, .slice none 0 0, .int .u32 0] 91)).cell? ⟨y, 9, none⟩ = some (.int .u64 (c.tm : Int)) := bk_cell hb9 9
  have lx : y < (w.alloc (.cells #[.slice none 0 0, .slice none 0 0, .int .u32 0] 91)).heap.size := bk_lt hb9
  have f9 : (w.alloc (.cells #[.slice none 0 0, .slice none 0 0, .int .u32 0] 91)).frozen? ⟨y, 9, none⟩ = false := bk_frozen hb9 9
  obtain ⟨T, hT⟩ : ∃ T, T = max c.tm now := ⟨_, rfl⟩
  have hmx1 : (if (c.tm : Int) < (now : Int) then (now : Int) else (c.tm : Int)) = (T : Int) := by split <;> omega
  have hmx2 : (if c.tm < now then (now : Int) else (c.tm : Int)) = (T : Int) := by split <;> omega
  have hmx3 : max (c.tm : Int) (now : Int) = (T : Int) := by omega
  have B0 : Below w.heap.size w (w.alloc (.cells (ansC 0) 91)) := (Below.refl _ _).alloc (Nat.le_refl _) _
  have HTF : Hid (T ≤ far ∧ T = max c.tm now) := Lib.hid ⟨by have := h.t64; omega, hT⟩
  have hcg : c.goes now = { c with tm := T } := by unfold Cl.goes; rw [hT]
  have HCG := Lib.hid hcg
  have hyl := bk_lt h.box
  have h00 : RClB (w.setCell ⟨y, 9, none⟩ (.int .u64 (T : Int))) y (c.goes now) := by
    rw [hcg]
    exact ⟨by rw [bk_setCell_same, h.box]; rfl, h.n64, HTF.out.1, h.i24, h.s64, h.w22⟩
  have ba : Below (w.setCell ⟨y, 9, none⟩ (.int .u64 (T : Int))).heap.size (w.setCell ⟨y, 9, none⟩ (.int .u64 (T : Int))) ((w.setCell ⟨y, 9, none⟩ (.int .u64 (T : Int))).alloc (.cells (ansC 0) 91)) := (Below.refl _ _).alloc (Nat.le_refl _) _
  have H1 : Hid (RClB ((w.setCell ⟨y, 9, none⟩ (.int .u64 (T : Int))).alloc (.cells (ansC 0) 91)) y (c.goes now)) := Lib.hid (h00.below ba)
  have T1 : Hid (Tn (fun k => k = y) w ((w.setCell ⟨y, 9, none⟩ (.int .u64 (T : Int))).alloc (.cells (ansC 0) 91))) := Lib.hid (Tn.trans (F := fun k => k = y) (G := fun _ => False) ((Tn.refl (fun k => k = y) w).set (.inl rfl)) (Tn.of ba) fun k hk => hk.elim)
  have K1 : Hid (bk ((w.setCell ⟨y, 9, none⟩ (.int .u64 (T : Int))).alloc (.cells (ansC 0) 91)) w.heap.size = some (.cells (ansC 0) 91 (0, 0))) := Lib.hid (bk_alloc_at (w.setCell ⟨y, 9, none⟩ (.int .u64 (T : Int))) (.cells (ansC 0) 91 (0, 0)) _ (by simp))
  have HR1 : Hid (Rd ((w.setCell ⟨y, 9, none⟩ (.int .u64 (T : Int))).alloc (.cells (ansC 0) 91)) ((w.setCell ⟨y, 9, none⟩ (.int .u64 (T : Int))).alloc (.cells (ansC 0) 91)).heap.size A b) := Lib.hid (rd_turn hr T1.out hbx)
  have hyl2 : y ≠ w.heap.size := Nat.ne_of_lt hyl
  clear h hr hn hT hcg B0 hbx hb9 h00 ba
  go_enter Try.func39, Try.ntmps39
  go_upto_region 2 with fail
  clear hmx1 hmx2 hmx3 c9 lx f9
  change Code.wp _ _ _ _ ((w.setCell ⟨y, 9, none⟩ (.int .u64 (T : Int))).alloc (.cells (ansC 0) 91))
  generalize (w.setCell ⟨y, 9, none⟩ (.int .u64 (T : Int))).alloc (.cells (ansC 0) 91) = w1 at *
  have k6 := bk_cell H1.out.box 6
  have k10 := bk_cell H1.out.box 10
  simp [rcC, Cl.goes] at k6 k10
  have ly := bk_lt H1.out.box
  rw [HNO.out.1] at k6
  by_cases h4 : b.length < 4
  · have d4 : decide ((b.length : Int) < 4) = true := by simp; omega
    have d4' : decide (b.length < 4) = true := by simp; omega
    clear h4
    go_region
    clear d4 d4'
    have bd : Below w1.heap.size w1 w1.drew := (by (repeat (first | exact Below.refl _ _ | assumption | refine Below.drew ?_ | refine bdrewN ?_ _ | refine Below.alloc ?_ (by first | omega | (simp <;> omega) | (simp only [World.size_alloc] <;> omega)) _ | refine below_setRow ?_ (by first | omega | (simp <;> omega)) _ | refine Below.setCell ?_ (by first | omega | (simp <;> omega)) _)))
    have H2 := Lib.hid (H1.out.below bd)
    have T2 := Lib.hid (T1.out.trans (Tn.of (F := fun _ => False) bd) fun j hj => hj.elim)
    have K2 := Lib.hid (bk_keep bd (bk_lt K1.out) K1.out)
    have HR2 := Lib.hid ((HR1.out.below bd (Nat.le_refl _)).mono bd.size)
    clear k6 k10 ly bd H1 T1 K1 HR1
    generalize w1.drew = w2 at *
    have kr := K2.out
    have os1 := ansC_ones 0
    have os2 := ansC_size 0
    have lr := bk_lt kr
    go_wp2_with fail
    have F9 : Hid (RClB ((w2).setRow w.heap.size (ansC 0)) y (c.goes now) ∧ Tn (fun j => j = y) w ((w2).setRow w.heap.size (ansC 0))) := Lib.hid ⟨⟨(bk_setRow_other _ _ _ _ hyl2).trans (H2).out.box, (H2).out.n64, (H2).out.t64, (H2).out.i24, (H2).out.s64, (H2).out.w22⟩, (T2).out.setRow (Nat.le_refl _)⟩
    exact ret_two rfl rfl rfl rfl (by rw [bk_setRow_same, kr]; rfl) Try.underlying91 rfl (by rw [ansC_size]; kernel_rfl) ⟨rfl, F9.out⟩
  · have HL4 : Hid (4 ≤ b.length) := Lib.hid (by omega)
    clear h4
    have hl0 : 0 < b.length := by have := HL4.out; omega
    obtain ⟨bb, oo, rfl, hbb, hcl⟩ := HR1.out hl0
    obtain ⟨x0, hx0⟩ : ∃ x, x = b[0]'(by have := HL4.out; omega) := ⟨_, rfl⟩
    obtain ⟨x1, hx1⟩ : ∃ x, x = b[1]'(by have := HL4.out; omega) := ⟨_, rfl⟩
    obtain ⟨x2, hx2⟩ : ∃ x, x = b[2]'(by have := HL4.out; omega) := ⟨_, rfl⟩
    obtain ⟨x3, hx3⟩ : ∃ x, x = b[3]'(by have := HL4.out; omega) := ⟨_, rfl⟩
    have u0 := hcl 0 (by have := HL4.out; omega)
    have u1 := hcl 1 (by have := HL4.out; omega)
    have u2 := hcl 2 (by have := HL4.out; omega)
    have u3 := hcl 3 (by have := HL4.out; omega)
    rw [← hx0, Nat.add_zero] at u0
    rw [← hx1] at u1
    rw [← hx2] at u2
    rw [← hx3] at u3
    have HPR := Lib.hid (pref4 c b HL4.out HID.out)
    rw [← hx0, ← hx1, ← hx2, ← hx3] at HPR
    obtain ⟨N, hN⟩ : ∃ N, N = b.length := ⟨_, rfl⟩
    have HN := Lib.hid hN
    rw [← hN]
    have d4 : decide ((N : Int) < 4) = false := by have := HL4.out; simp; omega
    have d4' : decide (N < 4) = false := by have := HL4.out; simp; omega
    have q0 : (0 : Int) < (N : Int) := by have := HL4.out; omega
    have q1 : (1 : Int) < (N : Int) := by have := HL4.out; omega
    have q2 : (2 : Int) < (N : Int) := by have := HL4.out; omega
    have q3 : (3 : Int) < (N : Int) := by have := HL4.out; omega
    clear hl0 hcl hx0 hx1 hx2 hx3 hN
    by_cases h7 : x0.toNat = 7
    · have n7 : ((x0.toNat : Int) != 7) = false := by rw [h7]; rfl
      obtain ⟨E, hE⟩ : ∃ E, x1.toNat * 65536 + x2.toNat * 256 + x3.toNat = E := ⟨_, rfl⟩
      obtain ⟨z1, z2, z12, p1, p2, p3, p4, p5, p6, p7, p8, p9, p10, p11, p12, p13, p14⟩ := three32 x1 x2 x3 E hE
      have hne : ((E : Int) != (c.id : Int)) = true := by
        have h1 := HPR.out
        rw [HNO.out.2, hE, decide_eq_true h7, Bool.true_and] at h1
        have h2 : ¬ E = c.id := fun e => by rw [decide_eq_true e] at h1; cases h1
        simp; omega
      clear h7 hE
      go_region
      clear p1 p2 p3 p4 p5 p6 p7 p8 p9 p10 p11 p12 p13 p14 u0 u1 u2 u3 n7 hne d4 d4' q0 q1 q2 q3
      have bd : Below w1.heap.size w1 w1.drew := (by (repeat (first | exact Below.refl _ _ | assumption | refine Below.drew ?_ | refine bdrewN ?_ _ | refine Below.alloc ?_ (by first | omega | (simp <;> omega) | (simp only [World.size_alloc] <;> omega)) _ | refine below_setRow ?_ (by first | omega | (simp <;> omega)) _ | refine Below.setCell ?_ (by first | omega | (simp <;> omega)) _)))
      have H2 := Lib.hid (H1.out.below bd)
      have T2 := Lib.hid (T1.out.trans (Tn.of (F := fun _ => False) bd) fun j hj => hj.elim)
      have K2 := Lib.hid (bk_keep bd (bk_lt K1.out) K1.out)
      have HR2 := Lib.hid ((HR1.out.below bd (Nat.le_refl _)).mono bd.size)
      clear k6 k10 ly bd H1 T1 K1 HR1
      generalize w1.drew = w2 at *
      have kr := K2.out
      have os1 := ansC_ones 0
      have os2 := ansC_size 0
      have lr := bk_lt kr
      go_wp2_with fail
      have F9 : Hid (RClB ((w2).setRow w.heap.size (ansC 0)) y (c.goes now) ∧ Tn (fun j => j = y) w ((w2).setRow w.heap.size (ansC 0))) := Lib.hid ⟨⟨(bk_setRow_other _ _ _ _ hyl2).trans (H2).out.box, (H2).out.n64, (H2).out.t64, (H2).out.i24, (H2).out.s64, (H2).out.w22⟩, (T2).out.setRow (Nat.le_refl _)⟩
      exact ret_two rfl rfl rfl rfl (by rw [bk_setRow_same, kr]; rfl) Try.underlying91 rfl (by rw [ansC_size]; kernel_rfl) ⟨rfl, F9.out⟩
    · have n7 : ((x0.toNat : Int) != 7) = true := by simp; omega
      clear h7
      go_region
      clear u0 u1 u2 u3 n7 d4 d4' q0 q1 q2 q3
      have bd : Below w1.heap.size w1 w1.drew := (by (repeat (first | exact Below.refl _ _ | assumption | refine Below.drew ?_ | refine bdrewN ?_ _ | refine Below.alloc ?_ (by first | omega | (simp <;> omega) | (simp only [World.size_alloc] <;> omega)) _ | refine below_setRow ?_ (by first | omega | (simp <;> omega)) _ | refine Below.setCell ?_ (by first | omega | (simp <;> omega)) _)))
      have H2 := Lib.hid (H1.out.below bd)
      have T2 := Lib.hid (T1.out.trans (Tn.of (F := fun _ => False) bd) fun j hj => hj.elim)
      have K2 := Lib.hid (bk_keep bd (bk_lt K1.out) K1.out)
      have HR2 := Lib.hid ((HR1.out.below bd (Nat.le_refl _)).mono bd.size)
      clear k6 k10 ly bd H1 T1 K1 HR1
      generalize w1.drew = w2 at *
      have kr := K2.out
      have os1 := ansC_ones 0
      have os2 := ansC_size 0
      have lr := bk_lt kr
      go_wp2_with fail
      have F9 : Hid (RClB ((w2).setRow w.heap.size (ansC 0)) y (c.goes now) ∧ Tn (fun j => j = y) w ((w2).setRow w.heap.size (ansC 0))) := Lib.hid ⟨⟨(bk_setRow_other _ _ _ _ hyl2).trans (H2).out.box, (H2).out.n64, (H2).out.t64, (H2).out.i24, (H2).out.s64, (H2).out.w22⟩, (T2).out.setRow (Nat.le_refl _)⟩
      exact ret_two rfl rfl rfl rfl (by rw [bk_setRow_same, kr]; rfl) Try.underlying91 rfl (by rw [ansC_size]; kernel_rfl) ⟨rfl, F9.out⟩
end Go.Proofs.Ytfldoihindbdmaa
