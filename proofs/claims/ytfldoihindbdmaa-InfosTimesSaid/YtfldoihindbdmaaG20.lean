/- InfosPlay: world.does where a client starts. -/
import Derived.Test.YtfldoihindbdmaaMgI
namespace Go.Proofs.Ytfldoihindbdmaa
open Go.RowKit
set_option maxRecDepth 100000
set_option maxHeartbeats 2000000
def wlC (x y : Nat) (p : Option Addr) (q : Nat) : Array Value := #[.pointer (some ⟨x, 0, none⟩), .pointer (some ⟨y, 0, none⟩), .pointer p, .pointer (some ⟨q, 0, none⟩)]
@[go_sem] theorem wlC_size (x y : Nat) (p : Option Addr) (q : Nat) : (wlC x y p q).size = 4 := rfl
@[go_sem] theorem wlC_ones (x y : Nat) (p : Option Addr) (q : Nat) : ones (wlC x y p q).toList = true := rfl
section
variable {x y q : Nat} {p : Option Addr}
theorem z0_rfl : (wlC x y p q)[0]? = some (.pointer (some ⟨x, 0, none⟩)) := rfl
theorem z1_rfl : (wlC x y p q)[1]? = some (.pointer (some ⟨y, 0, none⟩)) := rfl
theorem z2_rfl : (wlC x y p q)[2]? = some (.pointer p) := rfl
theorem z3_rfl : (wlC x y p q)[3]? = some (.pointer (some ⟨q, 0, none⟩)) := rfl
end
/-- What turns: both clients, their words. -/
def DF (x y q : Nat) (p : Option Addr) (k : Nat) : Prop := XF x p k ∨ YF y q k
theorem Tn.next {F : Nat → Prop} {w w' w'' : World} (h : Tn F w w') (b : Below w'.heap.size w' w'') : Tn F w w'' := h.trans (Tn.of (F := fun _ => False) b) fun _ e => e.elim
theorem Tn.dx {x y q : Nat} {p : Option Addr} {w w' w'' : World} (h : Tn (DF x y q p) w w') (t : Tn (XF x p) w' w'') : Tn (DF x y q p) w w'' := h.trans t fun _ e => .inl (.inl e)
theorem Tn.dy {x y q : Nat} {p : Option Addr} {w w' w'' : World} (h : Tn (DF x y q p) w w') (t : Tn (YF y q) w' w'') : Tn (DF x y q p) w w'' := h.trans t fun _ e => .inl (.inr e)
/-- What world.does has kept. -/
def Does (w : World) (n x y : Nat) (p : Option Addr) (m q : Nat) (e : Ending) (w' : World) : Prop := e = .returned (.bool true) ∧ ∃ c' l', Wv w' n x y p m q c' l' ∧ Tn (DF x y q p) w w'
theorem does_start (n x y m q now : Nat) (p : Option Addr) (c : Cl) (l : List Nat) (a : Ai) (w : World) (h : Wv w n x y p m q c l) (ha : AiOk w n a) (hn : now ≤ far) (hk : (a.kind.toNat : Int) % 5 = 0) :
    Calls Try.prog 21 #[.agg (wlC x y p q), .int .u64 (now : Int), .agg a.row] w (Does w n x y p m q) := by
  obtain ⟨r, c1, l1, hi1, hl1, hCP, hCD⟩ := start_both n x y m q now p c l h.st hn h.inv h.u32
  have CP := Lib.hid hCP; have CD := Lib.hid hCD; have HI := Lib.hid (And.intro hi1 hl1)
  have ST := Lib.hid h.st
  have HV := Lib.hid h
  have HNM := Lib.hid h.nm
  clear hi1 hl1 hCP hCD h ha hn
  obtain ⟨bx, hbx⟩ : ∃ b, b = w.heap.size := ⟨_, rfl⟩
  have HBX := Lib.hid hbx
  have hk5 : decide ((a.kind.toNat : Int) % 5 = 0) = true := by simpa using hk
  have B2 : Hid (Below w.heap.size w ((w.alloc (.cells (wlC x y p q) 63)).alloc (.cells a.row 25))) := Lib.hid (((Below.refl _ _).alloc (Nat.le_refl _) _).alloc (by simp) _)
  have K2 : Hid (bk ((w.alloc (.cells (wlC x y p q) 63)).alloc (.cells a.row 25)) bx = some (.cells (wlC x y p q) 63 (0, 0))) := Lib.hid (by rw [hbx, bk_alloc_past _ _ _ (by simp)]; exact bk_alloc_at _ _ _ rfl)
  have A2 : Hid (bk ((w.alloc (.cells (wlC x y p q) 63)).alloc (.cells a.row 25)) (w.heap.size + 1) = some (.cells a.row 25 (0, 0))) := Lib.hid (bk_alloc_at _ _ _ (by simp))
  clear hbx
  go_enter Try.func21, Try.ntmps21
  go_upto_region 1 with fail
  rw [← HBX.out]
  rw [← HBX.out] at A2
  generalize (w.alloc (.cells (wlC x y p q) 63)).alloc (.cells a.row 25) = w2 at *
  have u0 : w2.cell? ⟨bx + 1, 0, none⟩ = some (.int .u8 (a.kind.toNat : Int)) := (bk_cell A2.out 0).trans rfl
  have V2 := Lib.hid (HV.out.below B2.out)
  have BN : Hid (Tn (DF x y q p) w w2) := Lib.hid (Tn.of B2.out)
  have HBXn : Hid (m ≤ bx ∧ bx < w2.heap.size) := Lib.hid ⟨by rw [HBX.out]; exact HNM.out.2, bk_lt K2.out⟩
  clear HV B2 A2
  go_upto_region 12 with fail
  clear u0 hk5
  have z0 : w2.drew.cell? ⟨bx, 0, none⟩ = some (.pointer (some ⟨x, 0, none⟩)) := (bk_cell K2.out 0).trans rfl
  have z1 : w2.drew.cell? ⟨bx, 1, none⟩ = some (.pointer (some ⟨y, 0, none⟩)) := (bk_cell K2.out 1).trans rfl
  have z2 : w2.drew.cell? ⟨bx, 2, none⟩ = some (.pointer p) := (bk_cell K2.out 2).trans rfl
  have z3 : w2.drew.cell? ⟨bx, 3, none⟩ = some (.pointer (some ⟨q, 0, none⟩)) := (bk_cell K2.out 3).trans rfl
  have hb2 := HBXn.out.2
  have bd : Below w2.heap.size w2 w2.drew := (by (repeat (first | exact Below.refl _ _ | assumption | refine Below.drew ?_ | refine bdrewN ?_ _ | refine Below.alloc ?_ (by first | omega | (simp <;> omega) | (simp only [World.size_alloc] <;> omega)) _ | refine below_setRow ?_ (by first | omega | (simp <;> omega)) _ | refine Below.setCell ?_ (by first | omega | (simp <;> omega)) _)))
  have VD := V2.out.below bd
  have P0 := Lib.hid VD.px; have D0 := Lib.hid VD.dy
  have KD : Hid (bk w2.drew bx = some (.cells (wlC x y p q) 63 (0, 0))) := K2
  have BD := Lib.hid (BN.out.next bd)
  have FX : Hid (¬ XF x p bx) := Lib.hid fun e => by have h1 := HBXn.out.1; have h2 := ST.out.xm; rcases e with e | e; omega; have := ST.out.pn bx e; omega
  have FY : Hid (¬ YF y q bx) := Lib.hid fun e => by have h1 := HBXn.out.1; have h2 := ST.out.ym; have h3 := V2.out.wq.lt; rcases e with e | e <;> omega
  have NX : Hid (∀ k, XF x p k → n ≤ k) := Lib.hid fun k e => by
    rcases e with rfl | e
    · exact ST.out.xn
    · exact (ST.out.pn k e).1
  have NY : Hid (∀ k, YF y q k → n ≤ k) := Lib.hid fun k e => by
    rcases e with rfl | rfl
    · exact ST.out.yn
    · exact ST.out.qn
  have N2 : Hid (n ≤ w2.drew.heap.size) := Lib.hid VD.nm.1
  clear bd VD V2 K2 BN hb2
  go_region_held3 (fun w' => w'.cell? ⟨bx, 0, none⟩ = some (.pointer (some ⟨x, 0, none⟩)) ∧ w'.cell? ⟨bx, 1, none⟩ = some (.pointer (some ⟨y, 0, none⟩)) ∧ w'.cell? ⟨bx, 2, none⟩ = some (.pointer p) ∧ w'.cell? ⟨bx, 3, none⟩ = some (.pointer (some ⟨q, 0, none⟩))) (first | assumption | go_keep)
    (first
      | (go_at_call 10; with_reducible refine (CP.out _ P0.out).mono ?_; rintro e w6 ⟨rfl, p6, t6⟩; have P6 := Lib.hid p6; have D6 := Lib.hid (D0.out.turn ST.out t6); have K6 := Lib.hid (t6.keep FX.out KD.out); have B6 := Lib.hid (BD.out.dx t6); have M6 := Lib.hid (Nat.le_trans N2.out t6.size); have y0 := (bk_cell K6.out 0).trans z0_rfl; have y1 := (bk_cell K6.out 1).trans z1_rfl; have y2 := (bk_cell K6.out 2).trans z2_rfl; have y3 := (bk_cell K6.out 3).trans z3_rfl; clear P0 D0 p6 t6)
      | (go_at_call 37; with_reducible refine (CD.out _ D0.out).mono ?_; rintro e w7 ⟨rfl, d7, t7⟩; have D7 := Lib.hid d7; have P7 := Lib.hid (P0.out.turn ST.out t7); have K7 := Lib.hid (t7.keep FY.out KD.out); have B7 := Lib.hid (BD.out.dy t7); have M7 := Lib.hid (Nat.le_trans N2.out t7.size); have y0 := (bk_cell K7.out 0).trans z0_rfl; have y1 := (bk_cell K7.out 1).trans z1_rfl; have y2 := (bk_cell K7.out 2).trans z2_rfl; have y3 := (bk_cell K7.out 3).trans z3_rfl; clear P0 D0 d7 t7)
      | (go_at_call 37; with_reducible refine (CD.out _ D6.out).mono ?_; rintro e w8 ⟨rfl, d8, t8⟩; have V8 := Lib.hid (ST.out.wv (P6.out.turn ST.out t8) d8 HI.out.1 HI.out.2); have K8 := Lib.hid (t8.keep FY.out K6.out); have B8 := Lib.hid (B6.out.dy t8); have v0 := (bk_cell K8.out 0).trans z0_rfl; have v1 := (bk_cell K8.out 1).trans z1_rfl; have v2 := (bk_cell K8.out 2).trans z2_rfl; have v3 := (bk_cell K8.out 3).trans z3_rfl; clear P6 D6 d8 t8 K6 B6)
      | (go_at_call 10; with_reducible refine (CP.out _ P7.out).mono ?_; rintro e w8 ⟨rfl, p8, t8⟩; have V8 := Lib.hid (ST.out.wv p8 (D7.out.turn ST.out t8) HI.out.1 HI.out.2); have K8 := Lib.hid (t8.keep FX.out K7.out); have B8 := Lib.hid (B7.out.dx t8); have v0 := (bk_cell K8.out 0).trans z0_rfl; have v1 := (bk_cell K8.out 1).trans z1_rfl; have v2 := (bk_cell K8.out 2).trans z2_rfl; have v3 := (bk_cell K8.out 3).trans z3_rfl; clear P7 D7 p8 t8 K7 B7))
  all_goals
    clear z0 z1 z2 z3 y0 y1 y2 y3 v0 v1 v2 v3 KD CP CD
    go_upto_region 31 with fail
    have l8 := bk_lt (K8).out
    have z0 : (w8).cell? ⟨bx, 0, none⟩ = some (.pointer (some ⟨x, 0, none⟩)) := (bk_cell (K8).out 0).trans rfl
    have z1 : (w8).cell? ⟨bx, 1, none⟩ = some (.pointer (some ⟨y, 0, none⟩)) := (bk_cell (K8).out 1).trans rfl
    have z2 : (w8).cell? ⟨bx, 2, none⟩ = some (.pointer p) := (bk_cell (K8).out 2).trans rfl
    have z3 : (w8).cell? ⟨bx, 3, none⟩ = some (.pointer (some ⟨q, 0, none⟩)) := (bk_cell (K8).out 3).trans rfl
    have ly8 := bk_lt (V8).out.cy.box
    have z6 := bk_cell (V8).out.cy.box 6
    have CE := Lib.hid (fin_calls (V8).out)
    simp [rcC] at z6
    refine wp_region_later ((w8).heap.size) (by kernel_rfl) (by kernel_rfl) ?_
    repeat (go_big_quiet_step (((rename_i xq; first | (with_reducible exact later_call xq (Nat.le_refl _) (CE.out xq.w xq.h).1) | (with_reducible exact later_call xq (Nat.le_refl _) (CE.out xq.w xq.h).2.1) | (with_reducible exact later_call xq (Nat.le_refl _) (CE.out xq.w xq.h).2.2.1) | (with_reducible exact later_call xq (Nat.le_refl _) (CE.out xq.w xq.h).2.2.2.1) | (with_reducible exact later_call xq (Nat.le_refl _) (CE.out xq.w xq.h).2.2.2.2)))))
    (first | refine wpQuiet_nil ?_ | (go_big_quiet_want; (try go_big_quiet_op); trace_state; fail))
    intro w9 hw'
    have q9 := later_elim hw'
    clear hw'
    have FZ := Lib.hid (And.intro ((V8).out.below q9) ((B8).out.next q9))
    clear q9 z0 z1 z2 z3 z6 CE
    go_wp2_with fail
    go_ret
    exact ⟨rfl, _, _, FZ.out⟩
end Go.Proofs.Ytfldoihindbdmaa
