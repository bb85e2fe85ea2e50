/- Segments: lives. -/
import Derived.Test.YtojddfbbeiobpaaQ7
import Derived.Test.YtojddfbbeiobpaaQ2
import Derived.Test.YtojddfbbeiobpaaW2
import Derived.Test.YtojddfbbeiobpaaL7
namespace Go.Proofs.Ytojddfbbeiobpaa
open Go.RowKit
set_option maxRecDepth 100000
@[go_sem ↓] theorem qfSegment (dst : Option Tmp) (x : Operand) (t : TypeId) (pos : String) (af : Array Edge) (g : Option (Nat × Bool)) (a : Act) (m : Nat) (W : World) (gs : List (Nat × (World → Prop))) [Nonempty (LaterF m W gs)] (K : Act → Prop) :
    Oper.quiet Try.prog ⟨dst, .load 30 x, t, pos, af, g⟩ a (fun w' => ∃ x : LaterF m W gs, w' = x.w) K =
      ldF (quietHid Try.prog ⟨dst, .load 30 x, t, pos, af, g⟩ a (fun w' => ∃ x : LaterF m W gs, w' = x.w) K) gs m 8 W (fun c => K (a.put dst (.agg c))) (a.eval x) :=
  quiet_load_F 30 8 _ Try.underlying30 rfl (by kernel_rfl) dst x t pos af g a m W gs K
@[go_sem ↓] theorem qfAddr (dst : Option Tmp) (x : Operand) (t : TypeId) (pos : String) (af : Array Edge) (g : Option (Nat × Bool)) (a : Act) (m : Nat) (W : World) (gs : List (Nat × (World → Prop))) [Nonempty (LaterF m W gs)] (K : Act → Prop) :
    Oper.quiet Try.prog ⟨dst, .load 23 x, t, pos, af, g⟩ a (fun w' => ∃ x : LaterF m W gs, w' = x.w) K =
      ldF (quietHid Try.prog ⟨dst, .load 23 x, t, pos, af, g⟩ a (fun w' => ∃ x : LaterF m W gs, w' = x.w) K) gs m 16 W (fun c => K (a.put dst (.agg c))) (a.eval x) :=
  quiet_load_F 23 16 _ Try.underlying23 rfl (by kernel_rfl) dst x t pos af g a m W gs K
@[go_sem ↓] theorem bfSegment (dst : Option Tmp) (ps : Array (Nat × Operand)) (t : TypeId) (pos : String) (af : Array Edge) (g : Option (Nat × Bool)) (a : Act) (m : Nat) (W : World) (gs : List (Nat × (World → Prop))) [hne : Nonempty (LaterF m W gs)] (K : Act → Prop) :
    Oper.quiet Try.prog ⟨dst, .build 30 ps, t, pos, af, g⟩ a (fun w' => ∃ x : LaterF m W gs, w' = x.w) K = bldTo (quietHid0 Try.prog ⟨dst, .build 30 ps, t, pos, af, g⟩ a (fun w' => ∃ x : LaterF m W gs, w' = x.w) K) (fun c => K (a.put dst (.agg c))) (Try.prog.built 30 (ps.toList.map fun x => (x.1, a.eval x.2))) :=
  quiet_build_bk 30 dst ps t pos af g a _ (hne.elim fun x => ⟨x.w, x, rfl⟩) K
def z16 : List UInt8 := List.replicate 16 0
/-- The chapter's segment, its bytes. -/
def sg0 : Sg := ⟨1, 2, 3, 0, 2, 0, 1440⟩
def want : List UInt8 := [0, 1, 0, 2, 0, 0, 0, 3, 0, 0, 0, 0, 96, 2, 0, 0, 152, 53, 0, 0, 2, 4, 5, 160]
@[go_sem] theorem built_d (A : Option Addr) (n c : Nat) : Try.prog.built 30 [(7, .slice A n c)] = some (sgc Sg.zero A n c) := by rw [builtSegment]; rfl
@[go_sem] theorem built_lives : Try.prog.built 30 [(0, .int .u16 1), (1, .int .u16 2), (2, .int .u32 3), (4, .int .u8 2), (6, .int .u16 1440)] = some (sgc sg0 none 0 0) := by rw [builtSegment]; rfl
@[go_sem] theorem z16_length : z16.length = 16 := rfl
theorem omss_want : omss [2, 4, 5, 160] = some 1440 := by
  have e : osq [2, 4, 5, 160] 0 = [some 0] := by
    rw [osq_good (by decide) (by decide) (by decide) (by decide), osq_end (by decide)]
  unfold omss
  rw [e]; rfl
theorem opt_want : opt want = [2, 4, 5, 160] := by decide +kernel
theorem zE_want : zE z16 z16 want = 0 := zE_ok (by decide) (by decide +kernel) (by decide +kernel) (by rw [opt_want, omss_want]; simp)
theorem zS_want : zS z16 z16 want = sg0 := by
  unfold zS
  rw [if_pos zE_want]
  unfold gS
  rw [opt_want, omss_want]
  rfl
theorem zD_want : zD z16 z16 want = [] := by
  unfold zD
  rw [if_pos zE_want]
  rfl
theorem sgb_want : sgb z16 z16 sg0 [] = want := by decide +kernel
theorem szero_ok : Sg.zero.Ok := ⟨by decide, by decide, by decide, by decide, by decide, by decide⟩
theorem sg0_ok : sg0.Ok := ⟨by decide, by decide, by decide, by decide, by decide, by decide⟩
set_option maxHeartbeats 1000000 in
theorem lives17_any (w : World) : Calls Try.prog 8 #[] w fun e w' => e = .returned (.bool true) ∧ Below w.heap.size w w' := by
  have hz : (#[Value.int IntKind.u8 0, Value.int IntKind.u8 0, Value.int IntKind.u8 0, Value.int IntKind.u8 0, Value.int IntKind.u8 0, Value.int IntKind.u8 0, Value.int IntKind.u8 0, Value.int IntKind.u8 0, Value.int IntKind.u8 0, Value.int IntKind.u8 0, Value.int IntKind.u8 0, Value.int IntKind.u8 0, Value.int IntKind.u8 0, Value.int IntKind.u8 0, Value.int IntKind.u8 0, Value.int IntKind.u8 0] : Array Value) = (z16.map B).toArray := by rfl
  have hw : (#[Value.int IntKind.u8 0, Value.int IntKind.u8 1, Value.int IntKind.u8 0, Value.int IntKind.u8 2, Value.int IntKind.u8 0, Value.int IntKind.u8 0, Value.int IntKind.u8 0, Value.int IntKind.u8 3, Value.int IntKind.u8 0, Value.int IntKind.u8 0, Value.int IntKind.u8 0, Value.int IntKind.u8 0, Value.int IntKind.u8 96, Value.int IntKind.u8 2, Value.int IntKind.u8 0, Value.int IntKind.u8 0, Value.int IntKind.u8 152, Value.int IntKind.u8 53, Value.int IntKind.u8 0, Value.int IntKind.u8 0, Value.int IntKind.u8 2, Value.int IntKind.u8 4, Value.int IntKind.u8 5, Value.int IntKind.u8 160] : Array Value) = (want.map B).toArray := by rfl
  have HZ := Lib.hid hz; have HW := Lib.hid hw
  clear hz hw
  go_enter Try.func8, Try.ntmps8
  go_wp2_with fail
  simp only [HZ.out, HW.out]
  have a0 : Below w.heap.size w (((w.alloc (.cells (z16.map B).toArray 23)).alloc (.cells (sgc sg0 none 0 0) 30)).alloc (.cells (want.map B).toArray 5)) := (by (repeat (first | exact Below.refl _ _ | assumption | refine Below.drew ?_ | refine bdrewN ?_ _ | refine Below.alloc ?_ (by first | omega | (simp <;> omega) | (simp only [World.size_alloc] <;> omega)) _ | refine below_setRow ?_ (by first | omega | (simp <;> omega)) _ | refine Below.setCell ?_ (by first | omega | (simp <;> omega)) _)))
  have k0 : bk (((w.alloc (.cells (z16.map B).toArray 23)).alloc (.cells (sgc sg0 none 0 0) 30)).alloc (.cells (want.map B).toArray 5)) w.heap.size = some (.cells (z16.map B).toArray 23 (0, 0)) := by rw [bk_alloc_past _ _ _ (by simp <;> omega), bk_alloc_past _ _ _ (by simp)]; exact bk_alloc_at _ _ _ rfl
  have k1 : bk (((w.alloc (.cells (z16.map B).toArray 23)).alloc (.cells (sgc sg0 none 0 0) 30)).alloc (.cells (want.map B).toArray 5)) (w.heap.size + 1) = some (.cells (sgc sg0 none 0 0) 30 (0, 0)) := by rw [bk_alloc_past _ _ _ (by simp)]; exact bk_alloc_at _ _ _ (by simp)
  have k2 : bk (((w.alloc (.cells (z16.map B).toArray 23)).alloc (.cells (sgc sg0 none 0 0) 30)).alloc (.cells (want.map B).toArray 5)) (w.heap.size + 1 + 1) = some (.cells (want.map B).toArray 5 (0, 0)) := bk_alloc_at _ _ _ (by simp)
  have A0 := Lib.hid a0; have K0 := Lib.hid k0; have K1 := Lib.hid k1; have K2 := Lib.hid k2
  clear a0 k0 k1 k2
  generalize (((w.alloc (.cells (z16.map B).toArray 23)).alloc (.cells (sgc sg0 none 0 0) 30)).alloc (.cells (want.map B).toArray 5)) = wa at *
  refine (sput_any z16 z16 sg0 sg0_ok none [] 0 wa rfl rfl Rd.nil (fun _ => ⟨rfl, rfl⟩) (by decide)).mono ?_
  rintro e w1 ⟨v, rfl, ho, b1⟩
  rw [sgb_want] at ho
  obtain ⟨A1, c1, rfl, hR1, _, _⟩ := Rd.of_own ho rfl
  have j0 := bk_keep b1 (bk_lt K0.out) K0.out; have j1 := bk_keep b1 (bk_lt K1.out) K1.out; have j2 := bk_keep b1 (bk_lt K2.out) K2.out
  have F1 := Lib.hid (A0.out.trans (b1.mono A0.out.size))
  have R1 := Lib.hid hR1
  have RW : Hid (Rd w1 w1.heap.size (some ⟨w.heap.size + 1 + 1, 0, none⟩) want) := Lib.hid (Rd.of_bk j2 (bk_lt j2) (fun j h => by simp [List.getElem?_eq_getElem h]))
  have J0 := Lib.hid j0; have J1 := Lib.hid j1; have J2 := Lib.hid j2
  clear A0 K0 K1 K2 b1 ho hR1 HZ HW j1 j2
  have l0 := bk_lt j0
  go_wp2_with fail
  refine (sget_any z16 z16 (some ⟨w.heap.size + 1 + 1, 0, none⟩) want 24 w1 rfl rfl RW.out (fun h => by cases h) (by decide)).mono ?_
  rintro e w2 ⟨A2, rfl, hG, b2⟩
  rw [zE_want, zS_want, zD_want] at *
  have hG2 := Lib.hid hG
  have j0 := bk_keep b2 (bk_lt J0.out) J0.out; have j1 := bk_keep b2 (bk_lt J1.out) J1.out; have j2 := bk_keep b2 (bk_lt J2.out) J2.out
  have F2 := Lib.hid (F1.out.trans (b2.mono F1.out.size))
  replace R1 := Lib.hid ((R1.out.below b2 (Nat.le_refl _)).mono b2.size)
  replace J0 := Lib.hid j0; replace J1 := Lib.hid j1; replace J2 := Lib.hid j2
  clear F1 RW b2 hG j1 j2 l0
  have l0 := bk_lt j0
  rw [show ([] : List UInt8).length = 0 from rfl]
  go_upto_region 6 with fail
  have a8 := (Below.refl w2.heap.size w2).alloc (Nat.le_refl _) (.cells (sgc sg0 A2 0 0) 30 (0, 0))
  have F8 := Lib.hid (F2.out.trans (a8.mono F2.out.size))
  have K9 : Hid (bk (w2.alloc (.cells (sgc sg0 A2 0 0) 30 (0, 0))) w2.heap.size = some (.cells (sgc sg0 A2 0 0) 30 (0, 0))) := Lib.hid (bk_alloc_at _ _ _ rfl)
  have x8 := bk_keep a8 (bk_lt J0.out) J0.out
  have X8 := Lib.hid x8; have Y8 := Lib.hid (bk_keep a8 (bk_lt J1.out) J1.out); have Z8 := Lib.hid (bk_keep a8 (bk_lt J2.out) J2.out)
  have R8 := Lib.hid ((R1.out.below a8 (Nat.le_refl _)).mono a8.size); have G9 := Lib.hid (hG2.out.below a8)
  clear J0 J1 J2 R1 hG2 F2 a8 j0 l0
  generalize w2.alloc (.cells (sgc sg0 A2 0 0) 30 (0, 0)) = w8 at *
  have l8 := bk_lt x8
  obtain ⟨M2, hM2⟩ : ∃ M : MadeW w8.heap.size, M = MadeW.fresh _ (fun b => .slice (some ⟨b, 0, none⟩) 65516 65516) := ⟨_, rfl⟩
  have H2 := Lib.hid hM2
  clear hM2
  refine wp_region_e (w8.heap.size) ([.fresh 2 H2, .val w8.heap.size 4 (.tuple #[.slice none 0 0, .int .i64 3])]) (fun _ => []) (Fs.nil) (by first | omega | (simp <;> omega)) (by kernel_rfl) (by kernel_rfl) (by kernel_rfl) (by kernel_rfl) EnvW.Ini.nil ?_
  refine walkW_segn 2 [] facts0 noneHx (by kernel_rfl) (by kernel_rfl) ?_
  simp only [List.take_succ_cons, List.take_zero, List.drop_succ_cons, List.drop_zero, Nat.reduceAdd]
  repeat (go_big_quiet_step (fail))
  (first | refine wpQuiet_nil ?_ | (go_big_quiet_want; (try go_big_quiet_op); trace_state; fail))
  refine walkW_mk (fun _ => M2) [] M2 ([]) facts0 (by kernel_rfl) (by kernel_rfl) (by kernel_rfl) rfl rfl (fun w' hb' hg' => ?_) (fun v2 h2 => ?_)
  · ((exact make_mk H2 rfl rfl (by omega) (by omega) hb'.size))
  obtain ⟨b2, m2, rfl⟩ := fresh_T H2 h2
  simp only [Act.put, List.setIfInBounds_toArray, List.set_cons_succ, List.set_cons_zero, Nat.reduceAdd]
  refine walkW_segn 1 [] facts0 noneHx (by kernel_rfl) (by kernel_rfl) ?_
  simp only [List.take_succ_cons, List.take_zero, List.drop_succ_cons, List.drop_zero, Nat.reduceAdd]
  repeat (go_big_quiet_step (fail))
  (first | refine wpQuiet_nil ?_ | (go_big_quiet_want; (try go_big_quiet_op); trace_state; fail))
  refine walkW_val (.tuple #[.slice none 0 0, .int .i64 3]) (fun _ => .val (.tuple #[.slice none 0 0, .int .i64 3])) [] ([]) facts0 (by kernel_rfl) (by kernel_rfl) (by kernel_rfl) rfl rfl (fun w' hb' hg' => ?_) ?_
  · unfold madeAtW
    go_simp
    ((refine (sput_long z16 z16 Sg.zero szero_ok (some ⟨b2, 0, none⟩) 65516 65516 w' (by decide) (by omega)).mono ?_; rintro e w2 ⟨rfl, hb⟩; exact valW hb hb'.size))
  simp only [Act.put, List.setIfInBounds_toArray, List.set_cons_succ, List.set_cons_zero, Nat.reduceAdd]
  refine walkW_segn 5 [] facts0 noneHx (by kernel_rfl) (by kernel_rfl) ?_
  simp only [List.take_succ_cons, List.take_zero, List.drop_succ_cons, List.drop_zero, Nat.reduceAdd]
  repeat (go_big_quiet_step (fail))
  (first | refine wpQuiet_nil ?_ | (go_big_quiet_want; (try go_big_quiet_op); trace_state; fail))
  refine walkW_nil ?_
  intro w9 b9 _
  have F9 := Lib.hid (F8.out.trans (b9.mono F8.out.size))
  have R9 := Lib.hid ((R8.out.below b9 (Nat.le_refl _)).mono b9.size); have hG9 := G9.out.below b9; have k9 := bk_keep b9 (bk_lt K9.out) K9.out; have y9 := bk_keep b9 (bk_lt Y8.out) Y8.out; have z9 := bk_keep b9 (bk_lt Z8.out) Z8.out
  have HG9 := Lib.hid hG9; have HK9 := Lib.hid k9; have HY9 := Lib.hid y9
  have RW9 : Hid (Rd w9 w9.heap.size (some ⟨w.heap.size + 1 + 1, 0, none⟩) want) := Lib.hid (Rd.of_bk z9 (bk_lt z9) (fun j h => by simp [List.getElem?_eq_getElem h]))
  clear x8 X8 Y8 Z8 R8 G9 K9 F8 b9 hG9 k9 y9 z9
  go_wp2_with fail
  have CB := sameBytes_any A1 (some ⟨w.heap.size + 1 + 1, 0, none⟩) want want c1 24 w9 R9.out RW9.out (by decide) (by decide)
  rw [beq_self_eq_true] at CB
  refine CB.mono ?_
  rintro e w10 ⟨rfl, b10'⟩
  have F10 := Lib.hid (F9.out.trans (b10'.mono F9.out.size))
  have k10 := bk_keep b10' (bk_lt HK9.out) HK9.out; have y10 := bk_keep b10' (bk_lt HY9.out) HY9.out
  have HG10 := Lib.hid (HG9.out.below b10')
  have lk10 := bk_lt k10; have ly10 := bk_lt y10
  clear CB b10' HK9 HY9 HG9 R9 RW9 F9
  go_wp2_with fail
  have CD := sameSegment_any sg0 A2 none [] 0 0 w10 HG10.out.rd Rd.nil (by decide)
  refine CD.mono ?_
  clear CD
  rintro e w11 ⟨rfl, b11⟩
  have F11 := Lib.hid (F10.out.trans (b11.mono F10.out.size))
  clear b11
  go_wp2_with fail
  go_ret
  exact ⟨rfl, F11.out⟩
end Go.Proofs.Ytojddfbbeiobpaa
