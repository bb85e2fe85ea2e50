/- EthersPut, walked. -/
import Derived.Test.YtdmmfffoikelgaaE3
import Derived.Test.YtdmmfffoikelgaaL7
import Derived.Test.YtdmmfffoikelgaaS18
namespace Go.Proofs.Ytdmmfffoikelgaa
open Go.RowKit
set_option maxRecDepth 100000
@[go_sem ↓] theorem qfFrame (dst : Option Tmp) (x : Operand) (t : TypeId) (pos : String) (af : Array Edge) (g : Option (Nat × Bool)) (a : Act) (m : Nat) (W : World) (gs : List (Nat × (World → Prop))) [Nonempty (LaterF m W gs)] (K : Act → Prop) :
    Oper.quiet Try.prog ⟨dst, .load 27 x, t, pos, af, g⟩ a (fun w' => ∃ x : LaterF m W gs, w' = x.w) K =
      ldF (quietHid Try.prog ⟨dst, .load 27 x, t, pos, af, g⟩ a (fun w' => ∃ x : LaterF m W gs, w' = x.w) K) gs m 14 W (fun c => K (a.put dst (.agg c))) (a.eval x) :=
  quiet_load_F 27 14 _ Try.underlying27 rfl (by kernel_rfl) dst x t pos af g a m W gs K
@[go_sem ↓] theorem qfAddr (dst : Option Tmp) (x : Operand) (t : TypeId) (pos : String) (af : Array Edge) (g : Option (Nat × Bool)) (a : Act) (m : Nat) (W : World) (gs : List (Nat × (World → Prop))) [Nonempty (LaterF m W gs)] (K : Act → Prop) :
    Oper.quiet Try.prog ⟨dst, .load 29 x, t, pos, af, g⟩ a (fun w' => ∃ x : LaterF m W gs, w' = x.w) K =
      ldF (quietHid Try.prog ⟨dst, .load 29 x, t, pos, af, g⟩ a (fun w' => ∃ x : LaterF m W gs, w' = x.w) K) gs m 16 W (fun c => K (a.put dst (.agg c))) (a.eval x) :=
  quiet_load_F 29 16 _ Try.underlying29 rfl (by kernel_rfl) dst x t pos af g a m W gs K
set_option maxHeartbeats 2000000 in
theorem ethersPut_walk (d s a : List UInt8) (k : Nat) (A : Option Addr) (l : List UInt8) (c : Nat) (w : World) (hd : d.length = 6) (hs : s.length = 6) (ha : a.length = 16) (hk : k < 65536) (h : Rd w w.heap.size A l) (hA : A = none → l = [] ∧ c = 0) (hl : l.length ≤ 5000) :
    Calls Try.prog 3 #[.agg (frc d s k A l.length c), av a] w fun e w' => e = .returned (.bool true) ∧ Below w.heap.size w w' := by
  have H := Lib.hid h; have HA := Lib.hid hA
  clear h hA
  have d1 : decide (5000 < (l.length : Int)) = false := by simp; omega
  have d2 : decide (5000 < l.length) = false := by simp; omega
  go_enter Try.func3, Try.ntmps3
  have a0 : Below w.heap.size w ((w.alloc (.cells (frc d s k A l.length c) 27)).alloc (.cells (List.map B a).toArray 29)) := ((Below.refl _ _).alloc (Nat.le_refl _) _).alloc (by simp) _
  have k0 : bk ((w.alloc (.cells (frc d s k A l.length c) 27)).alloc (.cells (List.map B a).toArray 29)) w.heap.size = some (.cells (frc d s k A l.length c) 27 (0, 0)) := by rw [bk_alloc_past _ _ _ (by simp)]; exact bk_alloc_at _ _ _ rfl
  have k1 : bk ((w.alloc (.cells (frc d s k A l.length c) 27)).alloc (.cells (List.map B a).toArray 29)) (w.heap.size + 1) = some (.cells (List.map B a).toArray 29 (0, 0)) := bk_alloc_at _ _ _ (by simp)
  have z0 : ((w.alloc (.cells (frc d s k A l.length c) 27)).alloc (.cells (List.map B a).toArray 29)).heap.size = w.heap.size + 1 + 1 := by simp
  have K0 := Lib.hid k0; have K1 := Lib.hid k1; have Z0 := Lib.hid z0
  clear k0 k1 z0
  go_wp2_with fail
  generalize (w.alloc (.cells (frc d s k A l.length c) 27)).alloc (.cells (List.map B a).toArray 29) = wa at *
  have z1 : w.heap.size + 2 ≤ wa.heap.size := by have := Z0.out; omega
  refine (twinFrame_any d s k A l c wa hd hs ((H.out.below a0 (Nat.le_refl _)).mono a0.size) (by omega)).mono ?_
  rintro e w1 ⟨T, rfl, hTl, hT, b1⟩
  have f1 := a0.trans (b1.mono a0.size)
  have K0' := Lib.hid (bk_keep b1 (by omega) K0.out); have K1' := Lib.hid (bk_keep b1 (by omega) K1.out)
  have HT := Lib.hid hT
  have hT1 := bk_lt hT
  clear K0 K1 Z0 hT a0 b1
  go_wp2_with fail
  have a2 : Below w1.heap.size w1 (w1.alloc (.cells (frc d s k (some ⟨T, 0, none⟩) l.length (l.length + 4)) 27)) := (Below.refl _ _).alloc (Nat.le_refl _) _
  have k2 : bk (w1.alloc (.cells (frc d s k (some ⟨T, 0, none⟩) l.length (l.length + 4)) 27)) w1.heap.size = some (.cells (frc d s k (some ⟨T, 0, none⟩) l.length (l.length + 4)) 27 (0, 0)) := bk_alloc_at _ _ _ rfl
  have z2 : (w1.alloc (.cells (frc d s k (some ⟨T, 0, none⟩) l.length (l.length + 4)) 27)).heap.size = w1.heap.size + 1 := by simp
  have hT2 := bk_keep a2 hT1 HT.out
  have k20 := bk_keep a2 (by omega) K0'.out
  have k21 := bk_keep a2 (by omega) K1'.out
  have f2 := f1.trans (a2.mono f1.size)
  refine (eput_any d s k (some ⟨T, 0, none⟩) l (l.length + 4) _ hd hs hk (Rd.of_bk hT2 (by omega) (tw_head l 199)) (fun h => by cases h) (by omega)).mono ?_
  rintro e w3 ⟨v, rfl, ho, b3⟩
  obtain ⟨Ab, cb, rfl, hRb, _, hcb⟩ := Rd.of_own ho rfl
  have f3 := f2.trans (b3.mono f2.size)
  have x0 := bk_keep b3 (by omega) k20
  have x1 := bk_keep b3 (by omega) k21
  have x2 := bk_keep b3 (by omega) k2
  have xT := bk_keep b3 (by omega) hT2
  have s3 : w1.heap.size + 1 ≤ w3.heap.size := by have := b3.size; omega
  have X0 := Lib.hid x0; have X1 := Lib.hid x1; have X2 := Lib.hid x2; have XT := Lib.hid xT; have HRb := Lib.hid hRb
  have hfl := frb_length d s k l hd hs
  have RO := Lib.hid (Room.of_own (World.ownsRow.mono ho (show w1.heap.size + 1 ≤ _ by rw [z2]; exact Nat.le_refl _)))
  have f4 := f3
  clear x0 x1 x2 xT hRb ho b3 f3 K0' K1' HT a2 k2 z2 hT2 k20 k21 f2
  have y0 := bk_lt X0.out; have y1 := bk_lt X1.out; have y2 := bk_lt X2.out; have y3 := bk_lt XT.out
  have HFL := Lib.hid hfl
  clear hfl
  have kx0 := X0.out; have kx1 := X1.out; have kx2 := X2.out
  have hneq : ∀ w, (Op.equalIn 10000 23 (.agg (List.map B (grp a)).toArray) (.agg (List.map B (grp a)).toArray)).run Try.prog w = .ok true w := fun w => by
    have := eqMac (grp a) (grp a) (grp_length a ha) (grp_length a ha) w
    rwa [beq_self_eq_true] at this
  have HA3 := Lib.hid ((H.out.below f4 (Nat.le_refl _)).mono f4.size)
  obtain ⟨M, hM⟩ : ∃ M : Made w3.heap.size, M = Made.sl w3.heap.size (frb d s k l) := ⟨_, rfl⟩
  have HM := Lib.hid hM
  clear hM
  go_wp2_with fail
  refine wp_region_made (w3.heap.size) (fun k => ([(2, M), (3, .val (.bool true)), (8, .val (.bool true)), (13, .val (av (grp a))), (15, .val (av (grp a)))] : List (Nat × Made w3.heap.size)).lookup k) (by first | omega | (simp <;> omega)) (by kernel_rfl) (by kernel_rfl) ?_
  refine walk_segn 2 ([]) facts0 (by kernel_rfl) (by kernel_rfl) ?_
  simp only [List.take_succ_cons, List.take_zero, List.drop_succ_cons, List.drop_zero, Nat.reduceAdd]
  repeat (go_big_quiet_step (fail))
  (first | refine wpQuiet_nil ?_ | (go_big_quiet_want; (try go_big_quiet_op); trace_state; fail))
  refine walk_mkop M ([]) facts0 (by kernel_rfl) (by kernel_rfl) (by kernel_rfl) (fun w' hb' hg' => ?_) (fun v hTA2 hAt => ?_)
  · unfold madeAt
    go_simp
    ((refine (rfput_any d s k A l c w' hd hs hk ((HA3.out.below hb' (Nat.le_refl _)).mono hb'.size) HA.out (by omega)).mono ?_; rintro e w2 ⟨v, rfl, ho, hb⟩; obtain ⟨A', c', rfl, hr, _, _⟩ := Rd.of_own ho rfl; exact sl_end HM hb hr))
  obtain ⟨A2, c2, rfl⟩ := sl_T HM hTA2
  clear hTA2 hAt
  simp only [Act.put, List.setIfInBounds_toArray, List.set_cons_succ, List.set_cons_zero, Nat.reduceAdd]
  refine walk_val (.bool true) ([(2, M.R (.slice A2 (frb d s k l).length c2))]) (facts1 fun w h => h.1 rfl) (by kernel_rfl) (by kernel_rfl) (by kernel_rfl) (fun w' hb' hg' => ?_) ?_
  · unfold madeAt
    go_simp
    ((refine (sameBytes_any Ab A2 _ _ cb c2 w' ((HRb.out.below hb' (Nat.le_refl _)).mono hb'.size) (sl_R HM (hg' _ (List.mem_singleton.2 rfl))).2 (by rw [HFL.out]; omega) (by rw [HFL.out]; omega)).mono ?_; rintro e w2 ⟨rfl, hb⟩; rw [beq_self_eq_true]; exact val_end hb))
  simp only [Act.put, List.setIfInBounds_toArray, List.set_cons_succ, List.set_cons_zero, Nat.reduceAdd]
  refine walk_segn 4 ([]) facts0 (by kernel_rfl) (by kernel_rfl) ?_
  simp only [List.take_succ_cons, List.take_zero, List.drop_succ_cons, List.drop_zero, Nat.reduceAdd]
  repeat (go_big_quiet_step (fail))
  (first | refine wpQuiet_nil ?_ | (go_big_quiet_want; (try go_big_quiet_op); trace_state; fail))
  refine walk_val (.bool true) ([]) facts0 (by kernel_rfl) (by kernel_rfl) (by kernel_rfl) (fun w' hb' hg' => ?_) ?_
  · unfold madeAt
    go_simp
    ((refine (leftFrame_any d s k A l c T w' hd hs ((HA3.out.below hb' (Nat.le_refl _)).mono hb'.size) (by omega) (bk_keep hb' y3 XT.out)).mono ?_; rintro e w2 ⟨rfl, hb⟩; exact val_end hb))
  simp only [Act.put, List.setIfInBounds_toArray, List.set_cons_succ, List.set_cons_zero, Nat.reduceAdd]
  refine walk_segn 4 ([]) facts0 (by kernel_rfl) (by kernel_rfl) ?_
  simp only [List.take_succ_cons, List.take_zero, List.drop_succ_cons, List.drop_zero, Nat.reduceAdd]
  repeat (go_big_quiet_step (fail))
  (first | refine wpQuiet_nil ?_ | (go_big_quiet_want; (try go_big_quiet_op); trace_state; fail))
  refine walk_val (av (grp a)) ([]) facts0 (by kernel_rfl) (by kernel_rfl) (by kernel_rfl) (fun w' hb' hg' => ?_) ?_
  · unfold madeAt
    go_simp
    ((refine (group_any a ha w').mono ?_; rintro e w2 ⟨rfl, hb⟩; exact val_end hb))
  simp only [Act.put, List.setIfInBounds_toArray, List.set_cons_succ, List.set_cons_zero, Nat.reduceAdd]
  refine walk_segn 1 ([]) facts0 (by kernel_rfl) (by kernel_rfl) ?_
  simp only [List.take_succ_cons, List.take_zero, List.drop_succ_cons, List.drop_zero, Nat.reduceAdd]
  repeat (go_big_quiet_step (fail))
  (first | refine wpQuiet_nil ?_ | (go_big_quiet_want; (try go_big_quiet_op); trace_state; fail))
  refine walk_val (av (grp a)) ([]) facts0 (by kernel_rfl) (by kernel_rfl) (by kernel_rfl) (fun w' hb' hg' => ?_) ?_
  · unfold madeAt
    go_simp
    ((refine (rgroup_any a ha w').mono ?_; rintro e w2 ⟨rfl, hb⟩; exact val_end hb))
  simp only [Act.put, List.setIfInBounds_toArray, List.set_cons_succ, List.set_cons_zero, Nat.reduceAdd]
  refine walk_segn 2 ([]) facts0 (by kernel_rfl) (by kernel_rfl) ?_
  simp only [List.take_succ_cons, List.take_zero, List.drop_succ_cons, List.drop_zero, Nat.reduceAdd]
  repeat (go_big_quiet_step (fail))
  (first | refine wpQuiet_nil ?_ | (go_big_quiet_want; (try go_big_quiet_op); trace_state; fail))
  refine walk_nil ?_
  intro w5 b5 _
  have f5 : Below w.heap.size w w5 := f4.trans (b5.mono f4.size)
  have s5 := b5.size
  have XT5 := Lib.hid (bk_keep b5 y3 XT.out)
  have X25 := Lib.hid (bk_keep b5 y2 X2.out)
  have R5 : Room w5 Ab cb 5 := RO.out.1.below b5
  obtain ⟨_, hle5, hmx5, hrg5⟩ := RO.out
  have HR5 := Lib.hid R5; have HG5 := Lib.hid hrg5
  clear R5 hrg5 RO XT X2 X0 X1 HRb HA3 kx0 kx1 kx2 hneq b5 HM y0 y1 y2
  have a6 : Below w5.heap.size w5 (w5.alloc (.cells #[.slice none 0 0] 38)) := (Below.refl _ _).alloc (Nat.le_refl _) _
  have K6 : Bk (w5.alloc (.cells #[.slice none 0 0] 38)) w5.heap.size w.heap.size [] := Bk.new (bk_alloc_at _ _ _ rfl)
  have x6 := bk_keep a6 (bk_lt X25.out) X25.out
  have c6 := (bk_cell x6 13).trans (frc_body hd hs)
  have T6 := bk_keep a6 (bk_lt XT5.out) XT5.out
  have R6 := HR5.out.below a6
  have f6 := f5.trans (a6.mono f5.size)
  have s6 : w5.heap.size < (w5.alloc (.cells #[.slice none 0 0] 38)).heap.size := by simp
  have HK6 := Lib.hid K6; have HT6 := Lib.hid T6; have HR6 := Lib.hid R6; have HX6 := Lib.hid x6
  have hf5 := f5.size
  clear K6 x6 T6 R6 XT5 X25 HR5 a6
  go_wp2_with fail
  generalize w5.alloc (.cells #[.slice none 0 0] 38) = w6 at *
  have hf6 := f6.size
  refine (bytes_Bk w5.heap.size w.heap.size [] (some ⟨T, 0, none⟩) l.length (l.length + 4) w6 HK6.out (by simp) hf5 hf6 (fun _ => ⟨T, 0, _, rfl, HT6.out, by simp [tw_length]⟩) (by omega) (by omega) (fun b j ⟨o, e, _⟩ => by cases e; omega) (fun l' hl' => by cases hl')).mono ?_
  rintro e w7 ⟨i1, x1, rfl, K7, F7, b7⟩
  have f7 := f6.trans b7
  have s7 := F7.size
  have R7 := F7.room' HR6.out fun b o cur e hb => by rintro rfl; obtain ⟨hv, hh⟩ := HK6.out.book.objAt; rw [hh] at hb; cases hb
  have HK7 := Lib.hid K7; have HR7 := Lib.hid R7
  clear K7 F7 b7 R7 HK6 HT6 HR6
  go_wp2_with fail
  refine (bytes_Bk w5.heap.size w.heap.size _ Ab (frb d s k l).length cb w7 HK7.out (by simp) hf5 (by omega) HR7.out hle5 hmx5 (fun b j hr => by have := (HG5.out b j hr).1; omega) (fun l' hl' b j h1 h2 => by
    simp at hl'
    subst hl'
    obtain ⟨o, e, _⟩ := h1
    cases e
    have := HG5.out _ _ h2
    omega)).mono ?_
  rintro e w8 ⟨i2, x2, rfl, K8, F8, b8⟩
  have f8 := f7.trans b8
  have s8 := F8.size
  have HK8 := Lib.hid K8
  clear K8 F8 b8 HK7 HR7
  go_wp2_with fail
  refine (apart_Bk w5.heap.size w.heap.size _ w8 HK8.out hf5 (by omega) (by simp)).mono ?_
  rintro e w9 ⟨rfl, b9⟩
  have f9 := f8.trans b9
  clear b9 HK8
  go_wp2_with fail
  refine (lives8_any w9).mono ?_
  rintro e w10 ⟨rfl, b10⟩
  have f10 := f9.trans (b10.mono f9.size)
  clear b10
  go_wp2_with fail
  go_ret
  exact ⟨rfl, f10⟩
theorem ethersPut_long (d s a : List UInt8) (k : Nat) (A : Option Addr) (n c : Nat) (w : World) (hd : d.length = 6) (hs : s.length = 6) (ha : a.length = 16) (hl : 5000 < n) (h63 : n < 2 ^ 63) :
    Calls Try.prog 3 #[.agg (frc d s k A n c), av a] w fun e w' => e = .returned (.bool true) ∧ Below w.heap.size w w' := by
  have d1 : decide (5000 < (n : Int)) = true := by simp; omega
  have d2 : decide (5000 < n) = true := by simp; omega
  go_enter Try.func3, Try.ntmps3
  have a0 : Below w.heap.size w ((w.alloc (.cells (frc d s k A n c) 27)).alloc (.cells (List.map B a).toArray 29)) := ((Below.refl _ _).alloc (Nat.le_refl _) _).alloc (by simp) _
  go_wp2_with fail
  refine (lives8_any _).mono ?_
  rintro e w1 ⟨rfl, b1⟩
  have f1 := a0.trans (b1.mono a0.size)
  clear b1 a0
  go_wp2_with fail
  go_ret
  exact ⟨rfl, f1⟩
end Go.Proofs.Ytdmmfffoikelgaa
