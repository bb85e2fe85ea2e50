/- Datagrams: lives. -/
import Derived.Test.YteeiihfbnkgcaaaD4
import Derived.Test.YteeiihfbnkgcaaaD2
import Derived.Test.YteeiihfbnkgcaaaW2
import Derived.Test.YteeiihfbnkgcaaaL7
namespace Go.Proofs.Yteeiihfbnkgcaaa
open Go.RowKit
set_option maxRecDepth 100000
@[go_sem ↓] theorem qfDatagram (dst : Option Tmp) (x : Operand) (t : TypeId) (pos : String) (af : Array Edge) (g : Option (Nat × Bool)) (a : Act) (m : Nat) (W : World) (gs : List (Nat × (World → Prop))) [Nonempty (LaterF m W gs)] (K : Act → Prop) :
    Oper.quiet Try.prog ⟨dst, .load 29 x, t, pos, af, g⟩ a (fun w' => ∃ x : LaterF m W gs, w' = x.w) K =
      ldF (quietHid Try.prog ⟨dst, .load 29 x, t, pos, af, g⟩ a (fun w' => ∃ x : LaterF m W gs, w' = x.w) K) gs m 3 W (fun c => K (a.put dst (.agg c))) (a.eval x) :=
  quiet_load_F 29 3 _ Try.underlying29 rfl (by kernel_rfl) dst x t pos af g a m W gs K
@[go_sem ↓] theorem qfAddr (dst : Option Tmp) (x : Operand) (t : TypeId) (pos : String) (af : Array Edge) (g : Option (Nat × Bool)) (a : Act) (m : Nat) (W : World) (gs : List (Nat × (World → Prop))) [Nonempty (LaterF m W gs)] (K : Act → Prop) :
    Oper.quiet Try.prog ⟨dst, .load 23 x, t, pos, af, g⟩ a (fun w' => ∃ x : LaterF m W gs, w' = x.w) K =
      ldF (quietHid Try.prog ⟨dst, .load 23 x, t, pos, af, g⟩ a (fun w' => ∃ x : LaterF m W gs, w' = x.w) K) gs m 16 W (fun c => K (a.put dst (.agg c))) (a.eval x) :=
  quiet_load_F 23 16 _ Try.underlying23 rfl (by kernel_rfl) dst x t pos af g a m W gs K
@[go_sem ↓] theorem bfDatagram (dst : Option Tmp) (ps : Array (Nat × Operand)) (t : TypeId) (pos : String) (af : Array Edge) (g : Option (Nat × Bool)) (a : Act) (m : Nat) (W : World) (gs : List (Nat × (World → Prop))) [hne : Nonempty (LaterF m W gs)] (K : Act → Prop) :
    Oper.quiet Try.prog ⟨dst, .build 29 ps, t, pos, af, g⟩ a (fun w' => ∃ x : LaterF m W gs, w' = x.w) K = bldTo (quietHid0 Try.prog ⟨dst, .build 29 ps, t, pos, af, g⟩ a (fun w' => ∃ x : LaterF m W gs, w' = x.w) K) (fun c => K (a.put dst (.agg c))) (Try.prog.built 29 (ps.toList.map fun x => (x.1, a.eval x.2))) :=
  quiet_build_bk 29 dst ps t pos af g a _ (hne.elim fun x => ⟨x.w, x, rfl⟩) K
@[go_sem] theorem builtDatagram_d (A : Option Addr) (n c : Nat) : Try.prog.built 29 [(2, .slice A n c)] = some (dgc 0 0 A n c) := by rw [builtDatagram]; rfl
@[go_sem] theorem builtDatagram_12 : Try.prog.built 29 [(0, .int .u16 1), (1, .int .u16 2)] = some (dgc 1 2 none 0 0) := by rw [builtDatagram]; rfl
def z16 : List UInt8 := List.replicate 16 0
/-- The chapter's bytes. -/
def want : List UInt8 := [0, 1, 0, 2, 0, 8, 255, 219]
@[go_sem] theorem z16_length : z16.length = 16 := rfl
set_option maxHeartbeats 1000000 in
theorem lives16_any (w : World) : Calls Try.prog 7 #[] w fun e w' => e = .returned (.bool true) ∧ Below w.heap.size w w' := by
  have hz : (#[Value.int IntKind.u8 0, Value.int IntKind.u8 0, Value.int IntKind.u8 0, Value.int IntKind.u8 0, Value.int IntKind.u8 0, Value.int IntKind.u8 0, Value.int IntKind.u8 0, Value.int IntKind.u8 0, Value.int IntKind.u8 0, Value.int IntKind.u8 0, Value.int IntKind.u8 0, Value.int IntKind.u8 0, Value.int IntKind.u8 0, Value.int IntKind.u8 0, Value.int IntKind.u8 0, Value.int IntKind.u8 0] : Array Value) = (z16.map B).toArray := by rfl
  have hw : (#[Value.int IntKind.u8 0, Value.int IntKind.u8 1, Value.int IntKind.u8 0, Value.int IntKind.u8 2, Value.int IntKind.u8 0, Value.int IntKind.u8 8, Value.int IntKind.u8 255, Value.int IntKind.u8 219] : Array Value) = (want.map B).toArray := by rfl
  have HZ := Lib.hid hz; have HW := Lib.hid hw
  clear hz hw
  go_enter Try.func7, Try.ntmps7
  go_wp2_with fail
  simp only [HZ.out, HW.out]
  have a0 : Below w.heap.size w (((w.alloc (.cells (z16.map B).toArray 23)).alloc (.cells (dgc 1 2 none 0 0) 29)).alloc (.cells (want.map B).toArray 5)) := (by (repeat (first | exact Below.refl _ _ | assumption | refine Below.drew ?_ | refine bdrewN ?_ _ | refine Below.alloc ?_ (by first | omega | (simp <;> omega) | (simp only [World.size_alloc] <;> omega)) _ | refine below_setRow ?_ (by first | omega | (simp <;> omega)) _ | refine Below.setCell ?_ (by first | omega | (simp <;> omega)) _)))
  have k0 : bk (((w.alloc (.cells (z16.map B).toArray 23)).alloc (.cells (dgc 1 2 none 0 0) 29)).alloc (.cells (want.map B).toArray 5)) w.heap.size = some (.cells (z16.map B).toArray 23 (0, 0)) := by rw [bk_alloc_past _ _ _ (by simp <;> omega), bk_alloc_past _ _ _ (by simp)]; exact bk_alloc_at _ _ _ rfl
  have k1 : bk (((w.alloc (.cells (z16.map B).toArray 23)).alloc (.cells (dgc 1 2 none 0 0) 29)).alloc (.cells (want.map B).toArray 5)) (w.heap.size + 1) = some (.cells (dgc 1 2 none 0 0) 29 (0, 0)) := by rw [bk_alloc_past _ _ _ (by simp)]; exact bk_alloc_at _ _ _ (by simp)
  have k2 : bk (((w.alloc (.cells (z16.map B).toArray 23)).alloc (.cells (dgc 1 2 none 0 0) 29)).alloc (.cells (want.map B).toArray 5)) (w.heap.size + 1 + 1) = some (.cells (want.map B).toArray 5 (0, 0)) := bk_alloc_at _ _ _ (by simp)
  have A0 := Lib.hid a0; have K0 := Lib.hid k0; have K1 := Lib.hid k1; have K2 := Lib.hid k2
  clear a0 k0 k1 k2
  generalize (((w.alloc (.cells (z16.map B).toArray 23)).alloc (.cells (dgc 1 2 none 0 0) 29)).alloc (.cells (want.map B).toArray 5)) = wa at *
  refine (dput_any z16 z16 1 2 none [] 0 wa rfl rfl (by omega) (by omega) Rd.nil (fun _ => ⟨rfl, rfl⟩) (by simp)).mono ?_
  rintro e w1 ⟨v, rfl, ho, b1⟩
  rw [show dgb z16 z16 1 2 [] = want by decide +kernel] at ho
  obtain ⟨A1, c1, rfl, hR1, _, _⟩ := Rd.of_own ho rfl
  have j0 := bk_keep b1 (bk_lt K0.out) K0.out; have j1 := bk_keep b1 (bk_lt K1.out) K1.out; have j2 := bk_keep b1 (bk_lt K2.out) K2.out
  have F1 := Lib.hid (A0.out.trans (b1.mono A0.out.size))
  have R1 := Lib.hid hR1
  have RW : Hid (Rd w1 w1.heap.size (some ⟨w.heap.size + 1 + 1, 0, none⟩) want) := Lib.hid (Rd.of_bk j2 (bk_lt j2) (fun j h => by simp [List.getElem?_eq_getElem h]))
  have J0 := Lib.hid j0; have J1 := Lib.hid j1
  clear A0 K0 K1 K2 b1 ho hR1 HZ HW
  have l0 := bk_lt j0; have l1 := bk_lt j1; have l2 := bk_lt j2
  go_wp2_with fail
  obtain ⟨M3, hM3⟩ : ∃ M : MadeW w1.heap.size, M = MadeW.own _ [] want := ⟨_, rfl⟩
  obtain ⟨M4, hM4⟩ : ∃ M : MadeW w1.heap.size, M = MadeW.row _ (fun b => .slice (some ⟨b, 0, none⟩) 1 1) #[.int .u8 0] 5 := ⟨_, rfl⟩
  obtain ⟨M5, hM5⟩ : ∃ M : MadeW w1.heap.size, M = MadeW.own _ [5] (want ++ [0]) := ⟨_, rfl⟩
  obtain ⟨M6, hM6⟩ : ∃ M : MadeW w1.heap.size, M = MadeW.gots _ (fun A => .tuple #[.agg (dgc 1 2 A 0 0), .int .i64 0]) [] := ⟨_, rfl⟩
  obtain ⟨M10, hM10⟩ : ∃ M : MadeW w1.heap.size, M = MadeW.row _ (fun b => .pointer (some ⟨b, 0, none⟩)) (dgc 0 0 none 0 0) 29 := ⟨_, rfl⟩
  have H3 := Lib.hid hM3; have H4 := Lib.hid hM4; have H5 := Lib.hid hM5; have H6 := Lib.hid hM6; have H10 := Lib.hid hM10
  clear hM3 hM4 hM5 hM6 hM10
  refine wp_region_e (w1.heap.size) ([.own 3 H3, .row 4 H4, .own 5 H5, .gots 6 H6, .row 10 H10, .store w1.heap.size 11 29 [6, 31]]) (fun k => (([(5, [3, 4]), (6, [5]), (11, [10])] : List (Nat × List Nat)).lookup k).getD []) (Fs.nil) (by first | omega | (simp <;> omega)) (by kernel_rfl) (by kernel_rfl) (by kernel_rfl) (by kernel_rfl) EnvW.Ini.nil ?_
  refine walkW_segn 3 [] facts0 noneHx (by kernel_rfl) (by kernel_rfl) ?_
  simp only [List.take_succ_cons, List.take_zero, List.drop_succ_cons, List.drop_zero, Nat.reduceAdd]
  repeat (go_big_quiet_step (fail))
  (first | refine wpQuiet_nil ?_ | (go_big_quiet_want; (try go_big_quiet_op); trace_state; fail))
  refine walkW_mk (fun _ => M3) [] M3 ([]) facts0 (by kernel_rfl) (by kernel_rfl) (by kernel_rfl) rfl rfl (fun w' hb' hg' => ?_) (fun v3 h3 => ?_)
  · ((exact append_mk rfl H3 (l1 := []) (l2 := want) rfl rfl (World.ownsRow_nil _ _ _ _) rfl rfl (fun h => by cases h) ((RW.out.below hb' (Nat.le_refl _)).mono hb'.size) (by decide) hb'.size (.inl rfl)))
  obtain ⟨A3, c3, rfl, n3, _⟩ := own_T H3 h3
  simp only [Act.put, List.setIfInBounds_toArray, List.set_cons_succ, List.set_cons_zero, Nat.reduceAdd]
  refine walkW_mk (fun _ => M4) [] M4 ([]) facts0 (by kernel_rfl) (by kernel_rfl) (by kernel_rfl) rfl rfl (fun w' hb' hg' => ?_) (fun v4 h4 => ?_)
  · unfold madeAtW
    go_simp
    ((exact (row_mk (b := w'.heap.size) H4 ((Below.refl _ _).alloc (Nat.le_refl _) _) hb'.size hb'.size (bk_alloc_at _ _ _ rfl) :)))
  obtain ⟨b4, m4, rfl⟩ := row_T H4 h4
  simp only [Act.put, List.setIfInBounds_toArray, List.set_cons_succ, List.set_cons_zero, Nat.reduceAdd]
  refine walkW_mk (fun _ => M5) [] M5 ([(3, M3.R (.slice A3 want.length c3)), (4, M4.R (.slice (some ⟨b4, 0, none⟩) 1 1))]) (facts2 (fun w h => h.2.1 rfl) (fun w h => h.1 rfl)) (by kernel_rfl) (by kernel_rfl) (by kernel_rfl) rfl rfl (fun w' hb' hg' => ?_) (fun v5 h5 => ?_)
  · ((exact append_mk rfl H5 (l1 := want) (l2 := [0]) rfl rfl (own_R H3 (hg' _ (.head _))) rfl rfl (fun h => by cases h) (Rd.of_bk (L := [0]) (row_R H4 (fun b b' h => by simpa using h) (hg' _ (.tail _ (.head _)))) (bk_lt (row_R H4 (fun b b' h => by simpa using h) (hg' _ (.tail _ (.head _))))) (fun j h => by simp [List.getElem?_eq_getElem h])) (by decide) hb'.size (.inr (by simp))))
  obtain ⟨A5, c5, rfl, n5, le5⟩ := own_T H5 h5
  simp only [Act.put, List.setIfInBounds_toArray, List.set_cons_succ, List.set_cons_zero, Nat.reduceAdd]
  have eF : gF z16 z16 (want ++ [0]) = 1 := by decide +kernel
  have eT : gT z16 z16 (want ++ [0]) = 2 := by decide +kernel
  have eD : gD z16 z16 (want ++ [0]) = [] := by decide +kernel
  have eE : gE z16 z16 (want ++ [0]) = 0 := by decide +kernel
  have EQ := Lib.hid (And.intro eF (And.intro eT (And.intro eD eE)))
  clear eF eT eD eE
  refine walkW_mk (fun _ => M6) [] M6 ([(5, M5.R (.slice A5 (want ++ [0]).length c5))]) (facts1 fun w h => h.1 rfl) (by kernel_rfl) (by kernel_rfl) (by kernel_rfl) rfl rfl (fun w' hb' hg' => ?_) (fun v6 h6 => ?_)
  · unfold madeAtW
    go_simp
    ((refine (dget_any z16 z16 A5 (want ++ [0]) c5 w' rfl rfl (own_Rd H5 (hg' _ (.head _))) n5 le5 (by decide)).mono ?_; rintro e w2 ⟨A', rfl, hG, hb⟩; rw [EQ.out.1, EQ.out.2.1, EQ.out.2.2.1, EQ.out.2.2.2] at *; exact gots_end H6 hb hb'.size (hG.lower hb'.size)))
  obtain ⟨A6, rfl⟩ := gots_T H6 h6
  simp only [Act.put, List.setIfInBounds_toArray, List.set_cons_succ, List.set_cons_zero, Nat.reduceAdd]
  refine walkW_segn 3 [] facts0 noneHx (by kernel_rfl) (by kernel_rfl) ?_
  simp only [List.take_succ_cons, List.take_zero, List.drop_succ_cons, List.drop_zero, Nat.reduceAdd]
  repeat (go_big_quiet_step (fail))
  (first | refine wpQuiet_nil ?_ | (go_big_quiet_want; (try go_big_quiet_op); trace_state; fail))
  refine walkW_mk (fun _ => M10) [] M10 ([]) facts0 (by kernel_rfl) (by kernel_rfl) (by kernel_rfl) rfl rfl (fun w' hb' hg' => ?_) (fun v10 h10 => ?_)
  · unfold madeAtW
    go_simp
    ((exact row_mk H10 ((Below.refl _ _).alloc (Nat.le_refl _) _) hb'.size hb'.size (bk_alloc_at _ _ _ rfl)))
  obtain ⟨b10, m10, rfl⟩ := row_T H10 h10
  simp only [Act.put, List.setIfInBounds_toArray, List.set_cons_succ, List.set_cons_zero, Nat.reduceAdd]
  refine walkW_mk (MadeW.storeAt _ 29) [.pointer (some ⟨b10, 0, none⟩), .agg (dgc 1 2 A6 0 0)] (MadeW.store _ b10 (dgc 1 2 A6 0 0) 29) ([(10, M10.R (.pointer (some ⟨b10, 0, none⟩)))]) (facts1 fun w h => h.1 rfl) (by kernel_rfl) (by kernel_rfl) (by kernel_rfl) rfl rfl (fun w' hb' hg' => ?_) (fun v hT => ?_)
  · exact storeRow_mk (n := 3) (by kernel_rfl) (Lib.hid rfl) (row_R H10 ptr_inj (hg' _ (.head _))) m10 rfl rfl dgc_size dgc_size dgc_ones
  clear hT
  simp only [Act.put]
  refine walkW_segn 1 [] facts0 noneHx (by kernel_rfl) (by kernel_rfl) ?_
  simp only [List.take_succ_cons, List.take_zero, List.drop_succ_cons, List.drop_zero, Nat.reduceAdd]
  repeat (go_big_quiet_step (fail))
  (first | refine wpQuiet_nil ?_ | (go_big_quiet_want; (try go_big_quiet_op); trace_state; fail))
  refine walkW_nil ?_
  intro w5 b5 hf
  have G6 := gots_R H6 (fun A A' h => by simpa [dgc] using h) ((hf 6 (by kernel_rfl)).2.2.1 rfl)
  have K6 := store_R (Lib.hid rfl) ((hf 11 (by kernel_rfl)).1 rfl)
  have f5 := F1.out.trans (b5.mono F1.out.size)
  have x0 := bk_keep b5 l0 J0.out; have x1 := bk_keep b5 l1 J1.out; have x2 := bk_keep b5 l2 j2
  have R5 : Hid (Rd w5 w5.heap.size A1 want) := Lib.hid ((R1.out.below b5 (Nat.le_refl _)).mono b5.size)
  have X0 := Lib.hid x0; have X1 := Lib.hid x1; have X2 := Lib.hid x2; have F5 := Lib.hid f5; have G6' := Lib.hid G6; have K6' := Lib.hid K6
  have s5 := b5.size
  clear x1 x2 f5 G6 K6 hf b5 H3 H4 H5 H6 H10 h3 h4 h5 h6 h10 EQ M3 M4 M5 M6 M10 F1 R1 RW J0 J1 j0 j1 j2
  go_wp2_with fail
  rw [show (#[Value.int IntKind.u8 0, Value.int IntKind.u8 1, Value.int IntKind.u8 0, Value.int IntKind.u8 2, Value.int IntKind.u8 0, Value.int IntKind.u8 8, Value.int IntKind.u8 0, Value.int IntKind.u8 0] : Array Value) = (List.map B [0, 1, 0, 2, 0, 8, 0, 0]).toArray from rfl]
  have hR6 : Rd ((w5).alloc (.cells (List.map B [0, 1, 0, 2, 0, 8, 0, 0]).toArray 5 (0, 0))) ((w5).alloc (.cells (List.map B [0, 1, 0, 2, 0, 8, 0, 0]).toArray 5 (0, 0))).heap.size (some ⟨w5.heap.size, 0, none⟩) [0, 1, 0, 2, 0, 8, 0, 0] := by have h := Rd.lit (w5) [0, 1, 0, 2, 0, 8, 0, 0] 5; rw [show (w5).heap.size = w5.heap.size by simp] at h; exact h
  have a6 : Below (w5).heap.size w5 ((w5).alloc (.cells (List.map B [0, 1, 0, 2, 0, 8, 0, 0]).toArray 5 (0, 0))) := (by (repeat (first | exact Below.refl _ _ | assumption | refine Below.drew ?_ | refine bdrewN ?_ _ | refine Below.alloc ?_ (by first | omega | (simp <;> omega) | (simp only [World.size_alloc] <;> omega)) _ | refine below_setRow ?_ (by first | omega | (simp <;> omega)) _ | refine Below.setCell ?_ (by first | omega | (simp <;> omega)) _)))
  refine (dget_any z16 z16 (some ⟨w5.heap.size, 0, none⟩) [0, 1, 0, 2, 0, 8, 0, 0] 8 ((w5).alloc (.cells (List.map B [0, 1, 0, 2, 0, 8, 0, 0]).toArray 5 (0, 0))) rfl rfl hR6 (fun h => by cases h) (by decide) (by decide)).mono ?_
  rintro e w6 ⟨A7, rfl, _, hb6⟩
  rw [show gF z16 z16 [0, 1, 0, 2, 0, 8, 0, 0] = 0 by decide +kernel, show gT z16 z16 [0, 1, 0, 2, 0, 8, 0, 0] = 0 by decide +kernel, show gD z16 z16 [0, 1, 0, 2, 0, 8, 0, 0] = [] by decide +kernel, show gE z16 z16 [0, 1, 0, 2, 0, 8, 0, 0] = 6 by decide +kernel]
  have b6 := a6.trans (hb6.mono a6.size)
  have F6 := Lib.hid ((F5).out.trans (b6.mono (F5).out.size))
  have y0 := bk_keep b6 (bk_lt (X0).out) (X0).out
  have Y0 := Lib.hid y0
  have Y1 := Lib.hid (bk_keep b6 (bk_lt (X1).out) (X1).out)
  have Y2 := Lib.hid (bk_keep b6 (bk_lt (X2).out) (X2).out)
  have R6 := Lib.hid (((R5).out.below b6 (Nat.le_refl _)).mono b6.size)
  have G7' := Lib.hid ((G6').out.below b6)
  have K7' := Lib.hid (bk_keep b6 (bk_lt (K6').out) (K6').out)
  have ly0 := bk_lt y0
  clear a6 hb6 b6 hR6 x0 X0 X1 X2 R5 G6' K6' F5
  go_wp2_with fail
  rw [show (#[Value.int IntKind.u8 0, Value.int IntKind.u8 1, Value.int IntKind.u8 0, Value.int IntKind.u8 2, Value.int IntKind.u8 0, Value.int IntKind.u8 7, Value.int IntKind.u8 255, Value.int IntKind.u8 219] : Array Value) = (List.map B [0, 1, 0, 2, 0, 7, 255, 219]).toArray from rfl]
  have hR6 : Rd ((w6.alloc (.cells (dgc 0 0 A7 0 0) 29 (0, 0))).alloc (.cells (List.map B [0, 1, 0, 2, 0, 7, 255, 219]).toArray 5 (0, 0))) ((w6.alloc (.cells (dgc 0 0 A7 0 0) 29 (0, 0))).alloc (.cells (List.map B [0, 1, 0, 2, 0, 7, 255, 219]).toArray 5 (0, 0))).heap.size (some ⟨w6.heap.size + 1, 0, none⟩) [0, 1, 0, 2, 0, 7, 255, 219] := by have h := Rd.lit (w6.alloc (.cells (dgc 0 0 A7 0 0) 29 (0, 0))) [0, 1, 0, 2, 0, 7, 255, 219] 5; rw [show (w6.alloc (.cells (dgc 0 0 A7 0 0) 29 (0, 0))).heap.size = w6.heap.size + 1 by simp] at h; exact h
  have a6 : Below (w6).heap.size w6 ((w6.alloc (.cells (dgc 0 0 A7 0 0) 29 (0, 0))).alloc (.cells (List.map B [0, 1, 0, 2, 0, 7, 255, 219]).toArray 5 (0, 0))) := (by (repeat (first | exact Below.refl _ _ | assumption | refine Below.drew ?_ | refine bdrewN ?_ _ | refine Below.alloc ?_ (by first | omega | (simp <;> omega) | (simp only [World.size_alloc] <;> omega)) _ | refine below_setRow ?_ (by first | omega | (simp <;> omega)) _ | refine Below.setCell ?_ (by first | omega | (simp <;> omega)) _)))
  refine (dget_any z16 z16 (some ⟨w6.heap.size + 1, 0, none⟩) [0, 1, 0, 2, 0, 7, 255, 219] 8 ((w6.alloc (.cells (dgc 0 0 A7 0 0) 29 (0, 0))).alloc (.cells (List.map B [0, 1, 0, 2, 0, 7, 255, 219]).toArray 5 (0, 0))) rfl rfl hR6 (fun h => by cases h) (by decide) (by decide)).mono ?_
  rintro e w7 ⟨A8, rfl, _, hb6⟩
  rw [show gF z16 z16 [0, 1, 0, 2, 0, 7, 255, 219] = 0 by decide +kernel, show gT z16 z16 [0, 1, 0, 2, 0, 7, 255, 219] = 0 by decide +kernel, show gD z16 z16 [0, 1, 0, 2, 0, 7, 255, 219] = [] by decide +kernel, show gE z16 z16 [0, 1, 0, 2, 0, 7, 255, 219] = 4 by decide +kernel]
  have b6 := a6.trans (hb6.mono a6.size)
  have F7 := Lib.hid ((F6).out.trans (b6.mono (F6).out.size))
  have z0 := bk_keep b6 (bk_lt (Y0).out) (Y0).out
  have Z0 := Lib.hid z0
  have Z1 := Lib.hid (bk_keep b6 (bk_lt (Y1).out) (Y1).out)
  have Z2 := Lib.hid (bk_keep b6 (bk_lt (Y2).out) (Y2).out)
  have R7 := Lib.hid (((R6).out.below b6 (Nat.le_refl _)).mono b6.size)
  have G8' := Lib.hid ((G7').out.below b6)
  have K8' := Lib.hid (bk_keep b6 (bk_lt (K7').out) (K7').out)
  have lz0 := bk_lt z0
  clear a6 hb6 b6 hR6 y0 Y0 Y1 Y2 R6 G7' K7' F6
  go_wp2_with fail
  have a8 := (Below.refl w7.heap.size w7).alloc (Nat.le_refl _) (.cells (dgc 0 0 A8 0 0) 29 (0, 0))
  have F8 := Lib.hid (F7.out.trans (a8.mono F7.out.size))
  have x8 := bk_keep a8 (bk_lt Z0.out) Z0.out
  have X8 := Lib.hid x8; have Y8 := Lib.hid (bk_keep a8 (bk_lt Z1.out) Z1.out); have Z8 := Lib.hid (bk_keep a8 (bk_lt Z2.out) Z2.out)
  have R8 := Lib.hid ((R7.out.below a8 (Nat.le_refl _)).mono a8.size); have G9 := Lib.hid (G8'.out.below a8); have K9 := Lib.hid (bk_keep a8 (bk_lt K8'.out) K8'.out)
  clear z0 Z0 Z1 Z2 R7 G8' K8' F7 a8 lz0
  generalize w7.alloc (.cells (dgc 0 0 A8 0 0) 29 (0, 0)) = w8 at *
  have l8 := bk_lt x8
  obtain ⟨M2, hM2⟩ : ∃ M : MadeW w8.heap.size, M = MadeW.fresh _ (fun b => .slice (some ⟨b, 0, none⟩) 65528 65528) := ⟨_, rfl⟩
  have H2 := Lib.hid hM2
  clear hM2
  refine wp_region_e (w8.heap.size) ([.fresh 2 H2, .val w8.heap.size 4 (.tuple #[.slice none 0 0, .int .i64 3])]) (fun _ => []) (Fs.nil) (by first | omega | (simp <;> omega)) (by kernel_rfl) (by kernel_rfl) (by kernel_rfl) (by kernel_rfl) EnvW.Ini.nil ?_
  refine walkW_segn 2 [] facts0 noneHx (by kernel_rfl) (by kernel_rfl) ?_
  simp only [List.take_succ_cons, List.take_zero, List.drop_succ_cons, List.drop_zero, Nat.reduceAdd]
  repeat (go_big_quiet_step (fail))
  (first | refine wpQuiet_nil ?_ | (go_big_quiet_want; (try go_big_quiet_op); trace_state; fail))
  refine walkW_mk (fun _ => M2) [] M2 ([]) facts0 (by kernel_rfl) (by kernel_rfl) (by kernel_rfl) rfl rfl (fun w' hb' hg' => ?_) (fun v2 h2 => ?_)
  · ((exact make_mk H2 rfl rfl (by omega) (by omega) hb'.size))
  obtain ⟨b2, m2, rfl⟩ := fresh_T H2 h2
  simp only [Act.put, List.setIfInBounds_toArray, List.set_cons_succ, List.set_cons_zero, Nat.reduceAdd]
  refine walkW_segn 1 [] facts0 noneHx (by kernel_rfl) (by kernel_rfl) ?_
  simp only [List.take_succ_cons, List.take_zero, List.drop_succ_cons, List.drop_zero, Nat.reduceAdd]
  repeat (go_big_quiet_step (fail))
  (first | refine wpQuiet_nil ?_ | (go_big_quiet_want; (try go_big_quiet_op); trace_state; fail))
  refine walkW_val (.tuple #[.slice none 0 0, .int .i64 3]) (fun _ => .val (.tuple #[.slice none 0 0, .int .i64 3])) [] ([]) facts0 (by kernel_rfl) (by kernel_rfl) (by kernel_rfl) rfl rfl (fun w' hb' hg' => ?_) ?_
  · unfold madeAtW
    go_simp
    ((refine (dput_long z16 z16 0 0 (some ⟨b2, 0, none⟩) 65528 65528 w' rfl rfl (by omega) (by omega)).mono ?_; rintro e w2 ⟨rfl, hb⟩; exact valW hb hb'.size))
  simp only [Act.put, List.setIfInBounds_toArray, List.set_cons_succ, List.set_cons_zero, Nat.reduceAdd]
  refine walkW_segn 5 [] facts0 noneHx (by kernel_rfl) (by kernel_rfl) ?_
  simp only [List.take_succ_cons, List.take_zero, List.drop_succ_cons, List.drop_zero, Nat.reduceAdd]
  repeat (go_big_quiet_step (fail))
  (first | refine wpQuiet_nil ?_ | (go_big_quiet_want; (try go_big_quiet_op); trace_state; fail))
  refine walkW_nil ?_
  intro w9 b9 _
  have F9 := Lib.hid (F8.out.trans (b9.mono F8.out.size))
  have R9 := Lib.hid ((R8.out.below b9 (Nat.le_refl _)).mono b9.size); have hG9 := G9.out.below b9; have k9 := bk_keep b9 (bk_lt K9.out) K9.out; have y9 := bk_keep b9 (bk_lt Y8.out) Y8.out; have z9 := bk_keep b9 (bk_lt Z8.out) Z8.out
  have HG9 := Lib.hid hG9; have HK9 := Lib.hid k9; have HY9 := Lib.hid y9
  have RW9 : Hid (Rd w9 w9.heap.size (some ⟨w.heap.size + 1 + 1, 0, none⟩) want) := Lib.hid (Rd.of_bk z9 (bk_lt z9) (fun j h => by simp [List.getElem?_eq_getElem h]))
  clear x8 X8 Y8 Z8 R8 G9 K9 F8 b9 hG9 k9 y9 z9
  go_wp2_with fail
  have CB := sameBytes_any A1 (some ⟨w.heap.size + 1 + 1, 0, none⟩) want want c1 8 w9 R9.out RW9.out (by decide) (by decide)
  rw [beq_self_eq_true] at CB
  refine CB.mono ?_
  rintro e w10 ⟨rfl, b10'⟩
  have F10 := Lib.hid (F9.out.trans (b10'.mono F9.out.size))
  have k10 := bk_keep b10' (bk_lt HK9.out) HK9.out; have y10 := bk_keep b10' (bk_lt HY9.out) HY9.out
  have HG10 := Lib.hid (HG9.out.below b10')
  have lk10 := bk_lt k10; have ly10 := bk_lt y10
  clear CB b10' HK9 HY9 HG9 R9 RW9 F9
  go_wp2_with fail
  have CD := sameDatagram_any 1 2 1 2 A6 none [] [] 0 0 w10 HG10.out.rd Rd.nil (by decide) (by decide)
  refine CD.mono ?_
  clear CD
  rintro e w11 ⟨rfl, b11⟩
  have F11 := Lib.hid (F10.out.trans (b11.mono F10.out.size))
  clear b11
  go_wp2_with fail
  go_ret
  exact ⟨rfl, F11.out⟩
end Go.Proofs.Yteeiihfbnkgcaaa
