/- Infos: a client that is not there; InfosNone walked. -/
import Derived.Test.YtfldoihindbdmaaF12
import Derived.Test.YtfldoihindbdmaaMgH
namespace Go.Proofs.Ytfldoihindbdmaa
open Go.RowKit
set_option maxRecDepth 100000
set_option maxHeartbeats 1000000
def Un (w : World) (p : Option Addr) : Prop := p = none ∨ ∃ g, p = some ⟨g, 0, none⟩ ∧ w.cell? ⟨g, 6, none⟩ = some (.bool false) ∧ g < w.heap.size
theorem Un.below {w w' : World} {p : Option Addr} (h : Un w p) (hb : Below w.heap.size w w') : Un w' p := by
  rcases h with h | ⟨g, h1, h2, h3⟩
  · exact .inl h
  · exact .inr ⟨g, h1, (hb.cell (p := ⟨g, 6, none⟩) h3).trans h2, Nat.lt_of_lt_of_le h3 hb.size⟩
theorem there0 (p : Option Addr) (w : World) (h : Un w p) : Calls Try.prog 23 #[.pointer p] w fun e w' => e = .returned (.bool false) ∧ w = w' := by
  rcases h with rfl | ⟨g, rfl, c6, lg⟩
  all_goals
    go_enter Try.func23, Try.ntmps23
    go_wp2_with fail
    go_ret
    exact ⟨rfl, rfl⟩
theorem busy0 (p : Option Addr) (w : World) (h : Un w p) : Calls Try.prog 13 #[.pointer p] w fun e w' => e = .returned (.bool false) ∧ w = w' := by
  have C := Lib.hid (there0 p w h)
  clear h
  go_enter Try.func13, Try.ntmps13
  go_wp2_with fail
  refine C.out.mono ?_
  rintro e w1 ⟨rfl, rfl⟩
  go_wp2_with fail
  go_ret
  exact ⟨rfl, rfl⟩
theorem next0 (p : Option Addr) (w : World) (h : Un w p) : Calls Try.prog 12 #[.pointer p] w fun e w' => e = .returned (.int .u64 9223372036854775807) ∧ w = w' := by
  have C := Lib.hid (there0 p w h)
  clear h
  go_enter Try.func12, Try.ntmps12
  go_wp2_with fail
  refine C.out.mono ?_
  rintro e w1 ⟨rfl, rfl⟩
  go_wp2_with fail
  go_ret
  exact ⟨rfl, rfl⟩
theorem start0 (p : Option Addr) (now : Int) (q : Option Addr) (w : World) (h : Un w p) : Calls Try.prog 10 #[.pointer p, .int .u64 now, .pointer q] w fun e w' => e = .returned (.bool false) ∧ w = w' := by
  have C := Lib.hid (there0 p w h)
  clear h
  go_enter Try.func10, Try.ntmps10
  go_wp2_with fail
  refine C.out.mono ?_
  rintro e w1 ⟨rfl, rfl⟩
  go_wp2_with fail
  go_ret
  exact ⟨rfl, rfl⟩
theorem tick0 (p : Option Addr) (now : Int) (q : Option Addr) (w : World) (h : Un w p) : Calls Try.prog 11 #[.pointer p, .int .u64 now, .pointer q] w fun e w' => e = .returned (.slice none 0 0) ∧ w = w' := by
  have C := Lib.hid (there0 p w h)
  clear h
  go_enter Try.func11, Try.ntmps11
  go_wp2_with fail
  refine C.out.mono ?_
  rintro e w1 ⟨rfl, rfl⟩
  go_wp2_with fail
  go_ret
  exact ⟨rfl, rfl⟩
theorem reply0 (p : Option Addr) (now : Int) (v : Value) (w : World) (h : Un w p) : Calls Try.prog 9 #[.pointer p, .int .u64 now, v] w fun e w' => e = .returned (.tuple #[.agg (ansC 0), .bool false]) ∧ Below w.heap.size w w' := by
  have b0 : Below w.heap.size w (w.alloc (.cells (ansC 0) 36)) := (Below.refl _ _).alloc (Nat.le_refl _) _
  have C := Lib.hid (there0 p (w.alloc (.cells (ansC 0) 36)) (h.below b0))
  have k0 := bk_alloc_at w (.cells (ansC 0) 36) _ rfl
  have HK := Lib.hid (And.intro k0 b0)
  have os1 := ansC_ones 0
  have os2 := ansC_size 0
  clear h b0 k0
  go_enter Try.func9, Try.ntmps9
  go_wp2_with fail
  refine C.out.mono ?_
  rintro e w1 ⟨rfl, rfl⟩
  go_wp2_with fail
  exact ret_two rfl rfl rfl rfl (by first | exact bk_alloc_at _ _ _ rfl | (rw [bk_alloc_at _ _ _ rfl]; rfl)) Try.underlying36 rfl (by rw [ansC_size]; kernel_rfl) ⟨rfl, HK.out.2⟩
def clZ : Array Value := #[.int .u8 0, .int .u8 0, .int .u8 0, .int .u8 0, .int .u8 0, .int .u8 0, .bool false, .bool false, .bool false, .int .u64 0, .int .u64 0, .int .u32 0, .int .u64 0, .int .u64 0]
theorem infosNone_walk (k : UInt8) (A : Option Addr) (n c : Nat) (m : Bool) (lt : Nat) (w : World) :
    Calls Try.prog 3 #[.agg #[B k, .slice A n c, .bool m, .int .u32 (lt : Int)]] w fun e w' => e = .returned (.bool true) ∧ Below w.heap.size w w' := by
  go_enter Try.func3, Try.ntmps3
  go_upto_region 2 with fail
  have b3 : Below w.heap.size w (((w.alloc (.cells #[B k, .slice A n c, .bool m, .int .u32 (lt : Int)] 25)).alloc (.cells clZ 31)).alloc (.cells #[.pointer none, .pointer (some ⟨w.heap.size + 1, 0, none⟩)] 26)) := (by (repeat (first | exact Below.refl _ _ | assumption | refine Below.drew ?_ | refine bdrewN ?_ _ | refine Below.alloc ?_ (by first | omega | (simp <;> omega) | (simp only [World.size_alloc] <;> omega)) _ | refine below_setRow ?_ (by first | omega | (simp <;> omega)) _ | refine Below.setCell ?_ (by first | omega | (simp <;> omega)) _)))
  have L1 : (w.alloc (.cells #[B k, .slice A n c, .bool m, .int .u32 (lt : Int)] 25)).heap.size = w.heap.size + 1 := World.size_alloc _ _
  have L2 : ((w.alloc (.cells #[B k, .slice A n c, .bool m, .int .u32 (lt : Int)] 25)).alloc (.cells clZ 31)).heap.size = w.heap.size + 1 + 1 := by rw [World.size_alloc, L1]
  have KA : Hid (bk (((w.alloc (.cells #[B k, .slice A n c, .bool m, .int .u32 (lt : Int)] 25)).alloc (.cells clZ 31)).alloc (.cells #[.pointer none, .pointer (some ⟨w.heap.size + 1, 0, none⟩)] 26)) w.heap.size = some (.cells #[B k, .slice A n c, .bool m, .int .u32 (lt : Int)] 25 (0, 0))) := Lib.hid (by
    rw [bk_alloc_past _ _ _ (by omega), bk_alloc_past _ _ _ (by omega), bk_alloc_at _ _ _ rfl])
  have KC : Hid (bk (((w.alloc (.cells #[B k, .slice A n c, .bool m, .int .u32 (lt : Int)] 25)).alloc (.cells clZ 31)).alloc (.cells #[.pointer none, .pointer (some ⟨w.heap.size + 1, 0, none⟩)] 26)) (w.heap.size + 1) = some (.cells clZ 31 (0, 0))) := Lib.hid (by
    rw [bk_alloc_past _ _ _ (by omega), bk_alloc_at _ _ _ L1.symm])
  have KS : Hid (bk (((w.alloc (.cells #[B k, .slice A n c, .bool m, .int .u32 (lt : Int)] 25)).alloc (.cells clZ 31)).alloc (.cells #[.pointer none, .pointer (some ⟨w.heap.size + 1, 0, none⟩)] 26)) (w.heap.size + 1 + 1) = some (.cells #[.pointer none, .pointer (some ⟨w.heap.size + 1, 0, none⟩)] 26 (0, 0))) := Lib.hid (by
    rw [bk_alloc_at _ _ _ L2.symm])
  have B3 := Lib.hid b3
  change Code.wp _ _ _ _ (((w.alloc (.cells #[B k, .slice A n c, .bool m, .int .u32 (lt : Int)] 25)).alloc (.cells clZ 31)).alloc (.cells #[.pointer none, .pointer (some ⟨w.heap.size + 1, 0, none⟩)] 26))
  clear b3 L1 L2
  generalize ((w.alloc (.cells #[B k, .slice A n c, .bool m, .int .u32 (lt : Int)] 25)).alloc (.cells clZ 31)).alloc (.cells #[.pointer none, .pointer (some ⟨w.heap.size + 1, 0, none⟩)] 26) = w3 at *
  go_wp2_with fail
  go_loopw [4, 5, 6] (fun i _ _ wr => ∃ j : Nat, j ≤ 2 ∧ i = .int .i64 j ∧ Hid (Below w3.heap.size w3 wr)) (fun i _ _ _ => 2 - (intOf i).toNat)
  case atStart => exact ⟨0, by omega, rfl, Lib.hid (Below.refl _ _)⟩
  case round =>
    obtain ⟨j, hj, rfl, BR⟩ := hrel
    have ka := bk_keep BR.out (bk_lt KA.out) KA.out
    have kc := bk_keep BR.out (bk_lt KC.out) KC.out
    have ks := bk_keep BR.out (bk_lt KS.out) KS.out
    by_cases hj2 : j < 2
    · have d1 : decide ((j : Int) < 2) = true := by simp; omega
      obtain ⟨p, hp⟩ : ∃ p : Option Addr, p = if j = 0 then none else some ⟨w.heap.size + 1, 0, none⟩ := ⟨_, rfl⟩
      have hcs : wr.cell? ⟨w.heap.size + 1 + 1, j, none⟩ = some (.pointer p) := by
        rw [bk_cell ks, hp]
        match j, hj2 with
        | 0, _ => rfl
        | 1, _ => rfl
      have HUN : Hid (Un wr p) := Lib.hid (by
        rw [hp]
        split
        · exact .inl rfl
        · exact .inr ⟨_, rfl, bk_cell kc 6, bk_lt kc⟩)
      have la := bk_lt ka
      have ls := bk_lt ks
      have c1 : wr.cell? ⟨w.heap.size, 1, none⟩ = some (.slice A n c) := bk_cell ka 1
      clear hp ka kc ks
      have s2 : wr.heap.size = wr.heap.size := rfl
      go_upto_region 5 with fail
      obtain ⟨M10, hM10⟩ : ∃ M : MadeW wr.heap.size, M = MadeW.row _ (fun b => .pointer (some ⟨b, 0, none⟩)) (ansC 0) 36 := ⟨_, rfl⟩
      have H10 := Lib.hid hM10
      clear hM10 s2
      refine wp_region_e (wr.heap.size) ([.val wr.heap.size 6 (.tuple #[.agg (ansC 0), .bool false]), .row 10 H10, .store wr.heap.size 11 36 [5, 24]]) (fun k => (([(11, [10])] : List (Nat × List Nat)).lookup k).getD []) (Fs.nil) (by first | omega | (simp <;> omega)) (by kernel_rfl) (by kernel_rfl) (by kernel_rfl) (by kernel_rfl) EnvW.Ini.nil ?_
      refine walkW_segn 6 [] facts0 noneHx (by kernel_rfl) (by kernel_rfl) ?_
      simp only [List.take_succ_cons, List.take_zero, List.drop_succ_cons, List.drop_zero, Nat.reduceAdd]
      repeat (go_big_quiet_step (fail))
      (first | refine wpQuiet_nil ?_ | (go_big_quiet_want; (try go_big_quiet_op); trace_state; fail))
      refine walkW_val (.tuple #[.agg (ansC 0), .bool false]) (fun _ => .val (.tuple #[.agg (ansC 0), .bool false])) [] ([]) facts0 (by kernel_rfl) (by kernel_rfl) (by kernel_rfl) rfl rfl (fun w' hb' hg' => ?_) ?_
      · unfold madeAtW
        go_simp
        ((refine (reply0 p 1 (.slice A n c) w' (HUN.out.below hb')).mono ?_; rintro e w2 ⟨rfl, hb⟩; exact valW hb hb'.size))
      simp only [Act.put, List.setIfInBounds_toArray, List.set_cons_succ, List.set_cons_zero, Nat.reduceAdd]
      refine walkW_segn 3 [] facts0 noneHx (by kernel_rfl) (by kernel_rfl) ?_
      simp only [List.take_succ_cons, List.take_zero, List.drop_succ_cons, List.drop_zero, Nat.reduceAdd]
      repeat (go_big_quiet_step (fail))
      (first | refine wpQuiet_nil ?_ | (go_big_quiet_want; (try go_big_quiet_op); trace_state; fail))
      refine walkW_mk (fun _ => M10) [] M10 ([]) facts0 (by kernel_rfl) (by kernel_rfl) (by kernel_rfl) rfl rfl (fun w' hb' hg' => ?_) (fun v10 h10 => ?_)
      · unfold madeAtW
        go_simp
        ((exact (row_mk (b := w'.heap.size) H10 ((Below.refl _ _).alloc (Nat.le_refl _) _) hb'.size hb'.size (bk_alloc_at _ _ _ rfl) :)))
      obtain ⟨b10, m10, rfl⟩ := row_T H10 h10
      simp only [Act.put, List.setIfInBounds_toArray, List.set_cons_succ, List.set_cons_zero, Nat.reduceAdd]
      refine walkW_mk (MadeW.storeAt _ 36) [.pointer (some ⟨b10, 0, none⟩), .agg (ansC 0)] (MadeW.store _ b10 (ansC 0) 36) ([(10, M10.R (.pointer (some ⟨b10, 0, none⟩)))]) (facts1 fun w h => h.1 rfl) (by kernel_rfl) (by kernel_rfl) (by kernel_rfl) rfl rfl (fun w' hb' hg' => ?_) (fun v hT => ?_)
      · exact storeRow_mk (n := 3) (by kernel_rfl) (Lib.hid rfl) (row_R H10 ptr_inj (hg' _ (.head _))) m10 rfl rfl (ansC_size 0) (ansC_size 0) (ansC_ones 0)
      clear hT
      simp only [Act.put]
      refine walkW_segn 1 [] facts0 noneHx (by kernel_rfl) (by kernel_rfl) ?_
      simp only [List.take_succ_cons, List.take_zero, List.drop_succ_cons, List.drop_zero, Nat.reduceAdd]
      repeat (go_big_quiet_step (fail))
      (first | refine wpQuiet_nil ?_ | (go_big_quiet_want; (try go_big_quiet_op); trace_state; fail))
      refine walkW_nil ?_
      intro w5 b5 hf
      have c5 : w5.cell? ⟨w.heap.size + 1 + 1, j, none⟩ = some (.pointer p) := (b5.cell (p := ⟨w.heap.size + 1 + 1, j, none⟩) ls).trans hcs
      have ls5 : w.heap.size + 1 + 1 < w5.heap.size := Nat.lt_of_lt_of_le ls b5.size
      have U5 := Lib.hid (HUN.out.below b5)
      have B5 := Lib.hid (BR.out.trans (b5.mono BR.out.size))
      have C1 := Lib.hid (start0 p 1 none w5 U5.out)
      have C2 := Lib.hid (tick0 p 4611686018427387904 none w5 U5.out)
      have C3 := Lib.hid (next0 p w5 U5.out)
      have C4 := Lib.hid (busy0 p w5 U5.out)
      obtain ⟨j2, hj3⟩ : ∃ x, x = j + 1 := ⟨_, rfl⟩
      have g5 : IntKind.i64.wrap ((j : Int) + 1) = (j2 : Int) := by rw [IntKind.wrap_i64]; omega
      have HJ := Lib.hid hj3
      clear b5 hf H10 h10 M10 hcs c1 la ls BR HUN hj3 d1
      go_wp2_with fail
      refine C1.out.mono ?_
      rintro e w6 ⟨rfl, rfl⟩
      go_wp2_with fail
      refine C2.out.mono ?_
      rintro e w6 ⟨rfl, rfl⟩
      go_wp2_with fail
      refine C3.out.mono ?_
      rintro e w6 ⟨rfl, rfl⟩
      go_wp2_with fail
      refine C4.out.mono ?_
      rintro e w6 ⟨rfl, rfl⟩
      go_wp2_with fail
      exact ⟨⟨j2, by have := HJ.out; omega, rfl, B5⟩, by have := HJ.out; simp [intOf]; omega⟩
    · obtain rfl : j = 2 := by omega
      have B9 := Lib.hid (B3.out.trans (BR.out.mono B3.out.size))
      go_wp2_with fail
      refine (lives26_any _).mono ?_
      rintro e w9 ⟨rfl, b9⟩
      go_wp2_with fail
      go_ret
      exact ⟨rfl, B9.out.trans (b9.mono B9.out.size)⟩
end Go.Proofs.Ytfldoihindbdmaa
