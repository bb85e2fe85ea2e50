/- AddrsPrefix: the law's walk. -/
import Derived.Test.YtpjmpckddnjikaaDoorA7
namespace Go.Proofs.YtpjmpckddnjikaaDoor
open Go.RowKit Ad
set_option maxRecDepth 100000
theorem builtPrefix (parts : List (Nat × Value)) : Tryd.prog.built 33 parts = Instr.fill (#[(0, 16), (16, 1)][·]?) (Array.replicate 17 (.int .u8 0)) parts := by kernel_rfl
@[go_sem] theorem builtPrefix_2 (c : Array Value) (x : Int) (h : c.size = 16) : Tryd.prog.built 33 [(0, .agg c), (1, .int .u8 x)] = some (c.toList ++ [Value.int .u8 x]).toArray := by
  rw [builtPrefix, show [(0, Value.agg c), (1, Value.int .u8 x)] = partsAt 0 [.agg c, .int .u8 x] from rfl, fill_all _ _ 0 0 _ (by simp [placesOk, Value.cells, h]) (by simp [widths, Value.cells, h])]
  simp [widths, Value.cells, h]
@[go_sem ↓] theorem bwPrefix (dst : Option Tmp) (ps : Array (Nat × Operand)) (t : TypeId) (pos : String) (af : Array Edge) (g : Option (Nat × Bool)) (a : Act) (w : World) (K : Act → World → Prop) (Q : Exit → Act → World → Prop) :
    Oper.wp Tryd.prog ⟨dst, .build 33 ps, t, pos, af, g⟩ a w K Q = bldTo (wpHid Tryd.prog ⟨dst, .build 33 ps, t, pos, af, g⟩ a w K Q) (fun c => K (a.put dst (.agg c)) w) (Tryd.prog.built 33 (ps.toList.map fun x => (x.1, a.eval x.2))) :=
  wp_build_bk 33 dst ps t pos af g a w K Q
@[go_sem ↓] theorem bqPrefix (dst : Option Tmp) (ps : Array (Nat × Operand)) (t : TypeId) (pos : String) (af : Array Edge) (g : Option (Nat × Bool)) (a : Act) (m : Nat) (W : World) (K : Act → Prop) :
    Oper.quiet Tryd.prog ⟨dst, .build 33 ps, t, pos, af, g⟩ a (fun w' => ∃ x : Later m W, w' = x.w) K = bldTo (quietHid0 Tryd.prog ⟨dst, .build 33 ps, t, pos, af, g⟩ a (fun w' => ∃ x : Later m W, w' = x.w) K) (fun c => K (a.put dst (.agg c))) (Tryd.prog.built 33 (ps.toList.map fun x => (x.1, a.eval x.2))) :=
  quiet_build_bk 33 dst ps t pos af g a _ ⟨W, ⟨W, Below.refl _ _⟩, rfl⟩ K
set_option maxHeartbeats 1000000 in
theorem addrsPrefix_walk (l : List UInt8) (h : l.length = 16) (m : List UInt8) (hm : m.length = 16) (x : UInt8) (w : World) (hg : GK w) :
    Calls Tryd.prog 5 #[av l, av m, B x] w fun e w' => e = .returned (.bool true) ∧ Below w.heap.size w w' := by
  have hw0 : 0 < w.heap.size := by obtain ⟨c, t, fr, h1, _⟩ := hg; exact bk_lt h1
  have HG := Lib.hid hg; clear hg
  have hxl := x.toNat_lt
  have c1 := common_any l m h hm
  have c2 := common_any m l hm h
  have c3 := within_any l (appB m [x]) h (by simp [appB_length, hm])
  have c4 := masked_any l h x
  have c5 := masked_any m hm x
  rw [common_symm m l] at c2
  have e3 : sl (appB m [x]) 0 16 = m := by simp [appB, sl, List.extract_eq_take_drop, List.take_append_of_le_length, hm, List.take_of_length_le]
  have e4 : (appB m [x]).getD 16 0 = x := by simp [appB, List.getD_eq_getElem?_getD, hm]
  rw [e3, e4] at c3
  have q1 := eqAddr l m h hm
  have q2 := eqAddr (masked l x.toNat) (masked m x.toNat) (masked_length _ _) (masked_length _ _)
  have i1 : (l == m) = decide (common l m = 128) := by
    rw [Bool.eq_iff_iff]; simp [common_all h hm]
  have i2 : (masked l x.toNat == masked m x.toNat) = decide (min x.toNat 128 ≤ common l m) := by
    rw [Bool.eq_iff_iff]; simp [masked_eq_iff]
  rw [i1] at q1; rw [i2] at q2
  have hcl := common_le l m
  generalize common l m = c at *
  generalize masked l x.toNat = p at *
  generalize masked m x.toNat = q at *
  clear i1 i2 e3 e4
  obtain ⟨bi, hbi⟩ : ∃ b, b = decide (min x.toNat 128 ≤ c) := ⟨_, rfl⟩
  obtain ⟨be, hbe⟩ : ∃ b, b = decide (c = 128) := ⟨_, rfl⟩
  rw [← hbi] at c3 q2; rw [← hbe] at q1
  have d1 : decide ((c : Int) < 0) = false := by simp
  have d2 : decide ((128 : Int) < (c : Int)) = false := by simp; omega
  have d3 : ((c : Int) != (c : Int)) = false := by simp
  have d4 : ((c : Int) == 128) = be := by rw [hbe, Bool.eq_iff_iff]; simp; omega
  have d5 : decide (min (x.toNat : Int) 128 ≤ (c : Int)) = bi := by rw [hbi, Bool.eq_iff_iff]; simp; omega
  have C1 := Lib.hid c1; have C2 := Lib.hid c2; have C3 := Lib.hid c3; have C4 := Lib.hid c4; have C5 := Lib.hid c5
  clear c1 c2 c3 c4 c5 hbi hbe hcl
  go_enter Tryd.func5, Tryd.ntmps5
  go_wp2_with fail
  refine (C1.out _).mono ?_
  rintro e w1 ⟨rfl, b1⟩
  have f1 : Below w.heap.size w w1 := (((Below.refl _ _).alloc (Nat.le_refl _) _).alloc (by simp) _).trans (b1.mono (by simp <;> omega))
  have k1 : bk w1 w.heap.size = some (.cells (List.map B l).toArray 23 (0, 0)) := bk_keep b1 (by simp <;> omega) (by simp [go_sem])
  have k2 : bk w1 (w.heap.size + 1) = some (.cells (List.map B m).toArray 23 (0, 0)) := bk_keep b1 (by simp <;> omega) (by simp [go_sem])
  have s1 : w.heap.size + 2 ≤ w1.heap.size := by simpa using b1.size
  clear b1
  go_wp2_with fail
  refine (C2.out _).mono ?_
  rintro e w2 ⟨rfl, b2⟩
  have f2 := f1.trans (b2.mono (by omega))
  have k3 := bk_keep b2 (by omega) k1
  have k4 := bk_keep b2 (by omega) k2
  have s2 := Nat.le_trans s1 b2.size
  clear b2 k1 k2 f1 s1
  cases be
  all_goals
    go_wp2_with fail
    refine (C3.out _).mono ?_
    rintro e w3 ⟨rfl, b3⟩
    have f3 := f2.trans (b3.mono (by omega))
    have k5 := bk_keep b3 (by omega) k3
    have k6 := bk_keep b3 (by omega) k4
    have s3 := Nat.le_trans s2 b3.size
    clear b3 k3 k4
    cases bi
    all_goals
      go_wp2_with fail
      refine wp_region_later (w.heap.size + 2) (by kernel_rfl) (by kernel_rfl) ?_
      repeat (go_big_quiet_step (((rename_i xq; first | (with_reducible exact later_call xq s3 (C4.out xq.w)) | (with_reducible exact later_call xq s3 (C5.out xq.w)) | (with_reducible exact later_call xq s3 (lives_any xq.w (HG.out.below (f3.trans (xq.h.mono (by omega))) hw0)))))))
      (first | refine wpQuiet_nil ?_ | (go_big_quiet_want; (try go_big_quiet_op); trace_state; fail))
      intro w4 hw'
      have q4 := later_elim hw'
      clear hw'
      go_wp2_with fail
      go_ret
      exact ⟨rfl, f3.trans (q4.mono (by omega))⟩
end Go.Proofs.YtpjmpckddnjikaaDoor
