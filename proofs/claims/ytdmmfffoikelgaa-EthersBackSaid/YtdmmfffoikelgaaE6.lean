/- Frames got: the program's. -/
import Derived.Test.YtdmmfffoikelgaaE2
import Derived.Test.YtdmmfffoikelgaaS24
import Derived.Laws.Cover3
namespace Go.Proofs.Ytdmmfffoikelgaa
open Go.RowKit
set_option maxRecDepth 100000
/-- A row and a value are returned. -/
theorem ret_two {P : Program} {fn : Func} {R : Ending → World → Prop} {a : Act} {w : World} {p u : Tmp} {ty : TypeId} {g : Nat} {cs : Array Value} {d : TypeDesc} {y : Value}
    (h : fn.results = #[.cell p ty, .tmp u]) (hd' : a.defers = []) (hp : a.tmps.getD p undef = .pointer (some ⟨g, 0, none⟩)) (hy : a.tmps.getD u undef = y) (hg : (bk w g).bind rowOf = some cs)
    (hu : P.underlying ty = some d) (hd : d.isRow = true) (hi : (P.info? ty).map (·.size) = some cs.size) (hR : R (.returned (.tuple #[.agg cs, y])) w) : bodyPost P fn R .ret a w := by
  cases hb : bk w g with
  | none => rw [hb] at hg; simp at hg
  | some o =>
    rw [hb] at hg
    cases o with
    | cells c t fr =>
      simp [rowOf] at hg
      subst hg
      refine bodyPost_ret ?_ hd' hR
      rw [results_cell_tmp h, hp, hy]
      simp [asAddr, Result.andThen, run_loadVar_row w g t ty c fr d hb hu (by cases d <;> simp_all) hi]
    | _ => simp [rowOf] at hg
theorem PB.cell {w : World} {gb : Nat} {L : List UInt8} (h : PB w gb L) (j : Nat) (hj : j < L.length) : w.cell? ⟨gb, j, none⟩ = some (B L[j]) := by
  obtain ⟨b, o, e, _, hc⟩ := h.rd (q := 0) (m := L.length) (n := gb + 1) (by omega) (by simp; omega)
  cases e
  have := hc j (by simpa using hj)
  simpa using this
@[go_sem] theorem arrMac (a : Option Addr) (w : World) : (Instr.arrayAt 23 (.slice a 6 6)).run Try.prog w = .ok (.pointer a) w := run_arrayAt w _ _ 6 a 6 6 Try.underlying23 (Nat.le_refl _)
theorem bk_grown {w w' : World} {g x : Nat} {o : Obj} (h : w.grownBy w' (some g)) (hne : x ≠ g) (hb : bk w x = some o) : bk w' x = some o := (h.block x (bk_lt hb) (fun e => hne (by injection e))).trans hb
/-- What is got. -/
def EGot (l : List UInt8) (w : World) (e : Ending) (w' : World) : Prop :=
  ∃ A' gb, e = .returned (.tuple #[.agg (frc (l.take 6) ((l.drop 6).take 6) (val ((l.drop 12).take 2)) A' (l.drop 14).length (l.drop 14).length), .int .i64 0]) ∧ w.heap.size ≤ gb ∧ PB w' gb l ∧ (0 < (l.drop 14).length → A' = some ⟨gb, 14, none⟩) ∧ Below w.heap.size w w'
def zfr : Value := .agg (frc (List.replicate 6 0) (List.replicate 6 0) 0 none 0 0)
theorem eget_short (A : Option Addr) (n c : Nat) (w : World) (hl : n < 14) :
    Calls Try.prog 19 #[.slice A n c] w fun e w' => e = .returned (.tuple #[zfr, .int .i64 5]) ∧ Below w.heap.size w w' := by
  have d1 : decide ((n : Int) < 14) = true := by simp; omega
  go_enter Try.func19, Try.ntmps19
  go_wp2_with fail
  refine ret_two (cs := frc (List.replicate 6 0) (List.replicate 6 0) 0 none 0 0) rfl rfl rfl rfl ?_ Try.underlying27 rfl (by kernel_rfl) ?_
  rotate_left
  · refine ⟨rfl, ?_⟩
    (repeat (first | exact Below.refl _ _ | assumption | refine Below.drew ?_ | refine bdrewN ?_ _ | refine Below.alloc ?_ (by first | omega | (simp <;> omega) | (simp only [World.size_alloc] <;> omega)) _ | refine below_setRow ?_ (by first | omega | (simp <;> omega)) _ | refine Below.setCell ?_ (by first | omega | (simp <;> omega)) _))
  · simp [go_sem]
theorem eget_limit (A : Option Addr) (n c : Nat) (w : World) (hl : 1514 < n) :
    Calls Try.prog 19 #[.slice A n c] w fun e w' => e = .returned (.tuple #[zfr, .int .i64 3]) ∧ Below w.heap.size w w' := by
  have d1 : decide ((n : Int) < 14) = false := by simp; omega
  have d2 : decide (1514 < (n : Int)) = true := by simp; omega
  go_enter Try.func19, Try.ntmps19
  go_wp2_with fail
  refine ret_two (cs := frc (List.replicate 6 0) (List.replicate 6 0) 0 none 0 0) rfl rfl rfl rfl ?_ Try.underlying27 rfl (by kernel_rfl) ?_
  rotate_left
  · refine ⟨rfl, ?_⟩
    (repeat (first | exact Below.refl _ _ | assumption | refine Below.drew ?_ | refine bdrewN ?_ _ | refine Below.alloc ?_ (by first | omega | (simp <;> omega) | (simp only [World.size_alloc] <;> omega)) _ | refine below_setRow ?_ (by first | omega | (simp <;> omega)) _ | refine Below.setCell ?_ (by first | omega | (simp <;> omega)) _))
  · simp [go_sem]
theorem list14 (l : List UInt8) (h : 14 ≤ l.length) : ∃ x0 x1 x2 x3 x4 x5 x6 x7 x8 x9 x10 x11 x12 x13 r, l = x0 :: x1 :: x2 :: x3 :: x4 :: x5 :: x6 :: x7 :: x8 :: x9 :: x10 :: x11 :: x12 :: x13 :: r := by
  match l, h with
  | x0 :: x1 :: x2 :: x3 :: x4 :: x5 :: x6 :: x7 :: x8 :: x9 :: x10 :: x11 :: x12 :: x13 :: r, _ => exact ⟨_, _, _, _, _, _, _, _, _, _, _, _, _, _, r, rfl⟩
set_option maxHeartbeats 1000000 in
theorem eget_good (A : Option Addr) (l : List UInt8) (c : Nat) (w : World) (h : Rd w w.heap.size A l) (hA : A = none → l = [] ∧ c = 0) (h1 : 14 ≤ l.length) (h2 : l.length ≤ 1514) :
    Calls Try.prog 19 #[.slice A l.length c] w (EGot l w) := by
  have H := Lib.hid h; have HA := Lib.hid hA
  clear h hA
  have d1 : decide ((l.length : Int) < 14) = false := by simp; omega
  have d2 : decide (1514 < (l.length : Int)) = false := by simp; omega
  obtain ⟨x0, x1, x2, x3, x4, x5, x6, x7, x8, x9, x10, x11, x12, x13, r, hl⟩ := list14 l h1
  have hcl : ∀ w gb, PB w gb l → w.cell? ⟨gb, 0, none⟩ = some (.int .u8 x0.toNat) ∧ w.cell? ⟨gb, 1, none⟩ = some (.int .u8 x1.toNat) ∧ w.cell? ⟨gb, 2, none⟩ = some (.int .u8 x2.toNat) ∧ w.cell? ⟨gb, 3, none⟩ = some (.int .u8 x3.toNat) ∧ w.cell? ⟨gb, 4, none⟩ = some (.int .u8 x4.toNat) ∧ w.cell? ⟨gb, 5, none⟩ = some (.int .u8 x5.toNat) ∧ w.cell? ⟨gb, 6, none⟩ = some (.int .u8 x6.toNat) ∧ w.cell? ⟨gb, 7, none⟩ = some (.int .u8 x7.toNat) ∧ w.cell? ⟨gb, 8, none⟩ = some (.int .u8 x8.toNat) ∧ w.cell? ⟨gb, 9, none⟩ = some (.int .u8 x9.toNat) ∧ w.cell? ⟨gb, 10, none⟩ = some (.int .u8 x10.toNat) ∧ w.cell? ⟨gb, 11, none⟩ = some (.int .u8 x11.toNat) := fun w gb h => by
    have hc := h.cell
    subst hl
    exact ⟨hc 0 (by simp), hc 1 (by simp), hc 2 (by simp), hc 3 (by simp), hc 4 (by simp), hc 5 (by simp), hc 6 (by simp), hc 7 (by simp), hc 8 (by simp), hc 9 (by simp), hc 10 (by simp), hc 11 (by simp)⟩
  have hb : ∀ (k : Nat) A n c, Try.prog.built 27 [(0, .agg #[.int .u8 x0.toNat, .int .u8 x1.toNat, .int .u8 x2.toNat, .int .u8 x3.toNat, .int .u8 x4.toNat, .int .u8 x5.toNat]), (1, .agg #[.int .u8 x6.toNat, .int .u8 x7.toNat, .int .u8 x8.toNat, .int .u8 x9.toNat, .int .u8 x10.toNat, .int .u8 x11.toNat]), (2, .int .u16 k), (3, .slice A n c)] = some (frc (l.take 6) ((l.drop 6).take 6) k A n c) := fun k A n c => by
    subst hl
    exact builtFrame_all [x0, x1, x2, x3, x4, x5] [x6, x7, x8, x9, x10, x11] k A n c rfl rfl
  have hk : val ((l.drop 12).take 2) < 65536 := by
    have := val_lt ((l.drop 12).take 2)
    rw [List.length_take, List.length_drop, show min 2 (l.length - 12) = 2 by omega] at this
    omega
  have hd6 : (l.take 6).length = 6 := by rw [List.length_take]; omega
  have hs6 : ((l.drop 6).take 6).length = 6 := by rw [List.length_take, List.length_drop]; omega
  have hwk : IntKind.u16.wrap (val ((l.drop 12).take 2) : Int) = (val ((l.drop 12).take 2) : Int) := by rw [IntKind.wrap_u16]; omega
  have hfr : ∀ (k : Nat) A n c, frc (l.take 6) ((l.drop 6).take 6) k A n c = #[.int .u8 x0.toNat, .int .u8 x1.toNat, .int .u8 x2.toNat, .int .u8 x3.toNat, .int .u8 x4.toNat, .int .u8 x5.toNat, .int .u8 x6.toNat, .int .u8 x7.toNat, .int .u8 x8.toNat, .int .u8 x9.toNat, .int .u8 x10.toNat, .int .u8 x11.toNat, .int .u16 k, .slice A n c] := fun k A n c => by
    subst hl; rfl
  have HFR := Lib.hid hfr
  clear hfr
  have HCL := Lib.hid hcl
  obtain ⟨kd, hkd⟩ : ∃ kd, kd = val ((l.drop 12).take 2) := ⟨_, rfl⟩
  rw [← hkd] at hk hwk
  have HKD := Lib.hid hkd
  have hlr : l.length - 14 = (l.drop 14).length := by rw [List.length_drop]
  have HLR := Lib.hid hlr
  clear hl hcl hkd hlr
  go_enter Try.func19, Try.ntmps19
  go_wp2_with fail
  generalize hz : (Obj.cells #[Value.int IntKind.u8 0, Value.int IntKind.u8 0, Value.int IntKind.u8 0, Value.int IntKind.u8 0, Value.int IntKind.u8 0, Value.int IntKind.u8 0, Value.int IntKind.u8 0, Value.int IntKind.u8 0, Value.int IntKind.u8 0, Value.int IntKind.u8 0, Value.int IntKind.u8 0, Value.int IntKind.u8 0, Value.int IntKind.u16 0, Value.slice none 0 0] 27) = zo
  have hzo : zo = .cells (frc (List.replicate 6 0) (List.replicate 6 0) 0 none 0 0) 27 (0, 0) := hz.symm.trans rfl
  clear hz
  subst hzo
  have a0 : Below w.heap.size w (w.alloc (.cells (frc (List.replicate 6 0) (List.replicate 6 0) 0 none 0 0) 27)) := (Below.refl _ _).alloc (Nat.le_refl _) _
  have k0 : bk (w.alloc (.cells (frc (List.replicate 6 0) (List.replicate 6 0) 0 none 0 0) 27)) w.heap.size = some (.cells (frc (List.replicate 6 0) (List.replicate 6 0) 0 none 0 0) 27 (0, 0)) := bk_alloc_at _ _ _ rfl
  have z0 : (w.alloc (.cells (frc (List.replicate 6 0) (List.replicate 6 0) 0 none 0 0) 27)).heap.size = w.heap.size + 1 := by simp
  refine (of_PK A l c _ ((H.out.below a0 (Nat.le_refl _)).mono a0.size) HA.out (by omega) w.heap.size (by omega)).mono ?_
  rintro e w1 ⟨gc, gb, rfl, hgc, _, hgg, hgb, hP, hB, b1⟩
  have hgb := hgb (by omega)
  rw [z0] at hgc hgb
  have k1 := bk_keep b1 (by omega) k0
  have f1 := (a0.trans (b1.mono a0.size)).drew
  obtain ⟨x, hx⟩ : ∃ x, x = w.heap.size := ⟨_, rfl⟩
  rw [← hx] at hgc hgb k1
  rw [← hx]
  have HX := Lib.hid hx
  have K1 := Lib.hid k1; have F1 := Lib.hid f1
  have HP1 : Hid (PK w1.drew gc gb l (some 0)) := Lib.hid (hP.keep (bk_drew _ _))
  have HB1 : Hid (PB w1.drew gb l) := Lib.hid (hB.keep fun _ => bk_drew _ _)
  have hc1 := HCL.out _ _ HB1.out
  have k1 : bk w1.drew x = some (.cells (frc (List.replicate 6 0) (List.replicate 6 0) 0 none 0 0) 27 (0, 0)) := k1
  have hne : gb ≠ gc := by omega
  have hnx : x ≠ gc := by omega
  have hng : ¬ gb = x := by omega
  have s1 : w.heap.size ≤ gc := by omega
  clear hP hB k0 z0 a0 b1 f1 hx
  rename_i hgbx k1x
  clear hgbx k1x
  have FO : ∀ {w' w'' : World}, Below w.heap.size w w' → w'.grownBy w'' (some gc) → Below w.heap.size w w'' := fun h1 h2 => h1.grown h2 h1.size fun k hk => by cases hk; exact s1
  go_wp2_with fail
  go_region_held3 (fun w' => w'.cell? ⟨gb, 0, none⟩ = some (.int .u8 x0.toNat) ∧ w'.cell? ⟨gb, 1, none⟩ = some (.int .u8 x1.toNat) ∧ w'.cell? ⟨gb, 2, none⟩ = some (.int .u8 x2.toNat) ∧ w'.cell? ⟨gb, 3, none⟩ = some (.int .u8 x3.toNat) ∧ w'.cell? ⟨gb, 4, none⟩ = some (.int .u8 x4.toNat) ∧ w'.cell? ⟨gb, 5, none⟩ = some (.int .u8 x5.toNat) ∧ w'.cell? ⟨gb, 6, none⟩ = some (.int .u8 x6.toNat) ∧ w'.cell? ⟨gb, 7, none⟩ = some (.int .u8 x7.toNat) ∧ w'.cell? ⟨gb, 8, none⟩ = some (.int .u8 x8.toNat) ∧ w'.cell? ⟨gb, 9, none⟩ = some (.int .u8 x9.toNat) ∧ w'.cell? ⟨gb, 10, none⟩ = some (.int .u8 x10.toNat) ∧ w'.cell? ⟨gb, 11, none⟩ = some (.int .u8 x11.toNat)) (first | assumption | exact HCL.out _ _ (HB5.out.keep fun _ => bk_setRow_other _ _ _ _ hng) | go_keep)
    (first
      | (go_at_call 29; refine (bytes_at gc gb l 0 6 _ HP1.out (by omega) (by omega)).mono ?_; clear HP1; rintro e w2 ⟨rfl, hP2, hg2⟩; have HP2 := Lib.hid hP2; have HB2 := Lib.hid (HB1.out.grown hg2 hne); have hs2 := HCL.out _ _ HB2.out; have k2 := bk_grown hg2 hnx k1; have F2 := Lib.hid (FO F1.out hg2); clear hP2 hg2 k1 hc1)
      | (go_at_call 29; refine (bytes_at gc gb l 6 6 _ HP2.out (by omega) (by omega)).mono ?_; clear HP2; rintro e w3 ⟨rfl, hP3, hg3⟩; have HP3 := Lib.hid hP3; have HB3 := Lib.hid (HB2.out.grown hg3 hne); have hs3 := HCL.out _ _ HB3.out; have k3 := bk_grown hg3 hnx k2; have F3 := Lib.hid (FO F2.out hg3); clear hP3 hg3 k2 hs2)
      | (go_at_call 30; refine (num_at gc gb l 12 2 _ HP3.out HB3.out hgg (by omega) (by omega) (by omega)).mono ?_; clear HP3; rw [← HKD.out]; rintro e w4 ⟨rfl, hP4, hg4⟩; have HP4 := Lib.hid hP4; have HB4 := Lib.hid (HB3.out.grown hg4 hne); have hs4 := HCL.out _ _ HB4.out; have k4 := bk_grown hg4 hnx k3; have F4 := Lib.hid (FO F3.out hg4); clear hP4 hg4 k3 hs3)
      | (go_at_call 31; refine (rest_at gc gb l 14 _ HP4.out).mono ?_; clear HP4; rw [HLR.out]; rintro e w5 ⟨A5, rfl, hA5, hP5, hg5⟩; have HA5 := Lib.hid hA5; have HB5 := Lib.hid (HB4.out.grown hg5 hne); have hs5 := HCL.out _ _ HB5.out; have k5 := bk_grown hg5 hnx k4; have F5 := Lib.hid (FO F4.out hg5); clear hP5 hA5 hg5 k4 hs4))
  all_goals
    go_wp2_with fail
    refine ret_two (cs := frc (l.take 6) ((l.drop 6).take 6) kd A5 (l.length - 14) (l.length - 14)) rfl rfl rfl rfl ?_ Try.underlying27 rfl (by rw [frc_size hd6 hs6]; kernel_rfl) ?_
    rotate_left
    · exact ⟨A5, gb, by rw [← HKD.out, ← HLR.out]; rfl, by omega, HB5.out.keep fun _ => bk_setRow_other _ _ _ _ hng, fun h => HA5.out (by have := HLR.out; omega), below_setRow F5.out (by have := HX.out; omega) _⟩
    · rw [bk_setRow_same, k5, HFR.out]; rfl
end Go.Proofs.Ytdmmfffoikelgaa
