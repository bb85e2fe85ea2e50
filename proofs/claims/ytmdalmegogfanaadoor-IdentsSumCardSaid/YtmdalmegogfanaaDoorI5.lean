/- The id of two words; what a hash begins with; lives. -/
import Derived.Test.YtmdalmegogfanaaDoorI4
import Derived.Test.YtmdalmegogfanaaDoorL2
import Derived.Deep.RegionHeld3
namespace Go.Proofs.YtmdalmegogfanaaDoor
open Go.RowKit
set_option maxRecDepth 100000
/-- A row and a value are returned. -/
theorem ret_two {P : Program} {fn : Func} {R : Ending → World → Prop} {a : Act} {w : World} {p u : Tmp} {ty : TypeId} {g : Nat} {cs : Array Value} {d : TypeDesc} {y : Value}
    (h : fn.results = #[.cell p ty, .tmp u]) (hd' : a.defers = []) (hp : a.tmps.getD p undef = .pointer (some ⟨g, 0, none⟩)) (hy : a.tmps.getD u undef = y) (hg : (bk w g).bind rowOf = some cs)
    (hu : P.underlying ty = some d) (hd : d.isRow = true) (hi : (P.info? ty).map (·.size) = some cs.size) (hR : R (.returned (.tuple #[.agg cs, y])) w) : bodyPost P fn R .ret a w := by
  cases hb : bk w g with
  | none => rw [hb] at hg; simp at hg
  | some o =>
    rw [hb] at hg
    cases o with
    | cells c t fr =>
      simp [rowOf] at hg
      subst hg
      refine bodyPost_ret ?_ hd' hR
      rw [results_cell_tmp h, hp, hy]
      simp [asAddr, Result.andThen, run_loadVar_row w g t ty c fr d hb hu (by cases d <;> simp_all) hi]
    | _ => simp [rowOf] at hg

@[go_sem] theorem arr8 (a : Option Addr) (w : World) : (Instr.arrayAt 25 (.slice a 8 8)).run Tryd.prog w = .ok (.pointer a) w := run_arrayAt w _ _ 8 a 8 8 Tryd.underlying25 (Nat.le_refl _)
def two32 (a b : Nat) : Nat := a * 4294967296 + b
def tid (a b : Nat) : List UInt8 := nb 8 (two32 a b)
theorem tid_length (a b : Nat) : (tid a b).length = 8 := nb_length _ _
theorem tid_val {a b : Nat} (ha : a < 4294967296) (hb : b < 4294967296) : val (tid a b) = two32 a b := by
  unfold tid
  rw [val_nb, Nat.mod_eq_of_lt (by unfold two32; omega)]
theorem or32 {a b : Nat} (ha : a < 4294967296) (hb : b < 4294967296) : bits .or .u64 ((a : Int) * 4294967296) (b : Int) = ((two32 a b : Nat) : Int) := by
  unfold two32
  have h := u64_or_nat (a * 4294967296) b (by omega) (by omega)
  rw [nat_join 32 (a * 4294967296) b (by omega) (by omega)] at h
  rw [show ((a : Int) * 4294967296) = ((a * 4294967296 : Nat) : Int) by omega, h]
theorem list8 (l : List UInt8) (h : l.length = 8) : ∃ x0 x1 x2 x3 x4 x5 x6 x7, l = [x0, x1, x2, x3, x4, x5, x6, x7] := by
  match l, h with
  | [x0, x1, x2, x3, x4, x5, x6, x7], _ => exact ⟨_, _, _, _, _, _, _, _, rfl⟩
def z8 : List UInt8 := List.replicate 8 0
theorem temp_any (a b : Nat) (ha : a < 4294967296) (hb : b < 4294967296) (w : World) :
    Calls Tryd.prog 8 #[.int .u32 a, .int .u32 b] w fun e w' => e = .returned (.tuple #[.agg ((tid a b).map B).toArray, .bool (!rsv (two32 a b))]) ∧ Below w.heap.size w w' := by
  have hz : (#[Value.int IntKind.u8 0, Value.int IntKind.u8 0, Value.int IntKind.u8 0, Value.int IntKind.u8 0, Value.int IntKind.u8 0, Value.int IntKind.u8 0, Value.int IntKind.u8 0, Value.int IntKind.u8 0] : Array Value) = (z8.map B).toArray := by rfl
  have HZ := Lib.hid hz
  clear hz
  have m1 : IntKind.u64.wrap (a : Int) = (a : Int) := by rw [IntKind.wrap_u64]; omega
  have m2 : IntKind.u64.wrap (b : Int) = (b : Int) := by rw [IntKind.wrap_u64]; omega
  have m3 : IntKind.u64.wrap ((a : Int) * 4294967296) = (a : Int) * 4294967296 := by rw [IntKind.wrap_u64]; omega
  have m4 := or32 ha hb
  have hT : two32 a b < 2 ^ 64 := by unfold two32; omega
  have HV := Lib.hid (tid_val ha hb)
  obtain ⟨t, ht⟩ : ∃ t, t = tid a b := ⟨_, rfl⟩
  have htl : t.length = 8 := by rw [ht]; exact tid_length a b
  rw [← ht] at HV ⊢
  have HT : Hid (t = nb 8 (two32 a b)) := ht
  clear ht
  obtain ⟨R, hR⟩ : ∃ R, R = (t.map B).toArray := ⟨_, rfl⟩
  have hRs : R.size = 8 := by rw [hR]; simp [htl]
  have hRo : ones R.toList = true := by rw [hR]; exact ones_map t
  have C := reserved_any t htl
  rw [HV.out, ← hR] at C
  have HC := Lib.hid C
  rw [← hR]
  have HR := Lib.hid hR
  clear C hR
  have P := fun w => put_any none [] 0 (two32 a b) 8 w Rd.nil (fun _ => ⟨rfl, rfl⟩) (by decide) hT (by decide)
  simp only [List.length_nil, Nat.zero_add, show wid 8 = 8 from rfl, List.nil_append] at P
  have HP := Lib.hid P
  clear P hT
  generalize two32 a b = v at *
  generalize rsv v = q at *
  go_enter Tryd.func8, Tryd.ntmps8
  go_wp2_with fail
  simp only [HZ.out]
  have k0 : bk (w.alloc (.cells (z8.map B).toArray 25)) w.heap.size = some (.cells (z8.map B).toArray 25 (0, 0)) := bk_alloc_at _ _ _ rfl
  have b0 : Below w.heap.size w (w.alloc (.cells (z8.map B).toArray 25)) := (Below.refl _ _).alloc (Nat.le_refl _) _
  generalize w.alloc (.cells (z8.map B).toArray 25) = w0 at *
  have l0 := bk_lt k0
  have B0 := Lib.hid b0
  clear b0
  refine (HP.out w0).mono ?_
  rintro e w1 ⟨g, cur, rfl, hg, hbk, hle, htk, b1⟩
  have k1 := bk_keep b1 l0 k0
  have B1 := Lib.hid (B0.out.trans (b1.mono B0.out.size))
  have hxt : xt cur 0 8 = R := by
    apply Array.ext'
    simp only [xt, Array.toList_extract, List.extract_eq_take_drop, List.drop_zero, Nat.zero_add, Nat.sub_zero]
    rw [HR.out, HT.out]
    exact htk
  have lg := bk_lt hbk
  have l1 := bk_lt k1
  have n1 : w0.heap.size ≤ w1.heap.size := b1.size
  clear htk b1 k0 HP B0
  go_wp2_with fail
  have a2 : Below w.heap.size w (w1.alloc (.cells R 25 (0, 0))) := B1.out.alloc B1.out.size _
  have q2 : bk (w1.alloc (.cells R 25 (0, 0))) w1.heap.size = some (.cells R 25 (0, 0)) := bk_alloc_at _ _ _ rfl
  have k2 : bk (w1.alloc (.cells R 25 (0, 0))) w.heap.size = some (.cells (z8.map B).toArray 25 (0, 0)) := (bk_alloc_past _ _ _ l1).trans k1
  have n2 : ¬ w1.heap.size = w.heap.size := by omega
  generalize w1.alloc (.cells R 25 (0, 0)) = w3 at *
  generalize w1.heap.size = x1 at *
  clear B1 k1 lg l1 n1 hbk hg
  have A2 := Lib.hid a2
  clear a2
  have l2 := bk_lt q2
  have l3 := bk_lt k2
  have hzs : (z8.map B).toArray.size = 8 := rfl
  obtain ⟨y0, y1, y2, y3, y4, y5, y6, y7, hy⟩ := list8 t htl
  have hRy : R = #[B y0, B y1, B y2, B y3, B y4, B y5, B y6, B y7] := by rw [HR.out, hy]; rfl
  have hcl : ∀ w' : World, bk w' x1 = some (.cells R 25 (0, 0)) → w'.cell? ⟨x1, 0, none⟩ = some (B y0) ∧ w'.cell? ⟨x1, 1, none⟩ = some (B y1) ∧ w'.cell? ⟨x1, 2, none⟩ = some (B y2) ∧ w'.cell? ⟨x1, 3, none⟩ = some (B y3) ∧ w'.cell? ⟨x1, 4, none⟩ = some (B y4) ∧ w'.cell? ⟨x1, 5, none⟩ = some (B y5) ∧ w'.cell? ⟨x1, 6, none⟩ = some (B y6) ∧ w'.cell? ⟨x1, 7, none⟩ = some (B y7) := fun w' h => by
    rw [hRy] at h
    exact ⟨bk_cell h 0, bk_cell h 1, bk_cell h 2, bk_cell h 3, bk_cell h 4, bk_cell h 5, bk_cell h 6, bk_cell h 7⟩
  have HCL := Lib.hid hcl
  have c0 := HCL.out w3.drew ((bk_drew _ _).trans q2)
  have HRY := Lib.hid hRy
  have HY := Lib.hid hy
  clear hRy hy hcl
  rw [HRY.out] at HC
  go_region_held3 (fun w' => w'.cell? ⟨x1, 0, none⟩ = some (B y0) ∧ w'.cell? ⟨x1, 1, none⟩ = some (B y1) ∧ w'.cell? ⟨x1, 2, none⟩ = some (B y2) ∧ w'.cell? ⟨x1, 3, none⟩ = some (B y3) ∧ w'.cell? ⟨x1, 4, none⟩ = some (B y4) ∧ w'.cell? ⟨x1, 5, none⟩ = some (B y5) ∧ w'.cell? ⟨x1, 6, none⟩ = some (B y6) ∧ w'.cell? ⟨x1, 7, none⟩ = some (B y7)) (first | assumption | exact HCL.out _ (by assumption) | exact HCL.out _ ((bk_setRow_other _ _ _ _ n2).trans (by assumption)) | go_keep)
    (first
      | (go_at_call 9; refine (HC.out w3.drew).mono ?_; rintro e w4 ⟨rfl, b4⟩; have F4 := Lib.hid (A2.out.drew.trans (b4.mono A2.out.size)); have q4 := bk_keep b4 l2 ((bk_drew _ _).trans q2); have k4 := bk_keep b4 l3 ((bk_drew _ _).trans k2); have c4 := HCL.out w4 q4; clear b4 q2 k2 c0)
      | (go_at_call 9; trace_state))
  all_goals
    rename_i hh
    clear hh
    rw [← HRY.out]
    go_wp2_with fail
    refine ret_two (cs := R) rfl rfl rfl rfl ?_ Tryd.underlying25 rfl (by rw [hRs]; kernel_rfl) ?_
    · rw [bk_setRow_same, k4]; rfl
    · exact ⟨rfl, below_setRow F4.out (Nat.le_refl _) _⟩
def bgn (D E : List UInt8) : Bool := D.take 8 == E
theorem begins_any (D E : List UInt8) (hD : D.length = 32) (hE : E.length = 8) (w : World) :
    Calls Tryd.prog 22 #[.agg (D.map B).toArray, .agg (E.map B).toArray] w fun e w' => e = .returned (.bool (bgn D E)) ∧ Below w.heap.size w w' := by
  obtain ⟨R, hR⟩ : ∃ R, R = (D.map B).toArray := ⟨_, rfl⟩
  obtain ⟨S, hS⟩ : ∃ S, S = (E.map B).toArray := ⟨_, rfl⟩
  have hRs : R.size = 32 := by rw [hR]; simp [hD]
  have hSs : S.size = 8 := by rw [hS]; simp [hE]
  rw [← hR, ← hS]
  have HR := Lib.hid hR; have HS := Lib.hid hS
  clear hR hS
  go_enter Tryd.func22, Tryd.ntmps22
  go_wp2_with fail
  go_loopw [5] (fun i w' => ∃ k : Nat, k ≤ 8 ∧ D.take k = E.take k ∧ i = .int .i64 k ∧ Below w.heap.size w w' ∧ bk w' w.heap.size = some (.cells R 37 (0, 0)) ∧ bk w' (w.heap.size + 1) = some (.cells S 25 (0, 0))) (fun i _ => 8 - (intOf i).toNat)
  case atStart => exact ⟨0, by omega, rfl, rfl, (by (repeat (first | exact Below.refl _ _ | assumption | refine Below.drew ?_ | refine bdrewN ?_ _ | refine Below.alloc ?_ (by first | omega | (simp <;> omega) | (simp only [World.size_alloc] <;> omega)) _ | refine below_setRow ?_ (by first | omega | (simp <;> omega)) _ | refine Below.setCell ?_ (by first | omega | (simp <;> omega)) _))), by simp [go_sem], by simp [go_sem]⟩
  case round =>
    obtain ⟨k, hk, hT, rfl, hbel, kr, ks⟩ := hrel
    by_cases hlt : k < 8
    · have d1 : decide ((k : Int) < 8) = true := by simp; omega
      obtain ⟨x, hx⟩ : ∃ x, x = D[k] := ⟨_, rfl⟩
      obtain ⟨y, hy⟩ : ∃ y, y = E[k] := ⟨_, rfl⟩
      have c1 : wr.cell? ⟨w.heap.size, k, none⟩ = some (B x) := by rw [bk_cell kr, HR.out, hx]; simp [hD, show k < 32 by omega]
      have c2 : wr.cell? ⟨w.heap.size + 1, k, none⟩ = some (B y) := by rw [bk_cell ks, HS.out, hy]; simp [hE, hlt]
      have HX := Lib.hid hx; have HY := Lib.hid hy; have KR := Lib.hid kr; have KS := Lib.hid ks; have HT := Lib.hid hT
      clear hx hy kr ks hT
      by_cases he : x = y
      · have e : ((x.toNat : Int) != (y.toNat : Int)) = false := by simp [he]
        have HE := Lib.hid he
        clear he
        go_wp2_with fail
        go_quiet (fail)
        go_wp2_with fail
        go_roundw
        case rel => exact ⟨k + 1, by omega, take_eq_step HT.out (by omega) (by omega) (by rw [← HX.out, ← HY.out]; exact HE.out), by go_num, bdrewN hbel _, (bk_drewN _ _ _).trans KR.out, (bk_drewN _ _ _).trans KS.out⟩
        case measure => simp [intOf]; omega
      · have e : ((x.toNat : Int) != (y.toNat : Int)) = true := by simp only [bne_iff_ne, ne_eq]; exact fun h => he (B_inj h)
        have hq : bgn D E = false := by
          unfold bgn
          rw [beq_eq_false_iff_ne]
          intro h
          apply he
          rw [HX.out, HY.out]
          have : (D.take 8)[k]? = E[k]? := by rw [h]
          rw [List.getElem?_take_of_lt hlt, List.getElem?_eq_getElem (by omega), List.getElem?_eq_getElem (by omega)] at this
          exact Option.some.inj this
        have HQ := Lib.hid hq
        clear he hq
        go_wp2_with fail
        go_quiet (fail)
        go_wp2_with fail
        go_ret
        exact ⟨by rw [HQ.out]; rfl, bdrewN hbel _⟩
    · obtain rfl : k = 8 := by omega
      have hq : bgn D E = true := by
        unfold bgn
        rw [hT, List.take_of_length_le (by omega)]
        simp
      have HQ := Lib.hid hq
      clear hlt hT hq
      go_wp2_with fail
      go_ret
      exact ⟨by rw [HQ.out]; rfl, hbel⟩
end Go.Proofs.YtmdalmegogfanaaDoor
