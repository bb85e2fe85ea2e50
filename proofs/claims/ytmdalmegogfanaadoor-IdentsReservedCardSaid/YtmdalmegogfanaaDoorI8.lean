/- IdentsReserved: the walk. -/
import Derived.Test.YtmdalmegogfanaaDoorI7
namespace Go.Proofs.YtmdalmegogfanaaDoor
open Go.RowKit
set_option maxRecDepth 100000
def ends : List Nat := [0, 18302628885633695616, 18302628885633695743, 144219641646940160, 144219641646961170]
def eR : Array Value := #[.int .u64 0, .int .u64 18302628885633695616, .int .u64 18302628885633695743, .int .u64 144219641646940160, .int .u64 144219641646961170]
theorem eR_at (k : Nat) (hk : k < 5) : eR[k]? = some (.int .u64 ((ends.getD k 0 : Nat) : Int)) ∧ ends.getD k 0 < 2 ^ 64 := by
  match k, hk with
  | 0, _ => exact ⟨rfl, by decide⟩
  | 1, _ => exact ⟨rfl, by decide⟩
  | 2, _ => exact ⟨rfl, by decide⟩
  | 3, _ => exact ⟨rfl, by decide⟩
  | 4, _ => exact ⟨rfl, by decide⟩
theorem two32_div {v : Nat} (_h : v < 2 ^ 64) : two32 (v / 4294967296) (v % 4294967296) = v := by unfold two32; omega
set_option maxHeartbeats 1000000 in
theorem identsReserved_walk (x : Nat) (hx : x < 65536) (up : Bool) (w : World) (hg : GE w) :
    Calls Tryd.prog 3 #[.int .u16 x, .bool up] w fun e w' => e = .returned (.bool true) ∧ Below w.heap.size w w' := by
  have hw1 : 1 < w.heap.size := by obtain ⟨_, _, h⟩ := hg.each; exact bk_lt h
  have HG := Lib.hid hg
  clear hg
  obtain ⟨o, ho⟩ : ∃ o, o = x % 300 := ⟨_, rfl⟩
  have m0 : (x : Int) % 300 = (o : Int) := by omega
  have m1 : IntKind.u16.wrap (o : Int) = (o : Int) := by rw [IntKind.wrap_u16]; omega
  have m2 : IntKind.u64.wrap (o : Int) = (o : Int) := by rw [IntKind.wrap_u64]; omega
  have hol : o < 300 := by omega
  clear ho
  go_enter Tryd.func3, Tryd.ntmps3
  go_wp2_with fail
  have k0 : bk (w.alloc (.cells eR 23 (0, 0))) w.heap.size = some (.cells eR 23 (0, 0)) := bk_alloc_at _ _ _ rfl
  have b0 : Below w.heap.size w (w.alloc (.cells eR 23 (0, 0))) := (Below.refl _ _).alloc (Nat.le_refl _) _
  simp only [m0]
  clear m0 m1 m2
  change Code.wp _ _ _ _ (w.alloc (.cells eR 23 (0, 0)))
  generalize w.alloc (.cells eR 23 (0, 0)) = w0 at *
  have K0 := Lib.hid k0; have B0 := Lib.hid b0
  clear k0 b0
  go_loopw [7] (fun i wr => ∃ k : Nat, k ≤ 5 ∧ i = .int .i64 k ∧ bk wr w.heap.size = some (.cells eR 23 (0, 0)) ∧ Hid (Below w.heap.size w wr)) (fun i _ => 5 - (intOf i).toNat)
  case atStart => exact ⟨0, by omega, rfl, K0.out, B0⟩
  case round =>
    clear K0 B0
    obtain ⟨k, hk, rfl, hkr, HB⟩ := hrel
    have KR := Lib.hid hkr
    by_cases hlt : k < 5
    · have d5 : decide ((k : Int) < 5) = true := by simp; omega
      obtain ⟨hat, hle⟩ := eR_at k hlt
      obtain ⟨E, hE⟩ : ∃ E, E = ends.getD k 0 := ⟨_, rfl⟩
      rw [← hE] at hat hle
      have hcell : wr.cell? ⟨w.heap.size, k, none⟩ = some (.int .u64 (E : Int)) := by rw [bk_cell hkr]; exact hat
      have c1 : wr.cell? ⟨w.heap.size, 1, none⟩ = some (.int .u64 18302628885633695616) := bk_cell hkr 1
      have c2 : wr.cell? ⟨w.heap.size, 2, none⟩ = some (.int .u64 18302628885633695743) := bk_cell hkr 2
      have c3 : wr.cell? ⟨w.heap.size, 3, none⟩ = some (.int .u64 144219641646940160) := bk_cell hkr 3
      have c4 : wr.cell? ⟨w.heap.size, 4, none⟩ = some (.int .u64 144219641646961170) := bk_cell hkr 4
      obtain ⟨v, hv⟩ : ∃ v, v = if up then (E + o) % 2 ^ 64 else (E + (2 ^ 64 - o)) % 2 ^ 64 := ⟨_, rfl⟩
      have hvl : v < 2 ^ 64 := by rw [hv]; split <;> exact Nat.mod_lt _ (by decide)
      have e1 : up = true → IntKind.u64.wrap ((E : Int) + (o : Int)) = (v : Int) := fun h => by rw [hv, if_pos h, IntKind.wrap_u64]; omega
      have e2 : up = false → IntKind.u64.wrap ((E : Int) - (o : Int)) = (v : Int) := fun h => by rw [hv, if_neg (by simp [h]), IntKind.wrap_u64]; omega
      have n1 : IntKind.u32.wrap ((v : Int) / 4294967296) = ((v / 4294967296 : Nat) : Int) := by rw [IntKind.wrap_u32]; omega
      have n2 : IntKind.u32.wrap (v : Int) = ((v % 4294967296 : Nat) : Int) := by rw [IntKind.wrap_u32]; omega
      have d0 : ((v : Int) == 0) = (v == 0) := by cases v <;> rfl
      have d1 : decide ((18302628885633695616 : Int) ≤ (v : Int)) = decide (18302628885633695616 ≤ v) := by congr 1; simp; omega
      have d2 : decide ((v : Int) ≤ 18302628885633695743) = decide (v ≤ 18302628885633695743) := by congr 1; simp; omega
      have d3 : decide ((144219641646940160 : Int) ≤ (v : Int)) = decide (144219641646940160 ≤ v) := by congr 1; simp; omega
      have d4 : decide ((v : Int) ≤ 144219641646961170) = decide (v ≤ 144219641646961170) := by congr 1; simp; omega
      have T := temp_any (v / 4294967296) (v % 4294967296) (by omega) (by omega)
      have hval := tid_val (a := v / 4294967296) (b := v % 4294967296) (by omega) (by omega)
      have htl := tid_length (v / 4294967296) (v % 4294967296)
      rw [two32_div hvl] at T hval
      generalize tid (v / 4294967296) (v % 4294967296) = t at *
      have RV := reserved_any t htl
      rw [hval] at RV
      have hrs : rsv v = ((v == 0) || (decide (18302628885633695616 ≤ v) && decide (v ≤ 18302628885633695743)) || (decide (144219641646940160 ≤ v) && decide (v ≤ 144219641646961170))) := rfl
      rw [hrs] at RV T
      clear hrs hval hv hE hat hle hvl
      generalize (v == 0) = y0 at *
      generalize decide (18302628885633695616 ≤ v) = y1 at *
      generalize decide (v ≤ 18302628885633695743) = y2 at *
      generalize decide (144219641646940160 ≤ v) = y3 at *
      generalize decide (v ≤ 144219641646961170) = y4 at *
      obtain ⟨R, hR⟩ : ∃ R, R = (t.map B).toArray := ⟨_, rfl⟩
      have hRs : R.size = 8 := by rw [hR]; simp [htl]
      have hRo : ones R.toList = true := by rw [hR]; exact ones_map t
      rw [← hR] at T RV
      generalize v / 4294967296 = vh at *
      generalize v % 4294967296 = vl at *
      have HRV := Lib.hid RV
      have HT := Lib.hid T
      clear RV T hR htl hkr
      cases up
      · replace e2 := e2 rfl
        clear e1
        cases y0
        · cases y1
          · cases y3
            ·
              go_wp2_with fail
              refine (HT.out wr).mono ?_
              rintro e w1 ⟨rfl, b1⟩
              have k1 := bk_keep b1 (bk_lt KR.out) KR.out
              have B1 := Lib.hid (HB.out.trans (b1.mono HB.out.size))
              clear b1 hcell c1 c2 c3 c4
              have kr : bk (w1.alloc (.cells R 25)) w1.heap.size = some (.cells R 25 (0, 0)) := bk_alloc_at _ _ _ rfl
              have k2 : bk (w1.alloc (.cells R 25)) w.heap.size = some (.cells eR 23 (0, 0)) := (bk_alloc_past _ _ _ (bk_lt k1)).trans k1
              have b2 : Below w.heap.size w (w1.alloc (.cells R 25)) := B1.out.alloc B1.out.size _
              have KJ := Lib.hid (And.intro kr (And.intro k2 b2))
              clear kr k2 b2 k1 B1
              go_wp2_with fail
              refine (HRV.out _).mono ?_
              rintro e w2 ⟨rfl, b3⟩
              have F2 := Lib.hid (KJ.out.2.2.trans (b3.mono KJ.out.2.2.size))
              have K2 := Lib.hid (bk_keep b3 (bk_lt KJ.out.2.1) KJ.out.2.1)
              clear b3 KJ
              go_wp2_with fail
              go_roundw
              case rel => exact ⟨k + 1, by omega, by go_num, K2.out, F2⟩
              case measure => simp [intOf]; omega
            · cases y4
              ·
                go_wp2_with fail
                refine (HT.out wr).mono ?_
                rintro e w1 ⟨rfl, b1⟩
                have k1 := bk_keep b1 (bk_lt KR.out) KR.out
                have B1 := Lib.hid (HB.out.trans (b1.mono HB.out.size))
                clear b1 hcell c1 c2 c3 c4
                have kr : bk (w1.alloc (.cells R 25)) w1.heap.size = some (.cells R 25 (0, 0)) := bk_alloc_at _ _ _ rfl
                have k2 : bk (w1.alloc (.cells R 25)) w.heap.size = some (.cells eR 23 (0, 0)) := (bk_alloc_past _ _ _ (bk_lt k1)).trans k1
                have b2 : Below w.heap.size w (w1.alloc (.cells R 25)) := B1.out.alloc B1.out.size _
                have KJ := Lib.hid (And.intro kr (And.intro k2 b2))
                clear kr k2 b2 k1 B1
                go_wp2_with fail
                refine (HRV.out _).mono ?_
                rintro e w2 ⟨rfl, b3⟩
                have F2 := Lib.hid (KJ.out.2.2.trans (b3.mono KJ.out.2.2.size))
                have K2 := Lib.hid (bk_keep b3 (bk_lt KJ.out.2.1) KJ.out.2.1)
                clear b3 KJ
                go_wp2_with fail
                go_roundw
                case rel => exact ⟨k + 1, by omega, by go_num, K2.out, F2⟩
                case measure => simp [intOf]; omega
              ·
                go_wp2_with fail
                refine (HT.out wr).mono ?_
                rintro e w1 ⟨rfl, b1⟩
                have k1 := bk_keep b1 (bk_lt KR.out) KR.out
                have B1 := Lib.hid (HB.out.trans (b1.mono HB.out.size))
                clear b1 hcell c1 c2 c3 c4
                have kr : bk (w1.alloc (.cells R 25)) w1.heap.size = some (.cells R 25 (0, 0)) := bk_alloc_at _ _ _ rfl
                have k2 : bk (w1.alloc (.cells R 25)) w.heap.size = some (.cells eR 23 (0, 0)) := (bk_alloc_past _ _ _ (bk_lt k1)).trans k1
                have b2 : Below w.heap.size w (w1.alloc (.cells R 25)) := B1.out.alloc B1.out.size _
                have KJ := Lib.hid (And.intro kr (And.intro k2 b2))
                clear kr k2 b2 k1 B1
                go_wp2_with fail
                refine (HRV.out _).mono ?_
                rintro e w2 ⟨rfl, b3⟩
                have F2 := Lib.hid (KJ.out.2.2.trans (b3.mono KJ.out.2.2.size))
                have K2 := Lib.hid (bk_keep b3 (bk_lt KJ.out.2.1) KJ.out.2.1)
                clear b3 KJ
                go_wp2_with fail
                go_roundw
                case rel => exact ⟨k + 1, by omega, by go_num, K2.out, F2⟩
                case measure => simp [intOf]; omega
          · cases y2
            · cases y3
              ·
                go_wp2_with fail
                refine (HT.out wr).mono ?_
                rintro e w1 ⟨rfl, b1⟩
                have k1 := bk_keep b1 (bk_lt KR.out) KR.out
                have B1 := Lib.hid (HB.out.trans (b1.mono HB.out.size))
                clear b1 hcell c1 c2 c3 c4
                have kr : bk (w1.alloc (.cells R 25)) w1.heap.size = some (.cells R 25 (0, 0)) := bk_alloc_at _ _ _ rfl
                have k2 : bk (w1.alloc (.cells R 25)) w.heap.size = some (.cells eR 23 (0, 0)) := (bk_alloc_past _ _ _ (bk_lt k1)).trans k1
                have b2 : Below w.heap.size w (w1.alloc (.cells R 25)) := B1.out.alloc B1.out.size _
                have KJ := Lib.hid (And.intro kr (And.intro k2 b2))
                clear kr k2 b2 k1 B1
                go_wp2_with fail
                refine (HRV.out _).mono ?_
                rintro e w2 ⟨rfl, b3⟩
                have F2 := Lib.hid (KJ.out.2.2.trans (b3.mono KJ.out.2.2.size))
                have K2 := Lib.hid (bk_keep b3 (bk_lt KJ.out.2.1) KJ.out.2.1)
                clear b3 KJ
                go_wp2_with fail
                go_roundw
                case rel => exact ⟨k + 1, by omega, by go_num, K2.out, F2⟩
                case measure => simp [intOf]; omega
              · cases y4
                ·
                  go_wp2_with fail
                  refine (HT.out wr).mono ?_
                  rintro e w1 ⟨rfl, b1⟩
                  have k1 := bk_keep b1 (bk_lt KR.out) KR.out
                  have B1 := Lib.hid (HB.out.trans (b1.mono HB.out.size))
                  clear b1 hcell c1 c2 c3 c4
                  have kr : bk (w1.alloc (.cells R 25)) w1.heap.size = some (.cells R 25 (0, 0)) := bk_alloc_at _ _ _ rfl
                  have k2 : bk (w1.alloc (.cells R 25)) w.heap.size = some (.cells eR 23 (0, 0)) := (bk_alloc_past _ _ _ (bk_lt k1)).trans k1
                  have b2 : Below w.heap.size w (w1.alloc (.cells R 25)) := B1.out.alloc B1.out.size _
                  have KJ := Lib.hid (And.intro kr (And.intro k2 b2))
                  clear kr k2 b2 k1 B1
                  go_wp2_with fail
                  refine (HRV.out _).mono ?_
                  rintro e w2 ⟨rfl, b3⟩
                  have F2 := Lib.hid (KJ.out.2.2.trans (b3.mono KJ.out.2.2.size))
                  have K2 := Lib.hid (bk_keep b3 (bk_lt KJ.out.2.1) KJ.out.2.1)
                  clear b3 KJ
                  go_wp2_with fail
                  go_roundw
                  case rel => exact ⟨k + 1, by omega, by go_num, K2.out, F2⟩
                  case measure => simp [intOf]; omega
                ·
                  go_wp2_with fail
                  refine (HT.out wr).mono ?_
                  rintro e w1 ⟨rfl, b1⟩
                  have k1 := bk_keep b1 (bk_lt KR.out) KR.out
                  have B1 := Lib.hid (HB.out.trans (b1.mono HB.out.size))
                  clear b1 hcell c1 c2 c3 c4
                  have kr : bk (w1.alloc (.cells R 25)) w1.heap.size = some (.cells R 25 (0, 0)) := bk_alloc_at _ _ _ rfl
                  have k2 : bk (w1.alloc (.cells R 25)) w.heap.size = some (.cells eR 23 (0, 0)) := (bk_alloc_past _ _ _ (bk_lt k1)).trans k1
                  have b2 : Below w.heap.size w (w1.alloc (.cells R 25)) := B1.out.alloc B1.out.size _
                  have KJ := Lib.hid (And.intro kr (And.intro k2 b2))
                  clear kr k2 b2 k1 B1
                  go_wp2_with fail
                  refine (HRV.out _).mono ?_
                  rintro e w2 ⟨rfl, b3⟩
                  have F2 := Lib.hid (KJ.out.2.2.trans (b3.mono KJ.out.2.2.size))
                  have K2 := Lib.hid (bk_keep b3 (bk_lt KJ.out.2.1) KJ.out.2.1)
                  clear b3 KJ
                  go_wp2_with fail
                  go_roundw
                  case rel => exact ⟨k + 1, by omega, by go_num, K2.out, F2⟩
                  case measure => simp [intOf]; omega
            ·
              go_wp2_with fail
              refine (HT.out wr).mono ?_
              rintro e w1 ⟨rfl, b1⟩
              have k1 := bk_keep b1 (bk_lt KR.out) KR.out
              have B1 := Lib.hid (HB.out.trans (b1.mono HB.out.size))
              clear b1 hcell c1 c2 c3 c4
              have kr : bk (w1.alloc (.cells R 25)) w1.heap.size = some (.cells R 25 (0, 0)) := bk_alloc_at _ _ _ rfl
              have k2 : bk (w1.alloc (.cells R 25)) w.heap.size = some (.cells eR 23 (0, 0)) := (bk_alloc_past _ _ _ (bk_lt k1)).trans k1
              have b2 : Below w.heap.size w (w1.alloc (.cells R 25)) := B1.out.alloc B1.out.size _
              have KJ := Lib.hid (And.intro kr (And.intro k2 b2))
              clear kr k2 b2 k1 B1
              go_wp2_with fail
              refine (HRV.out _).mono ?_
              rintro e w2 ⟨rfl, b3⟩
              have F2 := Lib.hid (KJ.out.2.2.trans (b3.mono KJ.out.2.2.size))
              have K2 := Lib.hid (bk_keep b3 (bk_lt KJ.out.2.1) KJ.out.2.1)
              clear b3 KJ
              go_wp2_with fail
              go_roundw
              case rel => exact ⟨k + 1, by omega, by go_num, K2.out, F2⟩
              case measure => simp [intOf]; omega
        ·
          go_wp2_with fail
          refine (HT.out wr).mono ?_
          rintro e w1 ⟨rfl, b1⟩
          have k1 := bk_keep b1 (bk_lt KR.out) KR.out
          have B1 := Lib.hid (HB.out.trans (b1.mono HB.out.size))
          clear b1 hcell c1 c2 c3 c4
          have kr : bk (w1.alloc (.cells R 25)) w1.heap.size = some (.cells R 25 (0, 0)) := bk_alloc_at _ _ _ rfl
          have k2 : bk (w1.alloc (.cells R 25)) w.heap.size = some (.cells eR 23 (0, 0)) := (bk_alloc_past _ _ _ (bk_lt k1)).trans k1
          have b2 : Below w.heap.size w (w1.alloc (.cells R 25)) := B1.out.alloc B1.out.size _
          have KJ := Lib.hid (And.intro kr (And.intro k2 b2))
          clear kr k2 b2 k1 B1
          go_wp2_with fail
          refine (HRV.out _).mono ?_
          rintro e w2 ⟨rfl, b3⟩
          have F2 := Lib.hid (KJ.out.2.2.trans (b3.mono KJ.out.2.2.size))
          have K2 := Lib.hid (bk_keep b3 (bk_lt KJ.out.2.1) KJ.out.2.1)
          clear b3 KJ
          go_wp2_with fail
          go_roundw
          case rel => exact ⟨k + 1, by omega, by go_num, K2.out, F2⟩
          case measure => simp [intOf]; omega
      · replace e1 := e1 rfl
        clear e2
        cases y0
        · cases y1
          · cases y3
            ·
              go_wp2_with fail
              refine (HT.out wr).mono ?_
              rintro e w1 ⟨rfl, b1⟩
              have k1 := bk_keep b1 (bk_lt KR.out) KR.out
              have B1 := Lib.hid (HB.out.trans (b1.mono HB.out.size))
              clear b1 hcell c1 c2 c3 c4
              have kr : bk (w1.alloc (.cells R 25)) w1.heap.size = some (.cells R 25 (0, 0)) := bk_alloc_at _ _ _ rfl
              have k2 : bk (w1.alloc (.cells R 25)) w.heap.size = some (.cells eR 23 (0, 0)) := (bk_alloc_past _ _ _ (bk_lt k1)).trans k1
              have b2 : Below w.heap.size w (w1.alloc (.cells R 25)) := B1.out.alloc B1.out.size _
              have KJ := Lib.hid (And.intro kr (And.intro k2 b2))
              clear kr k2 b2 k1 B1
              go_wp2_with fail
              refine (HRV.out _).mono ?_
              rintro e w2 ⟨rfl, b3⟩
              have F2 := Lib.hid (KJ.out.2.2.trans (b3.mono KJ.out.2.2.size))
              have K2 := Lib.hid (bk_keep b3 (bk_lt KJ.out.2.1) KJ.out.2.1)
              clear b3 KJ
              go_wp2_with fail
              go_roundw
              case rel => exact ⟨k + 1, by omega, by go_num, K2.out, F2⟩
              case measure => simp [intOf]; omega
            · cases y4
              ·
                go_wp2_with fail
                refine (HT.out wr).mono ?_
                rintro e w1 ⟨rfl, b1⟩
                have k1 := bk_keep b1 (bk_lt KR.out) KR.out
                have B1 := Lib.hid (HB.out.trans (b1.mono HB.out.size))
                clear b1 hcell c1 c2 c3 c4
                have kr : bk (w1.alloc (.cells R 25)) w1.heap.size = some (.cells R 25 (0, 0)) := bk_alloc_at _ _ _ rfl
                have k2 : bk (w1.alloc (.cells R 25)) w.heap.size = some (.cells eR 23 (0, 0)) := (bk_alloc_past _ _ _ (bk_lt k1)).trans k1
                have b2 : Below w.heap.size w (w1.alloc (.cells R 25)) := B1.out.alloc B1.out.size _
                have KJ := Lib.hid (And.intro kr (And.intro k2 b2))
                clear kr k2 b2 k1 B1
                go_wp2_with fail
                refine (HRV.out _).mono ?_
                rintro e w2 ⟨rfl, b3⟩
                have F2 := Lib.hid (KJ.out.2.2.trans (b3.mono KJ.out.2.2.size))
                have K2 := Lib.hid (bk_keep b3 (bk_lt KJ.out.2.1) KJ.out.2.1)
                clear b3 KJ
                go_wp2_with fail
                go_roundw
                case rel => exact ⟨k + 1, by omega, by go_num, K2.out, F2⟩
                case measure => simp [intOf]; omega
              ·
                go_wp2_with fail
                refine (HT.out wr).mono ?_
                rintro e w1 ⟨rfl, b1⟩
                have k1 := bk_keep b1 (bk_lt KR.out) KR.out
                have B1 := Lib.hid (HB.out.trans (b1.mono HB.out.size))
                clear b1 hcell c1 c2 c3 c4
                have kr : bk (w1.alloc (.cells R 25)) w1.heap.size = some (.cells R 25 (0, 0)) := bk_alloc_at _ _ _ rfl
                have k2 : bk (w1.alloc (.cells R 25)) w.heap.size = some (.cells eR 23 (0, 0)) := (bk_alloc_past _ _ _ (bk_lt k1)).trans k1
                have b2 : Below w.heap.size w (w1.alloc (.cells R 25)) := B1.out.alloc B1.out.size _
                have KJ := Lib.hid (And.intro kr (And.intro k2 b2))
                clear kr k2 b2 k1 B1
                go_wp2_with fail
                refine (HRV.out _).mono ?_
                rintro e w2 ⟨rfl, b3⟩
                have F2 := Lib.hid (KJ.out.2.2.trans (b3.mono KJ.out.2.2.size))
                have K2 := Lib.hid (bk_keep b3 (bk_lt KJ.out.2.1) KJ.out.2.1)
                clear b3 KJ
                go_wp2_with fail
                go_roundw
                case rel => exact ⟨k + 1, by omega, by go_num, K2.out, F2⟩
                case measure => simp [intOf]; omega
          · cases y2
            · cases y3
              ·
                go_wp2_with fail
                refine (HT.out wr).mono ?_
                rintro e w1 ⟨rfl, b1⟩
                have k1 := bk_keep b1 (bk_lt KR.out) KR.out
                have B1 := Lib.hid (HB.out.trans (b1.mono HB.out.size))
                clear b1 hcell c1 c2 c3 c4
                have kr : bk (w1.alloc (.cells R 25)) w1.heap.size = some (.cells R 25 (0, 0)) := bk_alloc_at _ _ _ rfl
                have k2 : bk (w1.alloc (.cells R 25)) w.heap.size = some (.cells eR 23 (0, 0)) := (bk_alloc_past _ _ _ (bk_lt k1)).trans k1
                have b2 : Below w.heap.size w (w1.alloc (.cells R 25)) := B1.out.alloc B1.out.size _
                have KJ := Lib.hid (And.intro kr (And.intro k2 b2))
                clear kr k2 b2 k1 B1
                go_wp2_with fail
                refine (HRV.out _).mono ?_
                rintro e w2 ⟨rfl, b3⟩
                have F2 := Lib.hid (KJ.out.2.2.trans (b3.mono KJ.out.2.2.size))
                have K2 := Lib.hid (bk_keep b3 (bk_lt KJ.out.2.1) KJ.out.2.1)
                clear b3 KJ
                go_wp2_with fail
                go_roundw
                case rel => exact ⟨k + 1, by omega, by go_num, K2.out, F2⟩
                case measure => simp [intOf]; omega
              · cases y4
                ·
                  go_wp2_with fail
                  refine (HT.out wr).mono ?_
                  rintro e w1 ⟨rfl, b1⟩
                  have k1 := bk_keep b1 (bk_lt KR.out) KR.out
                  have B1 := Lib.hid (HB.out.trans (b1.mono HB.out.size))
                  clear b1 hcell c1 c2 c3 c4
                  have kr : bk (w1.alloc (.cells R 25)) w1.heap.size = some (.cells R 25 (0, 0)) := bk_alloc_at _ _ _ rfl
                  have k2 : bk (w1.alloc (.cells R 25)) w.heap.size = some (.cells eR 23 (0, 0)) := (bk_alloc_past _ _ _ (bk_lt k1)).trans k1
                  have b2 : Below w.heap.size w (w1.alloc (.cells R 25)) := B1.out.alloc B1.out.size _
                  have KJ := Lib.hid (And.intro kr (And.intro k2 b2))
                  clear kr k2 b2 k1 B1
                  go_wp2_with fail
                  refine (HRV.out _).mono ?_
                  rintro e w2 ⟨rfl, b3⟩
                  have F2 := Lib.hid (KJ.out.2.2.trans (b3.mono KJ.out.2.2.size))
                  have K2 := Lib.hid (bk_keep b3 (bk_lt KJ.out.2.1) KJ.out.2.1)
                  clear b3 KJ
                  go_wp2_with fail
                  go_roundw
                  case rel => exact ⟨k + 1, by omega, by go_num, K2.out, F2⟩
                  case measure => simp [intOf]; omega
                ·
                  go_wp2_with fail
                  refine (HT.out wr).mono ?_
                  rintro e w1 ⟨rfl, b1⟩
                  have k1 := bk_keep b1 (bk_lt KR.out) KR.out
                  have B1 := Lib.hid (HB.out.trans (b1.mono HB.out.size))
                  clear b1 hcell c1 c2 c3 c4
                  have kr : bk (w1.alloc (.cells R 25)) w1.heap.size = some (.cells R 25 (0, 0)) := bk_alloc_at _ _ _ rfl
                  have k2 : bk (w1.alloc (.cells R 25)) w.heap.size = some (.cells eR 23 (0, 0)) := (bk_alloc_past _ _ _ (bk_lt k1)).trans k1
                  have b2 : Below w.heap.size w (w1.alloc (.cells R 25)) := B1.out.alloc B1.out.size _
                  have KJ := Lib.hid (And.intro kr (And.intro k2 b2))
                  clear kr k2 b2 k1 B1
                  go_wp2_with fail
                  refine (HRV.out _).mono ?_
                  rintro e w2 ⟨rfl, b3⟩
                  have F2 := Lib.hid (KJ.out.2.2.trans (b3.mono KJ.out.2.2.size))
                  have K2 := Lib.hid (bk_keep b3 (bk_lt KJ.out.2.1) KJ.out.2.1)
                  clear b3 KJ
                  go_wp2_with fail
                  go_roundw
                  case rel => exact ⟨k + 1, by omega, by go_num, K2.out, F2⟩
                  case measure => simp [intOf]; omega
            ·
              go_wp2_with fail
              refine (HT.out wr).mono ?_
              rintro e w1 ⟨rfl, b1⟩
              have k1 := bk_keep b1 (bk_lt KR.out) KR.out
              have B1 := Lib.hid (HB.out.trans (b1.mono HB.out.size))
              clear b1 hcell c1 c2 c3 c4
              have kr : bk (w1.alloc (.cells R 25)) w1.heap.size = some (.cells R 25 (0, 0)) := bk_alloc_at _ _ _ rfl
              have k2 : bk (w1.alloc (.cells R 25)) w.heap.size = some (.cells eR 23 (0, 0)) := (bk_alloc_past _ _ _ (bk_lt k1)).trans k1
              have b2 : Below w.heap.size w (w1.alloc (.cells R 25)) := B1.out.alloc B1.out.size _
              have KJ := Lib.hid (And.intro kr (And.intro k2 b2))
              clear kr k2 b2 k1 B1
              go_wp2_with fail
              refine (HRV.out _).mono ?_
              rintro e w2 ⟨rfl, b3⟩
              have F2 := Lib.hid (KJ.out.2.2.trans (b3.mono KJ.out.2.2.size))
              have K2 := Lib.hid (bk_keep b3 (bk_lt KJ.out.2.1) KJ.out.2.1)
              clear b3 KJ
              go_wp2_with fail
              go_roundw
              case rel => exact ⟨k + 1, by omega, by go_num, K2.out, F2⟩
              case measure => simp [intOf]; omega
        ·
          go_wp2_with fail
          refine (HT.out wr).mono ?_
          rintro e w1 ⟨rfl, b1⟩
          have k1 := bk_keep b1 (bk_lt KR.out) KR.out
          have B1 := Lib.hid (HB.out.trans (b1.mono HB.out.size))
          clear b1 hcell c1 c2 c3 c4
          have kr : bk (w1.alloc (.cells R 25)) w1.heap.size = some (.cells R 25 (0, 0)) := bk_alloc_at _ _ _ rfl
          have k2 : bk (w1.alloc (.cells R 25)) w.heap.size = some (.cells eR 23 (0, 0)) := (bk_alloc_past _ _ _ (bk_lt k1)).trans k1
          have b2 : Below w.heap.size w (w1.alloc (.cells R 25)) := B1.out.alloc B1.out.size _
          have KJ := Lib.hid (And.intro kr (And.intro k2 b2))
          clear kr k2 b2 k1 B1
          go_wp2_with fail
          refine (HRV.out _).mono ?_
          rintro e w2 ⟨rfl, b3⟩
          have F2 := Lib.hid (KJ.out.2.2.trans (b3.mono KJ.out.2.2.size))
          have K2 := Lib.hid (bk_keep b3 (bk_lt KJ.out.2.1) KJ.out.2.1)
          clear b3 KJ
          go_wp2_with fail
          go_roundw
          case rel => exact ⟨k + 1, by omega, by go_num, K2.out, F2⟩
          case measure => simp [intOf]; omega
    · obtain rfl : k = 5 := by omega
      clear hlt
      go_wp2_with fail
      refine (lives15_any wr (HG.out.below HB.out hw1)).mono ?_
      rintro e w1 ⟨rfl, b1⟩
      have B1 := Lib.hid (HB.out.trans (b1.mono HB.out.size))
      clear b1
      go_wp2_with fail
      go_ret
      exact ⟨rfl, B1.out⟩
end Go.Proofs.YtmdalmegogfanaaDoor
