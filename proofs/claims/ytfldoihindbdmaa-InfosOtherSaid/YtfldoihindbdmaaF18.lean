/- InfosOther, walked. -/
import Derived.Test.YtfldoihindbdmaaF17
namespace Go.Proofs.Ytfldoihindbdmaa
open Go.RowKit
set_option maxRecDepth 100000
set_option maxHeartbeats 2000000
theorem own_set {w : World} {base n g cap j : Nat} {L : List UInt8} (h : w.ownsRow base 5 1 (.slice (some ⟨g, 0, none⟩) n cap) n (L.map B)) (x : UInt8) :
    (w.setCell ⟨g, j, none⟩ (B x)).ownsRow base 5 1 (.slice (some ⟨g, 0, none⟩) n cap) n ((L.set j x).map B) := by
  obtain ⟨hl, ⟨h1, _⟩ | ⟨g', cap', cur, h1, hg, hb, hle, hm, hs, ht⟩⟩ := h
  · cases h1
  · cases h1
    refine ⟨by simpa using hl, .inr ⟨g, cap, cur.setIfInBounds j (B x), rfl, hg, ?_, hle, hm, by simpa using hs, ?_⟩⟩
    · have : bk (w.setCell ⟨g, j, none⟩ (B x)) g = some (.cells (cur.setIfInBounds j (B x)) 5 (0, 0)) := by rw [bk_setCell_same, show bk w g = _ from hb]; rfl
      exact this
    · rw [Array.toList_setIfInBounds, List.take_set, ht, List.map_set]
theorem WdR.below {w w' : World} {g f : Nat} {R l : List Nat} (h : WdR w g R f l) (hb : Below w.heap.size w w') : WdR w' g R f l := ⟨bk_keep hb (bk_lt h.box) h.box, h.ring, h.f256, h.few, h.at', h.u32⟩
/-- What holds ahead of what comes third. -/
structure Ot (w0 w : World) (x gw gs : Nat) (C : Cl) : Prop where
  cl : ClB w x C
  wd : WdB w (some ⟨gw, 0, none⟩) []
  rs : Rd w w.heap.size (some ⟨gs, 0, none⟩) srv
  bl : Below w0.heap.size w0 w
  ne : gw ≠ x
  gx : gs ≠ x
  gg : gs ≠ gw
  xx : w0.heap.size ≤ x
  ww : w0.heap.size ≤ gw
theorem Ot.below {w0 w w' : World} {x gw gs : Nat} {C : Cl} (h : Ot w0 w x gw gs C) (hb : Below w.heap.size w w') : Ot w0 w' x gw gs C :=
  ⟨h.cl.below hb, h.wd.keep (Tn.of hb) (F := fun _ => False) (fun k hk e => e), (h.rs.below hb (Nat.le_refl _)).mono hb.size, h.bl.trans (hb.mono h.bl.size), h.ne, h.gx, h.gg, h.xx, h.ww⟩
theorem Ot.turn {w0 w w' : World} {x gw gs : Nat} {C C' : Cl} (h : Ot w0 w x gw gs C) (ht : Tn (fun j => j = x) w w') (hc : ClB w' x C') : Ot w0 w' x gw gs C' :=
  ⟨hc, h.wd.keep ht (fun k hk e => by obtain ⟨o, q⟩ := hk; cases q; exact h.ne e), rd_turn h.rs ht (fun b o q e => by cases q; exact h.gx e), h.bl.trans (ht.below (fun k hk => by rw [hk]; exact h.xx) h.bl.size), h.ne, h.gx, h.gg, h.xx, h.ww⟩
theorem infosOther_walk (word other refresh : Nat) (w : World) (h1 : word < 4294967296) (h2 : other < 4294967296) (h3 : refresh < 4294967296) :
    Calls Try.prog 6 #[.int .u32 (word : Int), .int .u32 (other : Int), .int .u32 (refresh : Int)] w fun e w' => e = .returned (.bool true) ∧ Below w.heap.size w w' := by
  have HU := Lib.hid (And.intro h1 (And.intro h2 h3))
  obtain ⟨di, hdi⟩ : ∃ d, d = word / 256 := ⟨_, rfl⟩
  obtain ⟨oi, hoi⟩ : ∃ d, d = other / 256 := ⟨_, rfl⟩
  have HDI := Lib.hid hdi
  have HOI := Lib.hid hoi
  have HB24 : Hid (di < 16777216 ∧ oi < 16777216) := Lib.hid (by omega)
  have q1 : (word : Int) / 256 = (di : Int) := by omega
  have q2 : (other : Int) / 256 = (oi : Int) := by omega
  have HNW := Lib.hid (wnew_any w)
  clear hdi hoi
  go_enter Try.func6, Try.ntmps6
  go_wp2_with fail
  refine HNW.out.mono ?_
  rintro e w1 ⟨rfl, hw1, b1⟩
  obtain ⟨gw, hgw⟩ : ∃ g, g = w.heap.size := ⟨_, rfl⟩
  rw [← hgw] at hw1 ⊢
  have HGW := Lib.hid hgw
  have bA : Below w1.heap.size w1 (w1.alloc (.cells #[.int .u32 (word : Int)] 23)) := (by (repeat (first | exact Below.refl _ _ | assumption | refine Below.drew ?_ | refine bdrewN ?_ _ | refine Below.alloc ?_ (by first | omega | (simp <;> omega) | (simp only [World.size_alloc] <;> omega)) _ | refine below_setRow ?_ (by first | omega | (simp <;> omega)) _ | refine Below.setCell ?_ (by first | omega | (simp <;> omega)) _)))
  have RUA : RU (w1.alloc (.cells #[.int .u32 (word : Int)] 23)) (some ⟨w1.heap.size, 0, none⟩) [word] := fun k hk => by
    have hk0 : k = 0 := by simp at hk; omega
    subst hk0
    exact ⟨w1.heap.size, 0, rfl, by simp, bk_cell (bk_alloc_at w1 (.cells #[.int .u32 (word : Int)] 23) _ rfl) 0, h1⟩
  have CF : Hid (Calls Try.prog 18 #[.pointer (some ⟨gw, 0, none⟩), .slice (some ⟨w1.heap.size, 0, none⟩) 1 1] (w1.alloc (.cells #[.int .u32 (word : Int)] 23)) fun e w' => (∃ n, e = .returned (.int .i64 n)) ∧ (∃ R', WdR w' gw R' 0 [word]) ∧ Tn (fun j => j = gw) (w1.alloc (.cells #[.int .u32 (word : Int)] 23)) w') :=
    Lib.hid (wfeed_any gw 0 _ [] [word] (some ⟨w1.heap.size, 0, none⟩) 1 _ (hw1.below bA) RUA (fun _ b o e q => by cases e; have := bk_lt hw1.box; omega) (by simp))
  have B1 := Lib.hid (b1.trans (bA.mono b1.size))
  clear hw1 b1 hgw HNW bA RUA h1 h2 h3
  go_wp2_with fail
  refine CF.out.mono ?_
  rintro e w2 ⟨⟨nf, rfl⟩, ⟨R2, hw2⟩, t2⟩
  have B2 := Lib.hid (B1.out.trans (t2.below (n := w.heap.size) (fun k hk => by rw [hk]; exact Nat.le_of_eq HGW.out.symm) B1.out.size))
  have HW2 : Hid (WdB w2 (some ⟨gw, 0, none⟩) [word]) := Lib.hid (.inr ⟨gw, R2, 0, rfl, hw2⟩)
  have hgl := bk_lt hw2.box
  clear hw2 t2 CF B1
  have CN : Hid (Calls Try.prog 15 #[.agg #[.int .u8 9, .int .u8 0, .int .u8 0, .int .u8 0, .int .u8 0, .int .u8 0]] w2 fun e w' => ∃ x, e = .returned (.pointer (some ⟨x, 0, none⟩)) ∧ w2.heap.size ≤ x ∧ ClB w' x (newCl 9 0 0 0 0 0) ∧ Below w2.heap.size w2 w') := Lib.hid (inew_any 9 0 0 0 0 0 w2)
  go_wp2_with fail
  refine CN.out.mono ?_
  rintro e w3 ⟨x, rfl, hx, hc3, b3⟩
  have HP : Hid (¬ WF (some ⟨gw, 0, none⟩) x) := Lib.hid (fun ⟨o, e⟩ => by cases e; omega)
  have HXX : Hid (w.heap.size ≤ x ∧ gw ≠ x) := Lib.hid (by have h1 := B2.out.size; omega)
  have HXF : Hid (∀ k, XF x (some ⟨gw, 0, none⟩) k → w.heap.size ≤ k) := Lib.hid fun k hk => by
    have h2 := HGW.out
    rcases hk with rfl | ⟨o, e⟩
    · exact HXX.out.1
    · cases e; omega
  have B3 := Lib.hid (B2.out.trans (b3.mono B2.out.size))
  have W3 := HW2.out.keep (Tn.of b3) (F := fun _ => False) fun k hk e => e
  have CS : Hid (Calls Try.prog 10 #[.pointer (some ⟨x, 0, none⟩), .int .u64 0, .pointer (some ⟨gw, 0, none⟩)] w3 fun e w' => e = .returned (.bool true) ∧ ClB w' x (oc di 0 0 0 0 true false) ∧ WdB w' (some ⟨gw, 0, none⟩) [] ∧ Tn (XF x (some ⟨gw, 0, none⟩)) w3 w') := Lib.hid (by
    have C := start_any x _ 0 (some ⟨gw, 0, none⟩) [word] w3 hc3 W3 HP.out (Nat.zero_le _) rfl
    rw [oc_start, ← HDI.out] at C
    exact C)
  clear hc3 b3 W3 CN B2 HW2 hx hgl
  go_wp2_with fail
  refine CS.out.mono ?_
  rintro e w4 ⟨rfl, h4, W4, t4⟩
  obtain ⟨os, hrun, hosl⟩ := oc_run di
  have CT : Hid (Calls Try.prog 11 #[.pointer (some ⟨x, 0, none⟩), .int .u64 1000, .pointer (some ⟨gw, 0, none⟩)] w4 fun e w' => ∃ A, e = .returned (.slice A os.length os.length) ∧ Got w' w4.heap.size A os ∧ ClB w' x (oc di 2610 1000 0 1710 true false) ∧ WdB w' (some ⟨gw, 0, none⟩) [] ∧ Tn (XF x (some ⟨gw, 0, none⟩)) w4 w') := Lib.hid (tick_any x (oc di 0 0 0 0 true false) 1000 (some ⟨gw, 0, none⟩) [] w4 h4 W4 HP.out (by decide) (.inl (by show max 1000 0 ≤ 86400000; decide)) _ [] os hrun (by rw [hosl]; decide))
  have B4 := Lib.hid (B3.out.trans (t4.below (n := w.heap.size) HXF.out B3.out.size))
  clear h4 W4 t4 CS B3 hrun hosl
  go_wp2_with fail
  refine CT.out.mono ?_
  rintro e w5 ⟨A5, rfl, _, h5, W5, t5⟩
  obtain ⟨C, hC⟩ : ∃ C, C = oc di 2610 1000 0 1710 true false := ⟨_, rfl⟩
  have HC := Lib.hid hC
  rw [← hC] at h5
  have B5 := Lib.hid (B4.out.trans (t5.below (n := w.heap.size) HXF.out B4.out.size))
  have H5 := Lib.hid h5
  have W5' := Lib.hid W5
  have CX : Hid (Calls Try.prog 12 #[.pointer (some ⟨x, 0, none⟩)] w5 fun e w' => e = .returned (.int .u64 2610) ∧ w5 = w') := Lib.hid (by
    have Q := next_any x C w5 h5
    rw [HC.out, oc_due rfl] at Q
    exact Q)
  clear h5 W5 t5 CT B4 hC
  go_wp2_with fail
  refine CX.out.mono ?_
  rintro e w5' ⟨rfl, rfl⟩
  clear CX
  go_upto_region 9 with fail
  have b6 : Below w5.heap.size w5 (w5.alloc (.cells #[.int .u8 0, .int .u8 2, .int .u8 0, .int .u8 1, .int .u8 5] 5 (0, 0))) := (by (repeat (first | exact Below.refl _ _ | assumption | refine Below.drew ?_ | refine bdrewN ?_ _ | refine Below.alloc ?_ (by first | omega | (simp <;> omega) | (simp only [World.size_alloc] <;> omega)) _ | refine below_setRow ?_ (by first | omega | (simp <;> omega)) _ | refine Below.setCell ?_ (by first | omega | (simp <;> omega)) _)))
  have hw5 : gw < w5.heap.size := W5'.out.lt gw ⟨0, rfl⟩
  have hx5 := bk_lt H5.out.box
  obtain ⟨gs, hgs⟩ : ∃ g, g = w5.heap.size := ⟨_, rfl⟩
  have O6 : Hid (Ot w (w5.alloc (.cells #[.int .u8 0, .int .u8 2, .int .u8 0, .int .u8 1, .int .u8 5] 5 (0, 0))) x gw gs C) := Lib.hid ⟨H5.out.below b6, W5'.out.keep (Tn.of b6) (F := fun _ => False) (fun k hk e => e), by rw [hgs]; exact Rd.lit w5 srv 5, B5.out.trans (b6.mono B5.out.size), HXX.out.2, by omega, by omega, HXX.out.1, Nat.le_of_eq HGW.out.symm⟩
  change Code.wp _ _ _ _ (w5.alloc (.cells #[.int .u8 0, .int .u8 2, .int .u8 0, .int .u8 1, .int .u8 5] 5 (0, 0)))
  rw [← hgs]
  clear b6 hw5 hx5 hgs H5 W5' B5
  generalize w5.alloc (.cells #[.int .u8 0, .int .u8 2, .int .u8 0, .int .u8 1, .int .u8 5] 5 (0, 0)) = w6 at *
  have HCF : Hid (C.asks = true ∧ C.id = di ∧ C.goes 1000 = C ∧ C.due = 2610) := Lib.hid (by rw [HC.out]; exact ⟨rfl, rfl, rfl, oc_due rfl⟩)
  have HCG : Hid (C.tm = 1000 ∧ ∀ nx, ({ C.goes 1000 with asks := false, fresh := true, next := nx } : Cl) = oc di nx 1000 0 1710 false true) := Lib.hid (by rw [HC.out]; exact ⟨rfl, fun nx => rfl⟩)
  by_cases hio : oi = di
  · have n1 : ((oi : Int) != (di : Int)) = false := by rw [hio]; simp
    clear hio HC
    go_upto_region 13 with fail
    generalize hw9 : w6 = w9 at *
    clear hw9
    have O9 := O6
    have CR : Hid (Calls Try.prog 16 #[.int .u32 (di : Int), .slice (some ⟨gs, 0, none⟩) 5 5] w9 fun e w' => ∃ g c', e = .returned (.slice (some ⟨g, 0, none⟩) 9 c') ∧ w'.ownsRow w9.heap.size 5 1 (.slice (some ⟨g, 0, none⟩) 9 c') 9 ((repB di srv).map B) ∧ Below w9.heap.size w9 w') := Lib.hid (reply_any di (some ⟨gs, 0, none⟩) srv 5 w9 (by have := HB24.out.1; omega) O9.out.rs (fun h => by cases h) (by decide))
    go_wp2_with fail
    refine CR.out.mono ?_
    rintro e w10 ⟨g10, c10, rfl, ho10, b10⟩
    have hkb : ∃ cur, bk w10 g10 = some (.cells cur 5 (0, 0)) ∧ 0 < cur.size := by
      rcases ho10.2 with ⟨q, _⟩ | ⟨g, cap, cur, q, _, hk, hle, _, hsz, _⟩
      · cases q
      · cases q
        exact ⟨cur, hk, by omega⟩
    obtain ⟨cur10, hk10, hs10⟩ := hkb
    have O10 := O9.out.below b10
    have hge10 := (ho10.lt g10 rfl).1
    have hx10 := bk_lt O9.out.cl.box
    have ho11 : (w10.setCell ⟨g10, 0, none⟩ (.int .u8 2)).ownsRow w9.heap.size 5 1 (.slice (some ⟨g10, 0, none⟩) 9 c10) 9 (((repB di srv).set 0 2).map B) := own_set ho10 2
    have b11 : Below w9.heap.size w9 (w10.setCell ⟨g10, 0, none⟩ (.int .u8 2)) := b10.setCell (p := ⟨g10, 0, none⟩) hge10 _
    have hr11 := repR (w0 := w9) ho11 (by rw [List.length_set]; exact (repB_len di srv).symm)
    have HR11 := Lib.hid hr11
    have O11 := Lib.hid (O9.out.below b11)
    have HG10 : Hid (g10 ≠ x) := Lib.hid (by omega)
    have f10 := bk_frozen hk10 0
    have l10 := bk_lt hk10
    have u10 : ∃ u, w10.cell? ⟨g10, 0, none⟩ = some u := ⟨_, (bk_cell hk10 0).trans (Array.getElem?_eq_getElem hs10)⟩
    obtain ⟨u10, hu10⟩ := u10
    clear CR ho10 b10 hk10 hs10 O10 hge10 hx10 ho11 b11 hr11 O9
    go_upto_region 15 with fail
    clear f10 l10 hu10
    change Code.wp _ _ _ _ (w10.setCell ⟨g10, 0, none⟩ (.int .u8 2))
    generalize w10.setCell ⟨g10, 0, none⟩ (.int .u8 2) = w11 at *
    have CY : Hid (Calls Try.prog 9 #[.pointer (some ⟨x, 0, none⟩), .int .u64 1000, .slice (some ⟨g10, 0, none⟩) 9 c10] w11 fun e w' => e = .returned (.tuple #[.agg (ansC 0), .bool false]) ∧ ClB w' x C ∧ Tn (fun j => j = x) w11 w') := Lib.hid (by
      have hl : ((repB di srv).set 0 2).length = 9 := by rw [List.length_set]; exact repB_len di srv
      have Q := reply_other x C 1000 (some ⟨g10, 0, none⟩) ((repB di srv).set 0 2) c10 w11 O11.out.cl HR11.out.rd (by decide) HR11.out.le (fun bb o e => by cases e; exact HG10.out) HCF.out.1 kind_prefix
      rw [HCF.out.2.2.1, hl] at Q
      exact Q)
    go_wp2_with fail
    refine CY.out.mono ?_
    rintro e w12 ⟨rfl, h12, t12⟩
    have os1 := ansC_ones 0
    have os2 := ansC_size 0
    have b13 : Below w12.heap.size w12 (w12.alloc (.cells (ansC 0) 36 (0, 0))) := (by (repeat (first | exact Below.refl _ _ | assumption | refine Below.drew ?_ | refine bdrewN ?_ _ | refine Below.alloc ?_ (by first | omega | (simp <;> omega) | (simp only [World.size_alloc] <;> omega)) _ | refine below_setRow ?_ (by first | omega | (simp <;> omega)) _ | refine Below.setCell ?_ (by first | omega | (simp <;> omega)) _)))
    have O13 := Lib.hid ((O11.out.turn t12 h12).below b13)
    clear CY O11 HR11 HG10 h12 t12 b13
    go_upto_region 16 with fail
    change Code.wp _ _ _ _ (w12.alloc (.cells (ansC 0) 36 (0, 0)))
    generalize w12.alloc (.cells (ansC 0) 36 (0, 0)) = w13 at *
    have CB : Hid (Calls Try.prog 13 #[.pointer (some ⟨x, 0, none⟩)] w13 fun e w' => e = .returned (.bool true) ∧ w13 = w') := Lib.hid (by
      have Q := busy_any x C w13 O13.out.cl
      rw [HCF.out.1] at Q
      exact Q)
    clear os1 os2
    go_wp2_with fail
    refine CB.out.mono ?_
    rintro e w13' ⟨rfl, rfl⟩
    clear CB
    go_upto_region 18 with fail
    obtain ⟨y1, hy1⟩ : ∃ y, y = UInt8.ofNat (refresh / 16777216) := ⟨_, rfl⟩
    obtain ⟨y2, hy2⟩ : ∃ y, y = UInt8.ofNat (refresh / 65536) := ⟨_, rfl⟩
    obtain ⟨y3, hy3⟩ : ∃ y, y = UInt8.ofNat (refresh / 256) := ⟨_, rfl⟩
    obtain ⟨y4, hy4⟩ : ∃ y, y = UInt8.ofNat refresh := ⟨_, rfl⟩
    obtain ⟨F, hF⟩ : ∃ F, F = max 600 refresh := ⟨_, rfl⟩
    have hr32 := HU.out.2.2
    have HFR : Hid (frsh ((rfO y1 y2 y3 y4).lookup 32) = F) := Lib.hid (by rw [hy1, hy2, hy3, hy4, hF]; exact rf_frsh refresh HU.out.2.2)
    have HFB : Hid (600 ≤ F ∧ F < 4294967296) := Lib.hid (by omega)
    have r1 : (refresh : Int) / 16777216 = (y1.toNat : Int) := by rw [hy1, UInt8.toNat_ofNat']; omega
    have r2 : (refresh : Int) / 65536 % 256 = (y2.toNat : Int) := by rw [hy2, UInt8.toNat_ofNat']; omega
    have r3 : (refresh : Int) / 256 % 256 = (y3.toNat : Int) := by rw [hy3, UInt8.toNat_ofNat']; omega
    have r4 : (refresh : Int) % 256 = (y4.toNat : Int) := by rw [hy4, UInt8.toNat_ofNat']; omega
    have HFM := Lib.hid hF
    clear hy1 hy2 hy3 hy4 hF
    have b14 : Below w13.heap.size w13 (w13.alloc (.cells #[.int .u8 0, .int .u8 32, .int .u8 0, .int .u8 4, .int .u8 (y1.toNat : Int), .int .u8 (y2.toNat : Int), .int .u8 (y3.toNat : Int), .int .u8 (y4.toNat : Int)] 5)) := (by (repeat (first | exact Below.refl _ _ | assumption | refine Below.drew ?_ | refine bdrewN ?_ _ | refine Below.alloc ?_ (by first | omega | (simp <;> omega) | (simp only [World.size_alloc] <;> omega)) _ | refine below_setRow ?_ (by first | omega | (simp <;> omega)) _ | refine Below.setCell ?_ (by first | omega | (simp <;> omega)) _)))
    have O14 := Lib.hid (O13.out.below b14)
    have R14 : Hid (Rd (w13.alloc (.cells #[.int .u8 0, .int .u8 32, .int .u8 0, .int .u8 4, .int .u8 (y1.toNat : Int), .int .u8 (y2.toNat : Int), .int .u8 (y3.toNat : Int), .int .u8 (y4.toNat : Int)] 5)) (w13.alloc (.cells #[.int .u8 0, .int .u8 32, .int .u8 0, .int .u8 4, .int .u8 (y1.toNat : Int), .int .u8 (y2.toNat : Int), .int .u8 (y3.toNat : Int), .int .u8 (y4.toNat : Int)] 5)).heap.size (some ⟨w13.heap.size, 0, none⟩) [0, 32, 0, 4, y1, y2, y3, y4]) := Lib.hid (Rd.lit w13 [0, 32, 0, 4, y1, y2, y3, y4] 5)
    clear b14
    go_wp2_with (at_builtin; refine append_full rfl _ _ rfl ⟨gs, 0, none⟩ srv 5 5 rfl rfl rfl O14.out.rs ⟨w13.heap.size, 0, none⟩ [0, 32, 0, 4, y1, y2, y3, y4] 8 8 rfl rfl R14.out (by simp) (by simp [srv]) ?_)
    intro v15 w15 ho15 b15
    have O15 := Lib.hid (O14.out.below (b15.mono (by simp)))
    replace ho15 : w15.ownsRow (w13.heap.size + 1) 5 1 v15 13 ((rfB y1 y2 y3 y4).map B) := ho15
    obtain ⟨g15, c15, rfl⟩ : ∃ g c, v15 = .slice (some ⟨g, 0, none⟩) 13 c := by
      rcases ho15.2 with ⟨_, q⟩ | ⟨g, c, _, q, _⟩
      · omega
      · exact ⟨g, c, q⟩
    have R15 : Rd w15 w15.heap.size (some ⟨g15, 0, none⟩) (rfB y1 y2 y3 y4) := by
      obtain ⟨A', c', e', hR, _, _⟩ := Rd.of_own (l := rfB y1 y2 y3 y4) ho15 rfl
      cases e'
      exact hR
    have CR : Hid (Calls Try.prog 16 #[.int .u32 (di : Int), .slice (some ⟨g15, 0, none⟩) 13 c15] w15 fun e w' => ∃ g c', e = .returned (.slice (some ⟨g, 0, none⟩) 17 c') ∧ w'.ownsRow w15.heap.size 5 1 (.slice (some ⟨g, 0, none⟩) 17 c') 17 ((repB di (rfB y1 y2 y3 y4)).map B) ∧ Below w15.heap.size w15 w') := Lib.hid (reply_any di (some ⟨g15, 0, none⟩) (rfB y1 y2 y3 y4) c15 w15 (by have := HB24.out.1; omega) R15 (fun h => by cases h) (by show 13 < 2 ^ 20; decide))
    clear ho15 b15 R14 O14 R15 O13 r1 r2 r3 r4
    go_wp2_with fail
    refine CR.out.mono ?_
    rintro e w16 ⟨g16, c16, rfl, ho16, b16⟩
    have hr16 := repR ho16 (repB_len di (rfB y1 y2 y3 y4)).symm
    have O16 := Lib.hid (O15.out.below b16)
    obtain ⟨nx, hnx⟩ : ∃ n, n = addT 1000 (secT F) := ⟨_, rfl⟩
    have CY : Hid (Calls Try.prog 9 #[.pointer (some ⟨x, 0, none⟩), .int .u64 1000, .slice (some ⟨g16, 0, none⟩) 17 c16] w16 fun e w' => e = .returned (.tuple #[.agg (ansC F), .bool true]) ∧ ClB w' x (oc di nx 1000 0 1710 false true) ∧ Tn (fun j => j = x) w16 w') := Lib.hid (by
      have Q := reply_opts x C 1000 (some ⟨g16, 0, none⟩) (repB di (rfB y1 y2 y3 y4)) (rfB y1 y2 y3 y4) c16 (rfO y1 y2 y3 y4) w16 O16.out.cl hr16.rd (by decide) hr16.le (fun bb o e => by cases e; have h1 := hr16.ge; have h2 := bk_lt O15.out.cl.box; omega) HCF.out.1 (by unfold repB headB; rw [HCF.out.2.1]) (rfOpts y1 y2 y3 y4) (by show 17 < 2 ^ 30; decide) hr16.lt rfl rfl rfl
      refine Q.mono fun e w' q => ?_
      rw [if_neg (show ¬ List.lookup 2 (rfO y1 y2 y3 y4) = none from fun h => by cases h), HFR.out, HCG.out.1, show max 1000 1000 = 1000 from rfl, ← hnx, HCG.out.2] at q
      exact q)
    have HNX := Lib.hid hnx
    clear CR ho16 b16 hr16 O15 hnx
    go_wp2_with fail
    refine CY.out.mono ?_
    rintro e w17 ⟨rfl, h17, t17⟩
    have os3 := ansC_ones F
    have os4 := ansC_size F
    have b18 : Below w17.heap.size w17 (w17.alloc (.cells (ansC F) 36 (0, 0))) := (by (repeat (first | exact Below.refl _ _ | assumption | refine Below.drew ?_ | refine bdrewN ?_ _ | refine Below.alloc ?_ (by first | omega | (simp <;> omega) | (simp only [World.size_alloc] <;> omega)) _ | refine below_setRow ?_ (by first | omega | (simp <;> omega)) _ | refine Below.setCell ?_ (by first | omega | (simp <;> omega)) _)))
    have O18 := Lib.hid ((O16.out.turn t17 h17).below b18)
    have K18 := Lib.hid (bk_alloc_at w17 (.cells (ansC F) 36 (0, 0)) _ rfl)
    clear CY O16 h17 t17 b18
    go_upto_region 19 with fail
    change Code.wp _ _ _ _ (w17.alloc (.cells (ansC F) 36 (0, 0)))
    obtain ⟨ra, hra⟩ : ∃ r, r = w17.heap.size := ⟨_, rfl⟩
    rw [← hra] at K18 ⊢
    clear hra os3 os4
    generalize w17.alloc (.cells (ansC F) 36 (0, 0)) = w18 at *
    have c2 : w18.cell? ⟨ra, 2, none⟩ = some (.int .u32 (F : Int)) := bk_cell K18.out 2
    have la := bk_lt K18.out
    go_upto_region 20 with fail
    have hmx : max (refresh : Int) 600 = (F : Int) := by have := HFM.out; omega
    rw [hmx]
    clear hmx hr32
    have CB : Hid (Calls Try.prog 13 #[.pointer (some ⟨x, 0, none⟩)] w18 fun e w' => e = .returned (.bool false) ∧ w18 = w') := Lib.hid (busy_any x (oc di nx 1000 0 1710 false true) w18 O18.out.cl)
    have CX : Hid (Calls Try.prog 12 #[.pointer (some ⟨x, 0, none⟩)] w18 fun e w' => e = .returned (.int .u64 (nx : Int)) ∧ w18 = w') := Lib.hid (by
      have Q := next_any x (oc di nx 1000 0 1710 false true) w18 O18.out.cl
      rw [oc_due rfl] at Q
      exact Q)
    go_wp2_with fail
    refine CB.out.mono ?_
    rintro e w18' ⟨rfl, rfl⟩
    clear c2 la K18
    by_cases hF9 : F = 4294967295
    · have n9 : ((F : Int) == 4294967295) = true := by rw [hF9]; rfl
      have hnx9 : nx = 9223372036854775807 := by rw [HNX.out, hF9]; decide
      have n8 : ((nx : Int) == 9223372036854775807) = true := by rw [hnx9]; rfl
      clear hF9 hnx9
      go_wp2_with fail
      refine CX.out.mono ?_
      rintro e w18' ⟨rfl, rfl⟩
      go_wp2_with fail
      refine (lives26_any _).mono ?_
      rintro e w19 ⟨rfl, b19⟩
      go_wp2_with fail
      go_ret
      exact ⟨rfl, O18.out.bl.trans (b19.mono O18.out.bl.size)⟩
    · have n9 : ((F : Int) == 4294967295) = false := beq_eq_false_iff_ne.2 (by omega)
      have hnx9 : nx = 1000 + 1000 * F := by
        have h := HFB.out
        rw [HNX.out]
        have e : secT F = 1000 * F := by unfold secT; rw [if_neg hF9]
        rw [e, addT_eq (by unfold far; omega)]
      have hF32 := HFB.out.2
      obtain ⟨n1', hn1'⟩ : ∃ n, n = nx - 1 := ⟨_, rfl⟩
      have HN9 : Hid (nx = n1' + 1 ∧ 601000 ≤ nx ∧ nx + 900 ≤ far) := Lib.hid (by have h := HFB.out; unfold far; omega)
      have p1 : (1000 : Int) + 1000 * (F : Int) = (nx : Int) := by omega
      have p2 : (nx : Int) - 1 = (n1' : Int) := by omega
      have HPP := Lib.hid (And.intro p1 p2)
      clear hF9 hn1' hnx9
      go_upto_region 25 with fail
      have CT : Hid (Calls Try.prog 11 #[.pointer (some ⟨x, 0, none⟩), .int .u64 (n1' : Int), .pointer (some ⟨gw, 0, none⟩)] w18 fun e w' => ∃ A, e = .returned (.slice A 0 0) ∧ ClB w' x (oc di nx n1' 0 1710 false true) ∧ WdB w' (some ⟨gw, 0, none⟩) [] ∧ Tn (XF x (some ⟨gw, 0, none⟩)) w18 w') := Lib.hid (by
        have h9 := HN9.out
        have hmx : max n1' 1000 = n1' := by omega
        have Q := tick_any x (oc di nx 1000 0 1710 false true) n1' (some ⟨gw, 0, none⟩) [] w18 O18.out.cl O18.out.wd HP.out (by omega) (.inr (by rw [oc_due rfl]; show max n1' 1000 ≤ _; omega)) (oc di nx 1000 0 1710 false true) [] [] (.done _ _ (.inr (by show max n1' 1000 < nx; omega))) (by decide)
        refine Q.mono fun e w' q => ?_
        obtain ⟨A, q1, _, q3, q4⟩ := q
        refine ⟨A, q1, ?_, q4⟩
        have e2 : (oc di nx 1000 0 1710 false true).goes (max n1' (oc di nx 1000 0 1710 false true).tm) = oc di nx n1' 0 1710 false true := by
          show oc di nx (max 1000 (max n1' 1000)) 0 1710 false true = _
          rw [show max 1000 (max n1' 1000) = n1' by omega]
        rw [e2] at q3
        exact q3)
      go_wp2_with fail
      refine CX.out.mono ?_
      rintro e w18' ⟨rfl, rfl⟩
      clear CX CB
      go_wp2_with fail
      refine CT.out.mono ?_
      rintro e w19 ⟨A19, rfl, h19, W19, t19⟩
      have B19 := Lib.hid (O18.out.bl.trans (t19.below (n := w.heap.size) HXF.out O18.out.bl.size))
      have CB : Hid (Calls Try.prog 13 #[.pointer (some ⟨x, 0, none⟩)] w19 fun e w' => e = .returned (.bool false) ∧ w19 = w') := Lib.hid (busy_any x _ w19 h19)
      obtain ⟨dd, oss, hrun, hosl, hask⟩ := oc_again di nx n1' (by have h9 := HN9.out; omega) HN9.out.2.2
      have CT2 : Hid (Calls Try.prog 11 #[.pointer (some ⟨x, 0, none⟩), .int .u64 (nx : Int), .pointer (some ⟨gw, 0, none⟩)] w19 fun e w' => ∃ A, e = .returned (.slice A 1 1) ∧ ClB w' x (dd.goes nx) ∧ Tn (XF x (some ⟨gw, 0, none⟩)) w19 w') := Lib.hid (by
        have h9 := HN9.out
        have hmx : max nx (oc di nx n1' 0 1710 false true).tm = nx := by show max nx n1' = nx; omega
        have Q := tick_any x (oc di nx n1' 0 1710 false true) nx (some ⟨gw, 0, none⟩) [] w19 h19 W19 HP.out (by omega) (.inr (by rw [oc_due rfl, hmx]; omega)) dd [] oss (by rw [hmx]; exact hrun) (by rw [hosl]; decide)
        refine Q.mono fun e w' q => ?_
        obtain ⟨A, q1, _, q3, _, q5⟩ := q
        rw [hmx] at q3
        rw [hosl] at q1
        exact ⟨A, q1, q3, q5⟩)
      have HASK := Lib.hid hask
      clear h19 W19 t19 CT O18 hrun hosl hask
      go_wp2_with fail
      refine CB.out.mono ?_
      rintro e w19' ⟨rfl, rfl⟩
      clear CB
      go_wp2_with fail
      refine CT2.out.mono ?_
      rintro e w20 ⟨A20, rfl, h20, t20⟩
      have B20 := Lib.hid (B19.out.trans (t20.below (n := w.heap.size) HXF.out B19.out.size))
      have CB : Hid (Calls Try.prog 13 #[.pointer (some ⟨x, 0, none⟩)] w20 fun e w' => e = .returned (.bool true) ∧ w20 = w') := Lib.hid (by
        have Q := busy_any x _ w20 h20
        rw [HASK.out] at Q
        exact Q)
      clear h20 t20 CT2
      go_wp2_with fail
      refine CB.out.mono ?_
      rintro e w20' ⟨rfl, rfl⟩
      clear CB
      go_wp2_with fail
      refine (lives26_any _).mono ?_
      rintro e w21 ⟨rfl, b21⟩
      go_wp2_with fail
      go_ret
      exact ⟨rfl, B20.out.trans (b21.mono B20.out.size)⟩
  · have n1 : ((oi : Int) != (di : Int)) = true := by simp; omega
    have HIO := Lib.hid hio
    have CR : Hid (Calls Try.prog 16 #[.int .u32 (oi : Int), .slice (some ⟨gs, 0, none⟩) 5 5] w6 fun e w' => ∃ g c', e = .returned (.slice (some ⟨g, 0, none⟩) 9 c') ∧ w'.ownsRow w6.heap.size 5 1 (.slice (some ⟨g, 0, none⟩) 9 c') 9 ((repB oi srv).map B) ∧ Below w6.heap.size w6 w') := Lib.hid (reply_any oi (some ⟨gs, 0, none⟩) srv 5 w6 (by have := HB24.out.2; omega) O6.out.rs (fun h => by cases h) (by decide))
    clear hio HC
    go_wp2_with fail
    refine CR.out.mono ?_
    rintro e w7 ⟨g7, c7, rfl, ho7, b7⟩
    have hr7 := repR ho7 (repB_len oi srv).symm
    have O7 := Lib.hid (O6.out.below b7)
    have CY : Hid (Calls Try.prog 9 #[.pointer (some ⟨x, 0, none⟩), .int .u64 1000, .slice (some ⟨g7, 0, none⟩) 9 c7] w7 fun e w' => e = .returned (.tuple #[.agg (ansC 0), .bool false]) ∧ ClB w' x C ∧ Tn (fun j => j = x) w7 w') := Lib.hid (by
      have Q := reply_other x C 1000 (some ⟨g7, 0, none⟩) (repB oi srv) c7 w7 O7.out.cl hr7.rd (by decide) hr7.le (fun bb o e => by cases e; have h1 := hr7.ge; have h2 := bk_lt O6.out.cl.box; omega) HCF.out.1 (other_prefix (by rw [HCF.out.2.1]; exact HB24.out.1) HB24.out.2 (by rw [HCF.out.2.1]; exact HIO.out))
      rw [HCF.out.2.2.1] at Q
      exact Q)
    clear CR ho7 b7 hr7 O6
    go_wp2_with fail
    refine CY.out.mono ?_
    rintro e w8 ⟨rfl, h8, t8⟩
    have os1 := ansC_ones 0
    have os2 := ansC_size 0
    have b9 : Below w8.heap.size w8 (w8.alloc (.cells (ansC 0) 36 (0, 0))) := (by (repeat (first | exact Below.refl _ _ | assumption | refine Below.drew ?_ | refine bdrewN ?_ _ | refine Below.alloc ?_ (by first | omega | (simp <;> omega) | (simp only [World.size_alloc] <;> omega)) _ | refine below_setRow ?_ (by first | omega | (simp <;> omega)) _ | refine Below.setCell ?_ (by first | omega | (simp <;> omega)) _)))
    have O9 := Lib.hid ((O7.out.turn t8 h8).below b9)
    clear CY O7 h8 t8 b9
    go_upto_region 11 with fail
    change Code.wp _ _ _ _ (w8.alloc (.cells (ansC 0) 36 (0, 0)))
    generalize w8.alloc (.cells (ansC 0) 36 (0, 0)) = w9 at *
    have CX : Hid (Calls Try.prog 12 #[.pointer (some ⟨x, 0, none⟩)] w9 fun e w' => e = .returned (.int .u64 2610) ∧ w9 = w') := Lib.hid (by
      have Q := next_any x C w9 O9.out.cl
      rw [HCF.out.2.2.2] at Q
      exact Q)
    have CB : Hid (Calls Try.prog 13 #[.pointer (some ⟨x, 0, none⟩)] w9 fun e w' => e = .returned (.bool true) ∧ w9 = w') := Lib.hid (by
      have Q := busy_any x C w9 O9.out.cl
      rw [HCF.out.1] at Q
      exact Q)
    clear os1 os2
    go_wp2_with fail
    refine CX.out.mono ?_
    rintro e w9' ⟨rfl, rfl⟩
    go_wp2_with fail
    refine CB.out.mono ?_
    rintro e w9' ⟨rfl, rfl⟩
    clear CX CB HIO
    go_upto_region 13 with fail
    have CR : Hid (Calls Try.prog 16 #[.int .u32 (di : Int), .slice (some ⟨gs, 0, none⟩) 5 5] w9 fun e w' => ∃ g c', e = .returned (.slice (some ⟨g, 0, none⟩) 9 c') ∧ w'.ownsRow w9.heap.size 5 1 (.slice (some ⟨g, 0, none⟩) 9 c') 9 ((repB di srv).map B) ∧ Below w9.heap.size w9 w') := Lib.hid (reply_any di (some ⟨gs, 0, none⟩) srv 5 w9 (by have := HB24.out.1; omega) O9.out.rs (fun h => by cases h) (by decide))
    go_wp2_with fail
    refine CR.out.mono ?_
    rintro e w10 ⟨g10, c10, rfl, ho10, b10⟩
    have hkb : ∃ cur, bk w10 g10 = some (.cells cur 5 (0, 0)) ∧ 0 < cur.size := by
      rcases ho10.2 with ⟨q, _⟩ | ⟨g, cap, cur, q, _, hk, hle, _, hsz, _⟩
      · cases q
      · cases q
        exact ⟨cur, hk, by omega⟩
    obtain ⟨cur10, hk10, hs10⟩ := hkb
    have O10 := O9.out.below b10
    have hge10 := (ho10.lt g10 rfl).1
    have hx10 := bk_lt O9.out.cl.box
    have ho11 : (w10.setCell ⟨g10, 0, none⟩ (.int .u8 2)).ownsRow w9.heap.size 5 1 (.slice (some ⟨g10, 0, none⟩) 9 c10) 9 (((repB di srv).set 0 2).map B) := own_set ho10 2
    have b11 : Below w9.heap.size w9 (w10.setCell ⟨g10, 0, none⟩ (.int .u8 2)) := b10.setCell (p := ⟨g10, 0, none⟩) hge10 _
    have hr11 := repR (w0 := w9) ho11 (by rw [List.length_set]; exact (repB_len di srv).symm)
    have HR11 := Lib.hid hr11
    have O11 := Lib.hid (O9.out.below b11)
    have HG10 : Hid (g10 ≠ x) := Lib.hid (by omega)
    have f10 := bk_frozen hk10 0
    have l10 := bk_lt hk10
    have u10 : ∃ u, w10.cell? ⟨g10, 0, none⟩ = some u := ⟨_, (bk_cell hk10 0).trans (Array.getElem?_eq_getElem hs10)⟩
    obtain ⟨u10, hu10⟩ := u10
    clear CR ho10 b10 hk10 hs10 O10 hge10 hx10 ho11 b11 hr11 O9
    go_upto_region 15 with fail
    clear f10 l10 hu10
    change Code.wp _ _ _ _ (w10.setCell ⟨g10, 0, none⟩ (.int .u8 2))
    generalize w10.setCell ⟨g10, 0, none⟩ (.int .u8 2) = w11 at *
    have CY : Hid (Calls Try.prog 9 #[.pointer (some ⟨x, 0, none⟩), .int .u64 1000, .slice (some ⟨g10, 0, none⟩) 9 c10] w11 fun e w' => e = .returned (.tuple #[.agg (ansC 0), .bool false]) ∧ ClB w' x C ∧ Tn (fun j => j = x) w11 w') := Lib.hid (by
      have hl : ((repB di srv).set 0 2).length = 9 := by rw [List.length_set]; exact repB_len di srv
      have Q := reply_other x C 1000 (some ⟨g10, 0, none⟩) ((repB di srv).set 0 2) c10 w11 O11.out.cl HR11.out.rd (by decide) HR11.out.le (fun bb o e => by cases e; exact HG10.out) HCF.out.1 kind_prefix
      rw [HCF.out.2.2.1, hl] at Q
      exact Q)
    go_wp2_with fail
    refine CY.out.mono ?_
    rintro e w12 ⟨rfl, h12, t12⟩
    have os1 := ansC_ones 0
    have os2 := ansC_size 0
    have b13 : Below w12.heap.size w12 (w12.alloc (.cells (ansC 0) 36 (0, 0))) := (by (repeat (first | exact Below.refl _ _ | assumption | refine Below.drew ?_ | refine bdrewN ?_ _ | refine Below.alloc ?_ (by first | omega | (simp <;> omega) | (simp only [World.size_alloc] <;> omega)) _ | refine below_setRow ?_ (by first | omega | (simp <;> omega)) _ | refine Below.setCell ?_ (by first | omega | (simp <;> omega)) _)))
    have O13 := Lib.hid ((O11.out.turn t12 h12).below b13)
    clear CY O11 HR11 HG10 h12 t12 b13
    go_upto_region 16 with fail
    change Code.wp _ _ _ _ (w12.alloc (.cells (ansC 0) 36 (0, 0)))
    generalize w12.alloc (.cells (ansC 0) 36 (0, 0)) = w13 at *
    have CB : Hid (Calls Try.prog 13 #[.pointer (some ⟨x, 0, none⟩)] w13 fun e w' => e = .returned (.bool true) ∧ w13 = w') := Lib.hid (by
      have Q := busy_any x C w13 O13.out.cl
      rw [HCF.out.1] at Q
      exact Q)
    clear os1 os2
    go_wp2_with fail
    refine CB.out.mono ?_
    rintro e w13' ⟨rfl, rfl⟩
    clear CB
    go_upto_region 18 with fail
    obtain ⟨y1, hy1⟩ : ∃ y, y = UInt8.ofNat (refresh / 16777216) := ⟨_, rfl⟩
    obtain ⟨y2, hy2⟩ : ∃ y, y = UInt8.ofNat (refresh / 65536) := ⟨_, rfl⟩
    obtain ⟨y3, hy3⟩ : ∃ y, y = UInt8.ofNat (refresh / 256) := ⟨_, rfl⟩
    obtain ⟨y4, hy4⟩ : ∃ y, y = UInt8.ofNat refresh := ⟨_, rfl⟩
    obtain ⟨F, hF⟩ : ∃ F, F = max 600 refresh := ⟨_, rfl⟩
    have hr32 := HU.out.2.2
    have HFR : Hid (frsh ((rfO y1 y2 y3 y4).lookup 32) = F) := Lib.hid (by rw [hy1, hy2, hy3, hy4, hF]; exact rf_frsh refresh HU.out.2.2)
    have HFB : Hid (600 ≤ F ∧ F < 4294967296) := Lib.hid (by omega)
    have r1 : (refresh : Int) / 16777216 = (y1.toNat : Int) := by rw [hy1, UInt8.toNat_ofNat']; omega
    have r2 : (refresh : Int) / 65536 % 256 = (y2.toNat : Int) := by rw [hy2, UInt8.toNat_ofNat']; omega
    have r3 : (refresh : Int) / 256 % 256 = (y3.toNat : Int) := by rw [hy3, UInt8.toNat_ofNat']; omega
    have r4 : (refresh : Int) % 256 = (y4.toNat : Int) := by rw [hy4, UInt8.toNat_ofNat']; omega
    have HFM := Lib.hid hF
    clear hy1 hy2 hy3 hy4 hF
    have b14 : Below w13.heap.size w13 (w13.alloc (.cells #[.int .u8 0, .int .u8 32, .int .u8 0, .int .u8 4, .int .u8 (y1.toNat : Int), .int .u8 (y2.toNat : Int), .int .u8 (y3.toNat : Int), .int .u8 (y4.toNat : Int)] 5)) := (by (repeat (first | exact Below.refl _ _ | assumption | refine Below.drew ?_ | refine bdrewN ?_ _ | refine Below.alloc ?_ (by first | omega | (simp <;> omega) | (simp only [World.size_alloc] <;> omega)) _ | refine below_setRow ?_ (by first | omega | (simp <;> omega)) _ | refine Below.setCell ?_ (by first | omega | (simp <;> omega)) _)))
    have O14 := Lib.hid (O13.out.below b14)
    have R14 : Hid (Rd (w13.alloc (.cells #[.int .u8 0, .int .u8 32, .int .u8 0, .int .u8 4, .int .u8 (y1.toNat : Int), .int .u8 (y2.toNat : Int), .int .u8 (y3.toNat : Int), .int .u8 (y4.toNat : Int)] 5)) (w13.alloc (.cells #[.int .u8 0, .int .u8 32, .int .u8 0, .int .u8 4, .int .u8 (y1.toNat : Int), .int .u8 (y2.toNat : Int), .int .u8 (y3.toNat : Int), .int .u8 (y4.toNat : Int)] 5)).heap.size (some ⟨w13.heap.size, 0, none⟩) [0, 32, 0, 4, y1, y2, y3, y4]) := Lib.hid (Rd.lit w13 [0, 32, 0, 4, y1, y2, y3, y4] 5)
    clear b14
    go_wp2_with (at_builtin; refine append_full rfl _ _ rfl ⟨gs, 0, none⟩ srv 5 5 rfl rfl rfl O14.out.rs ⟨w13.heap.size, 0, none⟩ [0, 32, 0, 4, y1, y2, y3, y4] 8 8 rfl rfl R14.out (by simp) (by simp [srv]) ?_)
    intro v15 w15 ho15 b15
    have O15 := Lib.hid (O14.out.below (b15.mono (by simp)))
    replace ho15 : w15.ownsRow (w13.heap.size + 1) 5 1 v15 13 ((rfB y1 y2 y3 y4).map B) := ho15
    obtain ⟨g15, c15, rfl⟩ : ∃ g c, v15 = .slice (some ⟨g, 0, none⟩) 13 c := by
      rcases ho15.2 with ⟨_, q⟩ | ⟨g, c, _, q, _⟩
      · omega
      · exact ⟨g, c, q⟩
    have R15 : Rd w15 w15.heap.size (some ⟨g15, 0, none⟩) (rfB y1 y2 y3 y4) := by
      obtain ⟨A', c', e', hR, _, _⟩ := Rd.of_own (l := rfB y1 y2 y3 y4) ho15 rfl
      cases e'
      exact hR
    have CR : Hid (Calls Try.prog 16 #[.int .u32 (di : Int), .slice (some ⟨g15, 0, none⟩) 13 c15] w15 fun e w' => ∃ g c', e = .returned (.slice (some ⟨g, 0, none⟩) 17 c') ∧ w'.ownsRow w15.heap.size 5 1 (.slice (some ⟨g, 0, none⟩) 17 c') 17 ((repB di (rfB y1 y2 y3 y4)).map B) ∧ Below w15.heap.size w15 w') := Lib.hid (reply_any di (some ⟨g15, 0, none⟩) (rfB y1 y2 y3 y4) c15 w15 (by have := HB24.out.1; omega) R15 (fun h => by cases h) (by show 13 < 2 ^ 20; decide))
    clear ho15 b15 R14 O14 R15 O13 r1 r2 r3 r4
    go_wp2_with fail
    refine CR.out.mono ?_
    rintro e w16 ⟨g16, c16, rfl, ho16, b16⟩
    have hr16 := repR ho16 (repB_len di (rfB y1 y2 y3 y4)).symm
    have O16 := Lib.hid (O15.out.below b16)
    obtain ⟨nx, hnx⟩ : ∃ n, n = addT 1000 (secT F) := ⟨_, rfl⟩
    have CY : Hid (Calls Try.prog 9 #[.pointer (some ⟨x, 0, none⟩), .int .u64 1000, .slice (some ⟨g16, 0, none⟩) 17 c16] w16 fun e w' => e = .returned (.tuple #[.agg (ansC F), .bool true]) ∧ ClB w' x (oc di nx 1000 0 1710 false true) ∧ Tn (fun j => j = x) w16 w') := Lib.hid (by
      have Q := reply_opts x C 1000 (some ⟨g16, 0, none⟩) (repB di (rfB y1 y2 y3 y4)) (rfB y1 y2 y3 y4) c16 (rfO y1 y2 y3 y4) w16 O16.out.cl hr16.rd (by decide) hr16.le (fun bb o e => by cases e; have h1 := hr16.ge; have h2 := bk_lt O15.out.cl.box; omega) HCF.out.1 (by unfold repB headB; rw [HCF.out.2.1]) (rfOpts y1 y2 y3 y4) (by show 17 < 2 ^ 30; decide) hr16.lt rfl rfl rfl
      refine Q.mono fun e w' q => ?_
      rw [if_neg (show ¬ List.lookup 2 (rfO y1 y2 y3 y4) = none from fun h => by cases h), HFR.out, HCG.out.1, show max 1000 1000 = 1000 from rfl, ← hnx, HCG.out.2] at q
      exact q)
    have HNX := Lib.hid hnx
    clear CR ho16 b16 hr16 O15 hnx
    go_wp2_with fail
    refine CY.out.mono ?_
    rintro e w17 ⟨rfl, h17, t17⟩
    have os3 := ansC_ones F
    have os4 := ansC_size F
    have b18 : Below w17.heap.size w17 (w17.alloc (.cells (ansC F) 36 (0, 0))) := (by (repeat (first | exact Below.refl _ _ | assumption | refine Below.drew ?_ | refine bdrewN ?_ _ | refine Below.alloc ?_ (by first | omega | (simp <;> omega) | (simp only [World.size_alloc] <;> omega)) _ | refine below_setRow ?_ (by first | omega | (simp <;> omega)) _ | refine Below.setCell ?_ (by first | omega | (simp <;> omega)) _)))
    have O18 := Lib.hid ((O16.out.turn t17 h17).below b18)
    have K18 := Lib.hid (bk_alloc_at w17 (.cells (ansC F) 36 (0, 0)) _ rfl)
    clear CY O16 h17 t17 b18
    go_upto_region 19 with fail
    change Code.wp _ _ _ _ (w17.alloc (.cells (ansC F) 36 (0, 0)))
    obtain ⟨ra, hra⟩ : ∃ r, r = w17.heap.size := ⟨_, rfl⟩
    rw [← hra] at K18 ⊢
    clear hra os3 os4
    generalize w17.alloc (.cells (ansC F) 36 (0, 0)) = w18 at *
    have c2 : w18.cell? ⟨ra, 2, none⟩ = some (.int .u32 (F : Int)) := bk_cell K18.out 2
    have la := bk_lt K18.out
    go_upto_region 20 with fail
    have hmx : max (refresh : Int) 600 = (F : Int) := by have := HFM.out; omega
    rw [hmx]
    clear hmx hr32
    have CB : Hid (Calls Try.prog 13 #[.pointer (some ⟨x, 0, none⟩)] w18 fun e w' => e = .returned (.bool false) ∧ w18 = w') := Lib.hid (busy_any x (oc di nx 1000 0 1710 false true) w18 O18.out.cl)
    have CX : Hid (Calls Try.prog 12 #[.pointer (some ⟨x, 0, none⟩)] w18 fun e w' => e = .returned (.int .u64 (nx : Int)) ∧ w18 = w') := Lib.hid (by
      have Q := next_any x (oc di nx 1000 0 1710 false true) w18 O18.out.cl
      rw [oc_due rfl] at Q
      exact Q)
    go_wp2_with fail
    refine CB.out.mono ?_
    rintro e w18' ⟨rfl, rfl⟩
    clear c2 la K18
    by_cases hF9 : F = 4294967295
    · have n9 : ((F : Int) == 4294967295) = true := by rw [hF9]; rfl
      have hnx9 : nx = 9223372036854775807 := by rw [HNX.out, hF9]; decide
      have n8 : ((nx : Int) == 9223372036854775807) = true := by rw [hnx9]; rfl
      clear hF9 hnx9
      go_wp2_with fail
      refine CX.out.mono ?_
      rintro e w18' ⟨rfl, rfl⟩
      go_wp2_with fail
      refine (lives26_any _).mono ?_
      rintro e w19 ⟨rfl, b19⟩
      go_wp2_with fail
      go_ret
      exact ⟨rfl, O18.out.bl.trans (b19.mono O18.out.bl.size)⟩
    · have n9 : ((F : Int) == 4294967295) = false := beq_eq_false_iff_ne.2 (by omega)
      have hnx9 : nx = 1000 + 1000 * F := by
        have h := HFB.out
        rw [HNX.out]
        have e : secT F = 1000 * F := by unfold secT; rw [if_neg hF9]
        rw [e, addT_eq (by unfold far; omega)]
      have hF32 := HFB.out.2
      obtain ⟨n1', hn1'⟩ : ∃ n, n = nx - 1 := ⟨_, rfl⟩
      have HN9 : Hid (nx = n1' + 1 ∧ 601000 ≤ nx ∧ nx + 900 ≤ far) := Lib.hid (by have h := HFB.out; unfold far; omega)
      have p1 : (1000 : Int) + 1000 * (F : Int) = (nx : Int) := by omega
      have p2 : (nx : Int) - 1 = (n1' : Int) := by omega
      have HPP := Lib.hid (And.intro p1 p2)
      clear hF9 hn1' hnx9
      go_upto_region 25 with fail
      have CT : Hid (Calls Try.prog 11 #[.pointer (some ⟨x, 0, none⟩), .int .u64 (n1' : Int), .pointer (some ⟨gw, 0, none⟩)] w18 fun e w' => ∃ A, e = .returned (.slice A 0 0) ∧ ClB w' x (oc di nx n1' 0 1710 false true) ∧ WdB w' (some ⟨gw, 0, none⟩) [] ∧ Tn (XF x (some ⟨gw, 0, none⟩)) w18 w') := Lib.hid (by
        have h9 := HN9.out
        have hmx : max n1' 1000 = n1' := by omega
        have Q := tick_any x (oc di nx 1000 0 1710 false true) n1' (some ⟨gw, 0, none⟩) [] w18 O18.out.cl O18.out.wd HP.out (by omega) (.inr (by rw [oc_due rfl]; show max n1' 1000 ≤ _; omega)) (oc di nx 1000 0 1710 false true) [] [] (.done _ _ (.inr (by show max n1' 1000 < nx; omega))) (by decide)
        refine Q.mono fun e w' q => ?_
        obtain ⟨A, q1, _, q3, q4⟩ := q
        refine ⟨A, q1, ?_, q4⟩
        have e2 : (oc di nx 1000 0 1710 false true).goes (max n1' (oc di nx 1000 0 1710 false true).tm) = oc di nx n1' 0 1710 false true := by
          show oc di nx (max 1000 (max n1' 1000)) 0 1710 false true = _
          rw [show max 1000 (max n1' 1000) = n1' by omega]
        rw [e2] at q3
        exact q3)
      go_wp2_with fail
      refine CX.out.mono ?_
      rintro e w18' ⟨rfl, rfl⟩
      clear CX CB
      go_wp2_with fail
      refine CT.out.mono ?_
      rintro e w19 ⟨A19, rfl, h19, W19, t19⟩
      have B19 := Lib.hid (O18.out.bl.trans (t19.below (n := w.heap.size) HXF.out O18.out.bl.size))
      have CB : Hid (Calls Try.prog 13 #[.pointer (some ⟨x, 0, none⟩)] w19 fun e w' => e = .returned (.bool false) ∧ w19 = w') := Lib.hid (busy_any x _ w19 h19)
      obtain ⟨dd, oss, hrun, hosl, hask⟩ := oc_again di nx n1' (by have h9 := HN9.out; omega) HN9.out.2.2
      have CT2 : Hid (Calls Try.prog 11 #[.pointer (some ⟨x, 0, none⟩), .int .u64 (nx : Int), .pointer (some ⟨gw, 0, none⟩)] w19 fun e w' => ∃ A, e = .returned (.slice A 1 1) ∧ ClB w' x (dd.goes nx) ∧ Tn (XF x (some ⟨gw, 0, none⟩)) w19 w') := Lib.hid (by
        have h9 := HN9.out
        have hmx : max nx (oc di nx n1' 0 1710 false true).tm = nx := by show max nx n1' = nx; omega
        have Q := tick_any x (oc di nx n1' 0 1710 false true) nx (some ⟨gw, 0, none⟩) [] w19 h19 W19 HP.out (by omega) (.inr (by rw [oc_due rfl, hmx]; omega)) dd [] oss (by rw [hmx]; exact hrun) (by rw [hosl]; decide)
        refine Q.mono fun e w' q => ?_
        obtain ⟨A, q1, _, q3, _, q5⟩ := q
        rw [hmx] at q3
        rw [hosl] at q1
        exact ⟨A, q1, q3, q5⟩)
      have HASK := Lib.hid hask
      clear h19 W19 t19 CT O18 hrun hosl hask
      go_wp2_with fail
      refine CB.out.mono ?_
      rintro e w19' ⟨rfl, rfl⟩
      clear CB
      go_wp2_with fail
      refine CT2.out.mono ?_
      rintro e w20 ⟨A20, rfl, h20, t20⟩
      have B20 := Lib.hid (B19.out.trans (t20.below (n := w.heap.size) HXF.out B19.out.size))
      have CB : Hid (Calls Try.prog 13 #[.pointer (some ⟨x, 0, none⟩)] w20 fun e w' => e = .returned (.bool true) ∧ w20 = w') := Lib.hid (by
        have Q := busy_any x _ w20 h20
        rw [HASK.out] at Q
        exact Q)
      clear h20 t20 CT2
      go_wp2_with fail
      refine CB.out.mono ?_
      rintro e w20' ⟨rfl, rfl⟩
      clear CB
      go_wp2_with fail
      refine (lives26_any _).mono ?_
      rintro e w21 ⟨rfl, b21⟩
      go_wp2_with fail
      go_ret
      exact ⟨rfl, B20.out.trans (b21.mono B20.out.size)⟩
end Go.Proofs.Ytfldoihindbdmaa
