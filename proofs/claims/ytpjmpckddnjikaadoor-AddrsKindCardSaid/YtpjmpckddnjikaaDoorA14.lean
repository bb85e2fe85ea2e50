/- AddrsOf: the law's walk. -/
import Derived.Test.YtpjmpckddnjikaaDoorA13
import Derived.Test.YtpjmpckddnjikaaDoorA2
namespace Go.Proofs.YtpjmpckddnjikaaDoor
open Go.RowKit Ad
set_option maxRecDepth 100000
@[go_sem] theorem builtPrefix_1 (c : Array Value) (h : c.size = 16) : Tryd.prog.built 33 [(0, .agg c)] = some (c.toList ++ [Value.int .u8 0]).toArray := by
  rw [builtPrefix, show [(0, Value.agg c)] = partsAt 0 [.agg c] from rfl, fill_all _ _ 0 0 _ (by simp [placesOk, Value.cells, h]) (by simp [widths, Value.cells, h])]
  simp [widths, Value.cells, h]
theorem common_ge (a b : List UInt8) (k : Nat) (hk : k ≤ 16) (h : ∀ j, j < k → a.getD j 0 = b.getD j 0) : 8 * k ≤ common a b := by
  rw [le_common _ _ _ (by omega)]
  intro j hj
  unfold bitN
  rw [h _ (by omega)]
theorem ofB_getD (p d : List UInt8) (hp : p.length = 17) (hd : d.length = 8) (j : Nat) (hj : j < 16) : (ofB p d).getD j 0 = if 8 ≤ j then d.getD (j - 8) 0 else p.getD j 0 := by
  unfold ofB
  rw [splB_getD _ _ _ (by rw [sl_length _ _ _ (by omega)]; omega), hd, sl_getD _ _ _ _ hj]
  by_cases h : 8 ≤ j
  · rw [if_pos ⟨h, by omega⟩, if_pos h]
  · rw [if_neg (by omega), if_neg h]; simp
theorem appB_getD (a : List UInt8) (x : UInt8) (ha : a.length = 16) (j : Nat) (hj : j < 16) : (appB a [x]).getD j 0 = a.getD j 0 := by
  unfold appB
  rw [List.getD_eq_getElem?_getD, List.getElem?_append_left (by omega), ← List.getD_eq_getElem?_getD]
theorem list_ext {a b : List UInt8} (n : Nat) (ha : a.length = n) (hb : b.length = n) (h : ∀ j, j < n → a.getD j 0 = b.getD j 0) : a = b := by
  apply List.ext_getElem (by omega)
  intro j h1 h2
  have := h j (by omega)
  simpa [List.getD_eq_getElem?_getD, h1, h2] using this
theorem solic_length (l : List UInt8) (h : l.length = 16) : (solic l).length = 16 := by
  unfold solic; rw [splB_length _ _ _ (by rw [sl_length _ _ _ (by omega)]; decide)]; rfl
theorem solic_getD (l : List UInt8) (h : l.length = 16) (j : Nat) (hj : j < 16) : (solic l).getD j 0 = if 13 ≤ j then l.getD j 0 else (knownA 6).getD j 0 := by
  unfold solic
  rw [splB_getD _ _ _ (by rw [sl_length _ _ _ (by omega)]; decide), sl_length _ _ _ (by omega)]
  by_cases h13 : 13 ≤ j
  · rw [if_pos ⟨h13, by omega⟩, if_pos h13, sl_getD _ _ _ _ (by omega), show 13 + (j - 13) = j by omega]
  · rw [if_neg (by omega), if_neg h13]
/-- What the law says of plain bytes. -/
theorem of_plain (a b d : List UInt8) (y : UInt8) (ha : a.length = 16) (hb : b.length = 16) (hd : d.length = 8) :
    64 ≤ common (ofB (appB a [y]) d) a ∧ (ofB (appB a [y]) d == ofB (appB b [0]) d) = decide (64 ≤ common a b) ∧ solic (ofB (appB a [y]) d) = solic (ofB (appB b [0]) d) := by
  have la : (appB a [y]).length = 17 := by rw [appB_length, ha]; rfl
  have lb : (appB b [0]).length = 17 := by rw [appB_length, hb]; rfl
  have ga := fun j hj => ofB_getD (appB a [y]) d la hd j hj
  have gb := fun j hj => ofB_getD (appB b [0]) d lb hd j hj
  have lx := ofB_length _ _ la hd
  have ly := ofB_length _ _ lb hd
  refine ⟨common_ge _ _ 8 (by omega) (fun j hj => by rw [ga j (by omega), if_neg (by omega), appB_getD _ _ ha _ (by omega)]), ?_, ?_⟩
  · rw [Bool.eq_iff_iff]
    simp only [beq_iff_eq, decide_eq_true_eq]
    constructor
    · intro h
      refine common_ge a b 8 (by omega) (fun j hj => ?_)
      have : (ofB (appB a [y]) d).getD j 0 = (ofB (appB b [0]) d).getD j 0 := by rw [h]
      rw [ga j (by omega), gb j (by omega), if_neg (by omega), if_neg (by omega), appB_getD _ _ ha _ (by omega), appB_getD _ _ hb _ (by omega)] at this
      exact this
    · intro h
      rw [le_common _ _ _ (by omega)] at h
      refine list_ext 16 lx ly (fun j hj => ?_)
      rw [ga j hj, gb j hj]
      by_cases h8 : 8 ≤ j
      · rw [if_pos h8, if_pos h8]
      · rw [if_neg h8, if_neg h8, appB_getD _ _ ha _ hj, appB_getD _ _ hb _ hj]
        apply byte_ext
        intro k hk
        have := h (8 * j + k) (by omega)
        unfold bitN at this
        rwa [show (8 * j + k) / 8 = j by omega, show (8 * j + k) % 8 = k by omega] at this
  · refine list_ext 16 (solic_length _ lx) (solic_length _ ly) (fun j hj => ?_)
    rw [solic_getD _ lx j hj, solic_getD _ ly j hj]
    by_cases h13 : 13 ≤ j
    · rw [if_pos h13, if_pos h13, ga j hj, gb j hj, if_pos (by omega), if_pos (by omega)]
    · rw [if_neg h13, if_neg h13]
theorem solic_plain (x : List UInt8) (hx : x.length = 16) : isMul (solic x) = true ∧ scope (solic x) = 2 ∧ 104 ≤ common (solic x) (knownA 6) ∧ (solic x).getD 13 0 = x.getD 13 0 ∧ (solic x).getD 15 0 = x.getD 15 0 := by
  have g := fun j hj => solic_getD x hx j hj
  have g0 : (solic x).getD 0 0 = 255 := by rw [g 0 (by omega)]; rfl
  have g1 : (solic x).getD 1 0 = 2 := by rw [g 1 (by omega)]; rfl
  have hm : isMul (solic x) = true := by unfold isMul; rw [g0]; rfl
  refine ⟨hm, ?_, common_ge _ _ 13 (by omega) (fun j hj => by rw [g j (by omega), if_neg (by omega)]), by rw [g 13 (by omega)]; rfl, by rw [g 15 (by omega)]; rfl⟩
  unfold scope
  rw [if_pos hm, g1]; rfl
theorem within_lit (s : List UInt8) (hs : s.length = 16) (h : 104 ≤ common s (knownA 6)) (w : World) :
    Calls Tryd.prog 17 #[av s, .agg #[Value.int IntKind.u8 255, Value.int IntKind.u8 2, Value.int IntKind.u8 0, Value.int IntKind.u8 0, Value.int IntKind.u8 0, Value.int IntKind.u8 0, Value.int IntKind.u8 0, Value.int IntKind.u8 0, Value.int IntKind.u8 0, Value.int IntKind.u8 0, Value.int IntKind.u8 0, Value.int IntKind.u8 1, Value.int IntKind.u8 255, Value.int IntKind.u8 0, Value.int IntKind.u8 0, Value.int IntKind.u8 0, Value.int IntKind.u8 104]] w fun e w' => e = .returned (.bool true) ∧ Below w.heap.size w w' := by
  have := within_any s [255, 2, 0, 0, 0, 0, 0, 0, 0, 0, 0, 1, 255, 0, 0, 0, 104] hs rfl w
  have e : decide (min (([255, 2, 0, 0, 0, 0, 0, 0, 0, 0, 0, 1, 255, 0, 0, 0, 104] : List UInt8).getD 16 0).toNat 128 ≤ common s (sl [255, 2, 0, 0, 0, 0, 0, 0, 0, 0, 0, 1, 255, 0, 0, 0, 104] 0 16)) = true := by
    rw [show sl [255, 2, 0, 0, 0, 0, 0, 0, 0, 0, 0, 1, 255, 0, 0, 0, 104] 0 16 = knownA 6 from rfl]
    simpa using h
  rw [e] at this
  exact this
set_option maxHeartbeats 2000000 in
theorem addrsOf_walk (l : List UInt8) (h : l.length = 16) (m : List UInt8) (hm : m.length = 16) (z : List UInt8) (hz : z.length = 9) (w : World) (hg : GK w) :
    Calls Tryd.prog 8 #[av l, av m, av z] w fun e w' => e = .returned (.bool true) ∧ Below w.heap.size w w' := by
  have hw0 : 0 < w.heap.size := by obtain ⟨c, t, fr, h1, _⟩ := hg; exact bk_lt h1
  have HG := Lib.hid hg; clear hg
  obtain ⟨x, hx⟩ : ∃ x, x = z.getD 0 0 := ⟨_, rfl⟩
  have h0 : z[0] = x := by rw [hx]; simp [List.getD_eq_getElem?_getD, hz]
  have hxl := x.toNat_lt
  obtain ⟨y, hy⟩ : ∃ y : UInt8, (x.toNat : Int) % 65 = (y.toNat : Int) := ⟨UInt8.ofNat (x.toNat % 65), by simp [UInt8.toNat_ofNat']; omega⟩
  obtain ⟨d, hd⟩ : ∃ d, d = sl z 1 8 := ⟨_, rfl⟩
  have hdl : d.length = 8 := by rw [hd]; exact sl_length _ _ _ (by omega)
  obtain ⟨hp1, hp2, hp3⟩ := of_plain l m d y h hm hdl
  obtain ⟨p, hp⟩ : ∃ p, p = appB l [y] := ⟨_, rfl⟩
  obtain ⟨q, hq⟩ : ∃ q, q = appB m [0] := ⟨_, rfl⟩
  have hpl : p.length = 17 := by rw [hp, appB_length, h]; rfl
  have hql : q.length = 17 := by rw [hq, appB_length, hm]; rfl
  have hp' : List.map B l ++ [Value.int .u8 (y.toNat : Int)] = List.map B p := by rw [hp]; exact snoc_map l y
  have hq' : List.map B m ++ [Value.int .u8 0] = List.map B q := by rw [hq]; exact snoc_map m 0
  have hd' : sl z 1 8 = d := hd.symm
  rw [← hp] at hp1 hp2 hp3; rw [← hq] at hp2 hp3
  have hin : decide (min (p.getD 16 0).toNat 128 ≤ common (ofB p d) (sl p 0 16)) = true := by
    have e1 : p.getD 16 0 = y := by rw [hp]; simp [appB, List.getD_eq_getElem?_getD, h]
    have e2 : sl p 0 16 = l := by rw [hp]; simp [appB, sl, List.extract_eq_take_drop, List.take_append_of_le_length, h, List.take_of_length_le]
    rw [e1, e2, decide_eq_true_eq]; omega
  have d5 : (ofB p d).getD 13 0 = d.getD 5 0 := by rw [ofB_getD p d hpl hdl 13 (by omega)]; rfl
  have d7 : (ofB p d).getD 15 0 = d.getD 7 0 := by rw [ofB_getD p d hpl hdl 15 (by omega)]; rfl
  have hol := ofB_length p d hpl hdl
  have hol2 := ofB_length q d hql hdl
  obtain ⟨sp1, sp2, sp3, sp4, sp5⟩ := solic_plain (ofB p d) hol
  have hsl := solic_length _ hol
  have c1 := of_any p d hpl hdl
  have c2 := of_any q d hql hdl
  have c3 := within_any (ofB p d) p hol hpl
  have c4 := common_any (ofB p d) l hol h
  have c5 := common_any l m h hm
  have c6 := solic_any (ofB p d) hol
  have c7 := solic_any (ofB q d) hol2
  have c8 := isMul_any (solic (ofB p d)) hsl
  have c9 := scope_any (solic (ofB p d)) hsl
  have c10 := within_lit (solic (ofB p d)) hsl sp3
  have q1 := eqAddr (ofB p d) (ofB q d) hol hol2
  have q2 := eqAddr (solic (ofB p d)) (solic (ofB p d)) hsl hsl
  rw [hin] at c3; rw [hp2] at q1; rw [← hp3] at c7; rw [sp1] at c8; rw [sp2] at c9
  simp only [beq_self_eq_true] at q2
  obtain ⟨s, hs⟩ : ∃ s, s = solic (ofB p d) := ⟨_, rfl⟩
  obtain ⟨c, hc⟩ : ∃ c, c = common l m := ⟨_, rfl⟩
  obtain ⟨c', hc'⟩ : ∃ c, c = common (ofB p d) l := ⟨_, rfl⟩
  have s13 : s[13]? = some (d.getD 5 0) := by rw [hs, List.getElem?_eq_getElem (by omega)]; rw [← d5, ← sp4, List.getD_eq_getElem?_getD, List.getElem?_eq_getElem (by omega)]; rfl
  have s15 : s[15]? = some (d.getD 7 0) := by rw [hs, List.getElem?_eq_getElem (by omega)]; rw [← d7, ← sp5, List.getD_eq_getElem?_getD, List.getElem?_eq_getElem (by omega)]; rfl
  have z5 : z[6]? = some (d.getD 5 0) := by rw [← hd', sl_getD _ _ _ _ (by omega), List.getD_eq_getElem?_getD, List.getElem?_eq_getElem (by omega)]; rfl
  have z7 : z[8]? = some (d.getD 7 0) := by rw [← hd', sl_getD _ _ _ _ (by omega), List.getD_eq_getElem?_getD, List.getElem?_eq_getElem (by omega)]; rfl
  have hsl' : s.length = 16 := by rw [hs]; exact hsl
  rw [← hs] at c6 c7 c8 c9 c10 q2; rw [← hc] at c5 q1; rw [← hc'] at c4 hp1
  clear hs sp1 sp2 sp3 sp4 sp5 hsl d5 d7 hin hp2 hp3 hp hq hd hx hc hc'
  generalize ofB p d = o at *
  generalize ofB q d = o2 at *
  generalize d.getD 5 0 = t5 at *
  generalize d.getD 7 0 = t7 at *
  have k1 : decide ((c' : Int) < 64) = false := by simp; omega
  have k2 : decide (64 ≤ (c : Int)) = decide (64 ≤ c) := by rw [decide_eq_decide]; omega
  generalize decide (64 ≤ c) = b at *
  have C1 := Lib.hid c1; have C2 := Lib.hid c2; have C3 := Lib.hid c3; have C4 := Lib.hid c4; have C5 := Lib.hid c5; have C6 := Lib.hid c6; have C7 := Lib.hid c7; have C8 := Lib.hid c8; have C9 := Lib.hid c9; have C10 := Lib.hid c10
  have S13 := Lib.hid s13; have S15 := Lib.hid s15
  clear c1 c2 c3 c4 c5 c6 c7 c8 c9 c10 hp1 s13 s15
  have i6 : z[6] = t5 := by rw [List.getElem?_eq_getElem (by omega)] at z5; simpa using z5
  have i8 : z[8] = t7 := by rw [List.getElem?_eq_getElem (by omega)] at z7; simpa using z7
  clear z5 z7
  go_enter Tryd.func8, Tryd.ntmps8
  go_wp2_with fail
  refine (C1.out _).mono ?_
  rintro e w1 ⟨rfl, b1⟩
  have f1 : Below w.heap.size w w1 := (((((Below.refl _ _).alloc (Nat.le_refl _) _).alloc (by simp) _).alloc (by simp <;> omega) _).alloc (by simp <;> omega) _).trans (b1.mono (by simp <;> omega))
  have s1 : w.heap.size + 4 ≤ w1.heap.size := by simpa using b1.size
  have ka1 : bk w1 w.heap.size = some (.cells (List.map B l).toArray 23 (0, 0)) := bk_keep b1 (by simp <;> omega) (by simp [go_sem])
  have kb1 : bk w1 (w.heap.size + 1) = some (.cells (List.map B m).toArray 23 (0, 0)) := bk_keep b1 (by simp <;> omega) (by simp [go_sem])
  have kc1 : bk w1 (w.heap.size + 1 + 1) = some (.cells (List.map B z).toArray 41 (0, 0)) := bk_keep b1 (by simp <;> omega) (by simp [go_sem])
  have kd1 : bk w1 (w.heap.size + 1 + 1 + 1) = some (.cells (List.map B p).toArray 33 (0, 0)) := bk_keep b1 (by simp <;> omega) (by simp [go_sem])
  clear b1
  go_wp2_with fail
  refine (C2.out _).mono ?_
  rintro e w2 ⟨rfl, b2⟩
  have f2 := (f1.alloc (o := .cells (List.map B o).toArray 23) (by omega)).trans (b2.mono (by simp; omega))
  have s2 : w1.heap.size + 1 ≤ w2.heap.size := by simpa using b2.size
  have ka2 : bk w2 w.heap.size = some (.cells (List.map B l).toArray 23 (0, 0)) := bk_keep b2 (by simp; omega) ((bk_alloc_past _ _ _ (by omega)).trans ka1)
  have kb2 : bk w2 (w.heap.size + 1) = some (.cells (List.map B m).toArray 23 (0, 0)) := bk_keep b2 (by simp; omega) ((bk_alloc_past _ _ _ (by omega)).trans kb1)
  have kc2 : bk w2 (w.heap.size + 1 + 1) = some (.cells (List.map B z).toArray 41 (0, 0)) := bk_keep b2 (by simp; omega) ((bk_alloc_past _ _ _ (by omega)).trans kc1)
  have kd2 : bk w2 (w.heap.size + 1 + 1 + 1) = some (.cells (List.map B p).toArray 33 (0, 0)) := bk_keep b2 (by simp; omega) ((bk_alloc_past _ _ _ (by omega)).trans kd1)
  have ke2 : bk w2 w1.heap.size = some (.cells (List.map B o).toArray 23 (0, 0)) := bk_keep b2 (by simp) (bk_alloc_at _ _ _ rfl)
  clear b2 ka1 kb1 kc1 kd1
  go_wp2_with fail
  refine wp_region_later (w2.heap.size + 1) (by kernel_rfl) (by kernel_rfl) ?_
  repeat (go_big_quiet_step (((rename_i xq; first | (with_reducible exact later_call xq (by simp) (C3.out xq.w)) | (with_reducible exact later_call xq (by simp) (C4.out xq.w)) | (with_reducible exact later_call xq (by simp) (C5.out xq.w))))))
  (first | refine wpQuiet_nil ?_ | (go_big_quiet_want; (try go_big_quiet_op); trace_state; fail))
  intro w3 hw'
  have q3 := later_elim hw'
  clear hw'
  have f3 := (f2.alloc (o := .cells (List.map B o2).toArray 23) (by omega)).trans (q3.mono (by omega))
  have s3 : w2.heap.size + 1 ≤ w3.heap.size := by simpa using q3.size
  have kc3 : bk w3 (w.heap.size + 1 + 1) = some (.cells (List.map B z).toArray 41 (0, 0)) := bk_keep q3 (by omega) ((bk_alloc_past _ _ _ (by omega)).trans kc2)
  have ke3 : bk w3 w1.heap.size = some (.cells (List.map B o).toArray 23 (0, 0)) := bk_keep q3 (by omega) ((bk_alloc_past _ _ _ (by omega)).trans ke2)
  have kf3 : bk w3 w2.heap.size = some (.cells (List.map B o2).toArray 23 (0, 0)) := bk_keep q3 (by omega) (bk_alloc_at _ _ _ rfl)
  clear q3 ka2 kb2 kc2 kd2 ke2 f1 f2
  cases b
  all_goals
    go_wp2_with fail
    refine (C6.out _ (HG.out.below f3 hw0)).mono ?_
    rintro e w4 ⟨rfl, b4⟩
    have f4 := f3.trans (b4.mono (by omega))
    have s4 := b4.size
    have kc4 := bk_keep b4 (by omega) kc3
    have kf4 := bk_keep b4 (by omega) kf3
    have cz4 := bk_cell kc4
    clear b4 kc3 ke3 kf3
    have i13 : s[13] = t5 := by have := S13.out; rw [List.getElem?_eq_getElem (by omega)] at this; simpa using this
    have i15 : s[15] = t7 := by have := S15.out; rw [List.getElem?_eq_getElem (by omega)] at this; simpa using this
    go_wp2_with fail
    refine wp_region_later (w4.heap.size + 1) (by kernel_rfl) (by kernel_rfl) ?_
    repeat (go_big_quiet_step (((rename_i xq; first | (with_reducible exact later_call xq (by simp) (C7.out xq.w (HG.out.below ((f4.alloc (by omega) _).trans (xq.h.mono (by omega))) hw0))) | (with_reducible exact later_call xq (by simp) (C8.out xq.w)) | (with_reducible exact later_call xq (by simp) (C9.out xq.w (HG.out.below ((f4.alloc (by omega) _).trans (xq.h.mono (by omega))) hw0))) | (with_reducible exact later_call xq (by simp) (C10.out xq.w)) | (with_reducible exact later_call xq (by simp) (lives_any xq.w (HG.out.below ((f4.alloc (by omega) _).trans (xq.h.mono (by omega))) hw0)))))))
    (first | refine wpQuiet_nil ?_ | (go_big_quiet_want; (try go_big_quiet_op); trace_state; fail))
    intro w5 hw'
    have q5 := later_elim hw'
    clear hw'
    go_wp2_with fail
    go_ret
    exact ⟨rfl, (f4.alloc (by omega) _).trans (q5.mono (by omega))⟩
end Go.Proofs.YtpjmpckddnjikaaDoor
