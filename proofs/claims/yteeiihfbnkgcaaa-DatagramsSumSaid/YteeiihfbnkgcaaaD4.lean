/- Datagrams got: the document's. -/
import Derived.Test.YteeiihfbnkgcaaaD3
import Derived.BigRegion
namespace Go.Proofs.Yteeiihfbnkgcaaa
open Go.RowKit
set_option maxRecDepth 100000
def RGot (src dst l : List UInt8) (w : World) (e : Ending) (w' : World) : Prop :=
  ∃ A' c', e = .returned (.tuple #[.agg (dgc (gF src dst l) (gT src dst l) A' (gD src dst l).length c'), .int .i64 (gE src dst l)]) ∧ Rd w' w'.heap.size A' (gD src dst l) ∧ Below w.heap.size w w'
theorem RGot.bad {src dst l : List UInt8} {w w' : World} {e : Ending} {x : Int} (hE : gE src dst l = x) (h0 : x ≠ 0) (he : e = .returned (.tuple #[zdg, .int .i64 x])) (hb : Below w.heap.size w w') : RGot src dst l w e w' := by
  obtain ⟨A', h1, h2, h3⟩ := DGot.bad hE h0 he hb
  exact ⟨A', _, h1, h2.rd, h3⟩
theorem rdget_short (src dst : List UInt8) (A : Option Addr) (n c : Nat) (w : World) (_h1 : src.length = 16) (_h2 : dst.length = 16) (hl : n < 8) :
    Calls Try.prog 17 #[av src, av dst, .slice A n c] w fun e w' => e = .returned (.tuple #[zdg, .int .i64 5]) ∧ Below w.heap.size w w' := by
  have d1 : decide ((n : Int) < 8) = true := by simp; omega
  go_enter Try.func17, Try.ntmps17
  go_wp2_with fail
  refine ret_two (cs := dgc 0 0 none 0 0) rfl rfl rfl rfl ?_ Try.underlying29 rfl (by kernel_rfl) ?_
  rotate_left
  · refine ⟨rfl, ?_⟩
    (repeat (first | exact Below.refl _ _ | assumption | refine Below.drew ?_ | refine bdrewN ?_ _ | refine Below.alloc ?_ (by first | omega | (simp <;> omega) | (simp only [World.size_alloc] <;> omega)) _ | refine below_setRow ?_ (by first | omega | (simp <;> omega)) _ | refine Below.setCell ?_ (by first | omega | (simp <;> omega)) _))
  · simp [go_sem]
theorem val2 (a b : UInt8) : val [a, b] = 256 * a.toNat + b.toNat := by simp [val]
theorem list8 (l : List UInt8) (h : 8 ≤ l.length) : ∃ x0 x1 x2 x3 x4 x5 x6 x7 r, l = x0 :: x1 :: x2 :: x3 :: x4 :: x5 :: x6 :: x7 :: r := by
  match l, h with
  | x0 :: x1 :: x2 :: x3 :: x4 :: x5 :: x6 :: x7 :: r, _ => exact ⟨_, _, _, _, _, _, _, _, _, rfl⟩
@[go_sem] theorem builtDatagram_ft (a b : Nat) : Try.prog.built 29 [(0, .int .u16 (a : Int)), (1, .int .u16 (b : Int))] = some (dgc a b none 0 0) := by rw [builtDatagram]; rfl
theorem cell_of_bk {w w' : World} {b : Nat} (h : bk w' b = bk w b) (o : Nat) : w'.cell? ⟨b, o, none⟩ = w.cell? ⟨b, o, none⟩ := by
  have h' : w'.heap[b]? = w.heap[b]? := h
  simp only [World.cell?, h']
theorem Rd.turn {w w' : World} {n n' : Nat} {A : Option Addr} {l : List UInt8} (h : Rd w n A l) (hc : ∀ b o, A = some ⟨b, o, none⟩ → ∀ j, w'.cell? ⟨b, o + j, none⟩ = w.cell? ⟨b, o + j, none⟩) (hn : n ≤ n') : Rd w' n' A l := fun h0 => by
  obtain ⟨b, o, e, hlt, hj⟩ := h h0
  exact ⟨b, o, e, by omega, fun j hj' => (hc b o e j).trans (hj j hj')⟩
theorem own_lo {w : World} {base n c : Nat} {A : Option Addr} {xs : List Value} (h : w.ownsRow base 5 1 (.slice A n c) n xs) : ∀ b o, A = some ⟨b, o, none⟩ → base ≤ b := fun b o e => by
  obtain ⟨_, ⟨h1, h0⟩ | ⟨g, cap, cur, h1, hg, _⟩⟩ := h
  · cases h1; cases e
  · cases h1; cases e; exact hg
set_option maxHeartbeats 1000000 in
theorem rdget_big (src dst : List UInt8) (A : Option Addr) (l : List UInt8) (c : Nat) (w : World) (h1 : src.length = 16) (h2 : dst.length = 16) (h : Rd w w.heap.size A l) (hA : A = none → l = [] ∧ c = 0) (hC : l.length ≤ c) (h8 : 8 ≤ l.length) (hl : l.length < 2 ^ 32) :
    Calls Try.prog 17 #[av src, av dst, .slice A l.length c] w (RGot src dst l w) := by
  obtain ⟨b, o, rfl, hbl, hce⟩ := h (by omega)
  obtain ⟨x0, x1, x2, x3, x4, x5, x6, x7, r, hx⟩ := list8 l h8
  have ez : dsz l = 256 * x4.toNat + x5.toNat := by rw [hx]; exact val2 x4 x5
  have ec : dcs l = 256 * x6.toNat + x7.toNat := by rw [hx]; exact val2 x6 x7
  have ef : val (l.take 2) = 256 * x0.toNat + x1.toNat := by rw [hx]; exact val2 x0 x1
  have et : val ((l.drop 2).take 2) = 256 * x2.toNat + x3.toNat := by rw [hx]; exact val2 x2 x3
  have c0 := hce 0 (by omega); have c1 := hce 1 (by omega); have c2 := hce 2 (by omega); have c3 := hce 3 (by omega); have c4 := hce 4 (by omega); have c5 := hce 5 (by omega); have c6 := hce 6 (by omega); have c7 := hce 7 (by omega)
  simp only [hx, List.getElem_cons_zero, List.getElem_cons_succ, Nat.add_zero] at c0 c1 c2 c3 c4 c5 c6 c7
  have t0 := x0.toNat_lt; have t1 := x1.toNat_lt; have t2 := x2.toNat_lt; have t3 := x3.toNat_lt; have t4 := x4.toNat_lt; have t5 := x5.toNat_lt; have t6 := x6.toNat_lt; have t7 := x7.toNat_lt
  have H := Lib.hid h; have HA := Lib.hid hA
  have HX := Lib.hid hx
  have EZ := Lib.hid ez; have EC := Lib.hid ec; have EF := Lib.hid ef; have ET := Lib.hid et
  have d1 : decide ((l.length : Int) < 8) = false := by simp; omega
  clear h hA hce hx ez ec ef et
  go_enter Try.func17, Try.ntmps17
  go_wp2_with fail
  have a3 : Below w.heap.size w (((w.alloc (.cells (src.map B).toArray 23)).alloc (.cells (dst.map B).toArray 23)).alloc (.cells #[.int .u16 0, .int .u16 0, .slice none 0 0] 29)) := (((Below.refl _ _).alloc (Nat.le_refl _) _).alloc (by simp) _).alloc (by simp <;> omega) _
  have k0 : bk (((w.alloc (.cells (src.map B).toArray 23)).alloc (.cells (dst.map B).toArray 23)).alloc (.cells #[.int .u16 0, .int .u16 0, .slice none 0 0] 29)) w.heap.size = some (.cells (src.map B).toArray 23 (0, 0)) := by rw [bk_alloc_past _ _ _ (by simp <;> omega), bk_alloc_past _ _ _ (by simp)]; exact bk_alloc_at _ _ _ rfl
  have k1 : bk (((w.alloc (.cells (src.map B).toArray 23)).alloc (.cells (dst.map B).toArray 23)).alloc (.cells #[.int .u16 0, .int .u16 0, .slice none 0 0] 29)) (w.heap.size + 1) = some (.cells (dst.map B).toArray 23 (0, 0)) := by rw [bk_alloc_past _ _ _ (by simp)]; exact bk_alloc_at _ _ _ (by simp)
  have k2 : bk (((w.alloc (.cells (src.map B).toArray 23)).alloc (.cells (dst.map B).toArray 23)).alloc (.cells #[.int .u16 0, .int .u16 0, .slice none 0 0] 29)) (w.heap.size + 1 + 1) = some (.cells (dgc 0 0 none 0 0) 29 (0, 0)) := bk_alloc_at _ _ _ (by simp)
  have A3 := Lib.hid a3; have K0 := Lib.hid k0; have K1 := Lib.hid k1; have K2 := Lib.hid k2
  clear a3 k0 k1 k2
  generalize (((w.alloc (.cells (src.map B).toArray 23)).alloc (.cells (dst.map B).toArray 23)).alloc (.cells #[.int .u16 0, .int .u16 0, .slice none 0 0] 29)) = wa at *
  have hx := bk_lt K2.out
  have e0 := (A3.out.cell (p := ⟨b, o, none⟩) hbl).trans c0; have e1 := (A3.out.cell (p := ⟨b, o + 1, none⟩) hbl).trans c1; have e2 := (A3.out.cell (p := ⟨b, o + 2, none⟩) hbl).trans c2; have e3 := (A3.out.cell (p := ⟨b, o + 3, none⟩) hbl).trans c3
  have e4 := (A3.out.cell (p := ⟨b, o + 4, none⟩) hbl).trans c4; have e5 := (A3.out.cell (p := ⟨b, o + 5, none⟩) hbl).trans c5; have e6 := (A3.out.cell (p := ⟨b, o + 6, none⟩) hbl).trans c6; have e7 := (A3.out.cell (p := ⟨b, o + 7, none⟩) hbl).trans c7
  have hb3 : b < wa.heap.size := by omega
  obtain ⟨sz, hsz⟩ : ∃ sz, sz = dsz l := ⟨_, rfl⟩
  have hs0 : (sz : Int) = 256 * (x4.toNat : Int) + (x5.toNat : Int) := by rw [hsz, EZ.out]; push_cast; rfl
  have hs2 : sz < 65536 := by omega
  have HSZ := Lib.hid hsz
  have m1 : IntKind.i64.wrap (256 * (x4.toNat : Int)) = 256 * (x4.toNat : Int) := by rw [IntKind.wrap_i64]; omega
  have m2 : IntKind.i64.wrap (256 * (x4.toNat : Int) + (x5.toNat : Int)) = sz := by rw [IntKind.wrap_i64]; omega
  clear hs0 c0 c1 c2 c3 c4 c5 c6 c7 hsz
  refine wp_region_later (wa.heap.size) (by kernel_rfl) (by kernel_rfl) ?_
  repeat (go_big_quiet_step ((fail)))
  (first | refine wpQuiet_nil ?_ | (go_big_quiet_want; (try go_big_quiet_op); trace_state; fail))
  intro w4 hw'
  have q4 := later_elim hw'
  clear hw'
  have f4 := A3.out.trans (q4.mono A3.out.size)
  have j0 := bk_keep q4 (by omega) K0.out; have j1 := bk_keep q4 (by omega) K1.out; have kz := bk_keep q4 (by omega) K2.out
  have g0 := (q4.cell (p := ⟨b, o, none⟩) hb3).trans e0; have g1 := (q4.cell (p := ⟨b, o + 1, none⟩) hb3).trans e1; have g2 := (q4.cell (p := ⟨b, o + 2, none⟩) hb3).trans e2; have g3 := (q4.cell (p := ⟨b, o + 3, none⟩) hb3).trans e3
  have g6 := (q4.cell (p := ⟨b, o + 6, none⟩) hb3).trans e6; have g7 := (q4.cell (p := ⟨b, o + 7, none⟩) hb3).trans e7
  have ltz := bk_lt kz
  have hb4 : b < w4.heap.size := by omega
  have F4 := Lib.hid f4
  clear e0 e1 e2 e3 e4 e5 e6 e7 q4 K0 K1 K2 A3 hx hb3 m1 m2
  by_cases hf : sz < 8 ∨ l.length < sz
  · by_cases hf1 : sz < 8
    · have e2 : decide ((sz : Int) < 8) = true := by simp; omega
      go_wp2_with fail
      refine ret_two (cs := dgc 0 0 none 0 0) rfl rfl rfl rfl ?_ Try.underlying29 rfl (by kernel_rfl) ?_
      rotate_left
      · exact RGot.bad (gE_form h8 (by rw [← HSZ.out]; exact hf)) (by decide) rfl (below_setRow F4.out (by omega) _)
      · rw [bk_setRow_same, kz]; rfl
    · have e2 : decide ((sz : Int) < 8) = false := by simp; omega
      have e3 : decide ((l.length : Int) < (sz : Int)) = true := by simp; omega
      go_wp2_with fail
      refine ret_two (cs := dgc 0 0 none 0 0) rfl rfl rfl rfl ?_ Try.underlying29 rfl (by kernel_rfl) ?_
      rotate_left
      · exact RGot.bad (gE_form h8 (by rw [← HSZ.out]; exact hf)) (by decide) rfl (below_setRow F4.out (by omega) _)
      · rw [bk_setRow_same, kz]; rfl
  · have e2 : decide ((sz : Int) < 8) = false := by simp; omega
    have e3 : decide ((l.length : Int) < (sz : Int)) = false := by simp; omega
    have htl : (l.take sz).length = sz := by rw [List.length_take]; omega
    have hszc : sz ≤ c := by omega
    have esz : decide (sz ≤ c) = true := by simp; omega
    by_cases hc0 : x6.toNat = 0 ∧ x7.toNat = 0
    · have y6 : ((x6.toNat : Int) == 0) = true := by simp; omega
      have y7 : ((x7.toNat : Int) == 0) = true := by simp; omega
      go_wp2_with fail
      refine wp_region_later (w4.heap.size) (by kernel_rfl) (by kernel_rfl) ?_
      repeat (go_big_quiet_step ((fail)))
      (first | refine wpQuiet_nil ?_ | (go_big_quiet_want; (try go_big_quiet_op); trace_state; fail))
      intro w6 hw'
      have q6 := later_elim hw'
      clear hw'
      have kz6 := bk_keep q6 ltz kz
      have f6 := F4.out.trans (q6.mono F4.out.size)
      clear q6
      go_wp2_with fail
      refine ret_two (cs := dgc 0 0 none 0 0) rfl rfl rfl rfl ?_ Try.underlying29 rfl (by kernel_rfl) ?_
      rotate_left
      · exact RGot.bad (gE_sum h8 (by rw [← HSZ.out]; exact hf) (.inl (by rw [EC.out]; omega))) (by decide) rfl (below_setRow f6 (by omega) _)
      · rw [bk_setRow_same, kz6]; rfl
    · have C : ∀ x : Later w4.heap.size w4, Calls Try.prog 23 #[.agg (src.map B).toArray, .agg (dst.map B).toArray, .int .u8 17, .slice (some ⟨b, o, none⟩) sz c] x.w fun e w'' => e = .returned (.int .u16 (sumOf (ovr src dst 17 (l.take sz)) : Nat)) ∧ Below x.w.heap.size x.w w'' := fun x => by
        have R := ((H.out.below F4.out (Nat.le_refl _)).mono F4.out.size)
        have R' := (R.below x.h (Nat.le_refl _)).mono x.h.size
        have C := rover_any src dst 17 (some ⟨b, o, none⟩) (l.take sz) c x.w h1 h2 R'.take (fun h => by cases h) (by rw [htl]; omega)
        rw [htl] at C
        exact C
      obtain ⟨S, hS⟩ : ∃ S, S = sumOf (ovr src dst 17 (l.take sz)) := ⟨_, rfl⟩
      rw [← hS] at C
      have HC := Lib.hid C
      have HS := Lib.hid hS
      clear C hS
      by_cases h6 : x6.toNat = 0
      · have y6 : ((x6.toNat : Int) == 0) = true := by simp; omega
        have y7 : ((x7.toNat : Int) == 0) = false := by simp; omega
        by_cases hs0 : S = 0
        · have y8 : ((S : Int) == 0) = true := by simp; omega
          have y9 : ((S : Int) != 0) = false := by simp; omega
          go_wp2_with fail
          refine wp_region_later (w4.heap.size) (by kernel_rfl) (by kernel_rfl) ?_
          repeat (go_big_quiet_step (((rename_i xq; with_reducible exact later_call xq (Nat.le_refl _) (HC.out xq)))))
          (first | refine wpQuiet_nil ?_ | (go_big_quiet_want; (try go_big_quiet_op); trace_state; fail))
          intro w6 hw'
          have q6 := later_elim hw'
          clear hw'
          have kz6 := bk_keep q6 ltz kz
          have f6 := F4.out.trans (q6.mono F4.out.size)
          have i0 := (q6.cell (p := ⟨b, o, none⟩) hb4).trans g0; have i1 := (q6.cell (p := ⟨b, o + 1, none⟩) hb4).trans g1; have i2 := (q6.cell (p := ⟨b, o + 2, none⟩) hb4).trans g2; have i3 := (q6.cell (p := ⟨b, o + 3, none⟩) hb4).trans g3
          have hb6 : b < w6.heap.size := Nat.lt_of_lt_of_le hb4 q6.size
          have F6 := Lib.hid f6; have KZ6 := Lib.hid kz6
          have lz6 := bk_lt kz6
          obtain ⟨fr, hfr⟩ : ∃ fr, fr = val (l.take 2) := ⟨_, rfl⟩
          obtain ⟨tt, hto⟩ : ∃ tt, tt = val ((l.drop 2).take 2) := ⟨_, rfl⟩
          have HFR := Lib.hid hfr; have HTO := Lib.hid hto
          have m1 : IntKind.u16.wrap (256 * (x0.toNat : Int)) = 256 * (x0.toNat : Int) := by rw [IntKind.wrap_u16]; omega
          have m2 : IntKind.u16.wrap (256 * (x0.toNat : Int) + (x1.toNat : Int)) = fr := by rw [IntKind.wrap_u16, hfr, EF.out]; omega
          have m3 : IntKind.u16.wrap (256 * (x2.toNat : Int)) = 256 * (x2.toNat : Int) := by rw [IntKind.wrap_u16]; omega
          have m4 : IntKind.u16.wrap (256 * (x2.toNat : Int) + (x3.toNat : Int)) = tt := by rw [IntKind.wrap_u16, hto, ET.out]; omega
          clear q6 g0 g1 g2 g3 g6 g7 j0 j1 kz kz6 hb4 ltz f6 HC hfr hto f4
          go_wp2_with fail
          go_region
          have kz7 : bk ((w6.alloc (.cells (dgc fr tt none 0 0) 29)).drew) (w.heap.size + 1 + 1) = some (.cells (dgc 0 0 none 0 0) 29 (0, 0)) := (bk_alloc_past _ _ _ lz6).trans KZ6.out
          have K7 : Hid (bk ((w6.alloc (.cells (dgc fr tt none 0 0) 29)).drew) w6.heap.size = some (.cells (dgc fr tt none 0 0) 29 (0, 0))) := Lib.hid (bk_alloc_at _ _ _ rfl)
          have F7 : Hid (Below w.heap.size w ((w6.alloc (.cells (dgc fr tt none 0 0) 29)).drew)) := Lib.hid ((F6.out.alloc F6.out.size _).drew)
          have s7 : ((w6.alloc (.cells (dgc fr tt none 0 0) 29)).drew).heap.size = w6.heap.size + 1 := by simp [World.drew]
          have KZ7 := Lib.hid kz7
          clear i0 i1 i2 i3 F6 KZ6 kz7
          have RL := (H.out.below F7.out (Nat.le_refl _)).mono F7.out.size
          have RA : Rd ((w6.alloc (.cells (dgc fr tt none 0 0) 29)).drew) ((w6.alloc (.cells (dgc fr tt none 0 0) 29)).drew).heap.size (some ⟨b, o + 8, none⟩) ((l.drop 8).take (sz - 8)) := fun h0 => by
            rw [List.length_take, List.length_drop] at h0
            obtain ⟨b', o', e', hlt', hj'⟩ := RL (by omega)
            cases e'
            refine ⟨b, o + 8, rfl, hlt', fun j hj => ?_⟩
            rw [List.length_take, List.length_drop] at hj
            have := hj' (8 + j) (by omega)
            simpa [Nat.add_assoc] using this
          have HRA := Lib.hid RA
          clear RL RA
          have esz8 : decide (8 ≤ sz) = true := by simp; omega
          have lez8 : 8 ≤ sz := by omega
          obtain ⟨dt, hdt⟩ : ∃ dt, dt = (l.drop 8).take (sz - 8) := ⟨_, rfl⟩
          have eln : dt.length = sz - 8 := by rw [hdt, List.length_take, List.length_drop]; omega
          rw [← hdt] at HRA
          have ELN := Lib.hid eln
          have HDT := Lib.hid hdt
          clear eln hdt
          show Exit.then _ _ _ _ ((w6.alloc (.cells (dgc fr tt none 0 0) 29)).drew)
          generalize ((w6.alloc (.cells (dgc fr tt none 0 0) 29)).drew) = w7 at *
          by_cases hc8 : c = 8
          · have RA : Hid (Rd w7 w7.heap.size (some ⟨b, o, none⟩) dt) := Lib.hid (by rw [show dt = [] from List.eq_nil_of_length_eq_zero (by rw [ELN.out]; omega)]; exact Rd.nil)
            have ls7 := bk_lt K7.out
            have sz7 := s7
            go_wp2_with (at_builtin; refine append_rd rfl _ _ rfl w7.heap.size (.slice none 0 0) 0 [] rfl (World.ownsRow_nil _ _ _ _) (some ⟨b, o, none⟩) dt (c - 8) (by rw [ELN.out]; first | rfl | (rw [hc8]; rfl)) (fun h => by cases h) RA.out (by rw [ELN.out]; omega) (Nat.le_refl _) ?_)
            intro v1 w1 hown hgrow
            obtain ⟨A1, c1, rfl, hR1, _, hle1⟩ := Rd.of_own hown rfl
            have HLO := Lib.hid (own_lo hown)
            have b1 : Below w7.heap.size w7 w1 := (Below.refl _ _).grown hgrow (Nat.le_refl _) (fun k hk => by simp [Value.ownBlock] at hk)
            have k1 := bk_keep b1 ls7 K7.out
            have k2 := bk_keep b1 (bk_lt KZ7.out) KZ7.out
            have f1 := Lib.hid (F7.out.trans (b1.mono F7.out.size))
            have u2 := (bk_cell k1 2).trans dgc_data
            have z2 := bk_frozen k1 2
            have ltb7 := bk_lt k1
            have ne2 : ¬ w.heap.size + 1 + 1 = w6.heap.size := by omega
            have HR1 := Lib.hid hR1
            clear b1 hown hgrow hR1 RA HRA KZ7 K7 F7
            go_wp2_with fail
            have E0 : gE src dst l = 0 := gE_ok h8 (by rw [← HSZ.out]; exact hf) (by rw [← HSZ.out, EC.out, ← HS.out]; omega)
            have eF : gF src dst l = fr := by simp [gF, E0, HFR.out]
            have eT : gT src dst l = tt := by simp [gT, E0, HTO.out]
            have eD : gD src dst l = dt := by simp [gD, E0, HDT.out, ← HSZ.out]
            refine ret_two (cs := dgc (gF src dst l) (gT src dst l) A1 (gD src dst l).length c1) rfl rfl rfl rfl ?_ Try.underlying29 rfl (by kernel_rfl) ?_
            rotate_left
            · refine ⟨A1, c1, by rw [E0]; rfl, ?_, below_setRow (f1.out.setCell (show w.heap.size ≤ w6.heap.size by omega) _) (by omega) _⟩
              rw [eD]
              refine HR1.out.turn (fun b o e j => ?_) (by simp [World.setRow, World.setCell])
              have hlo := HLO.out b o e
              refine cell_of_bk ?_ _
              rw [bk_setRow_other _ _ _ _ (by omega), bk_setCell_other _ _ _ _ _ (by omega)]
            · rw [bk_setRow_same, bk_setCell_other _ _ _ _ _ ne2, k2, eF, eT, eD]; rfl
          · have RA := HRA
            have ls7 := bk_lt K7.out
            have sz7 := s7
            go_wp2_with (at_builtin; refine append_rd rfl _ _ rfl w7.heap.size (.slice none 0 0) 0 [] rfl (World.ownsRow_nil _ _ _ _) (some ⟨b, o + 8, none⟩) dt (c - 8) (by rw [ELN.out]; first | rfl | (rw [hc8]; rfl)) (fun h => by cases h) RA.out (by rw [ELN.out]; omega) (Nat.le_refl _) ?_)
            intro v1 w1 hown hgrow
            obtain ⟨A1, c1, rfl, hR1, _, hle1⟩ := Rd.of_own hown rfl
            have HLO := Lib.hid (own_lo hown)
            have b1 : Below w7.heap.size w7 w1 := (Below.refl _ _).grown hgrow (Nat.le_refl _) (fun k hk => by simp [Value.ownBlock] at hk)
            have k1 := bk_keep b1 ls7 K7.out
            have k2 := bk_keep b1 (bk_lt KZ7.out) KZ7.out
            have f1 := Lib.hid (F7.out.trans (b1.mono F7.out.size))
            have u2 := (bk_cell k1 2).trans dgc_data
            have z2 := bk_frozen k1 2
            have ltb7 := bk_lt k1
            have ne2 : ¬ w.heap.size + 1 + 1 = w6.heap.size := by omega
            have HR1 := Lib.hid hR1
            clear b1 hown hgrow hR1 RA HRA KZ7 K7 F7
            go_wp2_with fail
            have E0 : gE src dst l = 0 := gE_ok h8 (by rw [← HSZ.out]; exact hf) (by rw [← HSZ.out, EC.out, ← HS.out]; omega)
            have eF : gF src dst l = fr := by simp [gF, E0, HFR.out]
            have eT : gT src dst l = tt := by simp [gT, E0, HTO.out]
            have eD : gD src dst l = dt := by simp [gD, E0, HDT.out, ← HSZ.out]
            refine ret_two (cs := dgc (gF src dst l) (gT src dst l) A1 (gD src dst l).length c1) rfl rfl rfl rfl ?_ Try.underlying29 rfl (by kernel_rfl) ?_
            rotate_left
            · refine ⟨A1, c1, by rw [E0]; rfl, ?_, below_setRow (f1.out.setCell (show w.heap.size ≤ w6.heap.size by omega) _) (by omega) _⟩
              rw [eD]
              refine HR1.out.turn (fun b o e j => ?_) (by simp [World.setRow, World.setCell])
              have hlo := HLO.out b o e
              refine cell_of_bk ?_ _
              rw [bk_setRow_other _ _ _ _ (by omega), bk_setCell_other _ _ _ _ _ (by omega)]
            · rw [bk_setRow_same, bk_setCell_other _ _ _ _ _ ne2, k2, eF, eT, eD]; rfl
        · have y8 : ((S : Int) == 0) = false := by simp; omega
          have y9 : ((S : Int) != 0) = true := by simp; omega
          go_wp2_with fail
          refine wp_region_later (w4.heap.size) (by kernel_rfl) (by kernel_rfl) ?_
          repeat (go_big_quiet_step (((rename_i xq; with_reducible exact later_call xq (Nat.le_refl _) (HC.out xq)))))
          (first | refine wpQuiet_nil ?_ | (go_big_quiet_want; (try go_big_quiet_op); trace_state; fail))
          intro w6 hw'
          have q6 := later_elim hw'
          clear hw'
          have kz6 := bk_keep q6 ltz kz
          have f6 := F4.out.trans (q6.mono F4.out.size)
          clear q6
          go_wp2_with fail
          refine ret_two (cs := dgc 0 0 none 0 0) rfl rfl rfl rfl ?_ Try.underlying29 rfl (by kernel_rfl) ?_
          rotate_left
          · exact RGot.bad (gE_sum h8 (by rw [← HSZ.out]; exact hf) (.inr (by rw [← HSZ.out, ← HS.out]; exact hs0))) (by decide) rfl (below_setRow f6 (by omega) _)
          · rw [bk_setRow_same, kz6]; rfl
      · have y6 : ((x6.toNat : Int) == 0) = false := by simp; omega
        by_cases hs0 : S = 0
        · have y8 : ((S : Int) == 0) = true := by simp; omega
          have y9 : ((S : Int) != 0) = false := by simp; omega
          go_wp2_with fail
          refine wp_region_later (w4.heap.size) (by kernel_rfl) (by kernel_rfl) ?_
          repeat (go_big_quiet_step (((rename_i xq; with_reducible exact later_call xq (Nat.le_refl _) (HC.out xq)))))
          (first | refine wpQuiet_nil ?_ | (go_big_quiet_want; (try go_big_quiet_op); trace_state; fail))
          intro w6 hw'
          have q6 := later_elim hw'
          clear hw'
          have kz6 := bk_keep q6 ltz kz
          have f6 := F4.out.trans (q6.mono F4.out.size)
          have i0 := (q6.cell (p := ⟨b, o, none⟩) hb4).trans g0; have i1 := (q6.cell (p := ⟨b, o + 1, none⟩) hb4).trans g1; have i2 := (q6.cell (p := ⟨b, o + 2, none⟩) hb4).trans g2; have i3 := (q6.cell (p := ⟨b, o + 3, none⟩) hb4).trans g3
          have hb6 : b < w6.heap.size := Nat.lt_of_lt_of_le hb4 q6.size
          have F6 := Lib.hid f6; have KZ6 := Lib.hid kz6
          have lz6 := bk_lt kz6
          obtain ⟨fr, hfr⟩ : ∃ fr, fr = val (l.take 2) := ⟨_, rfl⟩
          obtain ⟨tt, hto⟩ : ∃ tt, tt = val ((l.drop 2).take 2) := ⟨_, rfl⟩
          have HFR := Lib.hid hfr; have HTO := Lib.hid hto
          have m1 : IntKind.u16.wrap (256 * (x0.toNat : Int)) = 256 * (x0.toNat : Int) := by rw [IntKind.wrap_u16]; omega
          have m2 : IntKind.u16.wrap (256 * (x0.toNat : Int) + (x1.toNat : Int)) = fr := by rw [IntKind.wrap_u16, hfr, EF.out]; omega
          have m3 : IntKind.u16.wrap (256 * (x2.toNat : Int)) = 256 * (x2.toNat : Int) := by rw [IntKind.wrap_u16]; omega
          have m4 : IntKind.u16.wrap (256 * (x2.toNat : Int) + (x3.toNat : Int)) = tt := by rw [IntKind.wrap_u16, hto, ET.out]; omega
          clear q6 g0 g1 g2 g3 g6 g7 j0 j1 kz kz6 hb4 ltz f6 HC hfr hto f4
          go_wp2_with fail
          go_region
          have kz7 : bk ((w6.alloc (.cells (dgc fr tt none 0 0) 29)).drew) (w.heap.size + 1 + 1) = some (.cells (dgc 0 0 none 0 0) 29 (0, 0)) := (bk_alloc_past _ _ _ lz6).trans KZ6.out
          have K7 : Hid (bk ((w6.alloc (.cells (dgc fr tt none 0 0) 29)).drew) w6.heap.size = some (.cells (dgc fr tt none 0 0) 29 (0, 0))) := Lib.hid (bk_alloc_at _ _ _ rfl)
          have F7 : Hid (Below w.heap.size w ((w6.alloc (.cells (dgc fr tt none 0 0) 29)).drew)) := Lib.hid ((F6.out.alloc F6.out.size _).drew)
          have s7 : ((w6.alloc (.cells (dgc fr tt none 0 0) 29)).drew).heap.size = w6.heap.size + 1 := by simp [World.drew]
          have KZ7 := Lib.hid kz7
          clear i0 i1 i2 i3 F6 KZ6 kz7
          have RL := (H.out.below F7.out (Nat.le_refl _)).mono F7.out.size
          have RA : Rd ((w6.alloc (.cells (dgc fr tt none 0 0) 29)).drew) ((w6.alloc (.cells (dgc fr tt none 0 0) 29)).drew).heap.size (some ⟨b, o + 8, none⟩) ((l.drop 8).take (sz - 8)) := fun h0 => by
            rw [List.length_take, List.length_drop] at h0
            obtain ⟨b', o', e', hlt', hj'⟩ := RL (by omega)
            cases e'
            refine ⟨b, o + 8, rfl, hlt', fun j hj => ?_⟩
            rw [List.length_take, List.length_drop] at hj
            have := hj' (8 + j) (by omega)
            simpa [Nat.add_assoc] using this
          have HRA := Lib.hid RA
          clear RL RA
          have esz8 : decide (8 ≤ sz) = true := by simp; omega
          have lez8 : 8 ≤ sz := by omega
          obtain ⟨dt, hdt⟩ : ∃ dt, dt = (l.drop 8).take (sz - 8) := ⟨_, rfl⟩
          have eln : dt.length = sz - 8 := by rw [hdt, List.length_take, List.length_drop]; omega
          rw [← hdt] at HRA
          have ELN := Lib.hid eln
          have HDT := Lib.hid hdt
          clear eln hdt
          show Exit.then _ _ _ _ ((w6.alloc (.cells (dgc fr tt none 0 0) 29)).drew)
          generalize ((w6.alloc (.cells (dgc fr tt none 0 0) 29)).drew) = w7 at *
          by_cases hc8 : c = 8
          · have RA : Hid (Rd w7 w7.heap.size (some ⟨b, o, none⟩) dt) := Lib.hid (by rw [show dt = [] from List.eq_nil_of_length_eq_zero (by rw [ELN.out]; omega)]; exact Rd.nil)
            have ls7 := bk_lt K7.out
            have sz7 := s7
            go_wp2_with (at_builtin; refine append_rd rfl _ _ rfl w7.heap.size (.slice none 0 0) 0 [] rfl (World.ownsRow_nil _ _ _ _) (some ⟨b, o, none⟩) dt (c - 8) (by rw [ELN.out]; first | rfl | (rw [hc8]; rfl)) (fun h => by cases h) RA.out (by rw [ELN.out]; omega) (Nat.le_refl _) ?_)
            intro v1 w1 hown hgrow
            obtain ⟨A1, c1, rfl, hR1, _, hle1⟩ := Rd.of_own hown rfl
            have HLO := Lib.hid (own_lo hown)
            have b1 : Below w7.heap.size w7 w1 := (Below.refl _ _).grown hgrow (Nat.le_refl _) (fun k hk => by simp [Value.ownBlock] at hk)
            have k1 := bk_keep b1 ls7 K7.out
            have k2 := bk_keep b1 (bk_lt KZ7.out) KZ7.out
            have f1 := Lib.hid (F7.out.trans (b1.mono F7.out.size))
            have u2 := (bk_cell k1 2).trans dgc_data
            have z2 := bk_frozen k1 2
            have ltb7 := bk_lt k1
            have ne2 : ¬ w.heap.size + 1 + 1 = w6.heap.size := by omega
            have HR1 := Lib.hid hR1
            clear b1 hown hgrow hR1 RA HRA KZ7 K7 F7
            go_wp2_with fail
            have E0 : gE src dst l = 0 := gE_ok h8 (by rw [← HSZ.out]; exact hf) (by rw [← HSZ.out, EC.out, ← HS.out]; omega)
            have eF : gF src dst l = fr := by simp [gF, E0, HFR.out]
            have eT : gT src dst l = tt := by simp [gT, E0, HTO.out]
            have eD : gD src dst l = dt := by simp [gD, E0, HDT.out, ← HSZ.out]
            refine ret_two (cs := dgc (gF src dst l) (gT src dst l) A1 (gD src dst l).length c1) rfl rfl rfl rfl ?_ Try.underlying29 rfl (by kernel_rfl) ?_
            rotate_left
            · refine ⟨A1, c1, by rw [E0]; rfl, ?_, below_setRow (f1.out.setCell (show w.heap.size ≤ w6.heap.size by omega) _) (by omega) _⟩
              rw [eD]
              refine HR1.out.turn (fun b o e j => ?_) (by simp [World.setRow, World.setCell])
              have hlo := HLO.out b o e
              refine cell_of_bk ?_ _
              rw [bk_setRow_other _ _ _ _ (by omega), bk_setCell_other _ _ _ _ _ (by omega)]
            · rw [bk_setRow_same, bk_setCell_other _ _ _ _ _ ne2, k2, eF, eT, eD]; rfl
          · have RA := HRA
            have ls7 := bk_lt K7.out
            have sz7 := s7
            go_wp2_with (at_builtin; refine append_rd rfl _ _ rfl w7.heap.size (.slice none 0 0) 0 [] rfl (World.ownsRow_nil _ _ _ _) (some ⟨b, o + 8, none⟩) dt (c - 8) (by rw [ELN.out]; first | rfl | (rw [hc8]; rfl)) (fun h => by cases h) RA.out (by rw [ELN.out]; omega) (Nat.le_refl _) ?_)
            intro v1 w1 hown hgrow
            obtain ⟨A1, c1, rfl, hR1, _, hle1⟩ := Rd.of_own hown rfl
            have HLO := Lib.hid (own_lo hown)
            have b1 : Below w7.heap.size w7 w1 := (Below.refl _ _).grown hgrow (Nat.le_refl _) (fun k hk => by simp [Value.ownBlock] at hk)
            have k1 := bk_keep b1 ls7 K7.out
            have k2 := bk_keep b1 (bk_lt KZ7.out) KZ7.out
            have f1 := Lib.hid (F7.out.trans (b1.mono F7.out.size))
            have u2 := (bk_cell k1 2).trans dgc_data
            have z2 := bk_frozen k1 2
            have ltb7 := bk_lt k1
            have ne2 : ¬ w.heap.size + 1 + 1 = w6.heap.size := by omega
            have HR1 := Lib.hid hR1
            clear b1 hown hgrow hR1 RA HRA KZ7 K7 F7
            go_wp2_with fail
            have E0 : gE src dst l = 0 := gE_ok h8 (by rw [← HSZ.out]; exact hf) (by rw [← HSZ.out, EC.out, ← HS.out]; omega)
            have eF : gF src dst l = fr := by simp [gF, E0, HFR.out]
            have eT : gT src dst l = tt := by simp [gT, E0, HTO.out]
            have eD : gD src dst l = dt := by simp [gD, E0, HDT.out, ← HSZ.out]
            refine ret_two (cs := dgc (gF src dst l) (gT src dst l) A1 (gD src dst l).length c1) rfl rfl rfl rfl ?_ Try.underlying29 rfl (by kernel_rfl) ?_
            rotate_left
            · refine ⟨A1, c1, by rw [E0]; rfl, ?_, below_setRow (f1.out.setCell (show w.heap.size ≤ w6.heap.size by omega) _) (by omega) _⟩
              rw [eD]
              refine HR1.out.turn (fun b o e j => ?_) (by simp [World.setRow, World.setCell])
              have hlo := HLO.out b o e
              refine cell_of_bk ?_ _
              rw [bk_setRow_other _ _ _ _ (by omega), bk_setCell_other _ _ _ _ _ (by omega)]
            · rw [bk_setRow_same, bk_setCell_other _ _ _ _ _ ne2, k2, eF, eT, eD]; rfl
        · have y8 : ((S : Int) == 0) = false := by simp; omega
          have y9 : ((S : Int) != 0) = true := by simp; omega
          go_wp2_with fail
          refine wp_region_later (w4.heap.size) (by kernel_rfl) (by kernel_rfl) ?_
          repeat (go_big_quiet_step (((rename_i xq; with_reducible exact later_call xq (Nat.le_refl _) (HC.out xq)))))
          (first | refine wpQuiet_nil ?_ | (go_big_quiet_want; (try go_big_quiet_op); trace_state; fail))
          intro w6 hw'
          have q6 := later_elim hw'
          clear hw'
          have kz6 := bk_keep q6 ltz kz
          have f6 := F4.out.trans (q6.mono F4.out.size)
          clear q6
          go_wp2_with fail
          refine ret_two (cs := dgc 0 0 none 0 0) rfl rfl rfl rfl ?_ Try.underlying29 rfl (by kernel_rfl) ?_
          rotate_left
          · exact RGot.bad (gE_sum h8 (by rw [← HSZ.out]; exact hf) (.inr (by rw [← HSZ.out, ← HS.out]; exact hs0))) (by decide) rfl (below_setRow f6 (by omega) _)
          · rw [bk_setRow_same, kz6]; rfl
theorem rdget_any (src dst : List UInt8) (A : Option Addr) (l : List UInt8) (c : Nat) (w : World) (h1 : src.length = 16) (h2 : dst.length = 16) (h : Rd w w.heap.size A l) (hA : A = none → l = [] ∧ c = 0) (hC : l.length ≤ c) (hl : l.length < 2 ^ 32) :
    Calls Try.prog 17 #[av src, av dst, .slice A l.length c] w (RGot src dst l w) := by
  by_cases h8 : 8 ≤ l.length
  · exact rdget_big src dst A l c w h1 h2 h hA hC h8 hl
  · refine (rdget_short src dst A l.length c w h1 h2 (by omega)).mono ?_
    rintro e w' ⟨rfl, hb⟩
    exact RGot.bad (gE_short (by omega)) (by decide) rfl hb
end Go.Proofs.Yteeiihfbnkgcaaa
