/- OctetsCut, walked: the asks. -/
import Derived.Test.YtmpmddgledahbaaS27
namespace Go.Proofs.Ytmpmddgledahbaa
open Go.RowKit
set_option maxRecDepth 100000
set_option maxHeartbeats 4000000 in
theorem octetsCut_walk (A A2 : Option Addr) (l : List UInt8) (al : List (UInt8 × Int)) (c c2 : Nat) (w : World) (h : Rd w w.heap.size A l) (hA : A = none → l = [] ∧ c = 0) (h2 : Asks w w.heap.size A2 al) (hl : l.length ≤ 5000) (hl2 : al.length ≤ 100) :
    Calls Try.prog 3 #[.slice A l.length c, .slice A2 al.length c2] w fun e w' => e = .returned (.bool true) ∧ Below w.heap.size w w' := by
  have H := Lib.hid h; have HA := Lib.hid hA; have H2 := Lib.hid h2
  clear h hA h2
  obtain ⟨N, hN⟩ : ∃ N, N = l.length := ⟨_, rfl⟩
  have HN := Lib.hid hN
  rw [← hN] at hl
  rw [← hN]
  clear hN
  have d1 : decide (5000 < (N : Int)) = false := by simp; omega
  have d2 : decide (5000 < N) = false := by simp; omega
  have d3 : decide (100 < (al.length : Int)) = false := by simp; omega
  have d4 : decide (100 < al.length) = false := by simp; omega
  go_enter Try.func3, Try.ntmps3
  go_wp2_with fail
  rw [HN.out]
  refine (twinBytes_any A l c w H.out (by rw [← HN.out]; omega)).mono ?_
  rw [← HN.out]
  rintro e w1 ⟨rfl, hT, b1⟩
  obtain ⟨T, hTe⟩ : ∃ T, T = w.heap.size := ⟨_, rfl⟩
  rw [← hTe] at hT
  rw [← hTe]
  have HTE := Lib.hid hTe
  have hTl := bk_lt hT
  have HT := Lib.hid hT
  clear hT hTe
  have s1 := b1.size
  go_wp2_with fail
  rw [HN.out]
  refine (of_PK (some ⟨T, 0, none⟩) l (l.length + 4) w1 (Rd.of_bk HT.out hTl (tw_head l 199)) (fun h => by cases h) (by rw [← HN.out]; omega) T hTl).mono ?_
  rw [← HN.out]
  rintro e w2 ⟨gc, gb, rfl, hgc, hgb, hgbc, hgb2, hPK, hPB, b2⟩
  have s2 := b2.size
  have f2 : Below w.heap.size w w2 := b1.trans (b2.mono b1.size)
  have HT2 := Lib.hid (bk_keep b2 hTl HT.out)
  have HPK := Lib.hid hPK; have HPB := Lib.hid hPB; have HGB := Lib.hid hgb2
  have hgl : gc < w2.heap.size := by obtain ⟨cs, hc⟩ := hPK.obj; exact bk_lt hc
  clear HT hPK hPB hgb2
  go_wp2_with fail
  rw [HN.out]
  refine (rof_any A l c w2 ((H.out.below f2 (Nat.le_refl _)).mono f2.size) HA.out (by rw [← HN.out]; omega)).mono ?_
  rw [← HN.out]
  rintro e w3 ⟨gm, rfl, hgm, hRS, b3⟩
  have s3 := b3.size
  have f3 : Below w.heap.size w w3 := f2.trans (b3.mono f2.size)
  have HT3 := Lib.hid (bk_keep b3 (by omega) HT2.out)
  have HPK3 := Lib.hid (HPK.out.keep (b3.block gc hgl)); have HPB3 := Lib.hid (HPB.out.keep fun hh => b3.block gb (by omega))
  have HRS := Lib.hid hRS
  have hml : gm < w3.heap.size := by obtain ⟨cs, hc⟩ := hRS.obj; exact bk_lt hc
  clear HT2 HPK HPB hRS
  have hTw : w.heap.size ≤ T := by rw [← HTE.out]; exact Nat.le_refl _
  have hTw2 : T ≤ w.heap.size := by rw [← HTE.out]; exact Nat.le_refl _
  -- the book
  obtain ⟨kb, hkb⟩ : ∃ kb, kb = w3.heap.size := ⟨_, rfl⟩
  have a4 : Below w3.heap.size w3 (w3.alloc (.cells #[.slice none 0 0] 32)) := (Below.refl _ _).alloc (Nat.le_refl _) _
  have S4 : St (w3.alloc (.cells #[.slice none 0 0] 32)) T gc gb gm kb l (some 0) (stOf l (some 0)) [] :=
    ⟨HPK3.out.keep (a4.block gc (by omega)), HPB3.out.keep fun hh => a4.block gb hh, (HRS.out.mono (by omega)).keep fun k hk _ => a4.block k hk, Bk.new (bk_alloc_at _ _ _ hkb), (fun _ hh => by cases hh), hgb, hgbc, by omega, by omega, by rw [← HN.out]; omega, (fun l' hh => by cases hh; simp; rw [← HN.out]; omega)⟩
  have T4 : bk (w3.alloc (.cells #[.slice none 0 0] 32)) T = some (.cells (List.map B (tw l 199)).toArray 5 (0, 0)) := bk_keep a4 (by omega) HT3.out
  have f4 : Below w.heap.size w (w3.alloc (.cells #[.slice none 0 0] 32)) := f3.trans (a4.mono f3.size)
  have s4 : w3.heap.size ≤ (w3.alloc (.cells #[.slice none 0 0] 32)).heap.size := a4.size
  have HS4 := Lib.hid S4; have HT4 := Lib.hid T4
  clear S4 T4 a4 HT3 HPK3 HPB3 HRS
  go_wp2_with fail
  rw [← hkb]
  generalize w3.alloc (.cells #[.slice none 0 0] 32) = w4 at *
  have HKB := Lib.hid hkb
  clear hkb
  go_loopw [9] (fun i wr => ∃ j : Nat, j ≤ al.length ∧ i = .int .i64 j ∧ Below w.heap.size w wr ∧ w4.heap.size ≤ wr.heap.size ∧ (∃ p LL, LL.length ≤ j ∧ Hid (St wr T gc gb gm kb l p (stOf l p) LL)) ∧ Hid (bk wr T = some (.cells (List.map B (tw l 199)).toArray 5 (0, 0)))) (fun i _ => al.length - (intOf i).toNat)
  case atStart => exact ⟨0, by omega, rfl, f4, Nat.le_refl _, ⟨some 0, [], by simp, HS4⟩, HT4⟩
  case round =>
    obtain ⟨j, hj, rfl, hB, hsr, ⟨p, LL, hLL, hS⟩, hTr⟩ := hrel
    have hbs := hB.size
    by_cases hlt : j < al.length
    · have e1 : decide ((j : Int) < (al.length : Int)) = true := by simp; omega
      obtain ⟨b, o, rfl, hb, hc0, hc1⟩ := (H2.out.below hB (Nat.le_refl _)) j hlt
      obtain ⟨x, hx⟩ : ∃ x, x = al[j].1 := ⟨_, rfl⟩
      obtain ⟨n, hn⟩ : ∃ n, n = al[j].2 := ⟨_, rfl⟩
      rw [← hx] at hc0
      rw [← hn] at hc1
      clear hx hn
      go_wp2_with fail
      refine wp_region_staged ([some 6, none, some 20]) (by kernel_rfl) (by kernel_rfl) (by kernel_rfl) ?_
      intro w5 b5 hw5heap
      have c5 := (b5.cell (p := ⟨b, o + j * 2, none⟩) (by show b < _; omega)).trans hc0
      have c6 := (b5.cell (p := ⟨b, o + j * 2 + 1, none⟩) (by show b < _; omega)).trans hc1
      refine wpSt_later (w5.heap.size) (by kernel_rfl) ?_
      simp only [List.take_succ_cons, List.take_zero, List.drop_succ_cons, List.drop_zero, List.take_nil, List.drop_nil]
      repeat (go_big_quiet_step (fail))
      (first | refine wpQuiet_nil ?_ | (go_big_quiet_want; (try go_big_quiet_op); trace_state; fail))
      intro w6 hw'
      have b6 := later_elim hw'
      clear hw'
      have S6 := hS.out.below (b5.trans (b6.mono b5.size))
      have T6 := Lib.hid (bk_keep (b5.trans (b6.mono b5.size)) (bk_lt hTr.out) hTr.out)
      have B6 := hB.trans ((b5.trans (b6.mono b5.size)).mono hbs)
      have s6 : wr.heap.size ≤ w6.heap.size := Nat.le_trans b5.size b6.size
      clear hS hTr b5 b6 c5 c6 hc0 hc1 hw5heap
      have C := Lib.hid (one_any x n w6 T gc gb gm kb l p LL S6 (by omega))
      have HS6 := Lib.hid S6
      clear S6
      refine wpSt_one 6 (by rfl) rfl ?_
      go_simp
      refine C.out.mono ?_
      rintro e w7 ⟨p', LL', rfl, hLL', D7⟩
      have s7 := D7.bel.size
      have hT7 := Sd.bytes HS6.out D7 T6.out
      have HT7 := Lib.hid hT7
      have B7 := B6.trans (D7.bel.mono (by omega))
      have hs67 := D7.fr.size
      have hp7 := D7.st.pk
      have hg7 : gc < w7.heap.size := by obtain ⟨cs, hh⟩ := hp7.obj; exact bk_lt hh
      obtain ⟨Ar, cr, hr7⟩ := D7.st.rs.cells
      have hm7 := bk_lt hr7
      have r0 := bk_cell hr7 0
      have r1 := bk_cell hr7 1
      simp at r0 r1
      have HPK7 := Lib.hid hp7
      have HS7 := Lib.hid D7.st
      have hLb : ((stOf l p').getD []).length ≤ N := by
        rw [HN.out]
        cases p' with
        | none => simp [stOf]
        | some q => simp [stOf]
      obtain ⟨lm, hlm⟩ : ∃ lm, lm = ((stOf l p').getD []).length := ⟨_, rfl⟩
      obtain ⟨bn, hbn⟩ : ∃ bn, bn = p'.isNone := ⟨_, rfl⟩
      rw [← hlm] at r0 hLb
      rw [← hbn] at r1
      have CL : ∀ v, PK v gc gb l p' → Calls Try.prog 14 #[.pointer (some ⟨gc, 0, none⟩)] v fun e v' => e = .returned (.int .i64 (lm : Nat)) ∧ Below v.heap.size v v' := fun v h => by
        rw [hlm]; exact (pleft_PK h).mono fun _ _ ⟨h1, h2⟩ => ⟨h1, by subst h2; exact Below.refl _ _⟩
      have CB : ∀ v, PK v gc gb l p' → Calls Try.prog 15 #[.pointer (some ⟨gc, 0, none⟩)] v fun e v' => e = .returned (.bool bn) ∧ Below v.heap.size v v' := fun v h => by
        rw [hbn]; exact (pbad_PK h).mono fun _ _ ⟨h1, h2⟩ => ⟨h1, by subst h2; exact Below.refl _ _⟩
      have HCL := Lib.hid CL; have HCB := Lib.hid CB
      clear CL CB
      clear hp7 hr7 D7 C T6 HS6 hT7 hlm hbn
      refine wpSt_later (w7.heap.size) (by kernel_rfl) ?_
      simp only [List.take_succ_cons, List.take_zero, List.drop_succ_cons, List.drop_zero, List.take_nil, List.drop_nil]
      repeat (go_big_quiet_step (((first | (rename_i xq; go_at_call 14; exact later_call xq (Nat.le_refl _) (HCL.out _ (HPK7.out.keep (xq.h.block gc hg7)))) | (rename_i xq; go_at_call 15; exact later_call xq (Nat.le_refl _) (HCB.out _ (HPK7.out.keep (xq.h.block gc hg7))))))))
      (first | refine wpQuiet_nil ?_ | (go_big_quiet_want; (try go_big_quiet_op); trace_state; fail))
      intro w8 hw'
      have b8 := later_elim hw'
      clear hw'
      refine wpSt_nil ?_
      have B8 := B7.trans (b8.mono (by omega))
      have s8 := b8.size
      have HS8 := Lib.hid (HS7.out.below b8)
      have HT8 := Lib.hid (bk_keep b8 (bk_lt HT7.out) HT7.out)
      clear HS7 HT7 b8 r0 r1 HPK7 HCL HCB
      go_wp2_with fail
      go_roundw
      case rel => exact ⟨j + 1, by omega, by go_num, B8, by omega, ⟨p', LL', by omega, HS8⟩, HT8⟩
      case measure => simp [intOf]; omega
    · have e1 : decide ((j : Int) < (al.length : Int)) = false := by simp; omega
      have e2 : decide (j < al.length) = false := by simp; omega
      obtain ⟨wl, hwl⟩ : ∃ wl, wl = wr := ⟨_, rfl⟩
      have hTlr := bk_lt hTr.out
      clear hlt
      go_wp2_with fail
      rw [HN.out]
      refine (leftBytes_any A l c T wr ((H.out.below hB (Nat.le_refl _)).mono hbs) (by rw [← HN.out]; omega) hTr.out).mono ?_
      rw [← HN.out]
      rintro e w5 ⟨rfl, b5⟩
      have B5 := hB.trans (b5.mono hbs)
      have s5 := b5.size
      have HT5 := Lib.hid (bk_keep b5 hTlr hTr.out)
      have HS5 := Lib.hid (hS.out.below b5)
      have hT5 := bk_lt HT5.out
      clear hS hTr b5 hwl
      go_wp2_with fail
      rw [HN.out]
      refine (of_PK (some ⟨T, 0, none⟩) l (l.length + 4) w5 (Rd.of_bk HT5.out hT5 (tw_head l 199)) (fun h => by cases h) (by rw [← HN.out]; omega) T hT5).mono ?_
      rw [← HN.out]
      rintro e w6 ⟨gd, gbd, rfl, hgd, hgbd, hgbd2, hgbd3, hPK, hPB, b6⟩
      have B6 := B5.trans (b6.mono B5.size)
      have s6 := b6.size
      have hkbl := HS5.out.size
      have HT6 := Lib.hid (bk_keep b6 hT5 HT5.out)
      have HS6 := Lib.hid (HS5.out.below b6)
      have HPK := Lib.hid hPK; have HPB := Lib.hid hPB; have HGBD := Lib.hid hgbd3
      have hgdl : gd < w6.heap.size := by obtain ⟨cs, hc⟩ := hPK.obj; exact bk_lt hc
      clear HT5 HS5 b6 hPK hPB hgbd3
      go_wp2_with fail
      obtain ⟨wd, rfl⟩ : ∃ wd : World, wd = w6 := ⟨_, rfl⟩
      go_loopw [11] (fun i wq => ∃ m : Nat, m ≤ N ∧ i = .int .i64 m ∧ wd.heap.size ≤ wq.heap.size ∧ ∃ L' : List UInt8, L'.length = N + 4 ∧ Hid (bk wq T = some (.cells (List.map B L').toArray 5 (0, 0))) ∧ Hid (wd.grownBy wq (some T))) (fun i _ => N - (intOf i).toNat)
      case atStart => exact ⟨0, by omega, rfl, Nat.le_refl _, tw l 199, by rw [tw_length, HN.out], HT6, Lib.hid (World.grownBy.refl _ _)⟩
      case round =>
        obtain ⟨m, hm, rfl, hsq, L', hL', hTq, hGq⟩ := hrel
        by_cases hlt : m < N
        · have e3 : decide ((m : Int) < (N : Int)) = true := by simp; omega
          obtain ⟨y, hy⟩ : ∃ y, L'[m]? = some y := ⟨L'[m]'(by omega), List.getElem?_eq_getElem _⟩
          have hc := bk_cell hTq.out m
          have hf := bk_frozen hTq.out m
          simp [hy] at hc
          have hyl := y.toNat_lt
          clear hy
          go_wp2_with fail
          go_roundw
          case rel =>
            refine ⟨m + 1, by omega, by go_num, by simpa [World.setCell] using hsq, L'.set m (y + 1), by simpa using hL', Lib.hid ?_, Lib.hid ⟨hGq.out.os, hGq.out.tape, hGq.out.output, by simpa [World.setCell] using hGq.out.size, fun k hk hne => (bk_setCell_other _ _ _ _ _ (fun e => hne (by rw [e]))).trans (hGq.out.block k hk hne)⟩⟩
            rw [bk_setCell_same, hTq.out, ← map_set, ← B_succ]
            rfl
          case measure => simp [intOf]; omega
        · have e3 : decide ((m : Int) < (N : Int)) = false := by simp; omega
          have e4 : decide (m < N) = false := by simp; omega
          have G := hGq.out
          have o1 := HS6.out.o1; have o2 := HS6.out.o2; have o3 := HS6.out.o3; have o4 := HS6.out.o4
          have hne : ∀ k, k ≠ T → k < wd.heap.size → bk wr k = bk wd k := fun k hk hl => G.block k hl (fun e => hk (by injection e))
          have hgbT : 0 < N → w1.heap.size ≤ gb := fun h0 => HGB.out h0
          have hgbdT : 0 < N → w5.heap.size ≤ gbd := fun h0 => HGBD.out h0
          have K7 : Bk wr kb T LL := HS6.out.bk.grown2 G HT6.out (fun l' hl' k q hr => by
            obtain ⟨h1, h2, _⟩ := HS6.out.und l' hl' k q hr
            rw [← HN.out] at h2
            have := hgbT (by omega)
            omega) (by omega)
          have P7 : PK wr gd gbd l (some 0) := HPK.out.keep (hne gd (by omega) hgdl)
          have Q7 : PB wr gbd l := fun h0 => by
            obtain ⟨cur, hb, h1, h2⟩ := HPB.out h0
            rw [← HN.out] at h0
            have := hgbdT h0
            exact ⟨cur, (hne gbd (by omega) (bk_lt hb)).trans hb, h1, h2⟩
          have B7 : Below T w wr := (B6.mono hTw2).trans ⟨G.os, G.tape, G.output, G.size, fun k hk => hne k (by omega) (by omega)⟩
          have hund := HS6.out.und
          have HK7 := Lib.hid K7; have HP7 := Lib.hid (And.intro P7 Q7); have HU := Lib.hid hund
          clear G hne K7 P7 Q7 hGq HS6 HT6 HPK HPB hlt hund
          go_wp2_with fail
          have CR := rest_whole gd gbd l wr HP7.out.1 HP7.out.2 hgbd2
          rw [← HN.out] at CR
          refine CR.mono ?_
          rintro e w8 ⟨Aa, rfl, hRa, hRo, hAa, G8⟩
          have s8 := G8.size
          have hT8 : bk w8 T = some (.cells (List.map B L').toArray 5 (0, 0)) := (G8.block T (bk_lt hTq.out) (fun e => by injection e with e; omega)).trans hTq.out
          obtain ⟨csd, hcsd⟩ := HP7.out.1.obj
          have K8 : Bk w8 kb T LL := HK7.out.grown G8 hcsd (fun _ e => by cases e) (fun _ e => by cases e) (by omega)
          have B8 : Below T w w8 := B7.trans (grown_below G8 (by omega) (by omega))
          have HT8 := Lib.hid hT8; have HK8 := Lib.hid K8; have HRo := Lib.hid hRo; have HAa := Lib.hid hAa
          have CS := Lib.hid (sameBytes_any Aa A l l N c w8 hRa ((H.out.below (B8.mono hTw) (Nat.le_refl _)).mono (by have := B8.size; omega)) (by rw [← HN.out]; omega) (by rw [← HN.out]; omega))
          clear CR hRa hRo hT8 K8 hTq HK7 HP7 G8 hcsd hAa
          go_wp2_with fail
          rw [HN.out]
          rw [HN.out] at CS
          refine CS.out.mono ?_
          rw [← HN.out]
          rintro e w9 ⟨rfl, b9⟩
          simp only [beq_self_eq_true]
          have s9 := b9.size
          have B9 : Below T w w9 := B8.trans (b9.mono (by omega))
          have HK9 := Lib.hid (HK8.out.below b9)
          have HT9 := Lib.hid (bk_keep b9 (bk_lt HT8.out) HT8.out)
          have HR9 := Lib.hid (HRo.out.below b9)
          have hat : ∀ k q, rg Aa 0 N k q → k = gbd ∧ 0 < N := fun k q ⟨o, e, h1, h2⟩ => by
            have := HAa.out (by omega)
            rw [e] at this
            cases this
            exact ⟨rfl, by omega⟩
          have HAT := Lib.hid hat
          clear CS b9 HK8 HT8 HRo hat
          go_wp2_with fail
          refine (bytes_Bk kb T LL Aa N N w9 HK9.out (by omega) (by omega) (by omega) HR9.out (Nat.le_refl _) (by omega) (fun k q hr => by have := HAT.out k q hr; have := hgbdT this.2; omega) (fun l' hl' k q h1 h2 => by
            have h3 := HAT.out k q h2
            have h4 := hgbdT h3.2
            have h5 := (HU.out l' hl' k q h1).1
            omega)).mono ?_
          rintro e w10 ⟨i1, x1, rfl, K10, F10, b10⟩
          have B10 : Below T w w10 := B9.trans b10
          have s10 := b10.size
          have HT10 := Lib.hid (F10.keepBytes HK9.out HT9.out)
          have HK10 := Lib.hid K10
          clear K10 F10 b10 HK9 HT9 HR9
          go_wp2_with fail
          refine (bytes_Bk kb T _ (some ⟨T, 0, none⟩) N (N + 4) w10 HK10.out (by simp; omega) (by omega) (by omega) (fun _ => ⟨T, 0, _, rfl, HT10.out, by simp; omega⟩) (by omega) (by omega) (fun k q ⟨o, e, _⟩ => by cases e; omega) (fun l' hl' k q h1 ⟨o, e, _⟩ => by
            cases e
            rw [List.mem_append] at hl'
            rcases hl' with hl' | hl'
            · obtain ⟨h3, h4, _⟩ := HU.out l' hl' T q h1
              rw [← HN.out] at h4
              have := hgbT (by omega)
              omega
            · have : l' = ⟨Aa, N, N, i1, x1⟩ := by simpa using hl'
              subst this
              have h3 := HAT.out T q h1
              have := hgbdT h3.2
              omega)).mono ?_
          rintro e w11 ⟨i2, x2, rfl, K11, F11, b11⟩
          have B11 : Below T w w11 := B10.trans b11
          have s11 := b11.size
          have HK11 := Lib.hid K11
          clear K11 F11 b11 HK10 HT10
          go_wp2_with fail
          refine (apart_Bk kb T _ w11 HK11.out (by omega) (by omega) (by simp; omega)).mono ?_
          rintro e w12 ⟨rfl, b12⟩
          have B12 : Below T w w12 := B11.trans b12
          have s12 := b12.size
          clear HK11 b12
          go_wp2_with fail
          refine (lives_any w12).mono ?_
          rintro e w13 ⟨rfl, b13⟩
          have B13 : Below T w w13 := B12.trans (b13.mono (by omega))
          clear b13
          go_wp2_with fail
          go_ret
          exact ⟨rfl, B13.mono hTw⟩
end Go.Proofs.Ytmpmddgledahbaa
