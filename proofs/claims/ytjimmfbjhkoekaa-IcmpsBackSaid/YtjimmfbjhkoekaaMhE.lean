import Derived.Test.YtjimmfbjhkoekaaMhD
/- own: what a message's kind has of it: 134, 135. -/
namespace Go.Proofs.Ytjimmfbjhkoekaa
open Go.RowKit
set_option maxRecDepth 100000
set_option maxHeartbeats 2000000
theorem own134 (m : Mv) (w : World) (n0 : Nat) (hn0 : n0 ≤ w.heap.size) (hok : MvOk w n0 m) (hk : m.kind = 134) (h64 : m.os.length ≤ 64) : Calls Try.prog 24 #[.agg (mC m)] w fun e w' => OwnR m n0 e w w' := by
  have H64 := Lib.hid h64
  clear h64
  have OK := Lib.hid (hok.mono hn0); have OK0 := Lib.hid hok; have HK := Lib.hid hk; have HN0 := Lib.hid hn0
  clear hok hk hn0
  go_enter Try.func24, Try.ntmps24
  go_upto_region 1 with fail
  obtain ⟨s, hs⟩ : ∃ s, s = w.heap.size := ⟨_, rfl⟩
  generalize hW : World.alloc (World.alloc w _) _ = W
  have a1 : bk W s = some (.cells (mC m) 33 (0, 0)) := by rw [← hW, hs, bk_alloc_past _ _ _ (by simp)]; exact bk_alloc_at _ _ _ rfl
  have a2 : bk W (s + 1) = some (.cells (mC (mZ 0 0)) 33 (0, 0)) := by rw [← hW, hs]; exact (bk_alloc_at _ _ _ (by simp)).trans (by kernel_rfl)
  have b1 : Below w.heap.size w W := by rw [← hW]; exact (by (repeat (first | exact Below.refl _ _ | assumption | refine Below.drew ?_ | refine bdrewN ?_ _ | refine Below.alloc ?_ (by first | omega | (simp <;> omega) | (simp only [World.size_alloc] <;> omega)) _ | refine below_setRow ?_ (by first | omega | (simp <;> omega)) _ | refine Below.setCell ?_ (by first | omega | (simp <;> omega)) _)))
  have z1 : W.heap.size = s + 1 + 1 := by rw [← hW, hs]; simp
  have u0 := (bk_cell a1 0).trans (mC_0 m)
  have u1 := (bk_cell a1 1).trans (mC_1 m)
  have l1 := bk_lt a1
  have A := Lib.hid (And.intro a1 (And.intro a2 (And.intro b1 z1))); have HS := Lib.hid hs; have HZ := Lib.hid z1
  rw [← hs]
  clear a1 a2 b1 z1 hW hs
  go_upto_region 2 with fail
  rw [HZ.out]
  clear u0 l1
  generalize hW : World.alloc W _ = W2
  have P : Hid (OwnW w W2 s m (mZ m.kind m.code)) := Lib.hid (by
    obtain ⟨a1, a2, b1, z1⟩ := A.out
    rw [← hW]
    have b2 : Below W.heap.size W (W.alloc (.cells (mC (mZ m.kind m.code)) 33)) := (by (repeat (first | exact Below.refl _ _ | assumption | refine Below.drew ?_ | refine bdrewN ?_ _ | refine Below.alloc ?_ (by first | omega | (simp <;> omega) | (simp only [World.size_alloc] <;> omega)) _ | refine below_setRow ?_ (by first | omega | (simp <;> omega)) _ | refine Below.setCell ?_ (by first | omega | (simp <;> omega)) _)))
    exact ⟨b1.trans (b2.mono b1.size), bk_keep b2 (bk_lt a1) a1, bk_keep b2 (bk_lt a2) a2, bk_alloc_at _ _ _ z1.symm, HS.out⟩)
  have u0 : W2.cell? ⟨s, 0, none⟩ = some (.int .u8 134) := by rw [bk_cell P.out.k1, mC_0, HK.out]; rfl
  have l1 := bk_lt P.out.k1
  clear u1 hW A HZ
  have us := (bk_cell (P).out.k1 4).trans (mC_4 m)
  have ut := (bk_cell (P).out.k3 4).trans (mC_4 _)
  have fz := bk_frozen (P).out.k3 4
  have lt := bk_lt (P).out.k3
  go_upto_region 24 with fail
  have P3 := Lib.hid ((P).out.set (j := 4) (v := B m.hops) (sM4 _ _))
  generalize World.setCell W2 ⟨s + 1 + 1, 4, none⟩ (B m.hops) = W3 at *
  clear us ut fz lt
  replace u0 := (cell_of_bk ((P3).out.k1.trans (P).out.k1.symm) 0).trans u0
  replace l1 := bk_lt (P3).out.k1
  clear P
  have us := (bk_cell (P3).out.k1 5).trans (mC_5 m)
  have ut := (bk_cell (P3).out.k3 5).trans (mC_5 _)
  have fz := bk_frozen (P3).out.k3 5
  have lt := bk_lt (P3).out.k3
  go_upto_region 25 with fail
  have P4 := Lib.hid ((P3).out.set (j := 5) (v := B m.flags) (sM5 _ _))
  generalize World.setCell W3 ⟨s + 1 + 1, 5, none⟩ (B m.flags) = W4 at *
  clear us ut fz lt
  replace u0 := (cell_of_bk ((P4).out.k1.trans (P3).out.k1.symm) 0).trans u0
  replace l1 := bk_lt (P4).out.k1
  clear P3
  have us := (bk_cell (P4).out.k1 6).trans (mC_6 m)
  have ut := (bk_cell (P4).out.k3 6).trans (mC_6 _)
  have fz := bk_frozen (P4).out.k3 6
  have lt := bk_lt (P4).out.k3
  go_upto_region 26 with fail
  have P5 := Lib.hid ((P4).out.set (j := 6) (v := .int .u16 (m.life : Int)) (sM6 _ _))
  generalize World.setCell W4 ⟨s + 1 + 1, 6, none⟩ (.int .u16 (m.life : Int)) = W5 at *
  clear us ut fz lt
  replace u0 := (cell_of_bk ((P5).out.k1.trans (P4).out.k1.symm) 0).trans u0
  replace l1 := bk_lt (P5).out.k1
  clear P4
  have us := (bk_cell (P5).out.k1 7).trans (mC_7 m)
  have ut := (bk_cell (P5).out.k3 7).trans (mC_7 _)
  have fz := bk_frozen (P5).out.k3 7
  have lt := bk_lt (P5).out.k3
  go_upto_region 27 with fail
  have P6 := Lib.hid ((P5).out.set (j := 7) (v := .int .u32 (m.reach : Int)) (sM7 _ _))
  generalize World.setCell W5 ⟨s + 1 + 1, 7, none⟩ (.int .u32 (m.reach : Int)) = W6 at *
  clear us ut fz lt
  replace u0 := (cell_of_bk ((P6).out.k1.trans (P5).out.k1.symm) 0).trans u0
  replace l1 := bk_lt (P6).out.k1
  clear P5
  have us := (bk_cell (P6).out.k1 8).trans (mC_8 m)
  have ut := (bk_cell (P6).out.k3 8).trans (mC_8 _)
  have fz := bk_frozen (P6).out.k3 8
  have lt := bk_lt (P6).out.k3
  go_upto_region 28 with fail
  have P7 := Lib.hid ((P6).out.set (j := 8) (v := .int .u32 (m.retr : Int)) (sM8 _ _))
  generalize World.setCell W6 ⟨s + 1 + 1, 8, none⟩ (.int .u32 (m.retr : Int)) = W7 at *
  clear us ut fz lt
  replace u0 := (cell_of_bk ((P7).out.k1.trans (P6).out.k1.symm) 0).trans u0
  replace l1 := bk_lt (P7).out.k1
  clear P6
  obtain ⟨N, hN⟩ : ∃ N, N = m.os.length := ⟨_, rfl⟩
  have HN := Lib.hid hN
  have hN64 : N ≤ 64 := by rw [HN.out]; exact H64.out
  clear hN
  have ls := bk_lt (P7).out.k1
  have c41 := (bk_cell (P7).out.k1 41).trans (mC_41 m)
  go_wp2_with fail
  go_loopw [4] (fun i wr => ∃ (k : Nat) (A : Option Addr) (c : Nat) (ol : List Ov), k ≤ N ∧ i = .int .i64 (k : Int) ∧ Hid (OwnW w wr s m { { mZ m.kind m.code with hops := m.hops, flags := m.flags, life := m.life, reach := m.reach, retr := m.retr } with OA := A, os := ol, oc := c }) ∧ Hid (OO wr (s + 1 + 1 + 1) A c ol) ∧ Hid (ol.length = k ∧ ol.map Ov.pl = (m.os.take k).map fun x => fillO x.pl)) (fun i _ => N - (intOf i).toNat)
  case atStart => exact ⟨0, none, 0, [], by omega, rfl, Lib.hid (P7).out, Lib.hid (OO.nil _ _), Lib.hid ⟨rfl, rfl⟩⟩
  case round =>
    clear ls c41 u0 l1 P7
    obtain ⟨k, A, c, ol, hk, rfl, HP, HO, HL⟩ := hrel
    have ls := bk_lt HP.out.k1
    have c41 := (bk_cell HP.out.k1 41).trans (mC_41 m)
    rw [← HN.out] at c41
    by_cases hlt : k < N
    · have d1 : decide ((k : Int) < (N : Int)) = true := by simp; omega
      have hkl : k < m.os.length := by rw [← HN.out]; exact hlt
      have hovs := (OK.out.os.below HP.out.bl (Nat.le_refl _))
      obtain ⟨g, o, cc, t, fr, hOA, hgl, hka, _, _, hc⟩ := hovs.1.at hkl Ov.row_size
      rw [hOA] at c41
      have hok := hovs.2 _ (List.getElem_mem hkl)
      obtain ⟨x, hx⟩ : ∃ x, x = m.os[k] := ⟨_, rfl⟩
      rw [← hx] at hc hok
      have ce0 : wr.cell? ⟨g, o + k * 2, none⟩ = some (B x.kind) := by have := hc 0 (by omega); simpa [Ov.row] using this
      have ce1 : wr.cell? ⟨g, o + k * 2 + 1, none⟩ = some (.slice x.A x.d.length x.c) := by have := hc 1 (by omega); simpa [Ov.row] using this
      have lgk := bk_lt hka
      obtain ⟨E, hE⟩ : ∃ E, E = (optE x.d).length := ⟨_, rfl⟩
      have hmin : (if (2038 : Int) < (x.d.length : Int) then (2038 : Int) else (x.d.length : Int)) = (E : Int) := by rw [hE]; unfold optE; rw [List.length_take]; split <;> omega
      have hEb : E ≤ 2038 ∧ E ≤ x.d.length := by rw [hE]; exact optE_le x.d
      have hle := hok.le; have hlt63 := hok.lt
      have hEc : E ≤ x.c := by omega
      have HE := Lib.hid hE; have HOK := Lib.hid hok; have HX := Lib.hid hx
      clear hovs hc hok hx hE hka hOA
      go_upto_region 39 with fail
      refine wp_region_later_tail (wr.heap.size) 15 (by kernel_rfl) (by kernel_rfl) ?_
      simp only [List.take_succ_cons, List.take_zero, List.drop_succ_cons, List.drop_zero]
      repeat (go_big_quiet_step ((fail)))
      (first | refine wpQuiet_nil ?_ | (go_big_quiet_want; (try go_big_quiet_op); trace_state; fail))
      intro wq hw'
      have q := later_elim hw'
      clear hw'
      obtain ⟨wo, rfl⟩ : ∃ wo, wo = wr := ⟨_, rfl⟩
      have RE : Hid (Rd wq wq.heap.size x.A (optE x.d)) := Lib.hid ((((HOK.out.rd.mono HP.out.bl.size).below q (Nat.le_refl _)).mono q.size).tk 2038)
      have HXA : Hid (x.A = none → optE x.d = [] ∧ x.c = 0) := Lib.hid fun e => by have := HOK.out.nil e; exact ⟨by unfold optE; rw [this.1]; rfl, this.2⟩
      have ON : Hid (Own wq wo.heap.size (.slice none 0 0) []) := Lib.hid (.inl ⟨rfl, rfl⟩)
      have HLN : Hid (([] : List UInt8).length + (optE x.d).length < 2 ^ 46) := Lib.hid (by rw [← HE.out]; simp only [List.length_nil]; omega)
      refine wpList_app rfl _ _ rfl wo.heap.size (.slice none 0 0) [] (optE x.d) E rfl ON.out x.A x.c (by simp [Act.eval]) HE.out RE.out HXA.out q.size HLN.out E (by rw [List.nil_append, HE.out]) ?_
      intro A6 c6 w6 r1 r2 _
      have B6 := Lib.hid (q.trans (((Below.refl wq.heap.size wq).grown r2 (Nat.le_refl _) (fun k hk => by simp [Value.ownBlock] at hk)).mono q.size))
      have R6 := Lib.hid r1
      rw [List.nil_append] at R6
      clear r1 r2 q ce0 ce1 c41 ls lgk hmin hle hlt63 hEc RE HXA ON HLN
      obtain ⟨T, hT⟩ : ∃ T, T = E + padN x.d := ⟨_, rfl⟩
      have HT := Lib.hid hT
      have hTE : E ≤ T ∧ T ≤ E + 9 := by have := optB_sz x.d; rw [hT, HE.out]; unfold padN; omega
      clear hT
      go_wp2_with fail
      go_loopw [5] (fun v wi => ∃ (Ai : Option Addr) (ni ci : Nat), v = .slice Ai ni ci ∧ E ≤ ni ∧ ni ≤ T ∧ Hid (Own wi wo.heap.size (.slice Ai ni ci) (optE x.d ++ List.replicate (ni - E) 0)) ∧ Hid (Below wo.heap.size wo wi)) (fun v _ => T - slen v)
      case atStart => exact ⟨A6, E, c6, rfl, Nat.le_refl _, hTE.1, Lib.hid (by rw [Nat.sub_self, List.replicate_zero, List.append_nil]; exact R6.out), B6⟩
      case round =>
        clear B6 R6
        obtain ⟨Ai, ni, ci, rfl, hn1, hn2, HOi, HBi⟩ := hrel
        have wn : IntKind.i64.wrap ((ni : Int) + 2) = ((ni + 2 : Nat) : Int) := by rw [IntKind.wrap_i64]; omega
        obtain ⟨r, hr⟩ : ∃ r, r = (ni + 2) % 8 := ⟨_, rfl⟩
        have mr1 : (((ni + 2 : Nat) : Int)).tmod 8 = (r : Int) := by rw [hr, Int.tmod_eq_emod_of_nonneg (by omega)]; omega
        have mr2 : ((ni + 2 : Nat) : Int) % 8 = (r : Int) := by omega
        have mr3 : ((ni : Int) + 2) % 8 = (r : Int) := by omega
        have mr4 : ((ni : Int) + 2).tmod 8 = (r : Int) := by rw [Int.tmod_eq_emod_of_nonneg (by omega)]; exact mr3
        have hrz : (r = 0) = (ni = T) := by
          have h1 := optB_sz x.d
          have h2 := HT.out; have h3 := HE.out
          unfold padN at h2
          rw [eq_iff_iff]
          omega
        have HR := Lib.hid hrz
        clear hr hrz
        by_cases hlt2 : ni < T
        · have nz : ((r : Int) != 0) = true := by rw [bne_iff_ne]; intro e; have h := HR.out ▸ (show r = 0 by omega); omega
          have hBA : Below wr.heap.size wr (wr.alloc (.cells #[.int .u8 0] 5)) := (by (repeat (first | exact Below.refl _ _ | assumption | refine Below.drew ?_ | refine bdrewN ?_ _ | refine Below.alloc ?_ (by first | omega | (simp <;> omega) | (simp only [World.size_alloc] <;> omega)) _ | refine below_setRow ?_ (by first | omega | (simp <;> omega)) _ | refine Below.setCell ?_ (by first | omega | (simp <;> omega)) _)))
          have OA : Hid (Own (wr.alloc (.cells #[.int .u8 0] 5)) wo.heap.size (.slice Ai ni ci) (optE x.d ++ List.replicate (ni - E) 0)) := Lib.hid (HOi.out.turn fun k hk => hBA.block k (HOi.out.lt hk).2)
          have RA : Hid (Rd (wr.alloc (.cells #[.int .u8 0] 5)) (wr.alloc (.cells #[.int .u8 0] 5)).heap.size (some ⟨wr.heap.size, 0, none⟩) [0]) := Lib.hid (Rd.lit wr [0] 5)
          have HA := Lib.hid hBA
          have LA : Hid (wo.heap.size ≤ (wr.alloc (.cells #[.int .u8 0] 5)).heap.size) := Lib.hid (Nat.le_trans HBi.out.size hBA.size)
          have LB : Hid ((optE x.d ++ List.replicate (ni - E) 0).length + [(0 : UInt8)].length < 2 ^ 46) := Lib.hid (by rw [List.length_append, ← HE.out, List.length_replicate]; show _ + 1 < _; omega)
          clear hBA
          go_wp2_with (at_builtin; refine wpList_app rfl _ _ rfl wo.heap.size (.slice Ai ni ci) (optE x.d ++ List.replicate (ni - E) 0) [0] 1 rfl OA.out (some ⟨wr.heap.size, 0, none⟩) 1 rfl rfl RA.out (fun e => by cases e) LA.out LB.out (ni + 1) (by rw [List.length_append, List.length_append, ← HE.out, List.length_replicate]; show E + (ni - E) + 1 = ni + 1; omega) ?_)
          intro A7 c7 w7 r1 r2 _
          have e7 : List.replicate (ni - E) (0 : UInt8) ++ [0] = List.replicate (ni + 1 - E) 0 := by rw [← List.replicate_succ', show ni - E + 1 = ni + 1 - E by omega]
          have O7 : Hid (Own w7 wo.heap.size (.slice A7 (ni + 1) c7) (optE x.d ++ List.replicate (ni + 1 - E) 0)) := Lib.hid (by rw [e7] at r1; exact r1)
          have B7 : Hid (Below wo.heap.size wo w7) := Lib.hid (HBi.out.trans ((HA.out.mono HBi.out.size).trans ((Below.refl _ _).grown r2 LA.out fun k hk => (OA.out.lt hk).1)))
          clear r1 r2 e7 OA RA HA LA LB HOi HBi wn mr1 mr2 mr3 mr4 nz HR
          go_wp2_with fail
          go_roundw
          case rel => exact ⟨A7, ni + 1, c7, rfl, by omega, by omega, O7, B7⟩
          case measure => simp [slen]; omega
        · obtain rfl : ni = T := by omega
          have hr0 : r = 0 := by rw [HR.out]
          rw [hr0] at mr1 mr2 mr3 mr4
          rw [show ((0 : Nat) : Int) = 0 from rfl] at mr1 mr2 mr3 mr4
          clear hr0
          have hx : m.os[k]'(by rw [← HN.out]; exact hlt) = x := HX.out.symm
          obtain ⟨DD, hDD⟩ : ∃ D, D = optE x.d ++ List.replicate (ni - E) 0 := ⟨_, rfl⟩
          have hDl : DD.length = ni := by rw [hDD, List.length_append, ← HE.out, List.length_replicate]; omega
          have hDf : (x.kind, DD) = fillO x.pl := by
            have h := HT.out
            unfold padN at h
            show _ = (x.kind, optE x.d ++ List.replicate (optM x.d * 8 - 2 - (optE x.d).length) 0)
            rw [hDD]
            congr 3
            omega
          rw [← hDD] at HOi
          have hOD := HOi.out
          rw [← hDl] at hOD
          have hov := hOD.ov x.kind
          have HPi := Lib.hid (HP.out.below HBi.out)
          have BD : Hid (Below wr.heap.size wr (wr.drew.alloc (.cells #[B x.kind, .slice Ai ni ci] 97))) := Lib.hid (by (repeat (first | exact Below.refl _ _ | assumption | refine Below.drew ?_ | refine bdrewN ?_ _ | refine Below.alloc ?_ (by first | omega | (simp <;> omega) | (simp only [World.size_alloc] <;> omega)) _ | refine below_setRow ?_ (by first | omega | (simp <;> omega)) _ | refine Below.setCell ?_ (by first | omega | (simp <;> omega)) _)))
          have HOa : Hid ((wr.drew.alloc (.cells #[B x.kind, .slice Ai ni ci] 97)).ownsRow (s + 1 + 1 + 1) 97 2 (.slice A ol.length c) ol.length (ovF ol)) := Lib.hid ((HO.out.below HBi.out).below BD.out).row
          have HCa : Hid (∀ j u, ([B x.kind, .slice Ai ni ci] : List Value)[j]? = some u → (wr.drew.alloc (.cells #[B x.kind, .slice Ai ni ci] 97)).cell? ⟨wr.heap.size, j, none⟩ = some u) := Lib.hid fun j u hu => by
            show (wr.drew.alloc (.cells #[B x.kind, .slice Ai ni ci] 97)).cell? ⟨wr.drew.heap.size, j, none⟩ = some u
            rw [bk_cell (bk_alloc_at wr.drew (.cells #[B x.kind, .slice Ai ni ci] 97) _ rfl), List.getElem?_toArray]
            exact hu
          have H1a : Hid (∀ u ∈ ([B x.kind, .slice Ai ni ci] : List Value), u.oneCell' = true) := Lib.hid (by intro u hu; rcases List.mem_cons.1 hu with rfl | hu; rfl; have := List.mem_singleton.1 hu; subst this; rfl)
          have hsz3 : s + 1 + 1 + 1 ≤ wo.heap.size := by have := bk_lt HP.out.k3; omega
          have HMa : Hid (s + 1 + 1 + 1 ≤ (wr.drew.alloc (.cells #[B x.kind, .slice Ai ni ci] 97)).heap.size) := Lib.hid (by have := HBi.out.size; have := BD.out.size; omega)
          have HKa : Hid (ol.length < 2 ^ 30) := Lib.hid (by rw [HL.out.1]; have := HN.out; have := H64.out; omega)
          have FW : Hid (∀ w6, (wr.drew.alloc (.cells #[B x.kind, .slice Ai ni ci] 97)).grownBy w6 (Value.slice A ol.length c).ownBlock → OwnW w w6 s m { { mZ m.kind m.code with hops := m.hops, flags := m.flags, life := m.life, reach := m.reach, retr := m.retr } with OA := A, os := ol, oc := c } ∧ w6.cell? ⟨s + 1 + 1, 41, none⟩ = some (.slice A ol.length c) ∧ w6.frozen? ⟨s + 1 + 1, 41, none⟩ = false ∧ s + 1 + 1 < w6.heap.size) := Lib.hid fun w6 hg => by
            have t : Tn (fun j => (Value.slice A ol.length c).ownBlock = some j) (wr.drew.alloc (.cells #[B x.kind, .slice Ai ni ci] 97)) w6 := Tn.grown hg fun j e => e
            have p := (HPi.out.below BD.out).turn t fun j e => by have := (HOa.out.lt j e).1; omega
            exact ⟨p, (bk_cell p.k3 41).trans (mC_41 _), bk_frozen p.k3 41, bk_lt p.k3⟩
          have SN : Hid (∀ A6 c6 w6, w6.ownsRow (s + 1 + 1 + 1) 97 2 (.slice A6 (ol.length + 1) c6) (ol.length + 1) (ovF ol ++ [B x.kind, .slice Ai ni ci]) → (wr.drew.alloc (.cells #[B x.kind, .slice Ai ni ci] 97)).grownBy w6 (Value.slice A ol.length c).ownBlock → ((Value.slice A6 (ol.length + 1) c6).ownBlock = (Value.slice A ol.length c).ownBlock ∨ (Value.slice A6 (ol.length + 1) c6).ownBlock = some (wr.drew.alloc (.cells #[B x.kind, .slice Ai ni ci] 97)).heap.size) →
              OO w6 (s + 1 + 1 + 1) A6 c6 (ol ++ [⟨x.kind, Ai, DD, ci⟩])) := Lib.hid fun A6 c6 w6 h1 h2 h3 => by
            have er : (⟨x.kind, Ai, DD, ci⟩ : Ov).row.toList = [B x.kind, .slice Ai ni ci] := by rw [← hDl]; rfl
            exact HO.out.snoc (HBi.out.trans (BD.out.mono HBi.out.size)) ((hov.1.below BD.out (Nat.le_refl _)).mono BD.out.size) (fun a e => ⟨(hov.2 a e).1, Nat.lt_of_lt_of_le (hov.2 a e).2.1 BD.out.size, by obtain ⟨cur, hc⟩ := (hov.2 a e).2.2; exact ⟨cur, bk_keep BD.out (bk_lt hc) hc⟩⟩) hsz3 (by rw [er]; exact h1) h2 h3
          have HLX : Hid ((ol ++ [(⟨x.kind, Ai, DD, ci⟩ : Ov)]).length = k + 1 ∧ (ol ++ [(⟨x.kind, Ai, DD, ci⟩ : Ov)]).map Ov.pl = (m.os.take (k + 1)).map fun x => fillO x.pl) := Lib.hid ⟨by rw [List.length_append, HL.out.1]; rfl, by
            rw [List.take_succ_eq_append_getElem (by rw [← HN.out]; exact hlt), List.map_append, List.map_append, HL.out.2, hx, List.map_cons, List.map_nil, List.map_cons, List.map_nil, ← hDf]
            rfl⟩
          have hovs := (OK.out.os.below HPi.out.bl (Nat.le_refl _))
          obtain ⟨g', o', cc', t', fr', hOA', hgl', hka', _, _, hc'⟩ := hovs.1.at (show k < m.os.length by rw [← HN.out]; exact hlt) Ov.row_size
          rw [hx] at hc'
          have ce0 : wr.cell? ⟨g', o' + k * 2, none⟩ = some (B x.kind) := by have := hc' 0 (by omega); simpa [Ov.row] using this
          have c41 := (bk_cell HPi.out.k1 41).trans (mC_41 m)
          rw [← HN.out, hOA'] at c41
          have c341 : wr.cell? ⟨s + 1 + 1, 41, none⟩ = some (.slice A ol.length c) := (bk_cell HPi.out.k3 41).trans (mC_41 _)
          have ls := bk_lt HPi.out.k1; have ls3 := bk_lt HPi.out.k3; have lgk := bk_lt hka'
          have kD41 : wr.drew.cell? ⟨s, 41, none⟩ = some (.slice (some ⟨g', o', none⟩) N m.oc) := c41
          have kD0 : wr.drew.cell? ⟨g', o' + k * 2, none⟩ = some (B x.kind) := ce0
          have kD3 : wr.drew.cell? ⟨s + 1 + 1, 41, none⟩ = some (.slice A ol.length c) := c341
          clear hx hDD hDl hDf hOD hov hovs hc' hOA' hka' HR HOi HBi HP HO HPi HL hsz3
          go_upto_region 42 with fail
          clear wn mr1 mr2 mr3 mr4
          go_region_law (refine step_app1 appO rfl (.tmp 121) (.tmp 130) rfl (s + 1 + 1 + 1) (.slice A ol.length c) ol.length (ovF ol) (by simp [Act.eval]) HOa.out wr.heap.size 1 (by simp [Act.eval]) [B x.kind, .slice Ai ni ci] rfl HCa.out H1a.out HMa.out HKa.out ?_; intro A6 c6 w6 ho6 hg6 hc6 hq6; obtain ⟨p6, c36, f36, l36⟩ := FW.out w6 hg6; have P6 := Lib.hid p6; have O6 := Lib.hid (SN.out A6 c6 w6 ho6 hg6 hq6); clear ho6 hg6 hc6 hq6 p6)
          all_goals
            have P7 : Hid (OwnW w (w6.setCell ⟨s + 1 + 1, 41, none⟩ (.slice A6 (ol.length + 1) c6)) s m { { mZ m.kind m.code with hops := m.hops, flags := m.flags, life := m.life, reach := m.reach, retr := m.retr } with OA := A6, os := ol ++ [⟨x.kind, Ai, DD, ci⟩], oc := c6 }) := Lib.hid (P6.out.set (by
              have h := sM41 { { mZ m.kind m.code with hops := m.hops, flags := m.flags, life := m.life, reach := m.reach, retr := m.retr } with OA := A, os := ol, oc := c } A6 (ol ++ [⟨x.kind, Ai, DD, ci⟩]) c6
              rw [List.length_append] at h
              exact h))
            have O7 := Lib.hid (O6.out.turnBelow (((Tn.refl (fun j => j = s + 1 + 1) w6).set (i := 41) (v := .slice A6 (ol.length + 1) c6) (.inl rfl))) fun j e => by omega)
            clear P6 O6 c36 f36 l36 FW SN HOa HCa H1a HMa HKa BD c41 c341 ce0 kD41 kD0 kD3
            go_wp2_with fail
            go_roundw
            case rel => exact ⟨k + 1, A6, c6, ol ++ [⟨x.kind, Ai, DD, ci⟩], by omega, by go_num, P7, O7, HLX⟩
            case measure => simp [intOf]; omega
    · obtain rfl : k = N := by omega
      have d1 : decide ((k : Int) < (k : Int)) = false := by simp
      have hall : ol.map Ov.pl = m.pl.opts.map fillO := by
        have h := HL.out.2
        rw [HN.out, List.take_length] at h
        rw [h]
        show _ = (m.os.map Ov.pl).map fillO
        rw [List.map_map]
        rfl
      have FX := Lib.hid (own_finO (n0 := n0) HP.out HO.out (own_pl134 HK.out hall) ⟨rfl, rfl, rfl⟩ ⟨rfl, rfl, rfl⟩ ⟨rfl, rfl, rfl⟩ (⟨zero_bs.1, OK.out.b2, OK.out.b3, OK.out.b4, zero_bs.2⟩))
      have kf := own_cell2 HP.out
      have ut := HP.out.k3
      have ur := HP.out.k2
      have lt := bk_lt ut
      have lr := bk_lt ur
      have sz := fun m => mC_size m
      have so := fun m => mC_ones m
      clear hall HL HO
      go_wp2_with fail
      exact bodyPost_ret (results_cell_row rfl _ _ (s + 1) 33 (mC _) (0, 0) _ rfl kf Try.underlying33 rfl (by rw [mC_size]; kernel_rfl)) rfl FX.out
theorem own135 (m : Mv) (w : World) (n0 : Nat) (hn0 : n0 ≤ w.heap.size) (hok : MvOk w n0 m) (hk : m.kind = 135) (h64 : m.os.length ≤ 64) : Calls Try.prog 24 #[.agg (mC m)] w fun e w' => OwnR m n0 e w w' := by
  have H64 := Lib.hid h64
  clear h64
  have OK := Lib.hid (hok.mono hn0); have OK0 := Lib.hid hok; have HK := Lib.hid hk; have HN0 := Lib.hid hn0
  clear hok hk hn0
  go_enter Try.func24, Try.ntmps24
  go_upto_region 1 with fail
  obtain ⟨s, hs⟩ : ∃ s, s = w.heap.size := ⟨_, rfl⟩
  generalize hW : World.alloc (World.alloc w _) _ = W
  have a1 : bk W s = some (.cells (mC m) 33 (0, 0)) := by rw [← hW, hs, bk_alloc_past _ _ _ (by simp)]; exact bk_alloc_at _ _ _ rfl
  have a2 : bk W (s + 1) = some (.cells (mC (mZ 0 0)) 33 (0, 0)) := by rw [← hW, hs]; exact (bk_alloc_at _ _ _ (by simp)).trans (by kernel_rfl)
  have b1 : Below w.heap.size w W := by rw [← hW]; exact (by (repeat (first | exact Below.refl _ _ | assumption | refine Below.drew ?_ | refine bdrewN ?_ _ | refine Below.alloc ?_ (by first | omega | (simp <;> omega) | (simp only [World.size_alloc] <;> omega)) _ | refine below_setRow ?_ (by first | omega | (simp <;> omega)) _ | refine Below.setCell ?_ (by first | omega | (simp <;> omega)) _)))
  have z1 : W.heap.size = s + 1 + 1 := by rw [← hW, hs]; simp
  have u0 := (bk_cell a1 0).trans (mC_0 m)
  have u1 := (bk_cell a1 1).trans (mC_1 m)
  have l1 := bk_lt a1
  have A := Lib.hid (And.intro a1 (And.intro a2 (And.intro b1 z1))); have HS := Lib.hid hs; have HZ := Lib.hid z1
  rw [← hs]
  clear a1 a2 b1 z1 hW hs
  go_upto_region 2 with fail
  rw [HZ.out]
  clear u0 l1
  generalize hW : World.alloc W _ = W2
  have P : Hid (OwnW w W2 s m (mZ m.kind m.code)) := Lib.hid (by
    obtain ⟨a1, a2, b1, z1⟩ := A.out
    rw [← hW]
    have b2 : Below W.heap.size W (W.alloc (.cells (mC (mZ m.kind m.code)) 33)) := (by (repeat (first | exact Below.refl _ _ | assumption | refine Below.drew ?_ | refine bdrewN ?_ _ | refine Below.alloc ?_ (by first | omega | (simp <;> omega) | (simp only [World.size_alloc] <;> omega)) _ | refine below_setRow ?_ (by first | omega | (simp <;> omega)) _ | refine Below.setCell ?_ (by first | omega | (simp <;> omega)) _)))
    exact ⟨b1.trans (b2.mono b1.size), bk_keep b2 (bk_lt a1) a1, bk_keep b2 (bk_lt a2) a2, bk_alloc_at _ _ _ z1.symm, HS.out⟩)
  have u0 : W2.cell? ⟨s, 0, none⟩ = some (.int .u8 135) := by rw [bk_cell P.out.k1, mC_0, HK.out]; rfl
  have l1 := bk_lt P.out.k1
  clear u1 hW A HZ
  have us := (P).out.k1
  have ut := (P).out.k3
  have lt := bk_lt (P).out.k3
  have xs := mC_x9 m
  have sz := mC_size m
  go_upto_region 33 with fail
  refine (stAdrI _ _ _ _ _ _ _ _ _ _ _).mp ?_
  rw [stAdrP]
  show stAny _ 16 W2 (s + 1 + 1) 9 (List.map B m.tgt).toArray _ (bk W2 (s + 1 + 1))
  rw [ut, stAny_part _ _ _ _ _ _ _ _ _ (by rw [mC_size]; decide) (by rw [mC_size]; decide) (by simp [m.ht]) (by simp only [ones_map])]
  have P3 := Lib.hid ((P).out.part (j := 9) (z := m.tgt) (sM9 _ _ m.ht))
  generalize World.setRow W2 (s + 1 + 1) _ = W3 at *
  go_upto_region 33 with fail
  clear us ut lt xs sz
  replace u0 := (cell_of_bk ((P3).out.k1.trans (P).out.k1.symm) 0).trans u0
  replace l1 := bk_lt (P3).out.k1
  clear P
  obtain ⟨N, hN⟩ : ∃ N, N = m.os.length := ⟨_, rfl⟩
  have HN := Lib.hid hN
  have hN64 : N ≤ 64 := by rw [HN.out]; exact H64.out
  clear hN
  have ls := bk_lt (P3).out.k1
  have c41 := (bk_cell (P3).out.k1 41).trans (mC_41 m)
  go_wp2_with fail
  go_loopw [4] (fun i wr => ∃ (k : Nat) (A : Option Addr) (c : Nat) (ol : List Ov), k ≤ N ∧ i = .int .i64 (k : Int) ∧ Hid (OwnW w wr s m { { mZ m.kind m.code with tgt := m.tgt, ht := m.ht } with OA := A, os := ol, oc := c }) ∧ Hid (OO wr (s + 1 + 1 + 1) A c ol) ∧ Hid (ol.length = k ∧ ol.map Ov.pl = (m.os.take k).map fun x => fillO x.pl)) (fun i _ => N - (intOf i).toNat)
  case atStart => exact ⟨0, none, 0, [], by omega, rfl, Lib.hid (P3).out, Lib.hid (OO.nil _ _), Lib.hid ⟨rfl, rfl⟩⟩
  case round =>
    clear ls c41 u0 l1 P3
    obtain ⟨k, A, c, ol, hk, rfl, HP, HO, HL⟩ := hrel
    have ls := bk_lt HP.out.k1
    have c41 := (bk_cell HP.out.k1 41).trans (mC_41 m)
    rw [← HN.out] at c41
    by_cases hlt : k < N
    · have d1 : decide ((k : Int) < (N : Int)) = true := by simp; omega
      have hkl : k < m.os.length := by rw [← HN.out]; exact hlt
      have hovs := (OK.out.os.below HP.out.bl (Nat.le_refl _))
      obtain ⟨g, o, cc, t, fr, hOA, hgl, hka, _, _, hc⟩ := hovs.1.at hkl Ov.row_size
      rw [hOA] at c41
      have hok := hovs.2 _ (List.getElem_mem hkl)
      obtain ⟨x, hx⟩ : ∃ x, x = m.os[k] := ⟨_, rfl⟩
      rw [← hx] at hc hok
      have ce0 : wr.cell? ⟨g, o + k * 2, none⟩ = some (B x.kind) := by have := hc 0 (by omega); simpa [Ov.row] using this
      have ce1 : wr.cell? ⟨g, o + k * 2 + 1, none⟩ = some (.slice x.A x.d.length x.c) := by have := hc 1 (by omega); simpa [Ov.row] using this
      have lgk := bk_lt hka
      obtain ⟨E, hE⟩ : ∃ E, E = (optE x.d).length := ⟨_, rfl⟩
      have hmin : (if (2038 : Int) < (x.d.length : Int) then (2038 : Int) else (x.d.length : Int)) = (E : Int) := by rw [hE]; unfold optE; rw [List.length_take]; split <;> omega
      have hEb : E ≤ 2038 ∧ E ≤ x.d.length := by rw [hE]; exact optE_le x.d
      have hle := hok.le; have hlt63 := hok.lt
      have hEc : E ≤ x.c := by omega
      have HE := Lib.hid hE; have HOK := Lib.hid hok; have HX := Lib.hid hx
      clear hovs hc hok hx hE hka hOA
      go_upto_region 39 with fail
      refine wp_region_later_tail (wr.heap.size) 15 (by kernel_rfl) (by kernel_rfl) ?_
      simp only [List.take_succ_cons, List.take_zero, List.drop_succ_cons, List.drop_zero]
      repeat (go_big_quiet_step ((fail)))
      (first | refine wpQuiet_nil ?_ | (go_big_quiet_want; (try go_big_quiet_op); trace_state; fail))
      intro wq hw'
      have q := later_elim hw'
      clear hw'
      obtain ⟨wo, rfl⟩ : ∃ wo, wo = wr := ⟨_, rfl⟩
      have RE : Hid (Rd wq wq.heap.size x.A (optE x.d)) := Lib.hid ((((HOK.out.rd.mono HP.out.bl.size).below q (Nat.le_refl _)).mono q.size).tk 2038)
      have HXA : Hid (x.A = none → optE x.d = [] ∧ x.c = 0) := Lib.hid fun e => by have := HOK.out.nil e; exact ⟨by unfold optE; rw [this.1]; rfl, this.2⟩
      have ON : Hid (Own wq wo.heap.size (.slice none 0 0) []) := Lib.hid (.inl ⟨rfl, rfl⟩)
      have HLN : Hid (([] : List UInt8).length + (optE x.d).length < 2 ^ 46) := Lib.hid (by rw [← HE.out]; simp only [List.length_nil]; omega)
      refine wpList_app rfl _ _ rfl wo.heap.size (.slice none 0 0) [] (optE x.d) E rfl ON.out x.A x.c (by simp [Act.eval]) HE.out RE.out HXA.out q.size HLN.out E (by rw [List.nil_append, HE.out]) ?_
      intro A6 c6 w6 r1 r2 _
      have B6 := Lib.hid (q.trans (((Below.refl wq.heap.size wq).grown r2 (Nat.le_refl _) (fun k hk => by simp [Value.ownBlock] at hk)).mono q.size))
      have R6 := Lib.hid r1
      rw [List.nil_append] at R6
      clear r1 r2 q ce0 ce1 c41 ls lgk hmin hle hlt63 hEc RE HXA ON HLN
      obtain ⟨T, hT⟩ : ∃ T, T = E + padN x.d := ⟨_, rfl⟩
      have HT := Lib.hid hT
      have hTE : E ≤ T ∧ T ≤ E + 9 := by have := optB_sz x.d; rw [hT, HE.out]; unfold padN; omega
      clear hT
      go_wp2_with fail
      go_loopw [5] (fun v wi => ∃ (Ai : Option Addr) (ni ci : Nat), v = .slice Ai ni ci ∧ E ≤ ni ∧ ni ≤ T ∧ Hid (Own wi wo.heap.size (.slice Ai ni ci) (optE x.d ++ List.replicate (ni - E) 0)) ∧ Hid (Below wo.heap.size wo wi)) (fun v _ => T - slen v)
      case atStart => exact ⟨A6, E, c6, rfl, Nat.le_refl _, hTE.1, Lib.hid (by rw [Nat.sub_self, List.replicate_zero, List.append_nil]; exact R6.out), B6⟩
      case round =>
        clear B6 R6
        obtain ⟨Ai, ni, ci, rfl, hn1, hn2, HOi, HBi⟩ := hrel
        have wn : IntKind.i64.wrap ((ni : Int) + 2) = ((ni + 2 : Nat) : Int) := by rw [IntKind.wrap_i64]; omega
        obtain ⟨r, hr⟩ : ∃ r, r = (ni + 2) % 8 := ⟨_, rfl⟩
        have mr1 : (((ni + 2 : Nat) : Int)).tmod 8 = (r : Int) := by rw [hr, Int.tmod_eq_emod_of_nonneg (by omega)]; omega
        have mr2 : ((ni + 2 : Nat) : Int) % 8 = (r : Int) := by omega
        have mr3 : ((ni : Int) + 2) % 8 = (r : Int) := by omega
        have mr4 : ((ni : Int) + 2).tmod 8 = (r : Int) := by rw [Int.tmod_eq_emod_of_nonneg (by omega)]; exact mr3
        have hrz : (r = 0) = (ni = T) := by
          have h1 := optB_sz x.d
          have h2 := HT.out; have h3 := HE.out
          unfold padN at h2
          rw [eq_iff_iff]
          omega
        have HR := Lib.hid hrz
        clear hr hrz
        by_cases hlt2 : ni < T
        · have nz : ((r : Int) != 0) = true := by rw [bne_iff_ne]; intro e; have h := HR.out ▸ (show r = 0 by omega); omega
          have hBA : Below wr.heap.size wr (wr.alloc (.cells #[.int .u8 0] 5)) := (by (repeat (first | exact Below.refl _ _ | assumption | refine Below.drew ?_ | refine bdrewN ?_ _ | refine Below.alloc ?_ (by first | omega | (simp <;> omega) | (simp only [World.size_alloc] <;> omega)) _ | refine below_setRow ?_ (by first | omega | (simp <;> omega)) _ | refine Below.setCell ?_ (by first | omega | (simp <;> omega)) _)))
          have OA : Hid (Own (wr.alloc (.cells #[.int .u8 0] 5)) wo.heap.size (.slice Ai ni ci) (optE x.d ++ List.replicate (ni - E) 0)) := Lib.hid (HOi.out.turn fun k hk => hBA.block k (HOi.out.lt hk).2)
          have RA : Hid (Rd (wr.alloc (.cells #[.int .u8 0] 5)) (wr.alloc (.cells #[.int .u8 0] 5)).heap.size (some ⟨wr.heap.size, 0, none⟩) [0]) := Lib.hid (Rd.lit wr [0] 5)
          have HA := Lib.hid hBA
          have LA : Hid (wo.heap.size ≤ (wr.alloc (.cells #[.int .u8 0] 5)).heap.size) := Lib.hid (Nat.le_trans HBi.out.size hBA.size)
          have LB : Hid ((optE x.d ++ List.replicate (ni - E) 0).length + [(0 : UInt8)].length < 2 ^ 46) := Lib.hid (by rw [List.length_append, ← HE.out, List.length_replicate]; show _ + 1 < _; omega)
          clear hBA
          go_wp2_with (at_builtin; refine wpList_app rfl _ _ rfl wo.heap.size (.slice Ai ni ci) (optE x.d ++ List.replicate (ni - E) 0) [0] 1 rfl OA.out (some ⟨wr.heap.size, 0, none⟩) 1 rfl rfl RA.out (fun e => by cases e) LA.out LB.out (ni + 1) (by rw [List.length_append, List.length_append, ← HE.out, List.length_replicate]; show E + (ni - E) + 1 = ni + 1; omega) ?_)
          intro A7 c7 w7 r1 r2 _
          have e7 : List.replicate (ni - E) (0 : UInt8) ++ [0] = List.replicate (ni + 1 - E) 0 := by rw [← List.replicate_succ', show ni - E + 1 = ni + 1 - E by omega]
          have O7 : Hid (Own w7 wo.heap.size (.slice A7 (ni + 1) c7) (optE x.d ++ List.replicate (ni + 1 - E) 0)) := Lib.hid (by rw [e7] at r1; exact r1)
          have B7 : Hid (Below wo.heap.size wo w7) := Lib.hid (HBi.out.trans ((HA.out.mono HBi.out.size).trans ((Below.refl _ _).grown r2 LA.out fun k hk => (OA.out.lt hk).1)))
          clear r1 r2 e7 OA RA HA LA LB HOi HBi wn mr1 mr2 mr3 mr4 nz HR
          go_wp2_with fail
          go_roundw
          case rel => exact ⟨A7, ni + 1, c7, rfl, by omega, by omega, O7, B7⟩
          case measure => simp [slen]; omega
        · obtain rfl : ni = T := by omega
          have hr0 : r = 0 := by rw [HR.out]
          rw [hr0] at mr1 mr2 mr3 mr4
          rw [show ((0 : Nat) : Int) = 0 from rfl] at mr1 mr2 mr3 mr4
          clear hr0
          have hx : m.os[k]'(by rw [← HN.out]; exact hlt) = x := HX.out.symm
          obtain ⟨DD, hDD⟩ : ∃ D, D = optE x.d ++ List.replicate (ni - E) 0 := ⟨_, rfl⟩
          have hDl : DD.length = ni := by rw [hDD, List.length_append, ← HE.out, List.length_replicate]; omega
          have hDf : (x.kind, DD) = fillO x.pl := by
            have h := HT.out
            unfold padN at h
            show _ = (x.kind, optE x.d ++ List.replicate (optM x.d * 8 - 2 - (optE x.d).length) 0)
            rw [hDD]
            congr 3
            omega
          rw [← hDD] at HOi
          have hOD := HOi.out
          rw [← hDl] at hOD
          have hov := hOD.ov x.kind
          have HPi := Lib.hid (HP.out.below HBi.out)
          have BD : Hid (Below wr.heap.size wr (wr.drew.alloc (.cells #[B x.kind, .slice Ai ni ci] 97))) := Lib.hid (by (repeat (first | exact Below.refl _ _ | assumption | refine Below.drew ?_ | refine bdrewN ?_ _ | refine Below.alloc ?_ (by first | omega | (simp <;> omega) | (simp only [World.size_alloc] <;> omega)) _ | refine below_setRow ?_ (by first | omega | (simp <;> omega)) _ | refine Below.setCell ?_ (by first | omega | (simp <;> omega)) _)))
          have HOa : Hid ((wr.drew.alloc (.cells #[B x.kind, .slice Ai ni ci] 97)).ownsRow (s + 1 + 1 + 1) 97 2 (.slice A ol.length c) ol.length (ovF ol)) := Lib.hid ((HO.out.below HBi.out).below BD.out).row
          have HCa : Hid (∀ j u, ([B x.kind, .slice Ai ni ci] : List Value)[j]? = some u → (wr.drew.alloc (.cells #[B x.kind, .slice Ai ni ci] 97)).cell? ⟨wr.heap.size, j, none⟩ = some u) := Lib.hid fun j u hu => by
            show (wr.drew.alloc (.cells #[B x.kind, .slice Ai ni ci] 97)).cell? ⟨wr.drew.heap.size, j, none⟩ = some u
            rw [bk_cell (bk_alloc_at wr.drew (.cells #[B x.kind, .slice Ai ni ci] 97) _ rfl), List.getElem?_toArray]
            exact hu
          have H1a : Hid (∀ u ∈ ([B x.kind, .slice Ai ni ci] : List Value), u.oneCell' = true) := Lib.hid (by intro u hu; rcases List.mem_cons.1 hu with rfl | hu; rfl; have := List.mem_singleton.1 hu; subst this; rfl)
          have hsz3 : s + 1 + 1 + 1 ≤ wo.heap.size := by have := bk_lt HP.out.k3; omega
          have HMa : Hid (s + 1 + 1 + 1 ≤ (wr.drew.alloc (.cells #[B x.kind, .slice Ai ni ci] 97)).heap.size) := Lib.hid (by have := HBi.out.size; have := BD.out.size; omega)
          have HKa : Hid (ol.length < 2 ^ 30) := Lib.hid (by rw [HL.out.1]; have := HN.out; have := H64.out; omega)
          have FW : Hid (∀ w6, (wr.drew.alloc (.cells #[B x.kind, .slice Ai ni ci] 97)).grownBy w6 (Value.slice A ol.length c).ownBlock → OwnW w w6 s m { { mZ m.kind m.code with tgt := m.tgt, ht := m.ht } with OA := A, os := ol, oc := c } ∧ w6.cell? ⟨s + 1 + 1, 41, none⟩ = some (.slice A ol.length c) ∧ w6.frozen? ⟨s + 1 + 1, 41, none⟩ = false ∧ s + 1 + 1 < w6.heap.size) := Lib.hid fun w6 hg => by
            have t : Tn (fun j => (Value.slice A ol.length c).ownBlock = some j) (wr.drew.alloc (.cells #[B x.kind, .slice Ai ni ci] 97)) w6 := Tn.grown hg fun j e => e
            have p := (HPi.out.below BD.out).turn t fun j e => by have := (HOa.out.lt j e).1; omega
            exact ⟨p, (bk_cell p.k3 41).trans (mC_41 _), bk_frozen p.k3 41, bk_lt p.k3⟩
          have SN : Hid (∀ A6 c6 w6, w6.ownsRow (s + 1 + 1 + 1) 97 2 (.slice A6 (ol.length + 1) c6) (ol.length + 1) (ovF ol ++ [B x.kind, .slice Ai ni ci]) → (wr.drew.alloc (.cells #[B x.kind, .slice Ai ni ci] 97)).grownBy w6 (Value.slice A ol.length c).ownBlock → ((Value.slice A6 (ol.length + 1) c6).ownBlock = (Value.slice A ol.length c).ownBlock ∨ (Value.slice A6 (ol.length + 1) c6).ownBlock = some (wr.drew.alloc (.cells #[B x.kind, .slice Ai ni ci] 97)).heap.size) →
              OO w6 (s + 1 + 1 + 1) A6 c6 (ol ++ [⟨x.kind, Ai, DD, ci⟩])) := Lib.hid fun A6 c6 w6 h1 h2 h3 => by
            have er : (⟨x.kind, Ai, DD, ci⟩ : Ov).row.toList = [B x.kind, .slice Ai ni ci] := by rw [← hDl]; rfl
            exact HO.out.snoc (HBi.out.trans (BD.out.mono HBi.out.size)) ((hov.1.below BD.out (Nat.le_refl _)).mono BD.out.size) (fun a e => ⟨(hov.2 a e).1, Nat.lt_of_lt_of_le (hov.2 a e).2.1 BD.out.size, by obtain ⟨cur, hc⟩ := (hov.2 a e).2.2; exact ⟨cur, bk_keep BD.out (bk_lt hc) hc⟩⟩) hsz3 (by rw [er]; exact h1) h2 h3
          have HLX : Hid ((ol ++ [(⟨x.kind, Ai, DD, ci⟩ : Ov)]).length = k + 1 ∧ (ol ++ [(⟨x.kind, Ai, DD, ci⟩ : Ov)]).map Ov.pl = (m.os.take (k + 1)).map fun x => fillO x.pl) := Lib.hid ⟨by rw [List.length_append, HL.out.1]; rfl, by
            rw [List.take_succ_eq_append_getElem (by rw [← HN.out]; exact hlt), List.map_append, List.map_append, HL.out.2, hx, List.map_cons, List.map_nil, List.map_cons, List.map_nil, ← hDf]
            rfl⟩
          have hovs := (OK.out.os.below HPi.out.bl (Nat.le_refl _))
          obtain ⟨g', o', cc', t', fr', hOA', hgl', hka', _, _, hc'⟩ := hovs.1.at (show k < m.os.length by rw [← HN.out]; exact hlt) Ov.row_size
          rw [hx] at hc'
          have ce0 : wr.cell? ⟨g', o' + k * 2, none⟩ = some (B x.kind) := by have := hc' 0 (by omega); simpa [Ov.row] using this
          have c41 := (bk_cell HPi.out.k1 41).trans (mC_41 m)
          rw [← HN.out, hOA'] at c41
          have c341 : wr.cell? ⟨s + 1 + 1, 41, none⟩ = some (.slice A ol.length c) := (bk_cell HPi.out.k3 41).trans (mC_41 _)
          have ls := bk_lt HPi.out.k1; have ls3 := bk_lt HPi.out.k3; have lgk := bk_lt hka'
          have kD41 : wr.drew.cell? ⟨s, 41, none⟩ = some (.slice (some ⟨g', o', none⟩) N m.oc) := c41
          have kD0 : wr.drew.cell? ⟨g', o' + k * 2, none⟩ = some (B x.kind) := ce0
          have kD3 : wr.drew.cell? ⟨s + 1 + 1, 41, none⟩ = some (.slice A ol.length c) := c341
          clear hx hDD hDl hDf hOD hov hovs hc' hOA' hka' HR HOi HBi HP HO HPi HL hsz3
          go_upto_region 42 with fail
          clear wn mr1 mr2 mr3 mr4
          go_region_law (refine step_app1 appO rfl (.tmp 121) (.tmp 130) rfl (s + 1 + 1 + 1) (.slice A ol.length c) ol.length (ovF ol) (by simp [Act.eval]) HOa.out wr.heap.size 1 (by simp [Act.eval]) [B x.kind, .slice Ai ni ci] rfl HCa.out H1a.out HMa.out HKa.out ?_; intro A6 c6 w6 ho6 hg6 hc6 hq6; obtain ⟨p6, c36, f36, l36⟩ := FW.out w6 hg6; have P6 := Lib.hid p6; have O6 := Lib.hid (SN.out A6 c6 w6 ho6 hg6 hq6); clear ho6 hg6 hc6 hq6 p6)
          all_goals
            have P7 : Hid (OwnW w (w6.setCell ⟨s + 1 + 1, 41, none⟩ (.slice A6 (ol.length + 1) c6)) s m { { mZ m.kind m.code with tgt := m.tgt, ht := m.ht } with OA := A6, os := ol ++ [⟨x.kind, Ai, DD, ci⟩], oc := c6 }) := Lib.hid (P6.out.set (by
              have h := sM41 { { mZ m.kind m.code with tgt := m.tgt, ht := m.ht } with OA := A, os := ol, oc := c } A6 (ol ++ [⟨x.kind, Ai, DD, ci⟩]) c6
              rw [List.length_append] at h
              exact h))
            have O7 := Lib.hid (O6.out.turnBelow (((Tn.refl (fun j => j = s + 1 + 1) w6).set (i := 41) (v := .slice A6 (ol.length + 1) c6) (.inl rfl))) fun j e => by omega)
            clear P6 O6 c36 f36 l36 FW SN HOa HCa H1a HMa HKa BD c41 c341 ce0 kD41 kD0 kD3
            go_wp2_with fail
            go_roundw
            case rel => exact ⟨k + 1, A6, c6, ol ++ [⟨x.kind, Ai, DD, ci⟩], by omega, by go_num, P7, O7, HLX⟩
            case measure => simp [intOf]; omega
    · obtain rfl : k = N := by omega
      have d1 : decide ((k : Int) < (k : Int)) = false := by simp
      have hall : ol.map Ov.pl = m.pl.opts.map fillO := by
        have h := HL.out.2
        rw [HN.out, List.take_length] at h
        rw [h]
        show _ = (m.os.map Ov.pl).map fillO
        rw [List.map_map]
        rfl
      have FX := Lib.hid (own_finO (n0 := n0) HP.out HO.out (own_pl135 HK.out hall) ⟨rfl, rfl, rfl⟩ ⟨rfl, rfl, rfl⟩ ⟨rfl, rfl, rfl⟩ (⟨zero_bs.1, zero_bs.2, zero_bs.1, zero_bs.1, zero_bs.2⟩))
      have kf := own_cell2 HP.out
      have ut := HP.out.k3
      have ur := HP.out.k2
      have lt := bk_lt ut
      have lr := bk_lt ur
      have sz := fun m => mC_size m
      have so := fun m => mC_ones m
      clear hall HL HO
      go_wp2_with fail
      exact bodyPost_ret (results_cell_row rfl _ _ (s + 1) 33 (mC _) (0, 0) _ rfl kf Try.underlying33 rfl (by rw [mC_size]; kernel_rfl)) rfl FX.out
end Go.Proofs.Ytjimmfbjhkoekaa
