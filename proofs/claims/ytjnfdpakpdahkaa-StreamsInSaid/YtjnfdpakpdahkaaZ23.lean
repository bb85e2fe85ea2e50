/- Streams: the document's end of reading: a step, walked. -/
import Derived.Test.YtjnfdpakpdahkaaZ22
namespace Go.Proofs.Ytjnfdpakpdahkaa
open Go.RowKit
set_option maxRecDepth 100000
set_option maxHeartbeats 2000000
@[go_sem ↓] theorem bfCame (dst : Option Tmp) (ps : Array (Nat × Operand)) (t : TypeId) (pos : String) (af : Array Edge) (g : Option (Nat × Bool)) (a : Act) (m : Nat) (W : World) (gs : List (Nat × (World → Prop))) [hne : Nonempty (LaterF m W gs)] (K : Act → Prop) :
    Oper.quiet Try.prog ⟨dst, .build 72 ps, t, pos, af, g⟩ a (fun w' => ∃ x : LaterF m W gs, w' = x.w) K = bldTo (quietHid0 Try.prog ⟨dst, .build 72 ps, t, pos, af, g⟩ a (fun w' => ∃ x : LaterF m W gs, w' = x.w) K) (fun c => K (a.put dst (.agg c))) (Try.prog.built 72 (ps.toList.map fun x => (x.1, a.eval x.2))) :=
  quiet_build_bk 72 dst ps t pos af g a _ (hne.elim fun x => ⟨x.w, x, rfl⟩) K
@[go_sem] theorem builtCame (d z : Int) : Try.prog.built 72 [(0, .int .u32 d), (1, .int .u8 z)] = some #[.int .u32 d, .int .u8 z] := by kernel_rfl
theorem own_mono {w : World} {n n' m : Nat} {e : TypeId} {sz : Nat} {v : Value} {xs : List Value} (h : w.ownsRow n e sz v m xs) (hn : n' ≤ n) : w.ownsRow n' e sz v m xs :=
  ⟨h.1, h.2.imp (fun q => q) fun ⟨g, cap, cur, q1, q2, q3⟩ => ⟨g, cap, cur, q1, Nat.le_trans hn q2, q3⟩⟩
theorem RB.same {w w' : World} {n y lf : Nat} {vr vf : Value} {s : Sn} (h : RB w n y vr vf lf s) (hb : bk w' y = some (.cells (rinC s vr vf lf) 55 (0, 0))) (ht : Tn (fun k => k = y) w w') : RB w' n y vr vf lf s ∧ Below w.heap.size w w' :=
  ⟨⟨hb, own_turn h.row fun k hk => ht.old k (h.row.lt k hk).2 fun e => h.ry (e ▸ hk), far_turn h.far fun k hk => ht.old k (h.far.lt k hk).2 fun e => h.fy (e ▸ hk), h.left, h.l32, h.ok, h.ry, h.fy, h.rf, h.ny⟩,
    ⟨ht.os, ht.tape, ht.output, ht.size, fun k hk => by
      by_cases e : k = y
      · subst e; exact hb.trans h.box.symm
      · exact ht.old k hk e⟩⟩
theorem at_int (a : Nat) : ((a : Int) + 1) % 4294967296 = (((a + 1) % m32 : Nat) : Int) := by unfold m32; omega
theorem lf_int {l : Nat} (h : l < m32) : ((l : Int) - 1) % 4294967296 = (((l + 4294967295) % 4294967296 : Nat) : Int) := by unfold m32 at h; omega
theorem rstep_any (n y lf : Nat) (vr vf : Value) (s : Sn) (w : World) (h : RB w n y vr vf lf s) (hn : n ≤ w.heap.size) :
    Calls Try.prog 49 #[.pointer (some ⟨y, 0, none⟩)] w fun r w' => (s.step = none → r = .returned (.bool false) ∧ RB w' n y vr vf lf s ∧ Below w.heap.size w w') ∧
      (∀ s', s.step = some s' → r = .returned (.bool true) ∧ ∃ vr' vf' lf', RB w' n y vr' vf' lf' s' ∧ (∀ k, vr'.ownBlock = some k ∨ vf'.ownBlock = some k → w.heap.size ≤ k) ∧ Tn (fun k => k = y) w w') := by
  obtain ⟨c, hst, hzc⟩ := zero_byte h.ok
  have HI := Lib.hid h
  have HST := Lib.hid hst; have HZ := Lib.hid hzc
  have HND := Lib.hid h.ok.nodup
  obtain ⟨Af, cf, hvf, hfc⟩ := far_slice h.far
  obtain ⟨Ar, cr, hvr, hrr, hrn, hrc⟩ := Rd.of_own h.row rfl
  have hfl := h.ok.far_length
  have hrl := h.ok.room
  have HRR := Lib.hid hrr; have HRN := Lib.hid hrn
  obtain ⟨N, hN⟩ : ∃ N, N = s.far.length := ⟨_, rfl⟩
  have HN := Lib.hid hN.symm
  obtain ⟨R, hR⟩ : ∃ R, R = s.ready.length := ⟨_, rfl⟩
  have HRL := Lib.hid hR.symm
  have ly := bk_lt h.box
  have BX : Hid (bk w y = some (.cells (rinC s vr vf lf) 55 (0, 0))) := Lib.hid h.box
  rw [← hN] at hfl hvf hfc
  rw [← hR] at hrl hvr hrc
  clear h hst hzc hrr hrn hN hR
  subst hvf hvr
  go_enter Try.func49, Try.ntmps49
  go_wp2_with fail
  go_loopw [3, 4, 5] (fun lv dv kv wr => ∃ (k : Nat) (dn : Bool) (Al : Option Addr) (cl : Nat) (A1 : Option Addr) (n1 c1 : Nat) (L : List (Nat × UInt8)) (nl : Nat), k ≤ N ∧ kv = .int .i64 (k : Int) ∧ dv = .bool dn ∧ lv = .slice Al nl cl ∧ nl = L.length ∧ Hid (L = lower (s.far.take k)) ∧ Hid (dn = (s.far.take k).any fun e => e.1 == 0) ∧
    Hid (wr.ownsRow w.heap.size 72 2 (.slice Al nl cl) L.length (farV L)) ∧ Hid (bk wr y = some (.cells (rinC s (.slice A1 n1 c1) (.slice Af N cf) lf) 55 (0, 0))) ∧ Hid (Tn (fun k => k = y) w wr) ∧
    Hid (dn = false → (Value.slice A1 n1 c1) = .slice Ar R cr) ∧ Hid (dn = true → wr.ownsRow w.heap.size 5 1 (.slice A1 n1 c1) (s.ready ++ [c]).length ((s.ready ++ [c]).map B) ∧ ∀ k, (Value.slice A1 n1 c1).ownBlock = some k → (Value.slice Al nl cl).ownBlock ≠ some k)) (fun _ _ kv _ => N - (intOf kv).toNat)
  case atStart => exact ⟨0, false, none, 0, Ar, R, cr, [], 0, by omega, rfl, rfl, rfl, rfl, Lib.hid (by simp [lower]), Lib.hid (by simp), Lib.hid (World.ownsRow_nil _ _ _ _), BX, Lib.hid (Tn.refl _ _), Lib.hid (fun _ => rfl), Lib.hid (fun h => by cases h)⟩
  case round =>
    obtain ⟨k, dn, Al, cl, A1, n1, c1, L, nl, hk, rfl, rfl, rfl, hnl, HL, HD, HO, HB, HT, HF, HG⟩ := hrel
    have k1 := bk_cell HB.out 1
    have k2 := bk_cell HB.out 2
    simp [rinC] at k1 k2
    have lyr := bk_lt HB.out
    by_cases hlt : k < N
    · have d1 : decide ((k : Int) < (N : Int)) = true := by simp; omega
      have hlt' : k < s.far.length := by rw [HN.out]; exact hlt
      obtain ⟨b, c', hv, hbw, hc', u1, u2⟩ := HI.out.cam hlt'
      rw [HN.out] at hv hc'
      cases hv
      have hbr : b < wr.heap.size := Nat.lt_of_lt_of_le hbw HT.out.size
      have hby : b ≠ y := fun e => HI.out.fy (by rw [e]; rfl)
      have v1 := (HT.out.cel hbw hby (k * 2)).trans u1
      have v2 := (HT.out.cel hbw hby (k * 2 + 1)).trans u2
      have HLT := Lib.hid (lower_take hlt')
      have HDT := Lib.hid (has_take (d := 0) hlt')
      have HNT := Lib.hid (nodup_take HND.out hlt')
      have HZK := Lib.hid (HZ.out k hlt')
      obtain ⟨d, hd⟩ : ∃ d, d = (s.far[k]).1 := ⟨_, rfl⟩
      obtain ⟨z, hz⟩ : ∃ z, z = (s.far[k]).2 := ⟨_, rfl⟩
      rw [← hd] at v1 HLT HDT HNT HZK
      rw [← hz] at v2 HLT HZK
      have HSM := Lib.hid (show d < 8192 from hd ▸ Nat.lt_of_lt_of_le (HI.out.ok.small _ (List.getElem_mem hlt')) (Nat.sub_le _ _))
      clear u1 u2 hlt' hd hz
      by_cases h0 : d = 0
      · subst h0
        have hzc := HZK.out rfl
        subst hzc
        obtain rfl : dn = false := by rw [HD.out]; exact HNT.out
        have h1 := HF.out rfl
        cases h1
        have hrow := own_turn (w' := wr) HI.out.row fun j hj => HT.out.old j (HI.out.row.lt j hj).2 fun e => HI.out.ry (e ▸ hj)
        obtain ⟨A', c'', e', hrd, hrn', _⟩ := Rd.of_own hrow rfl
        rw [HRL.out] at e'
        cases e'
        have RW := Lib.hid hrd
        have FIN : Hid (∀ (w5 : World) (A15 : Option Addr) (N15 c15 : Nat), Below wr.heap.size wr w5 → w5.ownsRow wr.heap.size 5 1 (.slice A15 N15 c15) (s.ready ++ [z]).length ((s.ready ++ [z]).map B) →
            (w5.setCell ⟨y, 1, none⟩ (.slice A15 N15 c15)).ownsRow w.heap.size 72 2 (.slice Al nl cl) L.length (farV L) ∧ bk (w5.setCell ⟨y, 1, none⟩ (.slice A15 N15 c15)) y = some (.cells (rinC s (.slice A15 N15 c15) (.slice (some ⟨b, 0, none⟩) N cf) lf) 55 (0, 0)) ∧
            Tn (fun k => k = y) w (w5.setCell ⟨y, 1, none⟩ (.slice A15 N15 c15)) ∧ (w5.setCell ⟨y, 1, none⟩ (.slice A15 N15 c15)).ownsRow w.heap.size 5 1 (.slice A15 N15 c15) (s.ready ++ [z]).length ((s.ready ++ [z]).map B) ∧ ∀ k, (Value.slice A15 N15 c15).ownBlock = some k → (Value.slice Al nl cl).ownBlock ≠ some k) := Lib.hid fun w5 A15 N15 c15 b5 o5 => by
          have hy : ∀ k, w.heap.size ≤ k → k ≠ y := fun k hk => by omega
          refine ⟨far_turn (far_turn HO.out fun k hk => b5.block k (HO.out.lt k hk).2) fun k hk => bk_setCell_other _ _ _ _ _ (hy k (HO.out.lt k hk).1), ?_, ?_, own_mono (own_turn o5 fun k hk => bk_setCell_other _ _ _ _ _ (hy k (Nat.le_trans HT.out.size (o5.lt k hk).1))) HT.out.size, fun k hk hk2 => ?_⟩
          · rw [bk_setCell_same, bk_keep b5 lyr HB.out]; rfl
          · exact (HT.out.trans (Tn.of (F := fun _ => False) b5) fun j hj => hj.elim).trans (G := fun k => k = y) ⟨rfl, rfl, rfl, by simp, fun k hk hx => bk_setCell_other _ _ _ _ _ hx⟩ fun j hj => .inl hj
          · have h1 := (o5.lt k hk).1
            have h2 := (HO.out.lt k hk2).2
            omega
        have HL2 : Hid (L = lower (s.far.take (k + 1))) := Lib.hid (by rw [HLT.out, ← HL.out]; simp)
        have HD2 : Hid (true = (s.far.take (k + 1)).any fun e => e.1 == 0) := Lib.hid (by rw [HDT.out]; simp)
        obtain ⟨M5, hM5⟩ : ∃ M : MadeW wr.heap.size, M = MadeW.own _ [] s.ready := ⟨_, rfl⟩
        obtain ⟨M14, hM14⟩ : ∃ M : MadeW wr.heap.size, M = MadeW.row _ (fun b => .slice (some ⟨b, 0, none⟩) 1 1) #[B z] 5 := ⟨_, rfl⟩
        obtain ⟨M15, hM15⟩ : ∃ M : MadeW wr.heap.size, M = MadeW.own _ [5] (s.ready ++ [z]) := ⟨_, rfl⟩
        have H5 := Lib.hid hM5; have H14 := Lib.hid hM14; have H15 := Lib.hid hM15
        clear hM5 hM14 hM15 hrow hrd hrn' HNT HDT HLT HD HL HG HF HZK HSM
        go_upto_region 7 with fail
        refine wp_region_e_tail (wr.heap.size) 16 ([.own 5 H5, .row 14 H14, .own 15 H15]) (fun k => (([(15, [5, 14])] : List (Nat × List Nat)).lookup k).getD []) (Fs.nil) (by first | omega | (simp <;> omega)) (by kernel_rfl) (by kernel_rfl) (by kernel_rfl) (by kernel_rfl) EnvW.Ini.nil ?_
        simp only [List.take_succ_cons, List.take_zero, List.drop_succ_cons, List.drop_zero]
        refine walkW_segn 5 [] facts0 noneHx (by kernel_rfl) (by kernel_rfl) ?_
        simp only [List.take_succ_cons, List.take_zero, List.drop_succ_cons, List.drop_zero, Nat.reduceAdd]
        repeat (go_big_quiet_step (fail))
        (first | refine wpQuiet_nil ?_ | (go_big_quiet_want; (try go_big_quiet_op); trace_state; fail))
        refine walkW_mk (fun _ => M5) [] M5 ([]) facts0 (by kernel_rfl) (by kernel_rfl) (by kernel_rfl) rfl rfl (fun w' hb' hg' => ?_) (fun v5 h5 => ?_)
        · ((exact append_mk rfl H5 (l1 := []) (l2 := s.ready) rfl rfl (World.ownsRow_nil _ _ _ _) rfl HRL.out.symm HRN.out ((RW.out.below hb' (Nat.le_refl _)).mono hb'.size) (by rw [HRL.out]; simp; omega) hb'.size (.inl rfl)))
        obtain ⟨A5, c5, rfl, n5, le5⟩ := own_T H5 h5
        simp only [Act.put, List.setIfInBounds_toArray, List.set_cons_succ, List.set_cons_zero, Nat.reduceAdd]
        refine walkW_segn 8 [] facts0 noneHx (by kernel_rfl) (by kernel_rfl) ?_
        simp only [List.take_succ_cons, List.take_zero, List.drop_succ_cons, List.drop_zero, Nat.reduceAdd]
        repeat (go_big_quiet_step (fail))
        (first | refine wpQuiet_nil ?_ | (go_big_quiet_want; (try go_big_quiet_op); trace_state; fail))
        refine walkW_mk (fun _ => M14) [] M14 ([]) facts0 (by kernel_rfl) (by kernel_rfl) (by kernel_rfl) rfl rfl (fun w' hb' hg' => ?_) (fun v14 h14 => ?_)
        · unfold madeAtW
          go_simp
          ((exact (row_mk (b := w'.heap.size) H14 ((Below.refl _ _).alloc (Nat.le_refl _) _) hb'.size hb'.size (bk_alloc_at _ _ _ rfl) :)))
        obtain ⟨b14, m14, rfl⟩ := row_T H14 h14
        simp only [Act.put, List.setIfInBounds_toArray, List.set_cons_succ, List.set_cons_zero, Nat.reduceAdd]
        refine walkW_mk (fun _ => M15) [] M15 ([(5, M5.R (.slice A5 s.ready.length c5)), (14, M14.R (.slice (some ⟨b14, 0, none⟩) 1 1))]) (facts2 (fun w h => h.2.1 rfl) (fun w h => h.1 rfl)) (by kernel_rfl) (by kernel_rfl) (by kernel_rfl) rfl rfl (fun w' hb' hg' => ?_) (fun v15 h15 => ?_)
        · ((exact append_mk rfl H15 (l1 := s.ready) (l2 := [z]) rfl rfl (own_R H5 (hg' _ (.head _))) rfl rfl (fun h => by cases h) (Rd.of_bk (L := [z]) (row_R H14 (fun b b' h => by simpa using h) (hg' _ (.tail _ (.head _)))) (bk_lt (row_R H14 (fun b b' h => by simpa using h) (hg' _ (.tail _ (.head _))))) (fun j h => by simp [List.getElem?_eq_getElem h])) (by rw [HRL.out]; simp; omega) hb'.size (.inr (by simp))))
        obtain ⟨A15, c15, rfl, n15, le15⟩ := own_T H15 h15
        simp only [Act.put, List.setIfInBounds_toArray, List.set_cons_succ, List.set_cons_zero, Nat.reduceAdd]
        refine walkW_nil ?_
        intro w5 b5 hf
        have o5 := own_R H15 ((hf 15 (by kernel_rfl)).1 rfl)
        obtain ⟨N15, hN15⟩ : ∃ N15, N15 = (s.ready ++ [z]).length := ⟨_, rfl⟩
        have hfin := FIN.out w5 A15 N15 c15 b5 (by rw [hN15]; exact o5)
        rw [← hN15]
        have HFIN := Lib.hid hfin
        have k5 := bk_keep b5 lyr HB.out
        have l5 := bk_lt k5
        have f51 := bk_frozen k5 1
        have e51 := bk_cell k5 1
        simp [rinC] at e51
        clear hf o5 hfin n5 le5 n15 le15 h5 h14 h15 H5 H14 H15 FIN k5 hN15 M5 M14 M15
        go_wp2_with fail
        obtain ⟨g1, g2, g3, g4⟩ := HFIN.out
        exact ⟨⟨k + 1, true, Al, cl, A15, N15, c15, L, nl, by omega, by simp, rfl, rfl, hnl, HL2, HD2, Lib.hid g1, Lib.hid g2, Lib.hid g3, Lib.hid (fun h => by cases h), Lib.hid (fun _ => g4)⟩, by simp [intOf]; omega⟩
      · have hq : ((d : Int) == 0) = false := by simp; omega
        obtain ⟨d1', hd1⟩ : ∃ d1, d1 = d - 1 := ⟨_, rfl⟩
        have hd8 := HSM.out
        have hs1 : ((d : Int) - 1) % 4294967296 = (d1' : Int) := by omega
        have hs2 : IntKind.u32.wrap ((d : Int) - 1) = (d1' : Int) := by rw [IntKind.wrap_u32]; exact hs1
        have HL2 : Hid (L ++ [(d1', z)] = lower (s.far.take (k + 1))) := Lib.hid (by rw [HLT.out, ← HL.out, if_neg h0, hd1])
        have HD2 : Hid (dn = (s.far.take (k + 1)).any fun e => e.1 == 0) := Lib.hid (by rw [HDT.out, ← HD.out, show (d == 0) = false by simpa using h0, Bool.or_false])
        have hLl : L.length < 2 ^ 40 := by
          have h1 := HL.out
          have h2 : (lower (s.far.take k)).length ≤ (s.far.take k).length := by unfold lower; rw [List.length_map]; exact List.length_filter_le _ _
          rw [← h1, List.length_take] at h2
          omega
        have FIN : Hid (∀ (w5 w6 : World) (A6 : Option Addr) (c6 : Nat), Below wr.heap.size wr w5 → w6.ownsRow w.heap.size 72 2 (.slice A6 (L.length + 1) c6) (L.length + 1) (farV (L ++ [(d1', z)])) → w5.grownBy w6 (Value.slice Al nl cl).ownBlock → ((Value.slice A6 (L.length + 1) c6).ownBlock = (Value.slice Al nl cl).ownBlock ∨ (Value.slice A6 (L.length + 1) c6).ownBlock = some w5.heap.size) →
            bk w6 y = some (.cells (rinC s (.slice A1 n1 c1) (.slice (some ⟨b, 0, none⟩) N cf) lf) 55 (0, 0)) ∧ Tn (fun k => k = y) w w6 ∧ (dn = true → w6.ownsRow w.heap.size 5 1 (.slice A1 n1 c1) (s.ready ++ [c]).length ((s.ready ++ [c]).map B) ∧ ∀ k, (Value.slice A1 n1 c1).ownBlock = some k → (Value.slice A6 (L.length + 1) c6).ownBlock ≠ some k)) := Lib.hid fun w5 w6 A6 c6 b5 o6 g6 a6 => by
          have hlb : ∀ k, (Value.slice Al nl cl).ownBlock = some k → w.heap.size ≤ k ∧ k < wr.heap.size := fun k hk => HO.out.lt k hk
          refine ⟨?_, ?_, fun hdn => ?_⟩
          · exact (g6.block y (Nat.lt_of_lt_of_le lyr b5.size) (fun e => by have := hlb y e.symm; omega)).trans (bk_keep b5 lyr HB.out)
          · refine (HT.out.trans (Tn.of (F := fun _ => False) b5) fun j hj => hj.elim).trans (Tn.grown (F := fun k => (Value.slice Al nl cl).ownBlock = some k) g6 fun k hk => hk) fun j hj => .inr (hlb j hj).1
          · obtain ⟨r1, r2⟩ := HG.out hdn
            refine ⟨own_turn r1 fun k hk => (g6.block k (Nat.lt_of_lt_of_le (r1.lt k hk).2 b5.size) (fun e => r2 k hk e.symm)).trans (b5.block k (r1.lt k hk).2), fun k hk hk2 => ?_⟩
            rcases a6 with a6 | a6
            · exact r2 k hk (a6 ▸ hk2)
            · rw [a6] at hk2
              cases hk2
              have := (r1.lt _ hk).2
              have := b5.size
              omega
        obtain ⟨M19, hM19⟩ : ∃ M : MadeW wr.heap.size, M = MadeW.row _ (fun b => .slice (some ⟨b, 0, none⟩) 1 1) #[.int .u32 (d1' : Int), B z] 72 := ⟨_, rfl⟩
        have H19 := Lib.hid hM19
        have HSZ := Lib.hid HT.out.size
        clear hM19 HNT HDT HLT HD HL HG HZK HSM hd1 hd8
        go_upto_region 9 with fail
        refine wp_region_e_tail (wr.heap.size) 20 ([.row 19 H19]) (fun _ => []) (Fs.nil) (by first | omega | (simp <;> omega)) (by kernel_rfl) (by kernel_rfl) (by kernel_rfl) (by kernel_rfl) EnvW.Ini.nil ?_
        simp only [List.take_succ_cons, List.take_zero, List.drop_succ_cons, List.drop_zero]
        refine walkW_segn 19 [] facts0 noneHx (by kernel_rfl) (by kernel_rfl) ?_
        simp only [List.take_succ_cons, List.take_zero, List.drop_succ_cons, List.drop_zero, Nat.reduceAdd]
        repeat (go_big_quiet_step (fail))
        (first | refine wpQuiet_nil ?_ | (go_big_quiet_want; (try go_big_quiet_op); trace_state; fail))
        refine walkW_mk (fun _ => M19) [] M19 ([]) facts0 (by kernel_rfl) (by kernel_rfl) (by kernel_rfl) rfl rfl (fun w' hb' hg' => ?_) (fun v19 h19 => ?_)
        · unfold madeAtW
          go_simp
          ((exact (row_mk (b := w'.heap.size) H19 ((Below.refl _ _).alloc (Nat.le_refl _) _) hb'.size hb'.size (bk_alloc_at _ _ _ rfl) :)))
        obtain ⟨b19, m19, rfl⟩ := row_T H19 h19
        simp only [Act.put, List.setIfInBounds_toArray, List.set_cons_succ, List.set_cons_zero, Nat.reduceAdd]
        refine walkW_nil ?_
        intro w5 b5 hf
        have K19 := Lib.hid (row_R H19 (fun b b' h => by simpa using h) ((hf 19 (by kernel_rfl)).1 rfl))
        have OW : Hid (w5.ownsRow w.heap.size 72 2 (.slice Al nl cl) L.length (farV L)) := Lib.hid (far_turn HO.out fun k hk => b5.block k (HO.out.lt k hk).2)
        have B5 := Lib.hid b5
        clear hf h19 H19 M19 b5
        go_wp2_with (at_builtin; refine wpList_appF rfl _ _ rfl w.heap.size (.slice Al nl cl) L (d1', z) rfl OW.out b19 1 rfl K19.out (Nat.le_trans HSZ.out B5.out.size) hLl ?_)
        intro A6 c6 w6 ho6 hg6 ha6
        have hg7 : w5.grownBy w6 (Value.slice Al nl cl).ownBlock := by rw [hnl]; exact hg6
        have ha7 : (Value.slice A6 (L.length + 1) c6).ownBlock = (Value.slice Al nl cl).ownBlock ∨ (Value.slice A6 (L.length + 1) c6).ownBlock = some w5.heap.size := by rw [hnl]; exact ha6
        have HFIN := Lib.hid (And.intro ho6 (FIN.out w5 w6 A6 c6 B5.out ho6 hg7 ha7))
        clear ho6 hg6 ha6 hg7 ha7 FIN
        go_wp2_with fail
        obtain ⟨g0, g1, g2, g3⟩ := HFIN.out
        exact ⟨⟨k + 1, dn, A6, c6, A1, n1, c1, L ++ [(d1', z)], L.length + 1, by omega, by simp, rfl, by simp, by simp, HL2, HD2, Lib.hid (by simpa using g0), Lib.hid g1, Lib.hid g2, HF, Lib.hid g3⟩, by simp [intOf]; omega⟩
    · obtain rfl : k = N := by omega
      have d1 : decide ((k : Int) < (k : Int)) = false := by simp
      have htk : s.far.take k = s.far := by rw [← HN.out]; exact List.take_length
      rw [htk] at HL HD
      have k0 := bk_cell HB.out 0
      have k4 := bk_cell HB.out 4
      simp [rinC] at k0 k4
      have f2 := bk_frozen HB.out 2
      have f0 := bk_frozen HB.out 0
      have f4 := bk_frozen HB.out 4
      cases dn
      · have h1 := HF.out rfl
        have hnone : s.step = none := step_none (by unfold Sn.has; exact HD.out.symm)
        rw [h1] at HB
        have hs := HI.out.same HB.out HT.out
        have HSM := Lib.hid hs
        have HNO := Lib.hid hnone
        clear hs hnone h1 HF HG HD HL HO f2 f0 f4 k0 k4
        go_wp2_with fail
        go_ret
        exact ⟨fun _ => ⟨rfl, HSM.out⟩, fun s' h => (by rw [HNO.out] at h; cases h)⟩
      · obtain ⟨r1, r2⟩ := HG.out rfl
        have hsome := HST.out (by unfold Sn.has; exact HD.out.symm)
        obtain ⟨q, hq, hq0⟩ : ∃ q ∈ s.far, q.1 = 0 := by
          obtain ⟨q, hq, h0⟩ := List.any_eq_true.1 HD.out.symm
          exact ⟨q, hq, by simpa using h0⟩
        obtain ⟨a1, ha1⟩ : ∃ a1, a1 = (s.at' + 1) % m32 := ⟨_, rfl⟩
        obtain ⟨l1, hl1⟩ : ∃ l1, l1 = (lf + 4294967295) % 4294967296 := ⟨_, rfl⟩
        have hlf : lf < 4294967296 := HI.out.l32
        have hI1 : ((s.at' : Int) + 1) % 4294967296 = (a1 : Int) := by rw [ha1]; exact at_int _
        have hI2 : ((lf : Int) - 1) % 4294967296 = (l1 : Int) := by rw [hl1]; exact lf_int hlf
        have FIN : Hid (RB (((wr.setCell ⟨y, 2, none⟩ (.slice Al nl cl)).setCell ⟨y, 0, none⟩ (.int .u32 (a1 : Int))).setCell ⟨y, 4, none⟩ (.int .u32 (l1 : Int))) n y (.slice A1 n1 c1) (.slice Al nl cl) l1 ⟨(s.at' + 1) % m32, s.ready ++ [c], lower s.far, s.known, s.left - 1⟩ ∧ (∀ k, (Value.slice A1 n1 c1).ownBlock = some k ∨ (Value.slice Al nl cl).ownBlock = some k → w.heap.size ≤ k) ∧
            Tn (fun k => k = y) w (((wr.setCell ⟨y, 2, none⟩ (.slice Al nl cl)).setCell ⟨y, 0, none⟩ (.int .u32 (a1 : Int))).setCell ⟨y, 4, none⟩ (.int .u32 (l1 : Int)))) := Lib.hid (by
          have hne : ∀ k, w.heap.size ≤ k → k ≠ y := fun k hk => by omega
          refine ⟨⟨?_, ?_, ?_, fun hk => ?_, ?_, step_ok HI.out.ok hsome, fun e => ?_, fun e => ?_, r2, HI.out.ny⟩, fun k hk => ?_, ?_⟩
          · rw [bk_setCell_same, bk_setCell_same, bk_setCell_same, HB.out, ha1]
            rfl
          · refine own_turn (own_mono r1 hn) fun k hk => ?_
            have := hne k (r1.lt k hk).1
            rw [bk_setCell_other _ _ _ _ _ this, bk_setCell_other _ _ _ _ _ this, bk_setCell_other _ _ _ _ _ this]
          · rw [← HL.out]
            refine far_turn (own_mono HO.out hn) fun k hk => ?_
            have := hne k (HO.out.lt k hk).1
            rw [bk_setCell_other _ _ _ _ _ this, bk_setCell_other _ _ _ _ _ this, bk_setCell_other _ _ _ _ _ this]
          · have h1 := HI.out.left hk
            have h2 := HI.out.ok.ends hk q hq
            show l1 = s.left - 1
            rw [hl1]
            omega
          · rw [hl1]
            exact Nat.mod_lt _ (Nat.succ_pos _)
          · exact hne y (r1.lt y e).1 rfl
          · exact hne y (HO.out.lt y e).1 rfl
          · rcases hk with hk | hk
            · exact (r1.lt k hk).1
            · exact (HO.out.lt k hk).1
          · refine HT.out.trans (G := fun k => k = y) ⟨rfl, rfl, rfl, by simp, fun k hk hx => ?_⟩ fun j hj => .inl hj
            rw [bk_setCell_other _ _ _ _ _ hx, bk_setCell_other _ _ _ _ _ hx, bk_setCell_other _ _ _ _ _ hx])
        have HSO := Lib.hid hsome
        clear r1 r2 hsome hq hq0 ha1 hl1 HF HG HD HL HO HT HB HST HZ hnl
        go_wp2_with fail
        go_ret
        refine ⟨fun h => (by rw [HSO.out] at h; cases h), fun s' h => ?_⟩
        rw [HSO.out] at h
        cases h
        exact ⟨rfl, _, _, _, FIN.out⟩
end Go.Proofs.Ytjnfdpakpdahkaa
