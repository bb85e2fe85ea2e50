/- Streams: an end of reading: what is in order now is ready. -/
import Derived.Test.YtjnfdpakpdahkaaZ4
import Derived.Test.YtjnfdpakpdahkaaS6
import Derived.Maps.AppendAt
namespace Go.Proofs.Ytjnfdpakpdahkaa
open Go.RowKit
set_option maxRecDepth 100000
set_option maxHeartbeats 1000000
def mapSize (w : World) (g : Nat) : Nat := match w.heap[g]? with | some (.map es _) => es.size | _ => 0
theorem mapSize_of {w : World} {g n p : Nat} {f : List (Nat × UInt8)} (h : w.ownsMap Try.prog 22 MR g n (FarD p f)) : mapSize w g = f.length := by
  obtain ⟨es, clock, hb, F, _, hD⟩ := h
  have h1 := congrArg Maps.size hD
  rw [farD_size] at h1
  unfold mapSize
  rw [hb]
  simp only [Maps.size, length_sorted, List.length_map, Array.length_toList] at h1
  exact h1.symm
theorem step_none {s : Sn} (h : s.has 0 = false) : s.step = none := by
  unfold Sn.step
  unfold Sn.has at h
  rw [List.any_eq_false] at h
  rw [List.find?_eq_none.2 (fun e he => h e he)]
  rfl
theorem step_some {s : Sn} (h : s.has 0 = true) : ∃ e, e ∈ s.far ∧ e.1 = 0 ∧ s.step = some ⟨(s.at' + 1) % m32, s.ready ++ [e.2], lower s.far, s.known, s.left - 1⟩ := by
  unfold Sn.has at h
  obtain ⟨e, he, h0⟩ := List.any_eq_true.1 h
  cases hf : s.far.find? (fun e => e.1 == 0) with
  | none => exact absurd h0 (by simpa using List.find?_eq_none.1 hf e he)
  | some e' =>
    refine ⟨e', List.mem_of_find?_eq_some hf, by simpa using List.find?_some hf, ?_⟩
    unfold Sn.step
    rw [hf]
    rfl
/-- What the map says at the next place. -/
theorem look_next {w : World} {n x g e : Nat} {v : Value} {s : Sn} (h : InB w n x g e v s) : ∃ c : UInt8, (s.has 0 = true → s.step = some ⟨(s.at' + 1) % m32, s.ready ++ [c], lower s.far, s.known, s.left - 1⟩) ∧
    ∀ w' : World, Below w.heap.size w w' → (Instr.lookup 58 (.map (some g)) (.int .u32 (s.at' : Int)) true).run Try.prog w' = .ok (.tuple #[.int .u8 (c.toNat : Int), .bool (s.has 0)]) w' := by
  have hk : kyOf s.at' 0 = .int .u32 (s.at' : Int) := by
    have := h.ok.at32
    unfold kyOf
    rw [Nat.add_zero, Nat.mod_eq_of_lt this]
  have hh := farD_has (p := s.at') h.ok.far (show 0 < m32 by decide)
  rw [hk] at hh
  cases hb : s.has 0 with
  | false =>
    refine ⟨0, fun h => (by cases h), fun w' hw => ?_⟩
    obtain ⟨u, ps, hrun, hv⟩ := (h.below hw).map.look_ok law32 Try.underlying58 (zero8 w') (zd := .lit (.int .u8 0)) (zp := []) (plainElem_int Try.underlying5 (by decide)) (key32 h.ok.at32)
    have ha := farD_none (p := s.at') h.ok.far (show 0 < m32 by decide) hb (.lit (.int .u8 0))
    rw [hk] at ha
    rw [ha] at hv
    obtain ⟨a, rfl, hz, _⟩ := plainElem_int_inv Try.underlying5 hv
    simp only [Prod.mk.injEq, DataW.lit.injEq, Lit.int.injEq, true_and] at hz
    rw [hrun, hh, ← hz.1, show (s.far.any fun e => e.1 == 0) = false from hb]
    rfl
  | true =>
    obtain ⟨q, hq, h0, hs⟩ := step_some hb
    refine ⟨q.2, fun _ => hs, fun w' hw => ?_⟩
    obtain ⟨u, ps, hrun, hv⟩ := (h.below hw).map.look_ok law32 Try.underlying58 (zero8 w') (zd := .lit (.int .u8 0)) (zp := []) (plainElem_int Try.underlying5 (by decide)) (key32 h.ok.at32)
    have ha := farD_at (p := s.at') h.ok.far hq (.lit (.int .u8 0))
    rw [h0, hk] at ha
    rw [ha] at hv
    obtain ⟨a, rfl, hz, _⟩ := plainElem_int_inv Try.underlying5 hv
    simp only [Prod.mk.injEq, DataW.lit.injEq, Lit.int.injEq, true_and] at hz
    rw [hrun, hh, ← hz.1, show (s.far.any fun e => e.1 == 0) = true from hb]
theorem step_box {n x g e : Nat} {v v' : Value} {s : Sn} {c : UInt8} {w w1 w2 wb w3 : World} (h : InB w n x g e v s) (hb1 : Below w.heap.size w w1) (hs : s.step = some ⟨(s.at' + 1) % m32, s.ready ++ [c], lower s.far, s.known, s.left - 1⟩)
    (hu : w1.mapTurned w2 g) (hm : w2.ownsMap Try.prog 22 MR g s.far.length ((FarD s.at' s.far).del (kyOf s.at' 0))) (hb : Below w2.heap.size w2 wb) (hr : w3.ownsRow n 5 1 v' (s.ready.length + 1) (s.ready.map B ++ [B c])) (hg : wb.grownBy w3 v.ownBlock)
    (ha : v'.ownBlock = v.ownBlock ∨ v'.ownBlock = some wb.heap.size) (hn : n ≤ w.heap.size) :
    InB ((w3.setCell ⟨x, 1, none⟩ v').setCell ⟨x, 0, none⟩ (.int .u32 (((s.at' + 1) % m32 : Nat) : Int))) n x g e v' ⟨(s.at' + 1) % m32, s.ready ++ [c], lower s.far, s.known, s.left - 1⟩ ∧ (∀ k, v'.ownBlock = some k → v.ownBlock = some k ∨ w.heap.size ≤ k) ∧
      Tn (Ft x g v) w ((w3.setCell ⟨x, 1, none⟩ v').setCell ⟨x, 0, none⟩ (.int .u32 (((s.at' + 1) % m32 : Nat) : Int))) := by
  have h1 := h.below hb1
  have hug := hu.grown
  have T2 : Tn (fun k => k = g) w w2 := (Tn.of hb1).trans (Tn.grown hug (fun k hk => by cases hk; rfl)) fun j hj => .inl hj
  have T3 : Tn (Ft x g v) w w3 := by
    refine Tn.trans (F := Ft x g v) (Tn.trans (F := Ft x g v) (G := fun k => k = g) ?_ (Tn.of hb) (fun j hj => .inl (.inr (.inl hj)))) (Tn.grown (F := fun k => v.ownBlock = some k) hg fun k hk => hk) fun j hj => .inl (.inr (.inr hj))
    exact Tn.trans (Tn.refl _ w) T2 fun j hj => .inl (.inr (.inl hj))
  have sz1 := hb1.size
  have sz2 := T2.size
  have sz3 := hb.size
  have lx := bk_lt h.box
  have lg := h.map.lt
  have kx : bk w3 x = some (.cells (inC s v g e) 60 (0, 0)) := by
    refine (hg.block x (by omega) ?_).trans ((hb.block x (by omega)).trans (T2.keep (fun e => h.xg e) h.box))
    exact fun e => h.vx e.symm
  have km : bk w3 g = bk w2 g := (hg.block g (by omega) (fun e => h.vg e.symm)).trans (hb.block g (by omega))
  have hnew : ∀ k, v'.ownBlock = some k → v.ownBlock = some k ∨ w.heap.size ≤ k := fun k hk => by
    rcases ha with ha | ha
    · exact .inl (ha ▸ hk)
    · rw [ha] at hk
      cases hk
      exact .inr (by omega)
  have hx' : v'.ownBlock ≠ some x := fun e => by
    rcases hnew x e with h2 | h2
    · exact h.vx h2
    · omega
  have hg' : v'.ownBlock ≠ some g := fun e => by
    rcases hnew g e with h2 | h2
    · exact h.vg h2
    · omega
  refine ⟨⟨?_, ?_, ?_, fun hk => ?_, h.e32, step_ok h.ok hs, h.xg, hx', hg', h.nx, h.ng⟩, hnew, ?_⟩
  · rw [bk_setCell_same, bk_setCell_same, kx]
    rfl
  · have hm2 := hm
    rw [farD_del h.ok.far] at hm2
    have hm3 : w3.ownsMap Try.prog 22 MR g s.far.length (FarD ((s.at' + 1) % m32) (lower s.far)) := map_turn hm2 km
    have hm4 := map_turn (w' := (w3.setCell ⟨x, 1, none⟩ v').setCell ⟨x, 0, none⟩ (.int .u32 (((s.at' + 1) % m32 : Nat) : Int))) hm3 (by rw [bk_setCell_other _ _ _ _ _ (fun e => h.xg e.symm), bk_setCell_other _ _ _ _ _ (fun e => h.xg e.symm)])
    obtain ⟨es, clock, q1, q2, _, q4⟩ := hm4
    refine ⟨es, clock, q1, q2, ?_, q4⟩
    have := congrArg Maps.size q4
    rw [farD_size] at this
    simp only [Maps.size, length_sorted, List.length_map, Array.length_toList] at this
    exact Nat.le_of_eq this.symm
  · refine own_turn (w := w3) ?_ fun k hk => ?_
    · simpa using hr
    · have : k ≠ x := fun e => hx' (e ▸ hk)
      rw [bk_setCell_other _ _ _ _ _ this, bk_setCell_other _ _ _ _ _ this]
  · have h2 := h.ends hk
    have h3 := h.ok.ends hk
    obtain ⟨q, hq, hq0⟩ : ∃ q ∈ s.far, q.1 = 0 := by
      cases hb : s.has 0 with
      | false => rw [step_none hb] at hs; cases hs
      | true =>
        obtain ⟨q, hq, h0, _⟩ := step_some hb
        exact ⟨q, hq, h0⟩
    have h4 := h3 q hq
    rw [h2]
    simp only
    rw [Nat.mod_add_mod]
    congr 1
    omega
  · refine T3.trans (G := fun k => k = x) ⟨rfl, rfl, rfl, by simp, fun k hk hx => ?_⟩ fun j hj => .inl (.inl hj)
    rw [bk_setCell_other _ _ _ _ _ hx, bk_setCell_other _ _ _ _ _ hx]
theorem isettle_any (n x g e : Nat) (v : Value) (s : Sn) (w : World) (h : InB w n x g e v s) (hn : n ≤ w.heap.size) :
    Calls Try.prog 40 #[.pointer (some ⟨x, 0, none⟩)] w fun r w' => r = .returned (.tuple #[]) ∧ ∃ v', InB w' n x g e v' s.settle ∧ (∀ k, v'.ownBlock = some k → v.ownBlock = some k ∨ w.heap.size ≤ k) ∧ Tn (Ft x g v) w w' := by
  have HI := Lib.hid h
  clear h
  go_enter Try.func40, Try.ntmps40
  go_wp2_with fail
  go_loopw [2, 3] (fun cv bv wr => ∃ (s' : Sn) (v' : Value), InB wr n x g e v' s' ∧ Hid (s'.settle = s.settle) ∧ (∀ k, v'.ownBlock = some k → v.ownBlock = some k ∨ w.heap.size ≤ k) ∧ Tn (Ft x g v) w wr)
    (fun _ _ wr => mapSize wr g)
  case atStart => exact ⟨s, v, HI.out, Lib.hid rfl, fun k hk => .inl hk, Tn.refl _ _⟩
  case round =>
    obtain ⟨s', v', hI, hS, hv, hT⟩ := hrel
    obtain ⟨c, hstep, hlook⟩ := look_next hI
    have c0 := bk_cell hI.box 0
    have c2 := bk_cell hI.box 2
    simp [inC] at c0 c2
    have lx := bk_lt hI.box
    obtain ⟨p, hp⟩ : ∃ p, p = s'.at' := ⟨_, rfl⟩
    obtain ⟨hb, hhb⟩ : ∃ hb, hb = s'.has 0 := ⟨_, rfl⟩
    rw [← hp] at c0
    rw [← hp, ← hhb] at hlook
    rw [← hhb] at hstep
    have LK := Lib.hid hlook; have HST := Lib.hid hstep; have HI' := Lib.hid hI; have HPP := Lib.hid hp; have HHB := Lib.hid hhb; have HV := Lib.hid hv; have HT := Lib.hid hT
    clear hlook hstep hI hp hhb hv hT
    go_upto_region 0 with fail
    refine wp_region_later (wr.heap.size) (by kernel_rfl) (by kernel_rfl) ?_
    repeat (go_big_quiet_step ((rename_i xq; rw [LK.out xq.w xq.h]; exact ⟨rfl, rfl⟩)))
    (first | refine wpQuiet_nil ?_ | (go_big_quiet_want; (try go_big_quiet_op); trace_state; fail))
    intro w1 hw'
    have b1 := later_elim hw'
    clear hw'
    have k1 := bk_keep b1 lx HI'.out.box
    have l1 := bk_lt k1
    have d0 := bk_cell k1 0
    have d2 := bk_cell k1 2
    simp only [inC, ← HPP.out] at d0 d2
    simp at d0 d2
    have hown := (HI'.out.below b1).map
    have K1 := Lib.hid k1; have B1 := Lib.hid b1
    clear k1 b1 c0 c2 LK
    cases hb
    · go_wp2_with fail
      go_wp2
      refine bodyPost_ret (results_none rfl _ _ _) rfl ?_
      refine ⟨rfl, v', ?_, HV.out, HT.out.trans (Tn.of B1.out) (G := fun _ => False) (fun j hj => hj.elim)⟩
      rw [← hS.out, settle_eq, step_none HHB.out.symm]
      exact HI'.out.below B1.out
    · go_upto_region 2 with fail
      refine wp_region_later_tail (w1.heap.size) 8 (by kernel_rfl) (by kernel_rfl) ?_
      simp only [List.take_succ_cons, List.take_zero, List.drop_succ_cons, List.drop_zero]
      repeat (go_big_quiet_step ((fail)))
      (first | refine wpQuiet_nil ?_ | (go_big_quiet_want; (try go_big_quiet_op); trace_state; fail))
      intro w2 hw'
      have b2 := later_elim hw'
      clear hw'
      have B2 := Lib.hid (B1.out.trans (b2.mono B1.out.size))
      have hown2 := (HI'.out.below B2.out).map
      have H32 := Lib.hid HI'.out.ok.at32
      clear hown K1 B1 b2
      go_wp2_with (at_delete; refine wpList_delete_own _ rfl _ _ 58 22 rfl 5 law32 Try.underlying58 _ g _ _ rfl hown2 _ _ rfl (key32 (HPP.out ▸ H32.out)) ?_)
      intro w3 hown3 hturn3
      have k3 : bk w3 x = some (.cells (inC s' v' g e) 60 (0, 0)) := (hturn3.grown.block x (Nat.lt_of_lt_of_le lx B2.out.size) (fun e => HI'.out.xg (by cases e; rfl))).trans (bk_keep B2.out lx HI'.out.box)
      have row3 : w3.ownsRow n 5 1 v' s'.ready.length (s'.ready.map B) := ((HI'.out.below B2.out).row).kept hturn3.grown (.inr HI'.out.vg)
      have l3 := bk_lt k3
      have e0 := bk_cell k3 0
      have e1 := bk_cell k3 1
      simp only [inC, ← HPP.out] at e0 e1
      simp at e0 e1
      have ns := s'.ready.length
      have hr82 := HI'.out.ok.room
      have nw3 : n ≤ w3.heap.size := Nat.le_trans (Nat.le_trans hn HT.out.size) (Nat.le_trans B2.out.size hturn3.grown.size)
      have R3 := Lib.hid row3; have K3 := Lib.hid k3; have H3 := Lib.hid hown3; have U3 := Lib.hid hturn3
      clear row3 k3 hown3 hturn3 hown2 ns
      obtain ⟨i0, hi, hz0, hz1, hz2⟩ := info_parts infoB
      go_wp2_with (at_builtin; refine wpList_append_own_at _ rfl _ _ 23 rfl n 5 i0 (.int .u8 0) 1 1 Try.underlying23 hi hz0 hz1 hz2 rfl (by decide) _ _ _ rfl (R3.out.alloc _) ⟨w3.heap.size, 0, none⟩ 1 1 [B c] rfl rfl (by intro j u hj; match j, hj with | 0, hj => (simp at hj; subst hj; simp [Addr.add])) (by intro u hu; simp at hu; subst hu; rfl) (by unfold maxLen; omega) (by omega) (by simp; omega) ?_)
      intro v4 w4 hown4 hgrow4 hnil4 hat4
      have hb4 : Below w3.heap.size w3 (w3.alloc (.cells #[B c] 5 (0, 0))) := (Below.refl _ _).alloc (Nat.le_refl _) _
      have k4 : bk w4 x = some (.cells (inC s' v' g e) 60 (0, 0)) := (hgrow4.block x (by simp; omega) (fun e => HI'.out.vx e.symm)).trans ((hb4.block x l3).trans K3.out)
      have e0' := bk_cell k4 0
      have f0' := bk_frozen k4 0
      have f1' := bk_frozen k4 1
      have l4 := bk_lt k4
      have e1' := bk_cell k4 1
      simp only [inC, ← HPP.out] at e0' e1'
      simp at e0' e1'
      have FIN := Lib.hid (step_box HI'.out B2.out (HST.out trivial) U3.out (by
        have hk : kyOf s'.at' 0 = .int .u32 (p : Int) := by
          unfold kyOf
          rw [Nat.add_zero, Nat.mod_eq_of_lt H32.out, HPP.out]
        rw [hk]
        exact H3.out) hb4 (by simpa [appB] using hown4) hgrow4 (by simpa using hat4) (Nat.le_trans hn HT.out.size))
      rw [← HPP.out] at FIN
      have HM : Hid (((p : Int) + 1) % 4294967296 = (((p + 1) % m32 : Nat) : Int)) := Lib.hid (by unfold m32; omega)
      obtain ⟨A4, N4, c4, hv4⟩ : ∃ A N c, v4 = .slice A N c := by
        rcases hown4.2 with ⟨h4, _⟩ | ⟨_, _, _, h4, _⟩
        · exact ⟨_, _, _, h4⟩
        · exact ⟨_, _, _, h4⟩
      clear hown4 hgrow4 hnil4 hat4 hb4 k4 e0 e1 R3 H3 U3 hi hz0 hz1 hz2
      subst hv4
      go_wp2_with fail
      rw [HM.out]
      obtain ⟨F1, F2, F3⟩ := FIN.out
      have hstep := HST.out trivial
      refine ⟨⟨_, .slice A4 N4 c4, F1, Lib.hid ?_, fun k hk => ?_, HT.out.trans F3 fun j hj => ?_⟩, ?_⟩
      · rw [← hS.out, settle_eq s', hstep, HPP.out]
      · rcases F2 k hk with h | h
        · exact HV.out k h
        · exact .inr (Nat.le_trans HT.out.size h)
      · rcases hj with h | h | h
        · exact .inl (.inl h)
        · exact .inl (.inr (.inl h))
        · rcases HV.out j h with h | h
          · exact .inl (.inr (.inr h))
          · exact .inr h
      · rw [mapSize_of F1.map, mapSize_of HI'.out.map]
        rw [← HPP.out] at hstep
        exact step_length hstep
end Go.Proofs.Ytjnfdpakpdahkaa
