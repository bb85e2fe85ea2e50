/- Streams: an end of reading: bytes are read. -/
import Derived.Test.YtjnfdpakpdahkaaZ7
namespace Go.Proofs.Ytjnfdpakpdahkaa
open Go.RowKit
set_option maxRecDepth 100000
set_option maxHeartbeats 1000000
@[go_sem ↓] theorem zcpBytes (dst : Option Tmp) (x y : Operand) (t : TypeId) (pos : String) (af : Array Edge) (gd : Option (Nat × Bool)) (a : Act) (w : World) (K : Act → World → Prop) (Q : Exit → Act → World → Prop) :
    Oper.wp Try.prog ⟨dst, .call { callee := .builtin .copy, args := #[x, y], argTypes := #[23, 23] }, t, pos, af, gd⟩ a w K Q =
      cpPtr (wpHid Try.prog ⟨dst, .call { callee := .builtin .copy, args := #[x, y], argTypes := #[23, 23] }, t, pos, af, gd⟩ a w K Q) w (fun n w' => K (a.put dst (.int .i64 n)) w') (a.eval x) (a.eval y) :=
  wp_copy_bk 23 23 5 Try.underlying23 (by kernel_rfl) dst x y t pos af gd a w K Q
theorem iread_any (n x g e : Nat) (v : Value) (s : Sn) (w : World) (h : InB w n x g e v s) (hn : n ≤ w.heap.size) (m : Int) :
    Calls Try.prog 13 #[.pointer (some ⟨x, 0, none⟩), .int .i64 m] w fun r w' => ∃ u v', r = .returned u ∧ w'.ownsRow w.heap.size 5 1 u (s.reads m) ((s.ready.take (s.reads m)).map B) ∧ InB w' n x g e v' (s.read m) ∧
      (∀ k, v'.ownBlock = some k → v.ownBlock = some k ∨ (w.heap.size ≤ k ∧ u.ownBlock ≠ some k)) ∧ Tn (fun k => k = x) w w' := by
  have HI := Lib.hid h
  have C := Lib.hid (iready_any n x g e v s w h)
  have HN := Lib.hid hn
  by_cases h0 : m < 1 ∨ s.ready.length = 0
  · have hr0 : s.reads m = 0 := by unfold Sn.reads; omega
    have HF : Hid (InB w n x g e v (s.read m)) := Lib.hid (by
      unfold Sn.read
      rw [hr0, List.drop_zero]
      exact h)
    rw [hr0]
    have hle : ¬ (m < 1) → (s.ready.length : Int) < m := fun h1 => by omega
    obtain ⟨L, hL⟩ : ∃ L, L = s.ready.length := ⟨_, rfl⟩
    rw [← hL] at C h0 hle
    clear h hn hr0 hL
    go_enter Try.func13, Try.ntmps13
    go_wp2_with fail
    refine (C.out).mono ?_
    rintro e w1 ⟨rfl, hw⟩
    subst hw
    have hmin : decide ((if (L : Int) < m then (L : Int) else m) < 1) = true := by
      split <;> simp <;> omega
    go_wp2_with fail
    all_goals
      go_ret
      exact ⟨.slice none 0 0, rfl, World.ownsRow_nil _ _ _ _, v, HF.out, fun k hk => .inl hk, Tn.refl _ _⟩
  · obtain ⟨N, hN⟩ : ∃ N, N = s.reads m := ⟨_, rfl⟩
    have hN1 : 1 ≤ N ∧ N ≤ s.ready.length := by subst hN; unfold Sn.reads; omega
    have hmn : (if (s.ready.length : Int) < m then (s.ready.length : Int) else m) = (N : Int) := by
      subst hN
      unfold Sn.reads
      split <;> omega
    rw [← hN]
    have HRD := Lib.hid (show s.read m = { s with ready := s.ready.drop N } by unfold Sn.read; rw [hN])
    rcases h.row.2 with ⟨_, hz⟩ | ⟨gr, cap, cur, hv, hbase, hb, h1, h2, h3, h4⟩
    · omega
    subst hv
    have HB := Lib.hid (show bk w gr = some (.cells cur 5 (0, 0)) from hb)
    have c1 := bk_cell h.box 1
    simp [inC] at c1
    have lx := bk_lt h.box
    have lgr := bk_lt HB.out
    have hcs : cur.size = cap := by omega
    have HT4 := Lib.hid h4
    have hr8 := h.ok.room
    obtain ⟨L, hL⟩ : ∃ L, L = s.ready.length := ⟨_, rfl⟩
    rw [← hL] at C c1 hN1 hmn h1 hr8
    have HL := Lib.hid hL
    clear h hn hN h0 hb h2 h3 h4 hL
    have hN0 : ¬ ((N : Int) < 1) := by omega
    go_enter Try.func13, Try.ntmps13
    go_wp2_with fail
    refine (C.out).mono ?_
    rintro e w1 ⟨rfl, hw⟩
    subst hw
    go_upto_region 4 with fail
    have kb := HB.out
    have hN2 : N ≤ 1152921504606846975 := by omega
    have hmin : min L N = N := by omega
    have hsz : N ≤ cur.size := by omega
    have hxl : (xt cur 0 N).toList = List.map B (s.ready.take N) := by
      have h4 := HT4.out
      rw [Nat.mul_one, ← HL.out] at h4
      have h5 := congrArg (List.take N) h4
      rw [List.take_take, Nat.min_eq_left hN1.2] at h5
      rw [List.map_take, ← h5]
      simp [xt, List.extract_eq_take_drop]
    have hxs : (xt cur 0 N).size = N := by simp [xt]; omega
    have hxo : ones (xt cur 0 N).toList = true := by
      rw [hxl]
      exact ones_map _
    go_upto_region 6 with fail
    rw [cpSrc_some _ _ _ _ _ _ _ _ _ _ (by omega), bk_alloc_at _ _ _ rfl, cpRow_some _ _ _ _ _ _ _ _ _ (by simp) hxs hxo]
    have HR0 : Hid (bk ((w.alloc (.cells (Array.replicate N (B 0)) 5 (0, 0))).setRow w.heap.size (spl (Array.replicate N (B 0)).toList 0 (xt cur 0 N).toList)) w.heap.size = some (.cells (List.map B (s.ready.take N)).toArray 5 (0, 0))) := Lib.hid (by
      rw [bk_setRow_same, bk_alloc_at _ _ _ rfl, hxl]
      have : (s.ready.take N).length = N := by rw [List.length_take]; have := HL.out; omega
      have h9 : N - min N s.ready.length = 0 := by have := HL.out; omega
      simp [spl, rowObj, h9])
    have HB0 : Hid (Below w.heap.size w ((w.alloc (.cells (Array.replicate N (B 0)) 5 (0, 0))).setRow w.heap.size (spl (Array.replicate N (B 0)).toList 0 (xt cur 0 N).toList))) := Lib.hid (below_setRow ((Below.refl _ _).alloc (Nat.le_refl _) _) (by simp) _)
    have HS0 : ((w.alloc (.cells (Array.replicate N (B 0)) 5 (0, 0))).setRow w.heap.size (spl (Array.replicate N (B 0)).toList 0 (xt cur 0 N).toList)).heap.size = w.heap.size + 1 := by simp [World.setRow]
    generalize (w.alloc (.cells (Array.replicate N (B 0)) 5 (0, 0))).setRow w.heap.size (spl (Array.replicate N (B 0)).toList 0 (xt cur 0 N).toList) = w2 at *
    clear c1 hxl hxs hxo
    have HI2 := Lib.hid (HI.out.below HB0.out)
    have d1 := bk_cell HI2.out.box 1
    simp only [inC, ← HL.out] at d1
    simp at d1
    have l2 := bk_lt HI2.out.box
    have hNL : (N : Int) ≤ (L : Int) := by omega
    have hdl : (s.ready.drop N).length = L - N := by rw [List.length_drop, HL.out]
    have RD2 : Rd w2 w2.heap.size (some ⟨gr, 0, none⟩) s.ready := by
      obtain ⟨A, c, e1, r1, _⟩ := Rd.of_own HI2.out.row rfl
      cases e1
      exact r1
    have CC : Hid (∀ (A : Addr) (c : Nat), (Rd w2 w2.heap.size (some A) (s.ready.drop N)) → Calls Try.prog 41 #[.slice (some A) (L - N) c] w2 fun e w' => ∃ v, e = .returned v ∧ w'.ownsRow w2.heap.size 5 1 v (L - N) ((s.ready.drop N).map B) ∧ Below w2.heap.size w2 w') := Lib.hid fun A c hr => by
      have := clone_both (some A) (s.ready.drop N) c w2 hr (fun e => by cases e) (by omega)
      rwa [hdl] at this
    have FIN : Hid (∀ (w3 : World) (u : Value), w3.ownsRow w2.heap.size 5 1 u (L - N) ((s.ready.drop N).map B) → Below w2.heap.size w2 w3 →
        InB (w3.setCell ⟨x, 1, none⟩ u) n x g e u (s.read m) ∧ (w3.setCell ⟨x, 1, none⟩ u).ownsRow w.heap.size 5 1 (.slice (some ⟨w.heap.size, 0, none⟩) N N) N ((s.ready.take N).map B) ∧
        (∀ k, u.ownBlock = some k → w2.heap.size ≤ k) ∧ Tn (fun k => k = x) w (w3.setCell ⟨x, 1, none⟩ u)) := Lib.hid fun w3 u ho hb => by
      have h3 := HI2.out.below hb
      have hl : ∀ k, u.ownBlock = some k → w2.heap.size ≤ k := fun k hk => (ho.lt k hk).1
      have lg := HI2.out.map.lt
      have hux : u.ownBlock ≠ some x := fun e1 => by have := hl x e1; omega
      have hug : u.ownBlock ≠ some g := fun e1 => by have := hl g e1; omega
      refine ⟨?_, ?_, hl, ?_⟩
      · rw [HRD.out]
        refine ⟨?_, map_turn h3.map (bk_setCell_other _ _ _ _ _ (fun e1 => h3.xg e1.symm)), ?_, h3.ends, h3.e32, HRD.out ▸ read_ok h3.ok m, h3.xg, hux, hug, h3.nx, h3.ng⟩
        · rw [bk_setCell_same, h3.box]
          rfl
        · refine own_turn (w := w3) ?_ fun k hk => bk_setCell_other _ _ _ _ _ (fun e1 => hux (e1 ▸ hk))
          rw [← hdl] at ho
          refine ⟨ho.1, ho.2.imp (fun q => q) fun ⟨g', cap', cur', q1, q2, q3⟩ => ⟨g', cap', cur', q1, ?_, q3⟩⟩
          exact Nat.le_trans (Nat.le_trans HN.out HB0.out.size) q2
      · have hxw : w.heap.size ≠ x := by omega
        have hk : bk (w3.setCell ⟨x, 1, none⟩ u) w.heap.size = some (.cells (List.map B (s.ready.take N)).toArray 5 (0, 0)) := (bk_setCell_other _ _ _ _ _ hxw).trans ((hb.block _ (by omega)).trans HR0.out)
        have ht : (s.ready.take N).length = N := by rw [List.length_take]; have := HL.out; omega
        exact ⟨by simp; have := HL.out; omega, .inr ⟨_, _, _, rfl, Nat.le_refl _, hk, Nat.le_refl _, by unfold maxLen; omega, by simp; have := HL.out; omega, by
          rw [Nat.mul_one]
          exact List.take_of_length_le (by simp; omega)⟩⟩
      · refine Tn.trans (Tn.of (HB0.out.trans (hb.mono HB0.out.size))) (G := fun k => k = x) ⟨rfl, rfl, rfl, by simp, fun k hk hx => bk_setCell_other _ _ _ _ _ hx⟩ fun j hj => .inl hj
    have HSZ := Lib.hid HS0
    clear hdl HS0
    have RDH := Lib.hid RD2
    clear RD2
    go_wp2_with fail
    · refine (CC.out _ _ (fun h0 => ?_)).mono ?_
      · rw [List.length_drop] at h0
        have := HL.out
        omega
      · skip
        rintro r w3 ⟨u, rfl, ho, hb⟩
        have F3 := Lib.hid (FIN.out w3 u ho hb)
        have k3 := (HI2.out.below hb).box
        have fr1 := bk_frozen k3 1
        have e1 := bk_cell k3 1
        simp [inC] at e1
        have l3 := bk_lt k3
        obtain ⟨A4, N4, c4, hv4⟩ : ∃ A N c, u = .slice A N c := by
          rcases ho.2 with ⟨q, _⟩ | ⟨_, _, _, q, _⟩
          · exact ⟨_, _, _, q⟩
          · exact ⟨_, _, _, q⟩
        clear ho hb k3 CC FIN
        subst hv4
        go_wp2_with fail
        go_ret
        obtain ⟨q1, q2, q3, q4⟩ := F3.out
        have hs2 := HSZ.out
        refine ⟨.slice (some ⟨w.heap.size, 0, none⟩) N N, .slice A4 N4 c4, rfl, q2, q1, fun k hk => .inr ?_, q4⟩
        have hk2 := q3 k hk
        clear q1 q2 q3 q4 F3
        exact ⟨Nat.le_of_lt (Nat.lt_of_lt_of_le (hs2 ▸ Nat.lt_succ_self _) hk2), fun e2 => by
          have e3 : w.heap.size = k := Option.some.inj e2
          rw [hs2, e3] at hk2
          exact Nat.not_succ_le_self _ hk2⟩
    · refine (CC.out _ _ ?_).mono ?_
      · have := RDH.out.adv (c := cap) (m := N) (by have := HL.out; omega)
        unfold adv at this
        rw [if_neg (by assumption)] at this
        have h6 : ((⟨gr, 0, none⟩ : Addr).add N) = ⟨gr, N, none⟩ := by unfold Addr.add; split <;> simp_all
        simp only [Option.map_some, h6] at this
        exact this
      · skip
        rintro r w3 ⟨u, rfl, ho, hb⟩
        have F3 := Lib.hid (FIN.out w3 u ho hb)
        have k3 := (HI2.out.below hb).box
        have fr1 := bk_frozen k3 1
        have e1 := bk_cell k3 1
        simp [inC] at e1
        have l3 := bk_lt k3
        obtain ⟨A4, N4, c4, hv4⟩ : ∃ A N c, u = .slice A N c := by
          rcases ho.2 with ⟨q, _⟩ | ⟨_, _, _, q, _⟩
          · exact ⟨_, _, _, q⟩
          · exact ⟨_, _, _, q⟩
        clear ho hb k3 CC FIN
        subst hv4
        go_wp2_with fail
        go_ret
        obtain ⟨q1, q2, q3, q4⟩ := F3.out
        have hs2 := HSZ.out
        refine ⟨.slice (some ⟨w.heap.size, 0, none⟩) N N, .slice A4 N4 c4, rfl, q2, q1, fun k hk => .inr ?_, q4⟩
        have hk2 := q3 k hk
        clear q1 q2 q3 q4 F3
        exact ⟨Nat.le_of_lt (Nat.lt_of_lt_of_le (hs2 ▸ Nat.lt_succ_self _) hk2), fun e2 => by
          have e3 : w.heap.size = k := Option.some.inj e2
          rw [hs2, e3] at hk2
          exact Nat.not_succ_le_self _ hk2⟩
end Go.Proofs.Ytjnfdpakpdahkaa
