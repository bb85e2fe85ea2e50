/- Streams: the document's end of reading: bytes come. -/
import Derived.Test.YtjnfdpakpdahkaaZ23
import Derived.Deep.RegionLaw
namespace Go.Proofs.Ytjnfdpakpdahkaa
open Go.RowKit
set_option maxRecDepth 100000
set_option maxHeartbeats 2000000
/-- Whose blocks turn; new ones may come. -/
structure RT (w w' : World) (y : Nat) (vr vf vr' vf' : Value) : Prop where
  r : ∀ k, vr'.ownBlock = some k → vr.ownBlock = some k ∨ w.heap.size ≤ k
  f : ∀ k, vf'.ownBlock = some k → vf.ownBlock = some k ∨ w.heap.size ≤ k
  t : Tn (Fr y vr vf) w w'
theorem Tn.weak {F G : Nat → Prop} {w w' : World} (h : Tn F w w') (hf : ∀ k, F k → G k) : Tn G w w' := ⟨h.os, h.tape, h.output, h.size, fun k hk hn => h.old k hk fun q => hn (hf k q)⟩
theorem RT.refl (w : World) (y : Nat) (vr vf : Value) : RT w w y vr vf vr vf := ⟨fun _ h => .inl h, fun _ h => .inl h, Tn.refl _ _⟩
theorem RT.trans {w w' w'' : World} {y : Nat} {vr vf vr' vf' vr'' vf'' : Value} (h : RT w w' y vr vf vr' vf') (k : RT w' w'' y vr' vf' vr'' vf'') : RT w w'' y vr vf vr'' vf'' :=
  ⟨fun j hj => (k.r j hj).elim (h.r j) fun q => .inr (Nat.le_trans h.t.size q), fun j hj => (k.f j hj).elim (h.f j) fun q => .inr (Nat.le_trans h.t.size q), h.t.trans k.t fun j hj => by
    rcases hj with hj | hj | hj
    · exact .inl (.inl hj)
    · exact (h.r j hj).imp (fun q => .inr (.inl q)) id
    · exact (h.f j hj).imp (fun q => .inr (.inr q)) id⟩
theorem RT.below {w w' : World} {n y lf : Nat} {vr vf vr' vf' : Value} {s : Sn} (h : RT w w' y vr vf vr' vf') (hb : RB w n y vr vf lf s) (hn : n ≤ w.heap.size) : Below n w w' := h.t.below (fun k hk => (hb.lt k hk).1) hn
theorem put_far {n y lf d : Nat} {vr vf : Value} {s : Sn} {w w5 w6 : World} {c : UInt8} {A6 : Option Addr} {c6 : Nat} (h : RB w n y vr vf lf s) (hn : n ≤ w.heap.size) (ht : s.takes d = true) (b5 : Below w.heap.size w w5) (o6 : w6.ownsRow n 72 2 (.slice A6 (s.far.length + 1) c6) (s.far.length + 1) (farV (s.far ++ [(d, c)])))
    (g6 : w5.grownBy w6 vf.ownBlock) (a6 : (Value.slice A6 (s.far.length + 1) c6).ownBlock = vf.ownBlock ∨ (Value.slice A6 (s.far.length + 1) c6).ownBlock = some w5.heap.size) :
    RB (w6.setCell ⟨y, 2, none⟩ (.slice A6 (s.far.length + 1) c6)) n y vr (.slice A6 (s.far.length + 1) c6) lf (s.byte d c) ∧ RT w (w6.setCell ⟨y, 2, none⟩ (.slice A6 (s.far.length + 1) c6)) y vr vf vr (.slice A6 (s.far.length + 1) c6) := by
  have ho := byte_ok h.ok d c
  unfold Sn.byte at ho ⊢
  rw [if_pos ht] at ho ⊢
  have ly := bk_lt h.box
  have sz := b5.size
  have hnew : ∀ k, (Value.slice A6 (s.far.length + 1) c6).ownBlock = some k → vf.ownBlock = some k ∨ w.heap.size ≤ k := fun k hk => by
    rcases a6 with a6 | a6
    · exact .inl (a6 ▸ hk)
    · rw [a6] at hk
      cases hk
      exact .inr sz
  have hy6 : (Value.slice A6 (s.far.length + 1) c6).ownBlock ≠ some y := fun e => by
    rcases hnew y e with h1 | h1
    · exact h.fy h1
    · omega
  have k6 : bk w6 y = some (.cells (rinC s vr vf lf) 55 (0, 0)) := (g6.block y (by omega) (fun e => h.fy e.symm)).trans (bk_keep b5 ly h.box)
  refine ⟨⟨?_, ?_, ?_, h.left, h.l32, ho, h.ry, hy6, fun k hk hk2 => ?_, h.ny⟩, fun k hk => .inl hk, hnew, ?_⟩
  · rw [bk_setCell_same, k6]
    rfl
  · refine own_turn h.row fun k hk => ?_
    have h1 : k ≠ y := fun e => h.ry (e ▸ hk)
    rw [bk_setCell_other _ _ _ _ _ h1]
    exact (g6.block k (Nat.lt_of_lt_of_le (h.row.lt k hk).2 sz) (fun e => h.rf k hk e.symm)).trans (b5.block k (h.row.lt k hk).2)
  · have := far_turn (w' := w6.setCell ⟨y, 2, none⟩ (.slice A6 (s.far.length + 1) c6)) o6 fun k hk => bk_setCell_other _ _ _ _ _ (fun e => hy6 (e ▸ hk))
    simpa using this
  · rcases hnew k hk2 with h1 | h1
    · exact h.rf k hk h1
    · have := (h.row.lt k hk).2; omega
  · refine Tn.trans (F := Fr y vr vf) ((Tn.of b5).trans (Tn.grown (F := fun k => vf.ownBlock = some k) g6 fun k hk => hk) fun j hj => .inl (.inr (.inr hj))) (G := fun k => k = y) ⟨rfl, rfl, rfl, by simp, fun k hk hx => bk_setCell_other _ _ _ _ _ hx⟩ fun j hj => .inl (.inl hj)
theorem app_box {n y lf : Nat} {vr vf : Value} {s : Sn} {w w5 w6 : World} (h : RB w n y vr vf lf s) (b5 : Below w.heap.size w w5) (g6 : w5.grownBy w6 vf.ownBlock) : w6.frozen? ⟨y, 2, none⟩ = false ∧ w6.cell? ⟨y, 2, none⟩ = some vf ∧ y < w6.heap.size := by
  have ly := bk_lt h.box
  have k6 : bk w6 y = some (.cells (rinC s vr vf lf) 55 (0, 0)) := (g6.block y (Nat.lt_of_lt_of_le ly b5.size) (fun e => h.fy e.symm)).trans (bk_keep b5 ly h.box)
  exact ⟨bk_frozen k6 2, by rw [bk_cell k6]; rfl, bk_lt k6⟩
def farLen (w : World) (y : Nat) : Nat := match bk w y with
  | some (Obj.cells c _ _) => match c[2]? with
    | some (Value.slice _ n _) => n
    | _ => 0
  | _ => 0
theorem farLen_of {w : World} {n y lf : Nat} {vr vf : Value} {s : Sn} (h : RB w n y vr vf lf s) : farLen w y = s.far.length := by
  obtain ⟨A, c, rfl, _⟩ := far_slice h.far
  unfold farLen
  rw [h.box]
  rfl
theorem end_rbox {n y lf d : Nat} {vr vf : Value} {s : Sn} {w : World} (h : RB w n y vr vf lf s) (hE : s.endsAt d = true) (hd : d < m32) :
    RB ((w.setCell ⟨y, 3, none⟩ (.bool true)).setCell ⟨y, 4, none⟩ (.int .u32 (d : Int))) n y vr vf d (s.end' d) ∧ RT w ((w.setCell ⟨y, 3, none⟩ (.bool true)).setCell ⟨y, 4, none⟩ (.int .u32 (d : Int))) y vr vf vr vf := by
  have ho := end_ok h.ok d
  unfold Sn.end' at ho ⊢
  rw [if_pos hE] at ho ⊢
  have hne : ∀ k, k ≠ y → bk ((w.setCell ⟨y, 3, none⟩ (.bool true)).setCell ⟨y, 4, none⟩ (.int .u32 (d : Int))) k = bk w k := fun k hk => by rw [bk_setCell_other _ _ _ _ _ hk, bk_setCell_other _ _ _ _ _ hk]
  refine ⟨⟨?_, own_turn h.row fun k hk => hne k fun e => h.ry (e ▸ hk), far_turn h.far fun k hk => hne k fun e => h.fy (e ▸ hk), fun _ => rfl, hd, ho, h.ry, h.fy, h.rf, h.ny⟩, fun _ hk => .inl hk, fun _ hk => .inl hk, ⟨rfl, rfl, rfl, by simp, fun k hk hx => hne k fun e => hx (.inl e)⟩⟩
  rw [bk_setCell_same, bk_setCell_same, h.box]
  rfl
theorem bytes_keeps' : ∀ (l : List UInt8) (s : Sn) (d : Nat), (s.bytes d l).1.at' = s.at' ∧ (s.bytes d l).1.ready = s.ready ∧ (s.bytes d l).1.known = s.known ∧ (s.bytes d l).1.left = s.left
  | [], _, _ => ⟨rfl, rfl, rfl, rfl⟩
  | c :: l, s, d => by
    obtain ⟨h1, h2, h3, h4⟩ := bytes_keeps' l (s.byte d c) ((d + 1) % m32)
    have hk : (s.byte d c).at' = s.at' ∧ (s.byte d c).ready = s.ready ∧ (s.byte d c).known = s.known ∧ (s.byte d c).left = s.left := by unfold Sn.byte; split <;> exact ⟨rfl, rfl, rfl, rfl⟩
    exact ⟨h1.trans hk.1, h2.trans hk.2.1, h3.trans hk.2.2.1, h4.trans hk.2.2.2⟩
theorem rput_any (n y lf : Nat) (vr vf : Value) (s : Sn) (w : World) (h : RB w n y vr vf lf s) (hn : n ≤ w.heap.size) (q : Nat) (hq : q < m32) (A : Option Addr) (b : List UInt8) (c : Nat) (fin : Bool) (hr : Rd w n A b) (hbc : b.length ≤ c) (hbl : b.length < 4294967296) :
    Calls Try.prog 28 #[.pointer (some ⟨y, 0, none⟩), .int .u32 (q : Int), .slice A b.length c, .bool fin] w fun r w' => r = .returned (.bool (s.put q b fin).2) ∧ ∃ lf' vr' vf', RB w' n y vr' vf' lf' (s.put q b fin).1 ∧ RT w w' y vr vf vr' vf' := by
  have HI := Lib.hid h
  have CE := Lib.hid (rended_any n y lf vr vf s w h)
  have HR := Lib.hid hr
  have HN := Lib.hid hn
  obtain ⟨ov, hov⟩ : ∃ ov, ov = s.over := ⟨_, rfl⟩
  rw [← hov] at CE
  have HOV := Lib.hid hov
  obtain ⟨d, hd⟩ : ∃ d, d = dist q s.at' := ⟨_, rfl⟩
  have hd32 : d < m32 := hd ▸ dist_lt _ _
  have HD := Lib.hid hd
  have hat := h.ok.at32
  have HP := Lib.hid hat
  obtain ⟨p, hp⟩ : ∃ p, p = s.at' := ⟨_, rfl⟩
  have HPP := Lib.hid hp.symm
  have hp32 : p < 4294967296 := hp ▸ hat
  have hq32 : q < 4294967296 := hq
  clear h hr hov hd hn hat hp
  go_enter Try.func28, Try.ntmps28
  go_wp2_with fail
  refine (CE.out).mono ?_
  rintro e w1 ⟨rfl, hw⟩
  subst hw
  clear CE
  cases ov
  · have HPut : Hid (s.put q b fin = (((if fin then (s.bytes d b).1.end' (dist ((q + b.length) % m32) s.at') else (s.bytes d b).1).settle, (fin && (s.bytes d b).1.endsAt (dist ((q + b.length) % m32) s.at')) || (s.bytes d b).2))) := Lib.hid (by
      unfold Sn.put
      rw [← HOV.out, HD.out]
      rfl)
    go_wp2_with fail
    go_loopw [9, 10] (fun sv kv wr => ∃ (k : Nat) (A1 : Option Addr) (n1 c1 : Nat), k ≤ b.length ∧ kv = .int .i64 (k : Int) ∧ sv = .bool (s.bytes d (b.take k)).2 ∧ Hid (RB wr n y vr (.slice A1 n1 c1) lf (s.bytes d (b.take k)).1) ∧ Hid (RT w wr y vr vf vr (.slice A1 n1 c1))) (fun _ kv _ => b.length - (intOf kv).toNat)
    case atStart =>
      obtain ⟨A1, c1, rfl, _⟩ := far_slice HI.out.far
      exact ⟨0, A1, _, c1, by omega, rfl, rfl, HI, Lib.hid (RT.refl _ _ _ _)⟩
    case round =>
      obtain ⟨k, A1, n1, c1, hk, rfl, rfl, HK, HT⟩ := hrel
      by_cases hlt : k < b.length
      · have dk : decide ((k : Int) < (b.length : Int)) = true := by simp; omega
        obtain ⟨Q, hQ⟩ : ∃ Q, Q = (q + k) % 4294967296 := ⟨_, rfl⟩
        have hQI : ((q : Int) + (k : Int)) % 4294967296 = (Q : Int) := by omega
        have hki : (k : Int) % 4294967296 = (k : Int) := by omega
        obtain ⟨D, hDe⟩ : ∃ D, D = dist Q p := ⟨_, rfl⟩
        have hD32 : D < 4294967296 := hDe ▸ dist_lt _ _
        have hDI : ((Q : Int) - (p : Int)) % 4294967296 = (D : Int) := by rw [hDe]; unfold dist m32; omega
        have hBn := HT.out.below HI.out HN.out
        obtain ⟨bb, o, rfl, hbn, hcl⟩ := HR.out (by omega)
        have u1 := (hBn.cell hbn).trans (hcl k hlt)
        have lbb : bb < wr.heap.size := Nat.lt_of_lt_of_le hbn (Nat.le_trans HN.out HT.out.t.size)
        obtain ⟨z, hz⟩ : ∃ z, z = b[k] := ⟨_, rfl⟩
        rw [← hz] at u1
        have HNX := Lib.hid (show s.bytes d (b.take (k + 1)) = ((s.bytes d (b.take k)).1.byte D z, (s.bytes d (b.take k)).2 || (s.bytes d (b.take k)).1.takes D) by
          rw [List.take_succ_eq_append_getElem hlt, ← hz, bytes_snoc _ _ _ _ hd32, List.length_take, Nat.min_eq_left hk, HD.out, ← dist_add k HP.out, hDe, hQ, HPP.out]
          rfl)
        obtain ⟨k1, k2, k3, k4⟩ := bytes_keeps' (b.take k) s d
        obtain ⟨r, hr⟩ : ∃ r, r = (s.bytes d (b.take k)).1 := ⟨_, rfl⟩
        obtain ⟨so, hso⟩ : ∃ so, so = (s.bytes d (b.take k)).2 := ⟨_, rfl⟩
        rw [← hr] at HK HNX k1 k2 k3 k4
        rw [← hso] at HNX ⊢
        have c0 := bk_cell HK.out.box 0
        have c2 := bk_cell HK.out.box 2
        have c3 := bk_cell HK.out.box 3
        have c4 := bk_cell HK.out.box 4
        simp only [rinC, k1, HPP.out] at c0 c2 c3 c4
        simp at c0 c2 c3 c4
        have ly := bk_lt HK.out.box
        have CW := rwindow_any n y lf vr _ r wr HK.out
        have CT := rthere_any n y lf vr _ r wr HK.out D
        obtain ⟨W, hW⟩ : ∃ W, W = r.win := ⟨_, rfl⟩
        obtain ⟨kn, hkn⟩ : ∃ kn, kn = r.known := ⟨_, rfl⟩
        obtain ⟨hb, hhb⟩ : ∃ hb, hb = r.has D := ⟨_, rfl⟩
        have hW8 : W ≤ 8192 := hW ▸ Nat.sub_le _ _
        have hWm : (W : Int) % 4294967296 = (W : Int) := by omega
        obtain ⟨x1, hx1⟩ : ∃ x, x = decide (D < W) := ⟨_, rfl⟩
        obtain ⟨x2, hx2⟩ : ∃ x, x = decide (D < lf) := ⟨_, rfl⟩
        have hx1I : decide ((D : Int) < (W : Int)) = x1 := by rw [hx1]; exact Bool.eq_iff_iff.2 (by simp)
        have hx2I : decide ((D : Int) < (lf : Int)) = x2 := by rw [hx2]; exact Bool.eq_iff_iff.2 (by simp)
        have hx1N := hx1.symm
        have hx2N := hx2.symm
        have HTK : Hid (r.takes D = (x1 && (!kn || x2) && !hb)) := Lib.hid (by
          unfold Sn.takes
          rw [← hW, ← hkn, ← hhb, ← hx1]
          cases kn
          · simp
          · rw [hx2, ← HK.out.left hkn.symm])
        rw [← hW] at CW
        rw [← hhb] at CT
        rw [← hkn] at c3
        have HCW := Lib.hid CW; have HCT := Lib.hid CT
        have H2 : Hid ((s.bytes d (b.take (k + 1))).2 = (so || r.takes D)) := Lib.hid (by rw [HNX.out])
        have H1 : Hid ((s.bytes d (b.take (k + 1))).1 = r.byte D z) := Lib.hid (by rw [HNX.out])
        have HFL := Lib.hid (show r.far.length < 2 ^ 40 by have := HK.out.ok.far_length; omega)
        have HNW := Lib.hid (show n ≤ wr.heap.size from Nat.le_trans HN.out HT.out.t.size)
        clear CW CT hW hkn hhb hx1 hx2 HNX k1 k2 k3 k4 hr hso hz hQ hDe hcl hBn hbn hD32
        cases x1
        · skip
          have p1 := hx1N
          have p2 := hx2N
          simp at p1 p2
          clear hx1N hx2N
          clear HCT
          go_wp2_with fail
          refine HCW.out.mono ?_
          rintro e w1 ⟨rfl, rfl⟩
          go_wp2_with fail
          exact ⟨⟨k + 1, A1, n1, c1, by omega, by simp, by rw [H2.out, HTK.out]; simp, by rw [H1.out]; unfold Sn.byte; rw [HTK.out]; exact HK, HT⟩, by simp [intOf]; omega⟩
        · cases kn
          · cases hb
            · skip
              have p1 := hx1N
              have p2 := hx2N
              simp at p1 p2
              clear hx1N hx2N
              have B5 : Hid (Below wr.heap.size wr (wr.drew.alloc (.cells (camC (D, z)) 72 (0, 0)))) := Lib.hid ((Below.refl _ _).drew.alloc (Nat.le_refl _) _)
              have HFA : Hid ((wr.drew.alloc (.cells (camC (D, z)) 72 (0, 0))).ownsRow n 72 2 (.slice A1 n1 c1) r.far.length (farV r.far)) := Lib.hid (far_turn HK.out.far fun j hj => B5.out.block j (HK.out.far.lt j hj).2)
              have KB : Hid (bk (wr.drew.alloc (.cells (camC (D, z)) 72 (0, 0))) wr.heap.size = some (.cells (camC (D, z)) 72 (0, 0))) := Lib.hid (bk_alloc_at _ _ _ rfl)
              have HNA : Hid (n ≤ (wr.drew.alloc (.cells (camC (D, z)) 72 (0, 0))).heap.size) := Lib.hid (Nat.le_trans HNW.out B5.out.size)
              have HTT : Hid (r.takes D = true) := Lib.hid (by rw [HTK.out]; rfl)
              go_wp2_with fail
              refine HCW.out.mono ?_
              rintro e w1 ⟨rfl, rfl⟩
              go_wp2_with fail
              refine HCT.out.mono ?_
              rintro e w1 ⟨rfl, rfl⟩
              clear HCW HCT
              go_upto_region 9 with fail
              go_region_law (refine step_appF rfl (.tmp 62) (.tmp 69) rfl n (.slice A1 n1 c1) r.far (D, z) (by simp [Act.eval, Act.put]) HFA.out wr.heap.size 1 (by simp [Act.eval, Act.put]) KB.out HNA.out HFL.out ?_; intro A6 c6 w6 ho6 hg6 ha6; obtain ⟨fr6, e6, l6⟩ := app_box HK.out B5.out hg6; have FIN := Lib.hid (put_far HK.out HNW.out HTT.out B5.out ho6 hg6 ha6); clear ho6 hg6 ha6)
              all_goals
                go_wp2_with fail
                obtain ⟨g1, g2⟩ := FIN.out
                exact ⟨⟨k + 1, A6, r.far.length + 1, c6, by omega, by simp, by rw [H2.out, HTT.out]; simp, Lib.hid (by rw [H1.out]; exact g1), Lib.hid (HT.out.trans g2)⟩, by simp [intOf]; omega⟩
            · skip
              have p1 := hx1N
              have p2 := hx2N
              simp at p1 p2
              clear hx1N hx2N
              go_wp2_with fail
              refine HCW.out.mono ?_
              rintro e w1 ⟨rfl, rfl⟩
              go_wp2_with fail
              refine HCT.out.mono ?_
              rintro e w1 ⟨rfl, rfl⟩
              go_wp2_with fail
              exact ⟨⟨k + 1, A1, n1, c1, by omega, by simp, by rw [H2.out, HTK.out]; simp, by rw [H1.out]; unfold Sn.byte; rw [HTK.out]; exact HK, HT⟩, by simp [intOf]; omega⟩
          · cases x2
            · skip
              have p1 := hx1N
              have p2 := hx2N
              simp at p1 p2
              clear hx1N hx2N
              clear HCT
              go_wp2_with fail
              refine HCW.out.mono ?_
              rintro e w1 ⟨rfl, rfl⟩
              go_wp2_with fail
              exact ⟨⟨k + 1, A1, n1, c1, by omega, by simp, by rw [H2.out, HTK.out]; simp, by rw [H1.out]; unfold Sn.byte; rw [HTK.out]; exact HK, HT⟩, by simp [intOf]; omega⟩
            · cases hb
              · skip
                have p1 := hx1N
                have p2 := hx2N
                simp at p1 p2
                clear hx1N hx2N
                have B5 : Hid (Below wr.heap.size wr (wr.drew.alloc (.cells (camC (D, z)) 72 (0, 0)))) := Lib.hid ((Below.refl _ _).drew.alloc (Nat.le_refl _) _)
                have HFA : Hid ((wr.drew.alloc (.cells (camC (D, z)) 72 (0, 0))).ownsRow n 72 2 (.slice A1 n1 c1) r.far.length (farV r.far)) := Lib.hid (far_turn HK.out.far fun j hj => B5.out.block j (HK.out.far.lt j hj).2)
                have KB : Hid (bk (wr.drew.alloc (.cells (camC (D, z)) 72 (0, 0))) wr.heap.size = some (.cells (camC (D, z)) 72 (0, 0))) := Lib.hid (bk_alloc_at _ _ _ rfl)
                have HNA : Hid (n ≤ (wr.drew.alloc (.cells (camC (D, z)) 72 (0, 0))).heap.size) := Lib.hid (Nat.le_trans HNW.out B5.out.size)
                have HTT : Hid (r.takes D = true) := Lib.hid (by rw [HTK.out]; rfl)
                go_wp2_with fail
                refine HCW.out.mono ?_
                rintro e w1 ⟨rfl, rfl⟩
                go_wp2_with fail
                refine HCT.out.mono ?_
                rintro e w1 ⟨rfl, rfl⟩
                clear HCW HCT
                go_upto_region 9 with fail
                go_region_law (refine step_appF rfl (.tmp 62) (.tmp 69) rfl n (.slice A1 n1 c1) r.far (D, z) (by simp [Act.eval, Act.put]) HFA.out wr.heap.size 1 (by simp [Act.eval, Act.put]) KB.out HNA.out HFL.out ?_; intro A6 c6 w6 ho6 hg6 ha6; obtain ⟨fr6, e6, l6⟩ := app_box HK.out B5.out hg6; have FIN := Lib.hid (put_far HK.out HNW.out HTT.out B5.out ho6 hg6 ha6); clear ho6 hg6 ha6)
                all_goals
                  go_wp2_with fail
                  obtain ⟨g1, g2⟩ := FIN.out
                  exact ⟨⟨k + 1, A6, r.far.length + 1, c6, by omega, by simp, by rw [H2.out, HTT.out]; simp, Lib.hid (by rw [H1.out]; exact g1), Lib.hid (HT.out.trans g2)⟩, by simp [intOf]; omega⟩
              · skip
                have p1 := hx1N
                have p2 := hx2N
                simp at p1 p2
                clear hx1N hx2N
                go_wp2_with fail
                refine HCW.out.mono ?_
                rintro e w1 ⟨rfl, rfl⟩
                go_wp2_with fail
                refine HCT.out.mono ?_
                rintro e w1 ⟨rfl, rfl⟩
                go_wp2_with fail
                exact ⟨⟨k + 1, A1, n1, c1, by omega, by simp, by rw [H2.out, HTK.out]; simp, by rw [H1.out]; unfold Sn.byte; rw [HTK.out]; exact HK, HT⟩, by simp [intOf]; omega⟩
      · obtain rfl : k = b.length := by omega
        have dk : decide ((b.length : Int) < (b.length : Int)) = false := by simp
        rw [List.take_length] at HK ⊢
        obtain ⟨r, hr⟩ : ∃ r, r = s.bytes d b := ⟨_, rfl⟩
        have hat : r.1.at' = p := by rw [hr, (bytes_keeps' b s d).1, HPP.out]
        rw [← hr] at HK HPut ⊢
        obtain ⟨so, hso⟩ : ∃ so, so = r.2 := ⟨_, rfl⟩
        rw [← hso] at HPut ⊢
        obtain ⟨Q, hQ⟩ : ∃ Q, Q = (q + b.length) % 4294967296 := ⟨_, rfl⟩
        have hQI : ((q : Int) + (b.length : Int)) % 4294967296 = (Q : Int) := by omega
        have hbi : (b.length : Int) % 4294967296 = (b.length : Int) := by omega
        obtain ⟨D, hDe⟩ : ∃ D, D = dist Q p := ⟨_, rfl⟩
        have hD32 : D < 4294967296 := hDe ▸ dist_lt _ _
        have hDI : ((Q : Int) - (p : Int)) % 4294967296 = (D : Int) := by rw [hDe]; unfold dist m32; omega
        rw [show dist ((q + b.length) % m32) s.at' = D by rw [HPP.out, hDe, hQ]; rfl] at HPut
        obtain ⟨r1, hr1⟩ : ∃ r1, r1 = r.1 := ⟨_, rfl⟩
        rw [← hr1] at HK HPut hat
        have c0 := bk_cell HK.out.box 0
        have c2 := bk_cell HK.out.box 2
        have c3 := bk_cell HK.out.box 3
        have c4 := bk_cell HK.out.box 4
        have f3 := bk_frozen HK.out.box 3
        have f4 := bk_frozen HK.out.box 4
        simp only [rinC, hat] at c0 c2 c3 c4
        simp at c0 c2 c3 c4
        have ly := bk_lt HK.out.box
        obtain ⟨kn, hkn⟩ : ∃ kn, kn = r1.known := ⟨_, rfl⟩
        rw [← hkn] at c3
        have HKN := Lib.hid hkn
        have HNW := Lib.hid (show n ≤ wr.heap.size from Nat.le_trans HN.out HT.out.t.size)
        clear hr hso hQ hDe hr1 hkn hat
        cases fin
        · have HE : Hid (s.put q b false = (r1.settle, so)) := Lib.hid (by rw [HPut.out]; simp)
          clear HPut c0 c2 c3 f3 f4
          go_wp2_with fail
          go_loopw [127] (fun _ wz => ∃ (s' : Sn) (vr' vf' : Value) (lf' : Nat), Hid (RB wz n y vr' vf' lf' s') ∧ Hid (RT w wz y vr vf vr' vf') ∧ Hid (s'.settle = Sn.settle r1)) (fun _ wz => farLen wz y)
          case atStart => exact ⟨_, _, _, _, HK, HT, Lib.hid rfl⟩
          case round =>
            obtain ⟨s', vr', vf', lf', KZ, TZ, SZ⟩ := hrel
            have CS := Lib.hid (rstep_any n y lf' vr' vf' s' _ KZ.out (Nat.le_trans HN.out TZ.out.t.size))
            have HFL := Lib.hid (farLen_of KZ.out)
            go_wp2_with fail
            refine CS.out.mono ?_
            rintro e wn ⟨h1, h2⟩
            clear CS
            cases hs : s'.step with
            | none =>
              obtain ⟨rfl, hRB, hB⟩ := h1 hs
              have HRB := Lib.hid hRB
              have HTB := Lib.hid (TZ.out.trans ⟨fun _ q => .inl q, fun _ q => .inl q, Tn.of hB⟩)
              have HSE := Lib.hid (show Sn.settle r1 = s' by rw [← SZ.out, settle_eq s', hs])
              clear h1 h2 hRB hB
              go_wp2_with fail
              go_ret
              exact ⟨by rw [HE.out]; rfl, lf', vr', vf', by rw [HE.out]; show RB _ n y vr' vf' lf' (Sn.settle r1); rw [HSE.out]; exact HRB.out, HTB.out⟩
            | some s'' =>
              obtain ⟨rfl, vr'', vf'', lf'', hRB, hfr, hT⟩ := h2 s'' hs
              have HRB := Lib.hid hRB
              have HTB := Lib.hid (TZ.out.trans ⟨fun k q => .inr (hfr k (.inl q)), fun k q => .inr (hfr k (.inr q)), hT.weak fun k hk => .inl hk⟩)
              have HSE := Lib.hid (show s''.settle = Sn.settle r1 by rw [← SZ.out, settle_eq s', hs])
              have HLT := Lib.hid (show farLen wn y < s'.far.length by rw [farLen_of hRB]; exact step_length hs)
              clear h1 h2 hRB hfr hT
              go_wp2_with fail
              exact ⟨⟨s'', vr'', vf'', lf'', HRB, HTB, HSE⟩, by rw [HFL.out]; exact HLT.out⟩
        · cases kn
          · have CW := rwindow_any n y lf vr _ r1 wr HK.out
            obtain ⟨W, hW⟩ : ∃ W, W = r1.win := ⟨_, rfl⟩
            rw [← hW] at CW
            have hW8 : W ≤ 8192 := hW ▸ Nat.sub_le _ _
            have hWm : (W : Int) % 4294967296 = (W : Int) := by omega
            have HW := Lib.hid hW
            have HCW := Lib.hid CW
            obtain ⟨x0, hx0⟩ : ∃ x, x = decide (D ≤ W) := ⟨_, rfl⟩
            have hx0I : decide ((D : Int) ≤ (W : Int)) = x0 := by rw [hx0]; exact Bool.eq_iff_iff.2 (by simp)
            have hx0N : decide (D ≤ W) = x0 := hx0.symm
            have HX0 := Lib.hid hx0
            obtain ⟨Af, cf, hvf, _⟩ := far_slice HK.out.far
            cases hvf
            clear CW hW hx0
            go_wp2_with fail
            refine HCW.out.mono ?_
            rintro e w1 ⟨rfl, rfl⟩
            clear HCW
            go_wp2_with fail
            clear hx0I hx0N
            go_loopw [13, 14] (fun okv kv wz => ∃ k : Nat, k ≤ r1.far.length ∧ kv = .int .i64 (k : Int) ∧ okv = .bool (x0 && (r1.far.take k).all fun e => decide (e.1 < D)) ∧ wz = wr) (fun _ kv _ => r1.far.length - (intOf kv).toNat)
            case atStart => exact ⟨0, by omega, rfl, by simp, rfl⟩
            case round =>
              obtain ⟨k, hk, rfl, rfl, rfl⟩ := hrel
              by_cases hlt : k < r1.far.length
              · have d1 : decide ((k : Int) < (r1.far.length : Int)) = true := by simp; omega
                obtain ⟨b1, c1', hv1, hb1, hc1', u1, _⟩ := HK.out.cam hlt
                cases hv1
                have hfl := HK.out.ok.far_length
                have HAT := Lib.hid (show ((r1.far.take (k + 1)).all fun e => decide (e.1 < D)) = (((r1.far.take k).all fun e => decide (e.1 < D)) && decide ((r1.far[k]).1 < D)) by
                  rw [List.take_succ_eq_append_getElem hlt, List.all_append]
                  simp only [List.all_cons, List.all_nil, Bool.and_true])
                obtain ⟨ev, hev⟩ : ∃ ev, ev = (r1.far[k]).1 := ⟨_, rfl⟩
                rw [← hev] at u1 HAT
                obtain ⟨al, hal⟩ : ∃ al, al = (x0 && (r1.far.take k).all fun e => decide (e.1 < D)) := ⟨_, rfl⟩
                have HAL := Lib.hid hal
                rw [← hal]
                obtain ⟨x3, hx3⟩ : ∃ x, x = decide (ev < D) := ⟨_, rfl⟩
                have hx3I : decide ((ev : Int) < (D : Int)) = x3 := by rw [hx3]; exact Bool.eq_iff_iff.2 (by simp)
                have hx3N := hx3.symm
                have HX3 := Lib.hid hx3
                have HNX : Hid ((x0 && (r1.far.take (k + 1)).all fun e => decide (e.1 < D)) = (al && x3)) := Lib.hid (by rw [HAT.out, HAL.out, HX3.out, Bool.and_assoc])
                clear hev hal hx3
                cases al
                · go_wp2_with fail
                  exact ⟨⟨k + 1, by omega, by simp, by rw [HNX.out]; rfl, trivial⟩, by simp [intOf]; omega⟩
                · cases x3
                  all_goals
                    have p3 := hx3N
                    simp at p3
                    go_wp2_with fail
                    exact ⟨⟨k + 1, by omega, by simp, by rw [HNX.out]; rfl, trivial⟩, by simp [intOf]; omega⟩
              · obtain rfl : k = r1.far.length := by omega
                have d1 : decide ((r1.far.length : Int) < (r1.far.length : Int)) = false := by simp
                rw [List.take_length]
                obtain ⟨ea, hea⟩ : ∃ ea, ea = (x0 && r1.far.all fun e => decide (e.1 < D)) := ⟨_, rfl⟩
                rw [← hea]
                have HEA := Lib.hid (show r1.endsAt D = ea by unfold Sn.endsAt; rw [← HKN.out, ← HW.out, ← HX0.out, hea]; rfl)
                clear hea
                cases ea
                · have HE : Hid (s.put q b true = (r1.settle, so)) := Lib.hid (by
                    rw [HPut.out]
                    unfold Sn.end'
                    rw [HEA.out]
                    simp)
                  clear HPut c0
                  go_wp2_with fail
                  go_loopw [127] (fun _ wz => ∃ (s' : Sn) (vr' vf' : Value) (lf' : Nat), Hid (RB wz n y vr' vf' lf' s') ∧ Hid (RT w wz y vr vf vr' vf') ∧ Hid (s'.settle = Sn.settle r1)) (fun _ wz => farLen wz y)
                  case atStart => exact ⟨_, _, _, _, HK, HT, Lib.hid rfl⟩
                  case round =>
                    obtain ⟨s', vr', vf', lf', KZ, TZ, SZ⟩ := hrel
                    have CS := Lib.hid (rstep_any n y lf' vr' vf' s' _ KZ.out (Nat.le_trans HN.out TZ.out.t.size))
                    have HFL := Lib.hid (farLen_of KZ.out)
                    go_wp2_with fail
                    refine CS.out.mono ?_
                    rintro e wn ⟨h1, h2⟩
                    clear CS
                    cases hs : s'.step with
                    | none =>
                      obtain ⟨rfl, hRB, hB⟩ := h1 hs
                      have HRB := Lib.hid hRB
                      have HTB := Lib.hid (TZ.out.trans ⟨fun _ q => .inl q, fun _ q => .inl q, Tn.of hB⟩)
                      have HSE := Lib.hid (show Sn.settle r1 = s' by rw [← SZ.out, settle_eq s', hs])
                      clear h1 h2 hRB hB
                      go_wp2_with fail
                      go_ret
                      exact ⟨by rw [HE.out]; rfl, lf', vr', vf', by rw [HE.out]; show RB _ n y vr' vf' lf' (Sn.settle r1); rw [HSE.out]; exact HRB.out, HTB.out⟩
                    | some s'' =>
                      obtain ⟨rfl, vr'', vf'', lf'', hRB, hfr, hT⟩ := h2 s'' hs
                      have HRB := Lib.hid hRB
                      have HTB := Lib.hid (TZ.out.trans ⟨fun k q => .inr (hfr k (.inl q)), fun k q => .inr (hfr k (.inr q)), hT.weak fun k hk => .inl hk⟩)
                      have HSE := Lib.hid (show s''.settle = Sn.settle r1 by rw [← SZ.out, settle_eq s', hs])
                      have HLT := Lib.hid (show farLen wn y < s'.far.length by rw [farLen_of hRB]; exact step_length hs)
                      clear h1 h2 hRB hfr hT
                      go_wp2_with fail
                      exact ⟨⟨s'', vr'', vf'', lf'', HRB, HTB, HSE⟩, by rw [HFL.out]; exact HLT.out⟩
                · have HE : Hid (s.put q b true = ((r1.end' D).settle, true)) := Lib.hid (by
                    rw [HPut.out, HEA.out]
                    simp)
                  have HB2 := end_rbox HK.out HEA.out hD32
                  have K2 := Lib.hid HB2.1
                  have T2 := Lib.hid (HT.out.trans HB2.2)
                  have hD32m : (D : Int) % 4294967296 = (D : Int) := by omega
                  clear HPut HB2
                  go_wp2_with fail
                  go_loopw [127] (fun _ wz => ∃ (s' : Sn) (vr' vf' : Value) (lf' : Nat), Hid (RB wz n y vr' vf' lf' s') ∧ Hid (RT w wz y vr vf vr' vf') ∧ Hid (s'.settle = Sn.settle (r1.end' D))) (fun _ wz => farLen wz y)
                  case atStart => exact ⟨_, _, _, _, K2, T2, Lib.hid rfl⟩
                  case round =>
                    obtain ⟨s', vr', vf', lf', KZ, TZ, SZ⟩ := hrel
                    have CS := Lib.hid (rstep_any n y lf' vr' vf' s' _ KZ.out (Nat.le_trans HN.out TZ.out.t.size))
                    have HFL := Lib.hid (farLen_of KZ.out)
                    go_wp2_with fail
                    refine CS.out.mono ?_
                    rintro e wn ⟨h1, h2⟩
                    clear CS
                    cases hs : s'.step with
                    | none =>
                      obtain ⟨rfl, hRB, hB⟩ := h1 hs
                      have HRB := Lib.hid hRB
                      have HTB := Lib.hid (TZ.out.trans ⟨fun _ q => .inl q, fun _ q => .inl q, Tn.of hB⟩)
                      have HSE := Lib.hid (show Sn.settle (r1.end' D) = s' by rw [← SZ.out, settle_eq s', hs])
                      clear h1 h2 hRB hB
                      go_wp2_with fail
                      go_ret
                      exact ⟨by rw [HE.out]; rfl, lf', vr', vf', by rw [HE.out]; show RB _ n y vr' vf' lf' (Sn.settle (r1.end' D)); rw [HSE.out]; exact HRB.out, HTB.out⟩
                    | some s'' =>
                      obtain ⟨rfl, vr'', vf'', lf'', hRB, hfr, hT⟩ := h2 s'' hs
                      have HRB := Lib.hid hRB
                      have HTB := Lib.hid (TZ.out.trans ⟨fun k q => .inr (hfr k (.inl q)), fun k q => .inr (hfr k (.inr q)), hT.weak fun k hk => .inl hk⟩)
                      have HSE := Lib.hid (show s''.settle = Sn.settle (r1.end' D) by rw [← SZ.out, settle_eq s', hs])
                      have HLT := Lib.hid (show farLen wn y < s'.far.length by rw [farLen_of hRB]; exact step_length hs)
                      clear h1 h2 hRB hfr hT
                      go_wp2_with fail
                      exact ⟨⟨s'', vr'', vf'', lf'', HRB, HTB, HSE⟩, by rw [HFL.out]; exact HLT.out⟩
          · have HE : Hid (s.put q b true = (r1.settle, so)) := Lib.hid (by
              have : r1.endsAt D = false := by unfold Sn.endsAt; rw [← HKN.out]; rfl
              rw [HPut.out]
              unfold Sn.end'
              rw [this]
              simp)
            clear HPut c0 c2 f3 f4
            go_wp2_with fail
            go_loopw [127] (fun _ wz => ∃ (s' : Sn) (vr' vf' : Value) (lf' : Nat), Hid (RB wz n y vr' vf' lf' s') ∧ Hid (RT w wz y vr vf vr' vf') ∧ Hid (s'.settle = Sn.settle r1)) (fun _ wz => farLen wz y)
            case atStart => exact ⟨_, _, _, _, HK, HT, Lib.hid rfl⟩
            case round =>
              obtain ⟨s', vr', vf', lf', KZ, TZ, SZ⟩ := hrel
              have CS := Lib.hid (rstep_any n y lf' vr' vf' s' _ KZ.out (Nat.le_trans HN.out TZ.out.t.size))
              have HFL := Lib.hid (farLen_of KZ.out)
              go_wp2_with fail
              refine CS.out.mono ?_
              rintro e wn ⟨h1, h2⟩
              clear CS
              cases hs : s'.step with
              | none =>
                obtain ⟨rfl, hRB, hB⟩ := h1 hs
                have HRB := Lib.hid hRB
                have HTB := Lib.hid (TZ.out.trans ⟨fun _ q => .inl q, fun _ q => .inl q, Tn.of hB⟩)
                have HSE := Lib.hid (show Sn.settle r1 = s' by rw [← SZ.out, settle_eq s', hs])
                clear h1 h2 hRB hB
                go_wp2_with fail
                go_ret
                exact ⟨by rw [HE.out]; rfl, lf', vr', vf', by rw [HE.out]; show RB _ n y vr' vf' lf' (Sn.settle r1); rw [HSE.out]; exact HRB.out, HTB.out⟩
              | some s'' =>
                obtain ⟨rfl, vr'', vf'', lf'', hRB, hfr, hT⟩ := h2 s'' hs
                have HRB := Lib.hid hRB
                have HTB := Lib.hid (TZ.out.trans ⟨fun k q => .inr (hfr k (.inl q)), fun k q => .inr (hfr k (.inr q)), hT.weak fun k hk => .inl hk⟩)
                have HSE := Lib.hid (show s''.settle = Sn.settle r1 by rw [← SZ.out, settle_eq s', hs])
                have HLT := Lib.hid (show farLen wn y < s'.far.length by rw [farLen_of hRB]; exact step_length hs)
                clear h1 h2 hRB hfr hT
                go_wp2_with fail
                exact ⟨⟨s'', vr'', vf'', lf'', HRB, HTB, HSE⟩, by rw [HFL.out]; exact HLT.out⟩
  · have HPut : Hid (s.put q b fin = (s, false)) := Lib.hid (by unfold Sn.put; rw [← HOV.out]; rfl)
    go_wp2_with fail
    go_ret
    exact ⟨by rw [HPut.out]; rfl, lf, vr, vf, by rw [HPut.out]; exact HI.out, RT.refl _ _ _ _⟩
end Go.Proofs.Ytjnfdpakpdahkaa
