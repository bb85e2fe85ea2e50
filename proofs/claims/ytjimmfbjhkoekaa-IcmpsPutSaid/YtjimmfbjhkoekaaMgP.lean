import Derived.Test.YtjimmfbjhkoekaaMgO
import Derived.Test.YtjimmfbjhkoekaaMgM
/- Icmps: what is cut, plain. -/
namespace Go.Proofs.Ytjimmfbjhkoekaa
open Go.RowKit
set_option maxRecDepth 100000
theorem short_adv (L : List UInt8) (k : Nat) : GS.adv L k .short = .short := rfl
theorem short_cnt (L : List UInt8) : GS.cnt L .short = .short := rfl
theorem ok_adv (L : List UInt8) (q k : Nat) (h : q + k ≤ L.length) : GS.adv L k (.ok q) = .ok (q + k) := by simp only [GS.adv]; rw [if_pos h]
theorem ok_adv_no (L : List UInt8) (q k : Nat) (h : L.length < q + k) : GS.adv L k (.ok q) = .short := by simp only [GS.adv]; rw [if_neg (by omega)]
theorem optB_head (o : UInt8 × List UInt8) : ∃ r, optB o = o.1 :: UInt8.ofNat (optM o.2) :: r := ⟨_, by unfold optB; simp only [List.cons_append, List.nil_append]; rfl⟩
theorem optM_u8 (d : List UInt8) : (UInt8.ofNat (optM d)).toNat = optM d := by
  have := optM_le d
  rw [UInt8.toNat_ofNat']; omega
/-- Options that are cut are none, or fewer. -/
theorem opts_cut : ∀ (os : List (UInt8 × List UInt8)) (k t : Nat), t < (optsB os).length → optsG k ((optsB os).take t) = none ∨ ∃ os', optsG k ((optsB os).take t) = some os' ∧ os'.length < os.length
  | [], k, t, h => absurd h (by simp [optsB])
  | o :: rest, k, t, h => by
    have e0 : optsB (o :: rest) = optB o ++ optsB rest := by simp [optsB]
    have hl := optB_len o
    have hm := optM_le o.2
    rw [e0, List.length_append, hl] at h
    rw [e0]
    cases t with
    | zero => exact .inr ⟨[], by rw [List.take_zero]; cases k <;> rfl, by simp⟩
    | succ t =>
      obtain ⟨r, hr⟩ := optB_head o
      have hX : (optB o ++ optsB rest).take (t + 1) = o.1 :: ((UInt8.ofNat (optM o.2) :: r) ++ optsB rest).take t := by rw [hr]; rfl
      cases k with
      | zero => left; rw [hX]; rfl
      | succ k =>
        obtain ⟨T, hT⟩ : ∃ T, T = (optB o ++ optsB rest).take (t + 1) := ⟨_, rfl⟩
        have hTl : T.length = t + 1 := by rw [hT, List.length_take, List.length_append, hl]; omega
        obtain ⟨b, hb⟩ : ∃ b, b = ((UInt8.ofNat (optM o.2) :: r) ++ optsB rest).take t := ⟨_, rfl⟩
        have hTb : T = o.1 :: b := by rw [hT, hb]; exact hX
        rw [← hT]
        have hG : optsG (k + 1) T = if T.length < 2 ∨ b.headD 0 = 0 ∨ T.length < 8 * (b.headD 0).toNat then none else (optsG k (T.drop (8 * (b.headD 0).toNat))).map fun l => (o.1, (T.take (8 * (b.headD 0).toNat)).drop 2) :: l := by rw [hTb]; rfl
        rw [hG]
        by_cases hc : T.length < 2 ∨ b.headD 0 = 0 ∨ T.length < 8 * (b.headD 0).toNat
        · left; rw [if_pos hc]
        · rw [if_neg hc]
          have h2 : ¬ T.length < 2 := fun e => hc (.inl e)
          have h3 : ¬ T.length < 8 * (b.headD 0).toNat := fun e => hc (.inr (.inr e))
          have hh : b.headD 0 = UInt8.ofNat (optM o.2) := by
            rw [hb]
            cases t with
            | zero => omega
            | succ t => rfl
          rw [hh, optM_u8] at h3 ⊢
          have hd : T.drop (8 * optM o.2) = (optsB rest).take (t + 1 - 8 * optM o.2) := by rw [hT, List.drop_take, ← hl, List.drop_left]
          rw [hd]
          rcases opts_cut rest k (t + 1 - 8 * optM o.2) (by omega) with e | ⟨os', e, e2⟩
          · left; rw [e]; rfl
          · right; exact ⟨_, by rw [e]; rfl, by simp; omega⟩
theorem dumC : ((1 : UInt8) :: [] ++ nb 2 5).length < 100 := by decide
/-- A number at a place. -/
theorem val_at {L a c : List UInt8} {k n q : Nat} (h : L = a ++ nb k n ++ c) (ha : a.length = q) (hn : n < 256 ^ k) : val ((L.drop q).take k) = n := by
  subst h
  rw [List.append_assoc, List.drop_left' ha, List.take_left' (nb_length k n)]
  rw [val_nb, Nat.mod_eq_of_lt hn]
end Go.Proofs.Ytjimmfbjhkoekaa
/- Icmps: parts that are cut, plain. -/
namespace Go.Proofs.Ytjimmfbjhkoekaa
open Go.RowKit
set_option maxRecDepth 100000
structure Wf (m : Msg) : Prop where
  t : m.tgt.length = 16
  d : m.dst.length = 16
  g : m.grp.length = 16
  s : ∀ z ∈ m.srcs, z.length = 16
  r : ∀ r ∈ m.recs, r.g.length = 16 ∧ ∀ z ∈ r.s, z.length = 16
theorem opt_cut (P : List UInt8) (os os' : List (UInt8 × List UInt8)) (j F : Nat) (st' : GS) (hF : P.length = F) (hj : j < (P ++ optsB os).length) (h : OptR ((P ++ optsB os).take j) ((GS.ok 0).adv ((P ++ optsB os).take j) F) os' st') : (∃ q, st' = .ok q ∧ os'.length < os.length) ∨ st' = .short ∨ st' = .form := by
  have hl : ((P ++ optsB os).take j).length = j := by rw [List.length_take]; omega
  obtain ⟨h1, h2⟩ := h
  by_cases hjF : j < F
  · rw [ok_adv_no _ _ _ (by rw [hl]; omega)] at h1
    exact .inr (.inl h1)
  · rw [ok_adv _ _ _ (by rw [hl]; omega), Nat.zero_add] at h1 h2
    have hd : ((P ++ optsB os).take j).drop F = (optsB os).take (j - F) := by rw [List.drop_take, ← hF, List.drop_left]
    simp only [GS.opt, hd] at h1
    rw [List.length_append] at hj
    rcases opts_cut os 64 (j - F) (by omega) with e | ⟨os2, e, e2⟩
    · rw [e] at h1
      exact .inr (.inr h1)
    · rw [e] at h1
      have := h2 F os2 rfl (by rw [hd]; exact e)
      exact .inl ⟨_, h1, by rw [this]; exact e2⟩
theorem recG_short {L : List UInt8} {s' : GS} {k : UInt8} {z : List UInt8} {zs : List (List UInt8)} (h : RecG L .short s' k z zs) : s' = .short := by
  obtain ⟨more, _, _, _, _, _, _, _, e⟩ := h
  exact e
theorem recsG_short {L : List UInt8} : ∀ {l : List Rc} {s' : GS}, RecsG L .short l s' → s' = .short
  | [], s', h => h
  | r :: l, s', h => by
    obtain ⟨s1, h1, h2⟩ := h
    rw [recG_short h1] at h2
    exact recsG_short h2
theorem recB_len {r : Rc} (hg : r.g.length = 16) (hs : ∀ z ∈ r.s, z.length = 16) : (recB r).length = 20 + 16 * r.s.length := by
  have := sflat_le r.s hs
  simp only [recB, List.length_append, nb_length, hg, this, List.length_cons, List.length_nil]
/-- A report of which all bytes are there is gone past; of which not all are, is short. -/
theorem recG_at {L pre : List UInt8} {r : Rc} {rest : List UInt8} {q t : Nat} {s1 : GS} {k : UInt8} {z : List UInt8} {zs : List (List UInt8)} (hq : pre.length = q) (hL : L = (pre ++ (recB r ++ rest)).take t) (hqt : q ≤ t) (htl : t ≤ (pre ++ (recB r ++ rest)).length) (hg : r.g.length = 16) (hs : ∀ z ∈ r.s, z.length = 16) (h64 : r.s.length ≤ 64) (h : RecG L (.ok q) s1 k z zs) :
    (t < q + (20 + 16 * r.s.length) → s1 = .short) ∧ (q + (20 + 16 * r.s.length) ≤ t → s1 = .ok (q + (20 + 16 * r.s.length))) := by
  obtain ⟨more, _, hmore, hcnt, _, _, _, _, e⟩ := h
  have hl : L.length = t := by rw [hL, List.length_take]; omega
  have hb := recB_len hg hs
  by_cases h2 : t < q + 2
  · rw [ok_adv_no L q 2 (by omega)] at e
    exact ⟨fun _ => e, fun h => by omega⟩
  · rw [ok_adv L q 2 (by omega)] at e hcnt
    by_cases h4 : t < q + 4
    · have e1 : GS.cnt L (.ok (q + 2)) = .short := by simp only [GS.cnt]; rw [if_neg (by omega)]
      rw [e1] at e
      exact ⟨fun _ => e, fun h => by omega⟩
    · have hat : ∀ i n, q + i + n ≤ t → i + n ≤ (recB r).length → (L.drop (q + i)).take n = ((recB r).drop i).take n := fun i n hi hin => by
        have e2 : (pre ++ (recB r ++ rest)).drop (q + i) = (recB r).drop i ++ rest := by
          rw [← hq, List.drop_append, List.drop_of_length_le (by omega), List.nil_append, Nat.add_sub_cancel_left, List.drop_append_of_le_length (by omega)]
        rw [hL, List.drop_take, List.take_take, Nat.min_eq_left (by omega), e2, List.take_append_of_le_length (by rw [List.length_drop]; omega)]
      have hn : val ((L.drop (q + 2)).take 2) = r.s.length := by
        rw [hat 2 2 (by omega) (by omega)]
        have e3 : ((recB r).drop 2).take 2 = nb 2 r.s.length := by
          unfold recB
          simp only [List.append_assoc, List.cons_append, List.nil_append, List.drop_succ_cons, List.drop_zero]
          exact List.take_left' (nb_length 2 _)
        rw [e3, val_nb, Nat.mod_eq_of_lt (by omega)]
      have hc : GS.cnt L (.ok (q + 2)) = .ok (q + 4) := by simp only [GS.cnt]; rw [if_pos (by omega), hn, if_neg (by omega)]
      have hN : zs.length = r.s.length := by rw [hcnt.2 (q + 2) rfl (by omega) (by omega), hn]
      have hm0 : more.toNat = 0 := by
        have := hmore (q + 1) (ok_adv L q 1 (by omega)) (by omega)
        rw [this, hat 1 1 (by omega) (by omega)]
        rfl
      rw [hc, hN, hm0, Nat.mul_zero, Nat.add_zero] at e
      refine ⟨fun h => ?_, fun h => ?_⟩
      · rw [e]; exact ok_adv_no L _ _ (by omega)
      · rw [e, ok_adv L _ _ (by omega)]; congr 1; omega
theorem recs_cut : ∀ (rs : List Rc) (pre : List UInt8) (q t : Nat) (l : List Rc) (s' : GS), pre.length = q → q ≤ t → t < q + (recsB rs).length → (∀ r ∈ rs, (r.g.length = 16 ∧ ∀ z ∈ r.s, z.length = 16) ∧ r.s.length ≤ 64) → l.length = rs.length → RecsG ((pre ++ recsB rs).take t) (.ok q) l s' → s' = .short
  | [], pre, q, t, l, s', h1, h2, h3, _, _, _ => by simp [recsB] at h3; omega
  | r :: rs, pre, q, t, [], s', _, _, _, _, h5, _ => by simp at h5
  | r :: rs, pre, q, t, x :: l, s', h1, h2, h3, h4, h5, h6 => by
    have e0 : recsB (r :: rs) = recB r ++ recsB rs := by simp [recsB]
    obtain ⟨s1, h7, h8⟩ := h6
    have hr := h4 r (by simp)
    have hb := recB_len hr.1.1 hr.1.2
    rw [e0] at h3 h7 h8
    rw [List.length_append, hb] at h3
    have hA := recG_at h1 rfl h2 (by rw [List.length_append, List.length_append, hb]; omega) hr.1.1 hr.1.2 hr.2 h7
    by_cases ht : t < q + (20 + 16 * r.s.length)
    · rw [hA.1 ht] at h8
      exact recsG_short h8
    · rw [hA.2 (by omega)] at h8
      refine recs_cut rs (pre ++ recB r) (q + (20 + 16 * r.s.length)) t l s' (by rw [List.length_append, h1, hb]) (by omega) (by omega) (fun y hy => h4 y (List.mem_cons_of_mem _ hy)) (by simpa using h5) ?_
      rw [List.append_assoc]
      exact h8
end Go.Proofs.Ytjimmfbjhkoekaa
/- Icmps: parts that are cut, plain, of each kind. -/
namespace Go.Proofs.Ytjimmfbjhkoekaa
open Go.RowKit
set_option maxRecDepth 100000
/-- What of a message that is cut at j behind its head is got. -/
def CutR (m : Msg) (j : Nat) (m' : Msg) (st' : GS) : Prop :=
  (m.kind < 130 → (j < 4 → st' = .short) ∧ (4 ≤ j → ∃ q, st' = .ok q ∧ m'.data.length = j - 4)) ∧
  (¬ m.kind < 130 → (∃ q, st' = .ok q ∧ m'.opts.length < m.opts.length ∧ m.kind ≠ 130 ∧ m.kind ≠ 143) ∨ st' = .short ∨ (st' = .form ∧ m.kind ≠ 130 ∧ m.kind ≠ 143))
theorem cut_opts {m m' : Msg} {j : Nat} {st' : GS} (hk : ¬ m.kind < 130) (h0 : m.kind ≠ 130 ∧ m.kind ≠ 143) (h : (∃ q, st' = .ok q ∧ m'.opts.length < m.opts.length) ∨ st' = .short ∨ st' = .form) : CutR m j m' st' := by
  refine ⟨fun e => absurd e hk, fun _ => ?_⟩
  rcases h with ⟨q, h1, h2⟩ | h | h
  · exact .inl ⟨q, h1, h2, h0⟩
  · exact .inr (.inl h)
  · exact .inr (.inr ⟨h, h0⟩)
theorem cut_short {m m' : Msg} {j : Nat} {st' : GS} (hk : ¬ m.kind < 130) (h : st' = .short) : CutR m j m' st' := ⟨fun e => absurd e hk, fun _ => .inr (.inl h)⟩
theorem cut133 {m m0 m' : Msg} {j : Nat} {st' : GS} (hw : Wf m) (e : m.kind = 133) (e0 : m0.kind = 133) (hj : j < (partB m).length) (h : PartG ((partB m).take j) (.ok 0) m0 m' st') : CutR m j m' st' := by
  have hB : partB m = [0, 0, 0, 0] ++ optsB m.opts := by unfold partB; rw [e]; rfl
  rw [hB] at hj h
  unfold PartG at h
  rw [e0] at h
  simp only [(by decide : ¬ ((133 : UInt8) = 130)), (by decide : ¬ ((133 : UInt8) = 143)), (by decide : ¬ ((133 : UInt8) = 134)), if_false, if_true] at h
  obtain ⟨os, hm', ho⟩ := h
  refine cut_opts (by rw [e]; decide) (by rw [e]; decide) ?_
  subst hm'
  have ht := hw.t; have hd := hw.d
  exact opt_cut _ _ _ j 4 st' (by (have dd := dumC; simp only [List.length_append, List.length_cons, List.length_nil, nb_length] at dd ⊢) <;> omega) hj ho
theorem cut134 {m m0 m' : Msg} {j : Nat} {st' : GS} (hw : Wf m) (e : m.kind = 134) (e0 : m0.kind = 134) (hj : j < (partB m).length) (h : PartG ((partB m).take j) (.ok 0) m0 m' st') : CutR m j m' st' := by
  have hB : partB m = ([m.hops, m.flags] ++ nb 2 m.life ++ nb 4 m.reach ++ nb 4 m.retr) ++ optsB m.opts := by unfold partB; rw [e]; rfl
  rw [hB] at hj h
  unfold PartG at h
  rw [e0] at h
  simp only [(by decide : ¬ ((134 : UInt8) = 130)), (by decide : ¬ ((134 : UInt8) = 143)), if_false, if_true] at h
  obtain ⟨a1, a2, a3, a4, a5, os, hm', b1, b2, b3, b4, b5, ho, b6⟩ := h
  refine cut_opts (by rw [e]; decide) (by rw [e]; decide) ?_
  subst hm'
  have ht := hw.t; have hd := hw.d
  exact opt_cut _ _ _ j 12 st' (by (have dd := dumC; simp only [List.length_append, List.length_cons, List.length_nil, nb_length] at dd ⊢) <;> omega) hj ho
theorem cut135 {m m0 m' : Msg} {j : Nat} {st' : GS} (hw : Wf m) (e : m.kind = 135) (e0 : m0.kind = 135) (hj : j < (partB m).length) (h : PartG ((partB m).take j) (.ok 0) m0 m' st') : CutR m j m' st' := by
  have hB : partB m = ([0, 0, 0, 0] ++ m.tgt) ++ optsB m.opts := by unfold partB; rw [e]; rfl
  rw [hB] at hj h
  unfold PartG at h
  rw [e0] at h
  simp only [(by decide : ¬ ((135 : UInt8) = 130)), (by decide : ¬ ((135 : UInt8) = 143)), (by decide : ¬ ((135 : UInt8) = 134)), (by decide : ¬ ((135 : UInt8) = 133)), if_false, if_true] at h
  obtain ⟨a1, os, hm', b1, b2, ho⟩ := h
  refine cut_opts (by rw [e]; decide) (by rw [e]; decide) ?_
  subst hm'
  have ht := hw.t; have hd := hw.d
  exact opt_cut _ _ _ j 20 st' (by (have dd := dumC; simp only [List.length_append, List.length_cons, List.length_nil, nb_length] at dd ⊢) <;> omega) hj ho
theorem cut136 {m m0 m' : Msg} {j : Nat} {st' : GS} (hw : Wf m) (e : m.kind = 136) (e0 : m0.kind = 136) (hj : j < (partB m).length) (h : PartG ((partB m).take j) (.ok 0) m0 m' st') : CutR m j m' st' := by
  have hB : partB m = ([m.flags, 0, 0, 0] ++ m.tgt) ++ optsB m.opts := by unfold partB; rw [e]; rfl
  rw [hB] at hj h
  unfold PartG at h
  rw [e0] at h
  simp only [(by decide : ¬ ((136 : UInt8) = 130)), (by decide : ¬ ((136 : UInt8) = 143)), (by decide : ¬ ((136 : UInt8) = 134)), (by decide : ¬ ((136 : UInt8) = 133)), (by decide : ¬ ((136 : UInt8) = 135)), if_false, if_true] at h
  obtain ⟨a1, a2, os, hm', b1, b2, b3, ho⟩ := h
  refine cut_opts (by rw [e]; decide) (by rw [e]; decide) ?_
  subst hm'
  have ht := hw.t; have hd := hw.d
  exact opt_cut _ _ _ j 20 st' (by (have dd := dumC; simp only [List.length_append, List.length_cons, List.length_nil, nb_length] at dd ⊢) <;> omega) hj ho
theorem cut137 {m m0 m' : Msg} {j : Nat} {st' : GS} (hw : Wf m) (e : m.kind = 137) (e0 : m0.kind = 137) (hj : j < (partB m).length) (h : PartG ((partB m).take j) (.ok 0) m0 m' st') : CutR m j m' st' := by
  have hB : partB m = ([0, 0, 0, 0] ++ m.tgt ++ m.dst) ++ optsB m.opts := by unfold partB; rw [e]; rfl
  rw [hB] at hj h
  unfold PartG at h
  rw [e0] at h
  simp only [(by decide : ¬ ((137 : UInt8) = 130)), (by decide : ¬ ((137 : UInt8) = 143)), (by decide : ¬ ((137 : UInt8) = 134)), (by decide : ¬ ((137 : UInt8) = 133)), (by decide : ¬ ((137 : UInt8) = 135)), (by decide : ¬ ((137 : UInt8) = 136)), if_false, if_true] at h
  obtain ⟨a1, a2, os, hm', b1, b2, b3, b4, ho⟩ := h
  refine cut_opts (by rw [e]; decide) (by rw [e]; decide) ?_
  subst hm'
  have ht := hw.t; have hd := hw.d
  exact opt_cut _ _ _ j 36 st' (by (have dd := dumC; simp only [List.length_append, List.length_cons, List.length_nil, nb_length] at dd ⊢) <;> omega) hj ho
theorem cut130 {m m0 m' : Msg} {j : Nat} {st' : GS} (hw : Wf m) (h64 : m.srcs.length ≤ 64) (e : m.kind = 130) (e0 : m0.kind = 130) (hj : j < (partB m).length) (h : PartG ((partB m).take j) (.ok 0) m0 m' st') : CutR m j m' st' := by
  have hB : partB m = (nb 2 m.mx ++ [0, 0] ++ m.grp ++ [m.rob, m.int]) ++ nb 2 m.srcs.length ++ m.srcs.flatten := by unfold partB; rw [e]; rfl
  rw [hB] at hj h
  unfold PartG at h
  rw [e0] at h
  simp only [if_true] at h
  obtain ⟨mx, grp, rob, int, srcs, hm', _, _, _, _, _, hcnt, _, _, hst, _⟩ := h
  refine cut_short (by rw [e]; decide) ?_
  have hf := sflat_le m.srcs hw.s
  have hg := hw.g
  obtain ⟨L, hL⟩ : ∃ L, L = ((nb 2 m.mx ++ [0, 0] ++ m.grp ++ [m.rob, m.int]) ++ nb 2 m.srcs.length ++ m.srcs.flatten).take j := ⟨_, rfl⟩
  rw [← hL] at hcnt hst
  have hpl : (nb 2 m.mx ++ [0, 0] ++ m.grp ++ [m.rob, m.int]).length = 22 := by simp only [List.length_append, List.length_cons, List.length_nil, nb_length]; omega
  have hl : L.length = j := by rw [hL, List.length_take]; omega
  have hj2 : j < 24 + 16 * m.srcs.length := by
    simp only [List.length_append, List.length_cons, List.length_nil, nb_length] at hj; omega
  by_cases h22 : j < 22
  · rw [ok_adv_no L 0 22 (by omega)] at hst; exact hst
  · rw [ok_adv L 0 22 (by omega), Nat.zero_add] at hst hcnt
    by_cases h24 : j < 24
    · have e1 : GS.cnt L (.ok 22) = .short := by simp only [GS.cnt]; rw [if_neg (by omega)]
      rw [e1] at hst; exact hst
    · have hn : val ((L.drop 22).take 2) = m.srcs.length := by
        rw [hL, List.drop_take, List.take_take, Nat.min_eq_left (by omega)]
        exact val_at rfl hpl (by omega)
      have hc : GS.cnt L (.ok 22) = .ok 24 := by simp only [GS.cnt]; rw [if_pos (by omega), hn, if_neg (by omega)]
      have hN : srcs.length = m.srcs.length := by rw [hcnt.2 22 rfl (by omega) (by omega), hn]
      rw [hc, hN] at hst
      rw [hst]
      exact ok_adv_no L _ _ (by omega)
theorem cut143 {m m0 m' : Msg} {j : Nat} {st' : GS} (hw : Wf m) (h64 : m.recs.length ≤ 64 ∧ ∀ r ∈ m.recs, r.s.length ≤ 64) (e : m.kind = 143) (e0 : m0.kind = 143) (hj : j < (partB m).length) (h : PartG ((partB m).take j) (.ok 0) m0 m' st') : CutR m j m' st' := by
  have hB : partB m = [0, 0] ++ nb 2 m.recs.length ++ recsB m.recs := by unfold partB; rw [e]; rfl
  rw [hB] at hj h
  unfold PartG at h
  rw [e0] at h
  simp only [(by decide : ¬ ((143 : UInt8) = 130)), if_false, if_true] at h
  obtain ⟨recs, hm', hcnt, hrec⟩ := h
  refine cut_short (by rw [e]; decide) ?_
  have hl : (([0, 0] ++ nb 2 m.recs.length ++ recsB m.recs).take j).length = j := by rw [List.length_take]; omega
  have hpl : ([0, 0] ++ nb 2 m.recs.length).length = 4 := by simp only [List.length_append, List.length_cons, List.length_nil, nb_length]
  by_cases h2 : j < 2
  · rw [ok_adv_no _ 0 2 (by omega)] at hrec; exact recsG_short hrec
  · rw [ok_adv _ 0 2 (by omega), Nat.zero_add] at hrec hcnt
    by_cases h4 : j < 4
    · have e1 : GS.cnt (([0, 0] ++ nb 2 m.recs.length ++ recsB m.recs).take j) (.ok 2) = .short := by simp only [GS.cnt]; rw [if_neg (by omega)]
      rw [e1] at hrec; exact recsG_short hrec
    · have hn : val (((([0, 0] ++ nb 2 m.recs.length ++ recsB m.recs).take j).drop 2).take 2) = m.recs.length := by
        rw [List.drop_take, List.take_take, Nat.min_eq_left (by omega)]
        exact val_at rfl rfl (by omega)
      have hc : GS.cnt (([0, 0] ++ nb 2 m.recs.length ++ recsB m.recs).take j) (.ok 2) = .ok 4 := by simp only [GS.cnt]; rw [if_pos (by omega), hn, if_neg (by omega)]
      have hN : recs.length = m.recs.length := by rw [hcnt.2 2 rfl (by omega) (by omega), hn]
      rw [hc] at hrec
      exact recs_cut m.recs _ 4 j recs st' hpl (by omega) (by rw [List.length_append, hpl] at hj; exact hj) (fun r hr => ⟨hw.r r hr, h64.2 r hr⟩) hN hrec
theorem cutEcho {m m0 m' : Msg} {j : Nat} {st' : GS} (hlt : m.kind < 130) (e0 : m0.kind = m.kind) (hj : j < (partB m).length) (h : PartG ((partB m).take j) (.ok 0) m0 m' st') : CutR m j m' st' := by
  have hn : ∀ c : UInt8, 130 ≤ c → ¬ m.kind = c := fun c hc e => by rw [e] at hlt; exact absurd hlt (by rw [UInt8.not_lt]; exact hc)
  refine ⟨fun _ => ?_, fun e => absurd hlt e⟩
  unfold PartG at h
  rw [e0] at h
  rw [if_neg (hn 130 (by decide)), if_neg (hn 143 (by decide)), if_neg (hn 134 (by decide)), if_neg (hn 133 (by decide)), if_neg (hn 135 (by decide)), if_neg (hn 136 (by decide)), if_neg (hn 137 (by decide))] at h
  obtain ⟨V, data, hm', _, _, hd, hst⟩ := h
  have hl : ((partB m).take j).length = j := by rw [List.length_take]; omega
  refine ⟨fun h4 => ?_, fun h4 => ?_⟩
  · rw [ok_adv_no _ 0 4 (by omega)] at hst; exact hst
  · rw [ok_adv _ 0 4 (by omega), Nat.zero_add] at hst hd
    refine ⟨_, hst, ?_⟩
    rw [hm']
    show data.length = j - 4
    rw [hd 4 rfl, List.length_drop, hl]
theorem part_cut {m m0 m' : Msg} {j : Nat} {st' : GS} (hw : Wf m) (hok : okM m = true) (e0 : m0.kind = m.kind) (hj : j < (partB m).length) (h : PartG ((partB m).take j) (.ok 0) m0 m' st') : CutR m j m' st' := by
  obtain ⟨hmay, hkk⟩ : mayB m = true ∧ isK m.kind = true := by unfold okM at hok; rwa [Bool.and_eq_true] at hok
  simp only [isK, Bool.or_eq_true, beq_iff_eq] at hkk
  rcases hkk with (((((((((((hk | hk) | hk) | hk) | hk) | hk) | hk) | hk) | hk) | hk) | hk) | hk) | hk
  · exact cutEcho (by rw [hk]; decide) e0 hj h
  · exact cutEcho (by rw [hk]; decide) e0 hj h
  · exact cutEcho (by rw [hk]; decide) e0 hj h
  · exact cutEcho (by rw [hk]; decide) e0 hj h
  · exact cutEcho (by rw [hk]; decide) e0 hj h
  · exact cutEcho (by rw [hk]; decide) e0 hj h
  · have h64 : m.srcs.length ≤ 64 := by unfold mayB at hmay; rw [hk, if_pos rfl] at hmay; exact of_decide_eq_true hmay
    exact cut130 hw h64 hk (e0.trans hk) hj h
  · have h64 : m.recs.length ≤ 64 ∧ ∀ r ∈ m.recs, r.s.length ≤ 64 := by
      unfold mayB at hmay
      rw [hk, if_neg (by decide), if_pos rfl, Bool.and_eq_true] at hmay
      exact ⟨of_decide_eq_true hmay.1, fun r hr => of_decide_eq_true (List.all_eq_true.1 hmay.2 r hr)⟩
    exact cut143 hw h64 hk (e0.trans hk) hj h
  · exact cut134 hw hk (e0.trans hk) hj h
  · exact cut133 hw hk (e0.trans hk) hj h
  · exact cut135 hw hk (e0.trans hk) hj h
  · exact cut136 hw hk (e0.trans hk) hj h
  · exact cut137 hw hk (e0.trans hk) hj h
end Go.Proofs.Ytjimmfbjhkoekaa
/- Icmps: what parts say is a function of the bytes, plain. -/
namespace Go.Proofs.Ytjimmfbjhkoekaa
open Go.RowKit
set_option maxRecDepth 100000
def numV (L : List UInt8) (q k : Nat) : Nat := val ((L.drop q).take k)
def adrV (L : List UInt8) (q : Nat) : List UInt8 := (L.drop q).take 16
def srcsV (L : List UInt8) (q n : Nat) : List (List UInt8) := (List.range n).map fun i => adrV L (q + 16 * i)
def oneV (L : List UInt8) (q : Nat) : UInt8 := L.getD q 0
def recV (L : List UInt8) (q : Nat) : Rc := ⟨oneV L q, adrV L (q + 4), srcsV L (q + 20) (numV L (q + 2) 2)⟩
def recL (L : List UInt8) (q : Nat) : Nat := 16 + 16 * numV L (q + 2) 2 + 4 * numV L (q + 1) 1
def recS (L : List UInt8) : GS → GS
  | .ok q => (((GS.ok q).adv L 2).cnt L).adv L (recL L q)
  | x => x
def recsS (L : List UInt8) : Nat → GS → GS
  | 0, s => s
  | n + 1, s => recsS L n (recS L s)
def recsV (L : List UInt8) : Nat → Nat → List Rc
  | 0, _ => []
  | n + 1, q => recV L q :: recsV L n (q + 4 + recL L q)
def optV (L : List UInt8) (q : Nat) : List (UInt8 × List UInt8) := (optsG 64 (L.drop q)).getD []
/-- Where one stands behind all parts; or what was wrong first. -/
def getS (k : UInt8) (L : List UInt8) : GS :=
  if k = 130 then (((GS.ok 0).adv L 22).cnt L).adv L (16 * numV L 22 2)
  else if k = 143 then recsS L (numV L 2 2) (((GS.ok 0).adv L 2).cnt L)
  else if k = 134 then ((GS.ok 0).adv L 12).opt L
  else if k = 133 then ((GS.ok 0).adv L 4).opt L
  else if k = 135 then ((GS.ok 0).adv L 20).opt L
  else if k = 136 then ((GS.ok 0).adv L 20).opt L
  else if k = 137 then ((GS.ok 0).adv L 36).opt L
  else ((GS.ok 0).adv L 4).rst L
/-- The message that parts say. -/
def getV (k c : UInt8) (L : List UInt8) : Msg :=
  if k = 130 then { (mZ k c).pl with mx := numV L 0 2, grp := adrV L 4, rob := oneV L 20, int := oneV L 21, srcs := srcsV L 24 (numV L 22 2) }
  else if k = 143 then { (mZ k c).pl with recs := recsV L (numV L 2 2) 4 }
  else if k = 134 then { (mZ k c).pl with hops := oneV L 0, flags := oneV L 1, life := numV L 2 2, reach := numV L 4 4, retr := numV L 8 4, opts := optV L 12 }
  else if k = 133 then { (mZ k c).pl with opts := optV L 4 }
  else if k = 135 then { (mZ k c).pl with tgt := adrV L 4, opts := optV L 20 }
  else if k = 136 then { (mZ k c).pl with flags := oneV L 0, tgt := adrV L 4, opts := optV L 20 }
  else if k = 137 then { (mZ k c).pl with tgt := adrV L 4, dst := adrV L 20, opts := optV L 36 }
  else { (mZ k c).pl with param := numV L 0 4, data := L.drop 4 }
theorem val_one {L : List UInt8} {q : Nat} (h : q < L.length) : val ((L.drop q).take 1) = (oneV L q).toNat := by
  rw [List.drop_eq_getElem_cons h, List.take_succ_cons, List.take_zero]
  unfold oneV
  rw [List.getD_eq_getElem?_getD, List.getElem?_eq_getElem h]
  simp [val]
theorem one_of {L : List UInt8} {st : GS} {q : Nat} {z : UInt8} (h : numOk L st 1 z.toNat) (hs : st = .ok q) (hq : q + 1 ≤ L.length) : z = oneV L q := by
  have := h q hs hq
  rw [val_one (by omega)] at this
  exact UInt8.toNat_inj.1 this
theorem num_of {L : List UInt8} {st : GS} {q k V : Nat} (h : numOk L st k V) (hs : st = .ok q) (hq : q + k ≤ L.length) : V = numV L q k := h q hs hq
theorem adr_of {L : List UInt8} {st : GS} {q : Nat} {z : List UInt8} (h : adrOk L st z) (hs : st = .ok q) (hq : q + 16 ≤ L.length) : z = adrV L q := h q hs hq
theorem adv_ok {L : List UInt8} {k q : Nat} {s : GS} (h : s.adv L k = .ok q) : ∃ p, s = .ok p ∧ q = p + k ∧ q ≤ L.length := by
  cases s with
  | ok p =>
    simp only [GS.adv] at h
    split at h
    · cases h; exact ⟨p, rfl, rfl, by omega⟩
    · cases h
  | short => cases h
  | form => cases h
theorem cnt_ok {L : List UInt8} {q : Nat} {s : GS} (h : s.cnt L = .ok q) : ∃ p, s = .ok p ∧ q = p + 2 ∧ q ≤ L.length ∧ numV L p 2 ≤ 64 := by
  cases s with
  | ok p =>
    simp only [GS.cnt] at h
    split at h
    · split at h
      · cases h
      · cases h; exact ⟨p, rfl, rfl, by omega, by unfold numV; omega⟩
    · cases h
  | short => cases h
  | form => cases h
theorem opt_ok {L : List UInt8} {q : Nat} {s : GS} (h : s.opt L = .ok q) : ∃ p os, s = .ok p ∧ q = L.length ∧ optsG 64 (L.drop p) = some os := by
  cases s with
  | ok p =>
    simp only [GS.opt] at h
    cases e : optsG 64 (L.drop p) with
    | none => rw [e] at h; cases h
    | some os => rw [e] at h; cases h; exact ⟨p, os, rfl, rfl, e⟩
  | short => cases h
  | form => cases h
theorem optR_fun {L : List UInt8} {F : Nat} {os : List (UInt8 × List UInt8)} {s : GS} (h : OptR L ((GS.ok 0).adv L F) os s) : s = ((GS.ok 0).adv L F).opt L ∧ ∀ q, s = .ok q → os = optV L F ∧ F ≤ L.length := by
  refine ⟨h.1, fun q hq => ?_⟩
  rw [h.1] at hq
  obtain ⟨p, os', e1, _, e2⟩ := opt_ok hq
  obtain ⟨p', e3, e4, e5⟩ := adv_ok e1
  cases e3
  have e6 : p = F := by omega
  subst e6
  refine ⟨?_, e5⟩
  rw [h.2 p os' e1 e2]
  unfold optV
  rw [e2]; rfl
/-- How many a list is, where all is well. -/
theorem cntN_of {L : List UInt8} {s : GS} {N q : Nat} (h : CntN L s N) (hs : s.cnt L = .ok q) : ∃ p, s = .ok p ∧ q = p + 2 ∧ q ≤ L.length ∧ N = numV L p 2 := by
  obtain ⟨p, e1, e2, e3, e4⟩ := cnt_ok hs
  exact ⟨p, e1, e2, e3, h.2 p e1 (by omega) e4⟩
theorem err_adv {L : List UInt8} {k : Nat} {s : GS} (h : ∀ q, s ≠ .ok q) : s.adv L k = s := by
  cases s with
  | ok q => exact absurd rfl (h q)
  | short => rfl
  | form => rfl
theorem adv_err {L : List UInt8} {k : Nat} {s : GS} (h : ∀ q, s ≠ .ok q) (q : Nat) : s.adv L k ≠ .ok q := by rw [err_adv h]; exact h q
theorem srcs_fun {L : List UInt8} {q : Nat} {zs : List (List UInt8)} {s : GS} (hs : s = .ok q) (hq : q + 16 * zs.length ≤ L.length) (h : ∀ i (h : i < zs.length), adrOk L (s.adv L (16 * i)) zs[i]) : zs = srcsV L q zs.length := by
  apply List.ext_getElem
  · simp [srcsV]
  · intro i h1 h2
    have := h i h1 (q + 16 * i) (by rw [hs]; exact ok_adv _ _ _ (by omega)) (by omega)
    rw [this]
    simp [srcsV, adrV]
theorem recG_fun {L : List UInt8} {s s' : GS} {k : UInt8} {z : List UInt8} {zs : List (List UInt8)} (h : RecG L s s' k z zs) : s' = recS L s ∧ ∀ q, s' = .ok q → ∃ p, s = .ok p ∧ (⟨k, z, zs⟩ : Rc) = recV L p ∧ q = p + 4 + recL L p := by
  obtain ⟨more, h1, h2, h3, _, h5, _, h7, e⟩ := h
  cases s with
  | short => exact ⟨e, fun q hq => by rw [e] at hq; cases hq⟩
  | form => exact ⟨e, fun q hq => by rw [e] at hq; cases hq⟩
  | ok p =>
    by_cases hc : ∃ q, ((GS.ok p).adv L 2).cnt L = .ok q
    · obtain ⟨q, hc⟩ := hc
      obtain ⟨p2, e1, e2, e3, e4⟩ := cntN_of h3 hc
      obtain ⟨p1, f1, f2, f3⟩ := adv_ok e1
      cases f1
      subst f2
      have m1 : more.toNat = numV L (p + 1) 1 := h2 (p + 1) (ok_adv _ _ _ (by omega)) (by omega)
      have el : 16 + 16 * zs.length + 4 * more.toNat = recL L p := by rw [m1, e4]; rfl
      rw [el] at e
      refine ⟨e, fun q' hq' => ?_⟩
      rw [e] at hq'
      obtain ⟨p3, g1, g2, g3⟩ := adv_ok hq'
      rw [hc] at g1
      cases g1
      have hk : k = oneV L p := one_of h1 rfl (by omega)
      have hz : z = adrV L (p + 4) := by
        have := adr_of h5 hc (by unfold recL at g2; omega)
        rw [this, e2]
      have hzs : zs = srcsV L (p + 20) zs.length := srcs_fun (s := (((GS.ok p).adv L 2).cnt L).adv L 16) (by rw [hc]; rw [ok_adv _ _ _ (by unfold recL at g2; omega)]; congr 1; omega) (by unfold recL at g2; omega) fun i hi => by
        have := h7 i hi
        rw [hc] at this ⊢
        rw [ok_adv _ _ 16 (by unfold recL at g2; omega), ok_adv _ _ _ (by unfold recL at g2; omega)]
        rw [ok_adv _ _ _ (by unfold recL at g2; omega)] at this
        rw [show q + 16 + 16 * i = q + (16 + 16 * i) by omega]
        exact this
      refine ⟨p, rfl, ?_, by omega⟩
      unfold recV
      rw [hk, hz, ← e4, ← hzs]
    · have hn : ∀ q, ((GS.ok p).adv L 2).cnt L ≠ .ok q := fun q hq => hc ⟨q, hq⟩
      rw [err_adv hn] at e
      refine ⟨?_, fun q hq => absurd (by rw [← e]; exact hq) (hn q)⟩
      show s' = (((GS.ok p).adv L 2).cnt L).adv L (recL L p)
      rw [err_adv hn]; exact e
theorem recsG_fun {L : List UInt8} : ∀ {l : List Rc} {s s' : GS}, RecsG L s l s' → s' = recsS L l.length s ∧ ∀ q, s' = .ok q → ∃ p, s = .ok p ∧ l = recsV L l.length p
  | [], s, s', h => ⟨h, fun q hq => ⟨q, by rw [← show s' = s from h]; exact hq, rfl⟩⟩
  | r :: l, s, s', h => by
    obtain ⟨s1, h1, h2⟩ := h
    obtain ⟨a1, a2⟩ := recG_fun h1
    obtain ⟨b1, b2⟩ := recsG_fun h2
    refine ⟨by rw [b1, a1]; rfl, fun q hq => ?_⟩
    obtain ⟨p1, c1, c2⟩ := b2 q hq
    obtain ⟨p, d1, d2, d3⟩ := a2 p1 c1
    refine ⟨p, d1, ?_⟩
    show r :: l = recV L p :: recsV L l.length (p + 4 + recL L p)
    rw [← d3, ← c2]
    congr 1
theorem recsS_err {L : List UInt8} : ∀ (n : Nat) {s : GS}, (∀ q, s ≠ .ok q) → recsS L n s = s
  | 0, _, _ => rfl
  | n + 1, s, h => by
    have e : recS L s = s := by
      cases s with
      | ok q => exact absurd rfl (h q)
      | short => rfl
      | form => rfl
    show recsS L n (recS L s) = s
    rw [e]
    exact recsS_err n h
theorem partB_ge {m : Msg} (h : okM m = true) : 4 ≤ (partB m).length := by
  have hk : isK m.kind = true := by unfold okM at h; rw [Bool.and_eq_true] at h; exact h.2
  unfold partB
  repeat' split
  all_goals
    simp only [List.length_append, nb_length, List.length_cons, List.length_nil]
    omega
theorem okM_kind {m : Msg} (h : okM m = true) : isK m.kind = true := by unfold okM at h; rw [Bool.and_eq_true] at h; exact h.2
theorem okM_may {m : Msg} (h : okM m = true) : mayB m = true := by unfold okM at h; rw [Bool.and_eq_true] at h; exact h.1
theorem partG_fun {k c : UInt8} {L : List UInt8} {m : Msg} {s : GS} (h : PartG L (.ok 0) (mZ k c).pl m s) : s = getS k L ∧ ∀ q, s = .ok q → m = getV k c L := by
  unfold PartG at h
  unfold getS getV
  have hk : (mZ k c).pl.kind = k := rfl
  rw [hk] at h
  by_cases e0 : k = 130
  · rw [if_pos e0] at h ⊢
    rw [if_pos e0]
    obtain ⟨mx, grp, rob, int, srcs, rfl, h1, _, h2, h3, h4, h5, _, h6, h7, _⟩ := h
    by_cases hc : ∃ q, ((GS.ok 0).adv L 22).cnt L = .ok q
    · obtain ⟨q, hc⟩ := hc
      obtain ⟨p2, e1, e2, e3, e4⟩ := cntN_of h5 hc
      obtain ⟨p1, f1, f2, f3⟩ := adv_ok e1
      cases f1
      have e5 : p2 = 22 := by omega
      subst e5
      rw [e4] at h7
      refine ⟨h7, fun q' hq' => ?_⟩
      rw [h7] at hq'
      obtain ⟨p3, g1, g2, g3⟩ := adv_ok hq'
      rw [hc] at g1
      cases g1
      have z1 := num_of h1 rfl (by omega)
      have z2 := adr_of h2 (ok_adv _ _ _ (by omega)) (by omega)
      have z3 := one_of h3 (ok_adv _ _ _ (by omega)) (by omega)
      have z4 := one_of h4 (ok_adv _ _ _ (by omega)) (by omega)
      have z5 : srcs = srcsV L 24 (numV L 22 2) := by
        have := srcs_fun hc (by omega) h6
        rw [e4, e2] at this
        exact this
      rw [z1, z2, z3, z4, z5]
      rfl
    · have hn : ∀ q, ((GS.ok 0).adv L 22).cnt L ≠ .ok q := fun q hq => hc ⟨q, hq⟩
      rw [err_adv hn] at h7
      rw [err_adv hn]
      exact ⟨h7, fun q hq => absurd (by rw [← h7]; exact hq) (hn q)⟩
  rw [if_neg e0] at h ⊢
  rw [if_neg e0]
  by_cases e1 : k = 143
  · rw [if_pos e1] at h ⊢
    rw [if_pos e1]
    obtain ⟨recs, rfl, h1, h2⟩ := h
    obtain ⟨a1, a2⟩ := recsG_fun h2
    by_cases hc : ∃ q, ((GS.ok 0).adv L 2).cnt L = .ok q
    · obtain ⟨q, hc⟩ := hc
      obtain ⟨p2, e1, e2, e3, e4⟩ := cntN_of h1 hc
      obtain ⟨p1, f1, f2, f3⟩ := adv_ok e1
      cases f1
      have e5 : p2 = 2 := by omega
      subst e5
      rw [e4] at a1
      refine ⟨a1, fun q' hq' => ?_⟩
      obtain ⟨p, b1, b2⟩ := a2 q' hq'
      rw [hc] at b1
      cases b1
      have z5 : recs = recsV L (numV L 2 2) 4 := by rw [e4, e2] at b2; exact b2
      rw [z5]
      rfl
    · have hn : ∀ q, ((GS.ok 0).adv L 2).cnt L ≠ .ok q := fun q hq => hc ⟨q, hq⟩
      rw [recsS_err _ hn] at a1
      rw [recsS_err _ hn]
      exact ⟨a1, fun q hq => absurd (by rw [← a1]; exact hq) (hn q)⟩
  rw [if_neg e1] at h ⊢
  rw [if_neg e1]
  by_cases e2 : k = 134
  · rw [if_pos e2] at h ⊢
    rw [if_pos e2]
    obtain ⟨hops, flags, life, reach, retr, opts, rfl, h1, h2, h3, h4, h5, h6, _⟩ := h
    obtain ⟨a1, a2⟩ := optR_fun h6
    refine ⟨a1, fun q hq => ?_⟩
    obtain ⟨b1, b2⟩ := a2 q hq
    rw [b1, one_of h1 rfl (by omega), one_of h2 (ok_adv _ _ _ (by omega)) (by omega), num_of h3 (ok_adv _ _ _ (by omega)) (by omega), num_of h4 (ok_adv _ _ _ (by omega)) (by omega), num_of h5 (ok_adv _ _ _ (by omega)) (by omega)]
    rfl
  rw [if_neg e2] at h ⊢
  rw [if_neg e2]
  by_cases e3 : k = 133
  · rw [if_pos e3] at h ⊢
    rw [if_pos e3]
    obtain ⟨opts, rfl, h6⟩ := h
    obtain ⟨a1, a2⟩ := optR_fun h6
    refine ⟨a1, fun q hq => ?_⟩
    obtain ⟨b1, b2⟩ := a2 q hq
    rw [b1]
    rfl
  rw [if_neg e3] at h ⊢
  rw [if_neg e3]
  by_cases e4 : k = 135
  · rw [if_pos e4] at h ⊢
    rw [if_pos e4]
    obtain ⟨tgt, opts, rfl, _, h1, h6⟩ := h
    obtain ⟨a1, a2⟩ := optR_fun h6
    refine ⟨a1, fun q hq => ?_⟩
    obtain ⟨b1, b2⟩ := a2 q hq
    rw [b1, adr_of h1 (ok_adv _ _ _ (by omega)) (by omega)]
    rfl
  rw [if_neg e4] at h ⊢
  rw [if_neg e4]
  by_cases e5 : k = 136
  · rw [if_pos e5] at h ⊢
    rw [if_pos e5]
    obtain ⟨flags, tgt, opts, rfl, h1, _, h2, h6⟩ := h
    obtain ⟨a1, a2⟩ := optR_fun h6
    refine ⟨a1, fun q hq => ?_⟩
    obtain ⟨b1, b2⟩ := a2 q hq
    rw [b1, one_of h1 rfl (by omega), adr_of h2 (ok_adv _ _ _ (by omega)) (by omega)]
    rfl
  rw [if_neg e5] at h ⊢
  rw [if_neg e5]
  by_cases e6 : k = 137
  · rw [if_pos e6] at h ⊢
    rw [if_pos e6]
    obtain ⟨tgt, dst, opts, rfl, _, h1, _, h2, h6⟩ := h
    obtain ⟨a1, a2⟩ := optR_fun h6
    refine ⟨a1, fun q hq => ?_⟩
    obtain ⟨b1, b2⟩ := a2 q hq
    rw [b1, adr_of h1 (ok_adv _ _ _ (by omega)) (by omega), adr_of h2 (ok_adv _ _ _ (by omega)) (by omega)]
    rfl
  rw [if_neg e6] at h ⊢
  rw [if_neg e6]
  obtain ⟨param, data, rfl, h1, _, h2, h3⟩ := h
  refine ⟨h3, fun q hq => ?_⟩
  rw [h3] at hq
  cases ha : (GS.ok 0).adv L 4 with
  | ok p =>
    obtain ⟨p1, f1, f2, f3⟩ := adv_ok ha
    cases f1
    have e5 : p = 4 := by omega
    subst e5
    rw [num_of h1 rfl (by omega), h2 _ ha]
    rfl
  | short => rw [ha] at hq; cases hq
  | form => rw [ha] at hq; cases hq
end Go.Proofs.Ytjimmfbjhkoekaa
