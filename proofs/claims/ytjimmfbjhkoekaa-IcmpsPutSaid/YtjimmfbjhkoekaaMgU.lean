import Derived.Test.YtjimmfbjhkoekaaMgP
import Derived.Test.YtjimmfbjhkoekaaMgT
/- Icmps: a message's bytes say the message, as far as its kind has it, plain. -/
namespace Go.Proofs.Ytjimmfbjhkoekaa
open Go.RowKit
set_option maxRecDepth 100000
/-- An option with noughts behind it. -/
def fillO (o : UInt8 × List UInt8) : UInt8 × List UInt8 := (o.1, optE o.2 ++ List.replicate (optM o.2 * 8 - 2 - (optE o.2).length) 0)
/-- What of a message its kind has. -/
def ownM (m : Msg) : Msg :=
  if m.kind = 130 then { (mZ m.kind m.code).pl with mx := m.mx, grp := m.grp, rob := m.rob, int := m.int, srcs := m.srcs }
  else if m.kind = 143 then { (mZ m.kind m.code).pl with recs := m.recs }
  else if m.kind = 134 then { (mZ m.kind m.code).pl with hops := m.hops, flags := m.flags, life := m.life, reach := m.reach, retr := m.retr, opts := m.opts.map fillO }
  else if m.kind = 133 then { (mZ m.kind m.code).pl with opts := m.opts.map fillO }
  else if m.kind = 135 then { (mZ m.kind m.code).pl with tgt := m.tgt, opts := m.opts.map fillO }
  else if m.kind = 136 then { (mZ m.kind m.code).pl with flags := m.flags, tgt := m.tgt, opts := m.opts.map fillO }
  else if m.kind = 137 then { (mZ m.kind m.code).pl with tgt := m.tgt, dst := m.dst, opts := m.opts.map fillO }
  else { (mZ m.kind m.code).pl with param := m.param, data := m.data }
structure Lim (m : Msg) : Prop where
  b1 : m.param < 4294967296
  b2 : m.life < 65536
  b3 : m.reach < 4294967296
  b4 : m.retr < 4294967296
  b5 : m.mx < 65536
theorem MvOk.lim {w : World} {n : Nat} {m : Mv} (h : MvOk w n m) : Lim m.pl := ⟨h.b1, h.b2, h.b3, h.b4, h.b5⟩
theorem partV_at {L a b c : List UInt8} {q n : Nat} (h : L = a ++ (b ++ c)) (ha : a.length = q) (hb : b.length = n) : (L.drop q).take n = b := by
  rw [h, List.drop_left' ha, List.take_left' hb]
theorem oneV_at {L a c : List UInt8} {x : UInt8} {q : Nat} (h : L = a ++ x :: c) (ha : a.length = q) : oneV L q = x := by
  unfold oneV
  rw [h, List.getD_eq_getElem?_getD, List.getElem?_append_right (by omega), ha, Nat.sub_self]
  rfl
theorem numV_at {L a c : List UInt8} {k n q : Nat} (h : L = a ++ (nb k n ++ c)) (ha : a.length = q) (hn : n < 256 ^ k) : numV L q k = n := val_at (by rw [h, List.append_assoc]) ha hn
theorem adrV_at {L a z c : List UInt8} {q : Nat} (h : L = a ++ (z ++ c)) (ha : a.length = q) (hz : z.length = 16) : adrV L q = z := partV_at h ha hz
theorem srcsV_succ (L : List UInt8) (q n : Nat) : srcsV L q (n + 1) = adrV L q :: srcsV L (q + 16) n := by
  unfold srcsV
  rw [List.range_succ_eq_map, List.map_cons, List.map_map]
  congr 1
  apply List.map_congr_left
  intro i _
  show adrV L (q + 16 * (i + 1)) = adrV L (q + 16 + 16 * i)
  congr 1; omega
theorem srcsW_at : ∀ (s : List (List UInt8)) {L a c : List UInt8} {q : Nat}, L = a ++ (s.flatten ++ c) → a.length = q → (∀ z ∈ s, z.length = 16) → srcsV L q s.length = s
  | [], _, _, _, _, _, _, _ => rfl
  | z :: s, L, a, c, q, h, ha, hz => by
    rw [List.length_cons, srcsV_succ]
    have h16 := hz z (by simp)
    rw [adrV_at (z := z) (a := a) (c := s.flatten ++ c) (by rw [h]; simp) ha h16, srcsW_at s (a := a ++ z) (c := c) (by rw [h]; simp) (by rw [List.length_append, ha, h16]) (fun y hy => hz y (List.mem_cons_of_mem _ hy))]
theorem opts_back : ∀ (os : List (UInt8 × List UInt8)) (k : Nat), os.length ≤ k → optsG k (optsB os) = some (os.map fillO)
  | [], k, _ => by cases k <;> rfl
  | o :: rest, 0, h => by simp at h
  | o :: rest, k + 1, h => by
    have e0 : optsB (o :: rest) = optB o ++ optsB rest := by simp [optsB]
    have hl := optB_len o
    have hm := optM_le o.2
    obtain ⟨r, hr⟩ := optB_head o
    obtain ⟨T, hT⟩ : ∃ T, T = optB o ++ optsB rest := ⟨_, rfl⟩
    have hTb : T = o.1 :: (UInt8.ofNat (optM o.2) :: r ++ optsB rest) := by rw [hT, hr]; rfl
    have hG : optsG (k + 1) T = if T.length < 2 ∨ UInt8.ofNat (optM o.2) = 0 ∨ T.length < 8 * (UInt8.ofNat (optM o.2)).toNat then none else (optsG k (T.drop (8 * (UInt8.ofNat (optM o.2)).toNat))).map fun l => (o.1, (T.take (8 * (UInt8.ofNat (optM o.2)).toNat)).drop 2) :: l := by rw [hTb]; rfl
    have hTl : T.length = 8 * optM o.2 + (optsB rest).length := by rw [hT, List.length_append, hl]
    have hne : UInt8.ofNat (optM o.2) ≠ 0 := fun e => by have := optM_u8 o.2; rw [e] at this; simp at this; omega
    rw [e0, ← hT, hG, optM_u8, if_neg (by rw [hTl]; simp only [not_or]; exact ⟨by omega, hne, by omega⟩), hT, List.drop_left' hl, List.take_left' hl, opts_back rest k (by simpa using h)]
    rfl
theorem cnt_go {L : List UInt8} {q n : Nat} (h : q + 2 ≤ L.length) (hn : numV L q 2 = n) (h64 : n ≤ 64) : (GS.ok q).cnt L = .ok (q + 2) := by
  simp only [GS.cnt]
  rw [if_pos h, if_neg (by unfold numV at hn; omega)]
theorem recW_at {L a c : List UInt8} {r : Rc} {q : Nat} (h : L = a ++ (recB r ++ c)) (ha : a.length = q) (hg : r.g.length = 16) (hs : ∀ z ∈ r.s, z.length = 16) (h64 : r.s.length ≤ 64) : recV L q = r ∧ recS L (.ok q) = .ok (q + (recB r).length) ∧ q + 4 + recL L q = q + (recB r).length := by
  have hb := recB_len hg hs
  have hf := sflat_le r.s hs
  have hl : L.length = q + (recB r).length + c.length := by rw [h, List.length_append, List.length_append, ha]; omega
  have z0 : oneV L q = r.kind := oneV_at (a := a) (c := 0 :: (nb 2 r.s.length ++ (r.g ++ (r.s.flatten ++ c)))) (by rw [h]; simp [recB]) ha
  have z1 : numV L (q + 1) 1 = 0 := by
    unfold numV
    rw [val_one (by omega), oneV_at (x := 0) (a := a ++ [r.kind]) (c := nb 2 r.s.length ++ (r.g ++ (r.s.flatten ++ c))) (by rw [h]; simp [recB]) (by simp [ha])]
    rfl
  have z2 : numV L (q + 2) 2 = r.s.length := numV_at (a := a ++ [r.kind, 0]) (c := r.g ++ (r.s.flatten ++ c)) (by rw [h]; simp [recB]) (by simp [ha]) (by omega)
  have z4 : adrV L (q + 4) = r.g := adrV_at (a := a ++ [r.kind, 0] ++ nb 2 r.s.length) (c := r.s.flatten ++ c) (by rw [h]; simp [recB]) (by simp [ha, nb_length]) hg
  have z20 : srcsV L (q + 20) r.s.length = r.s := srcsW_at r.s (a := a ++ [r.kind, 0] ++ nb 2 r.s.length ++ r.g) (c := c) (by rw [h]; simp [recB]) (by simp [ha, nb_length, hg]) hs
  have e : recL L q = 16 + 16 * r.s.length := by unfold recL; rw [z2, z1]; omega
  refine ⟨by unfold recV; rw [z0, z4, z2, z20], ?_, by rw [e, hb]; omega⟩
  show (((GS.ok q).adv L 2).cnt L).adv L (recL L q) = _
  rw [ok_adv _ _ _ (by omega), cnt_go (by omega) z2 h64, ok_adv _ _ _ (by rw [e]; omega), e, hb]
  congr 1; omega
theorem recsW_at : ∀ (rs : List Rc) {L a : List UInt8} {q : Nat}, L = a ++ recsB rs → a.length = q → (∀ r ∈ rs, (r.g.length = 16 ∧ ∀ z ∈ r.s, z.length = 16) ∧ r.s.length ≤ 64) → recsV L rs.length q = rs ∧ recsS L rs.length (.ok q) = .ok (q + (recsB rs).length)
  | [], _, _, _, _, _, _ => ⟨rfl, rfl⟩
  | r :: rs, L, a, q, h, ha, hr => by
    have e0 : recsB (r :: rs) = recB r ++ recsB rs := by simp [recsB]
    have h1 := hr r (by simp)
    obtain ⟨a1, a2, a3⟩ := recW_at (L := L) (a := a) (c := recsB rs) (r := r) (by rw [h, e0]) ha h1.1.1 h1.1.2 h1.2
    obtain ⟨b1, b2⟩ := recsW_at rs (L := L) (a := a ++ recB r) (q := q + (recB r).length) (by rw [h, e0]; simp) (by rw [List.length_append, ha]) (fun y hy => hr y (List.mem_cons_of_mem _ hy))
    refine ⟨?_, ?_⟩
    · show recV L q :: recsV L rs.length (q + 4 + recL L q) = _
      rw [a1, a3, b1]
    · show recsS L rs.length (recS L (.ok q)) = _
      rw [a2, b2, e0, List.length_append]
      congr 1; omega
theorem optW_at {L a : List UInt8} {os : List (UInt8 × List UInt8)} {F : Nat} (h : L = a ++ optsB os) (ha : a.length = F) (h64 : os.length ≤ 64) : optV L F = os.map fillO ∧ ((GS.ok 0).adv L F).opt L = .ok L.length := by
  have hd : L.drop F = optsB os := by rw [h, List.drop_left' ha]
  have hb := opts_back os 64 h64
  refine ⟨by unfold optV; rw [hd, hb]; rfl, ?_⟩
  rw [ok_adv _ _ _ (by rw [h, List.length_append]; omega), Nat.zero_add]
  simp only [GS.opt]
  rw [hd, hb]
  rfl
theorem get_back {m : Msg} (hw : Wf m) (hl : Lim m) (hok : okM m = true) : (∃ q, getS m.kind (partB m) = .ok q) ∧ getV m.kind m.code (partB m) = ownM m := by
  have hmay := okM_may hok
  have hkk := okM_kind hok
  have ht := hw.t; have hd := hw.d; have hg := hw.g
  have b1 := hl.b1; have b2 := hl.b2; have b3 := hl.b3; have b4 := hl.b4; have b5 := hl.b5
  obtain ⟨L, hL⟩ : ∃ L, L = partB m := ⟨_, rfl⟩
  rw [← hL]
  unfold partB at hL
  unfold mayB at hmay
  unfold getS getV ownM
  by_cases e0 : m.kind = 130
  · rw [if_pos e0] at hL hmay
    rw [if_pos e0, if_pos e0, if_pos e0]
    have h64 : m.srcs.length ≤ 64 := by simpa using hmay
    have hf := sflat_le m.srcs hw.s
    have hLl : L.length = 24 + 16 * m.srcs.length := by rw [hL]; simp only [List.length_append, nb_length, List.length_cons, List.length_nil, hg, hf]
    have z22 : numV L 22 2 = m.srcs.length := numV_at (a := nb 2 m.mx ++ [0, 0] ++ m.grp ++ [m.rob, m.int]) (c := m.srcs.flatten) (by rw [hL]; simp) (by simp [nb_length, hg]) (by omega)
    have z0 : numV L 0 2 = m.mx := numV_at (a := []) (c := [0, 0] ++ m.grp ++ [m.rob, m.int] ++ nb 2 m.srcs.length ++ m.srcs.flatten) (by rw [hL]; simp) rfl (by omega)
    have z4 : adrV L 4 = m.grp := adrV_at (a := nb 2 m.mx ++ [0, 0]) (c := [m.rob, m.int] ++ nb 2 m.srcs.length ++ m.srcs.flatten) (by rw [hL]; simp) (by simp [nb_length]) hg
    have z20 : oneV L 20 = m.rob := oneV_at (a := nb 2 m.mx ++ [0, 0] ++ m.grp) (c := m.int :: (nb 2 m.srcs.length ++ m.srcs.flatten)) (by rw [hL]; simp) (by simp [nb_length, hg])
    have z21 : oneV L 21 = m.int := oneV_at (a := nb 2 m.mx ++ [0, 0] ++ m.grp ++ [m.rob]) (c := nb 2 m.srcs.length ++ m.srcs.flatten) (by rw [hL]; simp) (by simp [nb_length, hg])
    have z24 : srcsV L 24 m.srcs.length = m.srcs := srcsW_at m.srcs (a := nb 2 m.mx ++ [0, 0] ++ m.grp ++ [m.rob, m.int] ++ nb 2 m.srcs.length) (c := []) (by rw [hL]; simp) (by simp [nb_length, hg]) hw.s
    refine ⟨⟨24 + 16 * m.srcs.length, ?_⟩, by rw [z0, z4, z20, z21, z22, z24]⟩
    rw [z22, ok_adv _ _ _ (by omega), cnt_go (by omega) z22 h64, ok_adv _ _ _ (by omega)]
  rw [if_neg e0] at hL hmay
  rw [if_neg e0, if_neg e0, if_neg e0]
  by_cases e1 : m.kind = 143
  · rw [if_pos e1] at hL hmay
    rw [if_pos e1, if_pos e1, if_pos e1]
    rw [Bool.and_eq_true] at hmay
    have h64 : m.recs.length ≤ 64 := by simpa using hmay.1
    have hr : ∀ r ∈ m.recs, (r.g.length = 16 ∧ ∀ z ∈ r.s, z.length = 16) ∧ r.s.length ≤ 64 := fun r hr => ⟨hw.r r hr, by have := List.all_eq_true.1 hmay.2 r hr; simpa using this⟩
    have hLl : 4 ≤ L.length := by rw [hL]; simp only [List.length_append, nb_length, List.length_cons, List.length_nil]; omega
    have z2 : numV L 2 2 = m.recs.length := numV_at (a := [0, 0]) (c := recsB m.recs) (by rw [hL]; simp) rfl (by omega)
    obtain ⟨r1, r2⟩ := recsW_at m.recs (L := L) (a := [0, 0] ++ nb 2 m.recs.length) (q := 4) hL (by simp [nb_length]) hr
    refine ⟨⟨4 + (recsB m.recs).length, ?_⟩, by rw [z2, r1]⟩
    · rw [z2, ok_adv _ _ _ (by omega), cnt_go (by omega) z2 h64]
      exact r2
  rw [if_neg e1] at hL hmay
  rw [if_neg e1, if_neg e1, if_neg e1]
  by_cases e2 : m.kind = 134
  · rw [if_pos e2] at hL
    rw [if_pos (by rw [e2]; decide)] at hmay
    rw [if_pos e2, if_pos e2, if_pos e2]
    have h64 : m.opts.length ≤ 64 := by simpa using hmay
    obtain ⟨o1, o2⟩ := optW_at (F := 12) hL (by simp [nb_length]) h64
    have z0 : oneV L 0 = m.hops := oneV_at (a := []) (c := m.flags :: (nb 2 m.life ++ nb 4 m.reach ++ nb 4 m.retr ++ optsB m.opts)) (by rw [hL]; simp) rfl
    have z1 : oneV L 1 = m.flags := oneV_at (a := [m.hops]) (c := nb 2 m.life ++ nb 4 m.reach ++ nb 4 m.retr ++ optsB m.opts) (by rw [hL]; simp) rfl
    have z2 : numV L 2 2 = m.life := numV_at (a := [m.hops, m.flags]) (c := nb 4 m.reach ++ nb 4 m.retr ++ optsB m.opts) (by rw [hL]; simp) rfl (by omega)
    have z4 : numV L 4 4 = m.reach := numV_at (a := [m.hops, m.flags] ++ nb 2 m.life) (c := nb 4 m.retr ++ optsB m.opts) (by rw [hL]; simp) (by simp [nb_length]) (by omega)
    have z8 : numV L 8 4 = m.retr := numV_at (a := [m.hops, m.flags] ++ nb 2 m.life ++ nb 4 m.reach) (c := optsB m.opts) (by rw [hL]; simp) (by simp [nb_length]) (by omega)
    exact ⟨⟨_, o2⟩, by rw [o1, z0, z1, z2, z4, z8]⟩
  rw [if_neg e2] at hL
  rw [if_neg e2, if_neg e2, if_neg e2]
  by_cases e3 : m.kind = 133
  · rw [if_pos e3] at hL
    rw [if_pos (by rw [e3]; decide)] at hmay
    rw [if_pos e3, if_pos e3, if_pos e3]
    have h64 : m.opts.length ≤ 64 := by simpa using hmay
    obtain ⟨o1, o2⟩ := optW_at (F := 4) hL (by simp) h64
    exact ⟨⟨_, o2⟩, by rw [o1]⟩
  rw [if_neg e3] at hL
  rw [if_neg e3, if_neg e3, if_neg e3]
  by_cases e4 : m.kind = 135
  · rw [if_pos e4] at hL
    rw [if_pos (by rw [e4]; decide)] at hmay
    rw [if_pos e4, if_pos e4, if_pos e4]
    have h64 : m.opts.length ≤ 64 := by simpa using hmay
    obtain ⟨o1, o2⟩ := optW_at (F := 20) hL (by simp [ht]) h64
    have z4 : adrV L 4 = m.tgt := adrV_at (a := [0, 0, 0, 0]) (c := optsB m.opts) (by rw [hL]; simp) rfl ht
    exact ⟨⟨_, o2⟩, by rw [o1, z4]⟩
  rw [if_neg e4] at hL
  rw [if_neg e4, if_neg e4, if_neg e4]
  by_cases e5 : m.kind = 136
  · rw [if_pos e5] at hL
    rw [if_pos (by rw [e5]; decide)] at hmay
    rw [if_pos e5, if_pos e5, if_pos e5]
    have h64 : m.opts.length ≤ 64 := by simpa using hmay
    obtain ⟨o1, o2⟩ := optW_at (F := 20) hL (by simp [ht]) h64
    have z0 : oneV L 0 = m.flags := oneV_at (a := []) (c := [0, 0, 0] ++ m.tgt ++ optsB m.opts) (by rw [hL]; simp) rfl
    have z4 : adrV L 4 = m.tgt := adrV_at (a := [m.flags, 0, 0, 0]) (c := optsB m.opts) (by rw [hL]; simp) rfl ht
    exact ⟨⟨_, o2⟩, by rw [o1, z0, z4]⟩
  rw [if_neg e5] at hL
  rw [if_neg e5, if_neg e5, if_neg e5]
  by_cases e6 : m.kind = 137
  · rw [if_pos e6] at hL
    rw [if_pos (by rw [e6]; decide)] at hmay
    rw [if_pos e6, if_pos e6, if_pos e6]
    have h64 : m.opts.length ≤ 64 := by simpa using hmay
    obtain ⟨o1, o2⟩ := optW_at (F := 36) hL (by simp [ht, hd]) h64
    have z4 : adrV L 4 = m.tgt := adrV_at (a := [0, 0, 0, 0]) (c := m.dst ++ optsB m.opts) (by rw [hL]; simp) rfl ht
    have z20 : adrV L 20 = m.dst := adrV_at (a := [0, 0, 0, 0] ++ m.tgt) (c := optsB m.opts) (by rw [hL]; simp) (by simp [ht]) hd
    exact ⟨⟨_, o2⟩, by rw [o1, z4, z20]⟩
  rw [if_neg e6] at hL
  rw [if_neg e6, if_neg e6, if_neg e6]
  have z0 : numV L 0 4 = m.param := numV_at (a := []) (c := m.data) (by rw [hL]; simp) rfl (by omega)
  refine ⟨⟨L.length, ?_⟩, ?_⟩
  · rw [ok_adv _ _ _ (by rw [hL]; simp [nb_length])]; rfl
  · rw [z0, show L.drop 4 = m.data by rw [hL, List.drop_left' (by rw [nb_length])]]
end Go.Proofs.Ytjimmfbjhkoekaa
/- Icmps: what is got may be put, is no longer, and has nothing else, plain. -/
namespace Go.Proofs.Ytjimmfbjhkoekaa
open Go.RowKit
set_option maxRecDepth 100000
theorem fillO_same {o : UInt8 × List UInt8} {n : Nat} (h0 : 0 < n) (h1 : n < 256) (h : o.2.length = 8 * n - 2) : fillO o = o ∧ (optB o).length = 8 * n := by
  have e : optE o.2 = o.2 := by unfold optE; exact List.take_of_length_le (by omega)
  have em : optM o.2 = n := by unfold optM; rw [e, h]; omega
  refine ⟨?_, by rw [optB_len, em]⟩
  unfold fillO
  rw [e, em, h, show n * 8 - 2 - (8 * n - 2) = 0 by omega, List.replicate_zero, List.append_nil]
theorem optsG_ok : ∀ (k : Nat) (T : List UInt8) (os : List (UInt8 × List UInt8)), optsG k T = some os → (optsB os).length = T.length ∧ os.length ≤ k ∧ os.map fillO = os
  | k, [], os, h => by
    have : os = [] := by cases k <;> simpa [optsG] using h.symm
    subst this
    exact ⟨rfl, by simp, rfl⟩
  | 0, x :: b, os, h => by simp [optsG] at h
  | k + 1, x :: b, os, h => by
    have hG : optsG (k + 1) (x :: b) = if (x :: b).length < 2 ∨ b.headD 0 = 0 ∨ (x :: b).length < 8 * (b.headD 0).toNat then none else (optsG k ((x :: b).drop (8 * (b.headD 0).toNat))).map fun l => (x, ((x :: b).take (8 * (b.headD 0).toNat)).drop 2) :: l := rfl
    rw [hG] at h
    obtain ⟨n, hn⟩ : ∃ n, n = (b.headD 0).toNat := ⟨_, rfl⟩
    rw [← hn] at h
    split at h
    · cases h
    · rename_i hc
      simp only [not_or] at hc
      have hn0 : 0 < n := by
        rw [hn]
        refine Nat.pos_of_ne_zero fun e => hc.2.1 (UInt8.toNat_inj.1 ?_)
        rw [e]; rfl
      have hn1 : n < 256 := by rw [hn]; exact UInt8.toNat_lt _
      have hle : 8 * n ≤ (x :: b).length := by omega
      obtain ⟨T, hT⟩ : ∃ T, T = x :: b := ⟨_, rfl⟩
      rw [← hT] at h hle ⊢
      cases hr : optsG k (T.drop (8 * n)) with
      | none => rw [hr] at h; cases h
      | some os' =>
        rw [hr] at h
        simp only [Option.map_some, Option.some.injEq] at h
        subst h
        obtain ⟨a1, a2, a3⟩ := optsG_ok k _ os' hr
        have hd : ((x, (T.take (8 * n)).drop 2) : UInt8 × List UInt8).2.length = 8 * n - 2 := by
          show ((T.take (8 * n)).drop 2).length = _
          rw [List.length_drop, List.length_take]; omega
        obtain ⟨b1, b2⟩ := fillO_same hn0 hn1 hd
        have e0 : optsB ((x, (T.take (8 * n)).drop 2) :: os') = optB (x, (T.take (8 * n)).drop 2) ++ optsB os' := by simp [optsB]
        refine ⟨?_, by simp; exact a2, ?_⟩
        · rw [e0, List.length_append, b2, a1, List.length_drop]; omega
        · rw [List.map_cons, b1, a3]
theorem optV_ok {L : List UInt8} {F q : Nat} (h : ((GS.ok 0).adv L F).opt L = .ok q) : F ≤ L.length ∧ (optsB (optV L F)).length = L.length - F ∧ (optV L F).length ≤ 64 ∧ (optV L F).map fillO = optV L F := by
  obtain ⟨p, os, e1, _, e2⟩ := opt_ok h
  obtain ⟨p', e3, e4, e5⟩ := adv_ok e1
  cases e3
  have e6 : p = F := by omega
  subst e6
  obtain ⟨a1, a2, a3⟩ := optsG_ok _ _ _ e2
  have eV : optV L p = os := by unfold optV; rw [e2]; rfl
  rw [eV]
  exact ⟨e5, by rw [a1, List.length_drop], a2, a3⟩
theorem srcsV_length (L : List UInt8) (q n : Nat) : (srcsV L q n).length = n := by simp [srcsV]
theorem recs_ok {L : List UInt8} : ∀ (n p q : Nat), recsS L n (.ok p) = .ok q → (∀ r ∈ recsV L n p, r.g.length = 16 ∧ ∀ z ∈ r.s, z.length = 16) → p ≤ L.length → p + (recsB (recsV L n p)).length ≤ q ∧ q ≤ L.length ∧ (∀ r ∈ recsV L n p, r.s.length ≤ 64) ∧ (recsV L n p).length = n
  | 0, p, q, h, _, hp => by
    have : GS.ok p = GS.ok q := h
    cases this
    exact ⟨by simp [recsV, recsB], hp, by simp [recsV], rfl⟩
  | n + 1, p, q, h, hw, hp => by
    have h' : recsS L n (recS L (.ok p)) = .ok q := h
    by_cases hs : ∃ p1, recS L (.ok p) = .ok p1
    · obtain ⟨p1, hs⟩ := hs
      have hs' : (((GS.ok p).adv L 2).cnt L).adv L (recL L p) = .ok p1 := hs
      obtain ⟨p2, e1, e2, e3⟩ := adv_ok hs'
      obtain ⟨p3, f1, f2, f3, f4⟩ := cnt_ok e1
      obtain ⟨p4, g1, g2, g3⟩ := adv_ok f1
      cases g1
      subst g2
      have ep1 : p1 = p + 4 + recL L p := by omega
      have hV : recsV L (n + 1) p = recV L p :: recsV L n (p + 4 + recL L p) := rfl
      rw [hV] at hw ⊢
      rw [hs, ep1] at h'
      obtain ⟨a1, a2, a3, a4⟩ := recs_ok n _ q h' (fun r hr => hw r (List.mem_cons_of_mem _ hr)) (by omega)
      have h1 := hw (recV L p) (by simp)
      have hb := recB_len h1.1 h1.2
      have hsl : (recV L p).s.length = numV L (p + 2) 2 := srcsV_length _ _ _
      have e0 : recsB (recV L p :: recsV L n (p + 4 + recL L p)) = recB (recV L p) ++ recsB (recsV L n (p + 4 + recL L p)) := by simp [recsB]
      refine ⟨?_, a2, fun r hr => ?_, by rw [List.length_cons, a4]⟩
      · have hrl : 16 + 16 * numV L (p + 2) 2 ≤ recL L p := by unfold recL; omega
        rw [e0, List.length_append, hb, hsl]
        omega
      · rcases List.mem_cons.1 hr with rfl | hr
        · rw [hsl]; exact f4
        · exact a3 r hr
    · rw [recsS_err n (fun q' hq' => hs ⟨q', hq'⟩)] at h'
      exact absurd ⟨q, h'⟩ hs
theorem get_again {k c : UInt8} {L : List UInt8} {q : Nat} (hk : isK k = true) (hw : Wf (getV k c L)) (h : getS k L = .ok q) : okM (getV k c L) = true ∧ ownM (getV k c L) = getV k c L ∧ (partB (getV k c L)).length ≤ L.length := by
  obtain ⟨m, hm⟩ : ∃ m, m = getV k c L := ⟨_, rfl⟩
  rw [← hm] at hw ⊢
  have hkind : m.kind = k := by
    rw [hm]; unfold getV
    repeat' split
    all_goals rfl
  have hok : mayB m = true → okM m = true := fun e => by unfold okM; rw [e, hkind, hk]; rfl
  have ht := hw.t; have hd := hw.d; have hg := hw.g
  unfold getV at hm
  unfold getS at h
  by_cases e0 : k = 130
  · rw [if_pos e0] at hm h
    have hkk : m.kind = 130 := by rw [hkind, e0]
    obtain ⟨p1, f1, f2, f3⟩ := adv_ok h
    obtain ⟨p2, g1, g2, g3, g4⟩ := cnt_ok f1
    obtain ⟨p3, i1, i2, i3⟩ := adv_ok g1
    cases i1
    have hsl : m.srcs.length = numV L 22 2 := by rw [hm]; exact srcsV_length _ _ _
    have hf := sflat_le m.srcs hw.s
    refine ⟨hok (by unfold mayB; rw [if_pos hkk, hsl]; subst i2; simpa using g4), ?_, ?_⟩
    · unfold ownM; rw [if_pos hkk, hkind, hm]; rfl
    · unfold partB; rw [if_pos hkk]
      simp only [List.length_append, nb_length, List.length_cons, List.length_nil, hg, hf]
      omega
  rw [if_neg e0] at hm h
  have n0 : ¬ m.kind = 130 := by rw [hkind]; exact e0
  by_cases e1 : k = 143
  · rw [if_pos e1] at hm h
    have hkk : m.kind = 143 := by rw [hkind, e1]
    by_cases hc : ∃ p, ((GS.ok 0).adv L 2).cnt L = .ok p
    · obtain ⟨p, hc⟩ := hc
      obtain ⟨p2, g1, g2, g3, g4⟩ := cnt_ok hc
      obtain ⟨p3, i1, i2, i3⟩ := adv_ok g1
      cases i1
      have e2 : p2 = 2 := by omega
      subst e2
      have ep : p = 4 := by omega
      subst ep
      have hrs : m.recs = recsV L (numV L 2 2) 4 := by rw [hm]
      rw [hc] at h
      obtain ⟨a1, a2, a3, a4⟩ := recs_ok _ _ _ h (by rw [← hrs]; exact hw.r) g3
      rw [← hrs] at a1 a3 a4
      refine ⟨hok ?_, ?_, ?_⟩
      · unfold mayB; rw [if_neg n0, if_pos hkk, Bool.and_eq_true, List.all_eq_true]
        exact ⟨by rw [a4]; simpa using g4, fun r hr => by simpa using a3 r hr⟩
      · unfold ownM; rw [if_neg n0, if_pos hkk, hkind, hm]; rfl
      · unfold partB; rw [if_neg n0, if_pos hkk]
        simp only [List.length_append, nb_length, List.length_cons, List.length_nil]
        omega
    · rw [recsS_err _ (fun q' hq' => hc ⟨q', hq'⟩)] at h
      exact absurd ⟨q, h⟩ hc
  rw [if_neg e1] at hm h
  have n1 : ¬ m.kind = 143 := by rw [hkind]; exact e1
  have hmo : m.opts.length ≤ 64 → mayB m = true := fun e => by
    unfold mayB; rw [if_neg n0, if_neg n1]
    split
    · simpa using e
    · rfl
  by_cases e2 : k = 134
  · rw [if_pos e2] at hm h
    have hkk : m.kind = 134 := by rw [hkind, e2]
    obtain ⟨a1, a2, a3, a4⟩ := optV_ok h
    have ho : m.opts = optV L 12 := by rw [hm]
    refine ⟨hok (hmo (by rw [ho]; exact a3)), ?_, ?_⟩
    · unfold ownM; rw [if_neg n0, if_neg n1, if_pos hkk, hkind, ho, a4, hm]; rfl
    · unfold partB; rw [if_neg n0, if_neg n1, if_pos hkk, ho]
      have dd := dumC
      simp only [List.length_append, nb_length, List.length_cons, List.length_nil] at dd ⊢
      omega
  rw [if_neg e2] at hm h
  have n2 : ¬ m.kind = 134 := by rw [hkind]; exact e2
  by_cases e3 : k = 133
  · rw [if_pos e3] at hm h
    have hkk : m.kind = 133 := by rw [hkind, e3]
    obtain ⟨a1, a2, a3, a4⟩ := optV_ok h
    have ho : m.opts = optV L 4 := by rw [hm]
    refine ⟨hok (hmo (by rw [ho]; exact a3)), ?_, ?_⟩
    · unfold ownM; rw [if_neg n0, if_neg n1, if_neg n2, if_pos hkk, hkind, ho, a4, hm]; rfl
    · unfold partB; rw [if_neg n0, if_neg n1, if_neg n2, if_pos hkk, ho]
      have dd := dumC
      simp only [List.length_append, nb_length, List.length_cons, List.length_nil] at dd ⊢
      omega
  rw [if_neg e3] at hm h
  have n3 : ¬ m.kind = 133 := by rw [hkind]; exact e3
  by_cases e4 : k = 135
  · rw [if_pos e4] at hm h
    have hkk : m.kind = 135 := by rw [hkind, e4]
    obtain ⟨a1, a2, a3, a4⟩ := optV_ok h
    have ho : m.opts = optV L 20 := by rw [hm]
    refine ⟨hok (hmo (by rw [ho]; exact a3)), ?_, ?_⟩
    · unfold ownM; rw [if_neg n0, if_neg n1, if_neg n2, if_neg n3, if_pos hkk, hkind, ho, a4, hm]; rfl
    · unfold partB; rw [if_neg n0, if_neg n1, if_neg n2, if_neg n3, if_pos hkk, ho]
      have dd := dumC
      simp only [List.length_append, nb_length, List.length_cons, List.length_nil] at dd ⊢
      omega
  rw [if_neg e4] at hm h
  have n4 : ¬ m.kind = 135 := by rw [hkind]; exact e4
  by_cases e5 : k = 136
  · rw [if_pos e5] at hm h
    have hkk : m.kind = 136 := by rw [hkind, e5]
    obtain ⟨a1, a2, a3, a4⟩ := optV_ok h
    have ho : m.opts = optV L 20 := by rw [hm]
    refine ⟨hok (hmo (by rw [ho]; exact a3)), ?_, ?_⟩
    · unfold ownM; rw [if_neg n0, if_neg n1, if_neg n2, if_neg n3, if_neg n4, if_pos hkk, hkind, ho, a4, hm]; rfl
    · unfold partB; rw [if_neg n0, if_neg n1, if_neg n2, if_neg n3, if_neg n4, if_pos hkk, ho]
      have dd := dumC
      simp only [List.length_append, nb_length, List.length_cons, List.length_nil] at dd ⊢
      omega
  rw [if_neg e5] at hm h
  have n5 : ¬ m.kind = 136 := by rw [hkind]; exact e5
  by_cases e6 : k = 137
  · rw [if_pos e6] at hm h
    have hkk : m.kind = 137 := by rw [hkind, e6]
    obtain ⟨a1, a2, a3, a4⟩ := optV_ok h
    have ho : m.opts = optV L 36 := by rw [hm]
    refine ⟨hok (hmo (by rw [ho]; exact a3)), ?_, ?_⟩
    · unfold ownM; rw [if_neg n0, if_neg n1, if_neg n2, if_neg n3, if_neg n4, if_neg n5, if_pos hkk, hkind, ho, a4, hm]; rfl
    · unfold partB; rw [if_neg n0, if_neg n1, if_neg n2, if_neg n3, if_neg n4, if_neg n5, if_pos hkk, ho]
      have dd := dumC
      simp only [List.length_append, nb_length, List.length_cons, List.length_nil] at dd ⊢
      omega
  rw [if_neg e6] at hm h
  have n6 : ¬ m.kind = 137 := by rw [hkind]; exact e6
  have ha : ∃ p, (GS.ok 0).adv L 4 = .ok p := by
    cases ha : (GS.ok 0).adv L 4 with
    | ok p => exact ⟨p, rfl⟩
    | short => rw [ha] at h; cases h
    | form => rw [ha] at h; cases h
  obtain ⟨p, ha⟩ := ha
  obtain ⟨p1, f1, f2, f3⟩ := adv_ok ha
  cases f1
  have hdd : m.data = L.drop 4 := by rw [hm]
  have ho : m.opts = [] := by rw [hm]; rfl
  refine ⟨hok (hmo (by rw [ho]; simp)), ?_, ?_⟩
  · unfold ownM; rw [if_neg n0, if_neg n1, if_neg n2, if_neg n3, if_neg n4, if_neg n5, if_neg n6, hkind, hdd, hm]; rfl
  · unfold partB; rw [if_neg n0, if_neg n1, if_neg n2, if_neg n3, if_neg n4, if_neg n5, if_neg n6, hdd, List.length_append, nb_length, List.length_drop]
    omega
end Go.Proofs.Ytjimmfbjhkoekaa
/- Icmps: what Get answers of what was put, and of bytes whose checksum is right, plain. -/
namespace Go.Proofs.Ytjimmfbjhkoekaa
open Go.RowKit
set_option maxRecDepth 100000
theorem putB_fixc (src dst : List UInt8) (m : Msg) : putB src dst m = fixc src dst 58 2 (bodyB m) := by
  have e : ((bodyB m).set 2 0).set (2 + 1) 0 = bodyB m := by unfold bodyB; rfl
  unfold fixc
  rw [e]
  unfold putB
  rw [nb2k]
  unfold bodyB
  rfl
theorem putB_good {src dst : List UInt8} (m : Msg) (h1 : src.length = 16) (h2 : dst.length = 16) : sumOf (ovr src dst 58 (putB src dst m)) = 0 := by
  rw [putB_fixc]
  exact fixc_good h1 h2 (by decide) (by decide) (by rw [bodyB_len]; omega)
theorem putB_1 (src dst : List UInt8) (m : Msg) : (putB src dst m).getD 1 0 = m.code := by
  unfold putB; rfl
/-- What Get answers of bytes that are good. -/
theorem good_get {src dst P : List UInt8} {n : Nat} {e : Ending} {w' : World} (h : GetM src dst P n e w') (h4 : 4 ≤ P.length) (hs : sumOf (ovr src dst 58 P) = 0) :
    (∃ E : Nat, e = .returned (.tuple #[.agg (mC (mZ 0 0)), .int .i64 (E : Int)]) ∧ (E = 5 ∨ E = 4 ∨ E = 9) ∧ (isK (P.headD 0) = false ∨ ∀ q, getS (P.headD 0) (P.drop 4) ≠ .ok q)) ∨
    (∃ (m' : Mv) (q : Nat), e = .returned (.tuple #[.agg (mC m'), .int .i64 0]) ∧ MvOk w' w'.heap.size m' ∧ m'.pl = getV (P.headD 0) (P.getD 1 0) (P.drop 4) ∧ isK (P.headD 0) = true ∧ getS (P.headD 0) (P.drop 4) = .ok q) := by
  unfold GetM at h
  rw [if_neg (by omega), if_neg (by rw [hs]; simp)] at h
  cases hk : isK (P.headD 0) with
  | false =>
    rw [if_pos hk] at h
    exact .inl ⟨9, h, .inr (.inr rfl), .inl rfl⟩
  | true =>
    rw [if_neg (by rw [hk]; simp)] at h
    obtain ⟨st', m', hp, hc⟩ := h
    obtain ⟨a1, a2⟩ := partG_fun hp
    rcases hc with ⟨he, rfl⟩ | ⟨q, gb, hq, rfl, hok, _⟩
    · left
      cases st' with
      | ok q => exact absurd rfl he
      | short => exact ⟨5, rfl, .inl rfl, .inr fun q hq => by rw [← a1] at hq; cases hq⟩
      | form => exact ⟨4, rfl, .inr (.inl rfl), .inr fun q hq => by rw [← a1] at hq; cases hq⟩
    · right
      exact ⟨m', q, rfl, hok, a2 q hq, rfl, by rw [← a1]; exact hq⟩
theorem back_get {src dst : List UInt8} {m : Msg} {n : Nat} {e : Ending} {w' : World} (h1 : src.length = 16) (h2 : dst.length = 16) (hw : Wf m) (hl : Lim m) (hok : okM m = true) (h : GetM src dst (putB src dst m) n e w') :
    ∃ mo : Mv, e = .returned (.tuple #[.agg (mC mo), .int .i64 0]) ∧ MvOk w' w'.heap.size mo ∧ mo.pl = ownM m := by
  have hh : (putB src dst m).headD 0 = m.kind := by unfold putB; rfl
  obtain ⟨⟨q, hq⟩, hv⟩ := get_back hw hl hok
  have hlen := putB_len src dst m
  rcases good_get h (by omega) (putB_good m h1 h2) with ⟨E, _, hE, hn⟩ | ⟨m', q', rfl, hok', hpl, _⟩
  · exfalso
    rw [hh, putB_drop] at hn
    rcases hn with hn | hn
    · rw [okM_kind hok] at hn; cases hn
    · exact hn q hq
  · exact ⟨m', rfl, hok', by rw [hpl, hh, putB_1, putB_drop, hv]⟩
theorem getV_le {k c : UInt8} {L : List UInt8} {q : Nat} (hw : Wf (getV k c L)) (h : getS k L = .ok q) : (getV k c L).opts.length ≤ 64 ∧ (optsB (getV k c L).opts).length ≤ L.length ∧ (∀ o ∈ (getV k c L).opts, o.2.length ≤ 2038) ∧ (getV k c L).data.length ≤ L.length ∧ (getV k c L).srcs.length ≤ 64 ∧ (getV k c L).recs.length ≤ 64 ∧ ∀ r ∈ (getV k c L).recs, r.s.length ≤ 64 := by
  have hopt : ∀ F, ((GS.ok 0).adv L F).opt L = .ok q → (optV L F).length ≤ 64 ∧ (optsB (optV L F)).length ≤ L.length ∧ ∀ o ∈ optV L F, o.2.length ≤ 2038 := fun F hF => by
    obtain ⟨a1, a2, a3, a4⟩ := optV_ok hF
    refine ⟨a3, by omega, fun o ho => ?_⟩
    have e1 : ∀ l : List (UInt8 × List UInt8), l.map fillO = l → ∀ o ∈ l, fillO o = o := fun l => by
      induction l with
      | nil => intro _ o ho; simp at ho
      | cons x l ih =>
        intro e o ho
        rw [List.map_cons, List.cons.injEq] at e
        rcases List.mem_cons.1 ho with rfl | ho
        · exact e.1
        · exact ih e.2 o ho
    have e2 := congrArg (fun x : UInt8 × List UInt8 => x.2.length) (e1 _ a4 o ho)
    have e3 := optM_le o.2
    have e4 := optB_sz o.2
    simp only [fillO, List.length_append, List.length_replicate] at e2
    omega
  unfold getV at hw ⊢
  unfold getS at h
  have n1 : (mZ k c).pl.opts = [] := rfl
  have n2 : (mZ k c).pl.data = [] := rfl
  have n3 : (mZ k c).pl.srcs = [] := rfl
  have n4 : (mZ k c).pl.recs = [] := rfl
  by_cases e0 : k = 130
  · rw [if_pos e0] at h hw ⊢
    obtain ⟨p1, f1, f2, f3⟩ := adv_ok h
    obtain ⟨p2, g1, g2, g3, g4⟩ := cnt_ok f1
    obtain ⟨p3, i1, i2, i3⟩ := adv_ok g1
    cases i1
    subst i2
    refine ⟨by simp [n1], by simp [n1, optsB], by simp [n1], by simp [n2], ?_, by simp [n4], by simp [n4]⟩
    show (srcsV L 24 (numV L 22 2)).length ≤ 64
    rw [srcsV_length]; simpa using g4
  rw [if_neg e0] at h hw ⊢
  by_cases e1 : k = 143
  · rw [if_pos e1] at h hw ⊢
    by_cases hc : ∃ p, ((GS.ok 0).adv L 2).cnt L = .ok p
    · obtain ⟨p, hc⟩ := hc
      obtain ⟨p2, g1, g2, g3, g4⟩ := cnt_ok hc
      obtain ⟨p3, i1, i2, i3⟩ := adv_ok g1
      cases i1
      have e2 : p2 = 2 := by omega
      subst e2
      have ep : p = 4 := by omega
      subst ep
      rw [hc] at h
      obtain ⟨a1, a2, a3, a4⟩ := recs_ok _ _ _ h hw.r g3
      refine ⟨by simp [n1], by simp [n1, optsB], by simp [n1], by simp [n2], by simp [n3], ?_, a3⟩
      show (recsV L (numV L 2 2) 4).length ≤ 64
      rw [a4]; exact g4
    · rw [recsS_err _ (fun q' hq' => hc ⟨q', hq'⟩)] at h
      exact absurd ⟨q, h⟩ hc
  rw [if_neg e1] at h hw ⊢
  by_cases e2 : k = 134
  · rw [if_pos e2] at h hw ⊢
    obtain ⟨a1, a2, a3⟩ := hopt _ h
    exact ⟨a1, a2, a3, by simp [n2], by simp [n3], by simp [n4], by simp [n4]⟩
  rw [if_neg e2] at h hw ⊢
  by_cases e3 : k = 133
  · rw [if_pos e3] at h hw ⊢
    obtain ⟨a1, a2, a3⟩ := hopt _ h
    exact ⟨a1, a2, a3, by simp [n2], by simp [n3], by simp [n4], by simp [n4]⟩
  rw [if_neg e3] at h hw ⊢
  by_cases e4 : k = 135
  · rw [if_pos e4] at h hw ⊢
    obtain ⟨a1, a2, a3⟩ := hopt _ h
    exact ⟨a1, a2, a3, by simp [n2], by simp [n3], by simp [n4], by simp [n4]⟩
  rw [if_neg e4] at h hw ⊢
  by_cases e5 : k = 136
  · rw [if_pos e5] at h hw ⊢
    obtain ⟨a1, a2, a3⟩ := hopt _ h
    exact ⟨a1, a2, a3, by simp [n2], by simp [n3], by simp [n4], by simp [n4]⟩
  rw [if_neg e5] at h hw ⊢
  by_cases e6 : k = 137
  · rw [if_pos e6] at h hw ⊢
    obtain ⟨a1, a2, a3⟩ := hopt _ h
    exact ⟨a1, a2, a3, by simp [n2], by simp [n3], by simp [n4], by simp [n4]⟩
  rw [if_neg e6] at h hw ⊢
  refine ⟨by simp [n1], by simp [n1, optsB], by simp [n1], ?_, by simp [n3], by simp [n4], by simp [n4]⟩
  show (L.drop 4).length ≤ L.length
  rw [List.length_drop]; omega
/-- What of a message that was got its size is. -/
theorem got_sizes {k c : UInt8} {L : List UInt8} {q : Nat} {m : Mv} {w : World} {n : Nat} (hok : MvOk w n m) (hpl : m.pl = getV k c L) (h : getS k L = .ok q) (hL : L.length < 2 ^ 29) : Small m ∧ Big m := by
  have hw : Wf (getV k c L) := by rw [← hpl]; exact hok.wf
  obtain ⟨a1, a2, a3, a4, a5, a6, a7⟩ := getV_le hw h
  rw [← hpl] at a1 a2 a3 a4 a5 a6 a7
  have o1 : m.os.length ≤ 64 := by simpa [Mv.pl] using a1
  have o2 : (optsB (m.os.map Ov.pl)).length ≤ L.length := a2
  have o4 : m.dd.length ≤ L.length := a4
  have o5 : m.ss.length ≤ 64 := a5
  have o6 : m.rs.length ≤ 64 := by simpa [Mv.pl] using a6
  refine ⟨⟨by omega, by omega, by omega⟩, ⟨by omega, by omega, by omega, fun r hr => ?_, by omega, fun x hx => ?_⟩⟩
  · have : r.s.length ≤ 64 := a7 r.pl (List.mem_map.2 ⟨r, hr, rfl⟩)
    omega
  · have : x.d.length ≤ 2038 := a3 x.pl (List.mem_map.2 ⟨x, hx, rfl⟩)
    omega
end Go.Proofs.Ytjimmfbjhkoekaa
