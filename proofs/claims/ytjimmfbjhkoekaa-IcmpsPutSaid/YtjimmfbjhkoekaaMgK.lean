import Derived.Test.YtjimmfbjhkoekaaMgV
/- Icmps: parts, put: a question. -/
namespace Go.Proofs.Ytjimmfbjhkoekaa
open Go.RowKit
set_option maxRecDepth 100000
set_option maxHeartbeats 1000000
theorem e62 (w : World) : (callFunc 62 #[]).run Try.prog w = .ok (.enter 62 #[]) w := by kernel_rfl
theorem parts1_put (n gp : Nat) (v : Value) (L : List UInt8) (w : World) (h : PU w n gp v L) : Calls Try.prog 62 #[] w fun e w' => e = .returned (.tuple #[]) ∧ Put1 w n gp v (L ++ []) false w' := by
  have H : Hid (Put1 w n gp v (L ++ []) false w) := Lib.hid (by rw [List.append_nil]; exact ⟨v, h, (fun e => by cases e), fun k e => .inl e, Tn.refl _ _⟩)
  clear h
  go_enter Try.func62, Try.ntmps62
  go_wp2_with fail
  go_end0
  exact ⟨rfl, H.out⟩
theorem p130_put (n gp gm : Nat) (m : Mv) (v : Value) (L : List UInt8) (w : World) (h : PU w n gp v L) (hgm : gm < n) (hm : bk w gm = some (.cells (mC m) 33 (0, 0))) (hok : MvOk w n m) (hl : L.length < 2 ^ 20 ∧ m.ss.length < 65536) (hk : m.kind = 130) :
    Calls Try.prog 31 #[sideP gp, .pointer (some ⟨gm, 0, none⟩)] w fun e w' => e = .returned (.bool true) ∧ Put3 w n gp gm v (L ++ partB m.pl) w' := by
  have c0 : w.cell? ⟨gm, 0, none⟩ = some (.int .u8 130) := by rw [bk_cell hm, mC_0, hk]; rfl
  have lm := bk_lt hm
  have P0 := Lib.hid (PS.start h)
  have OK := Lib.hid hok; have HL := Lib.hid hl; have HQ : Hid (m.pl.kind = 130) := Lib.hid hk
  have HE : Hid (∀ {w' : World} {L' : List UInt8}, L' = L ++ partB m.pl → Put2 w n gp gm 61 v (mC m) 33 L' w' → Put3 w n gp gm v (L ++ partB m.pl) w') := Lib.hid fun e q => e ▸ q.to3
  clear h hok hl hk
  go_enter Try.func31, Try.ntmps31
  go_upto_region 12 with fail
  have PD := Lib.hid ((P0).out.below (w' := (w).drew) (by (repeat (first | exact Below.refl _ _ | assumption | refine Below.drew ?_ | refine bdrewN ?_ _ | refine Below.alloc ?_ (by first | omega | (simp <;> omega) | (simp only [World.size_alloc] <;> omega)) _ | refine below_setRow ?_ (by first | omega | (simp <;> omega)) _ | refine Below.setCell ?_ (by first | omega | (simp <;> omega)) _))))
  have C := Lib.hid (ptwo_put n gp gm 42 m.mx _ _ _ PD.out.pu ((bk_cell (PD.out.box hgm hm) 42).trans (mC_42 m)) (bk_lt (PD.out.box hgm hm)) OK.out.b5 (by (try (have dd := dumL; simp only [List.length_append, List.length_replicate, nb_length] at dd ⊢)); have h1 := HL.out; have h2 := m.ht; have h3 := m.hd; have h4 := m.hg; omega))
  go_region_held3 (fun w' => True) (first | assumption | go_keep) ((go_at_call 102; with_reducible refine C.out.mono ?_; rintro e w1 ⟨rfl, p1⟩; obtain ⟨v1, h1, f1⟩ := PD.out.put p1; have P1 := Lib.hid h1; have F1 := Lib.hid f1; clear p1 h1 f1 C PD))
  clear P0
  have C := Lib.hid (pnought_put n gp 2 _ _ _ P1.out.pu (F1.out (by first | rfl | trivial)) (by omega) (by omega) (by (try (have dd := dumL; simp only [List.length_append, List.length_replicate, nb_length] at dd ⊢)); have h1 := HL.out; have h2 := m.ht; have h3 := m.hd; have h4 := m.hg; omega))
  go_wp2_with fail
  refine C.out.mono ?_
  rintro e w2 ⟨rfl, p1⟩
  obtain ⟨v2, h1, f1⟩ := (P1).out.put p1
  have P2 := Lib.hid h1
  have F2 := Lib.hid f1
  clear p1 h1 f1 C
  clear P1 F1 F2
  have lm2 := bk_lt (P2.out.box hgm hm)
  go_upto_region 14 with fail
  have PD := Lib.hid ((P2).out.below (w' := (w2).drew) (by (repeat (first | exact Below.refl _ _ | assumption | refine Below.drew ?_ | refine bdrewN ?_ _ | refine Below.alloc ?_ (by first | omega | (simp <;> omega) | (simp only [World.size_alloc] <;> omega)) _ | refine below_setRow ?_ (by first | omega | (simp <;> omega)) _ | refine Below.setCell ?_ (by first | omega | (simp <;> omega)) _))))
  have C := Lib.hid (paddr_put n gp gm 43 m.grp _ _ _ PD.out.pu m.hg (Rd.grp (PD.out.box hgm hm) (bk_lt (PD.out.box hgm hm))) (by (try (have dd := dumL; simp only [List.length_append, List.length_replicate, nb_length] at dd ⊢)); have h1 := HL.out; have h2 := m.ht; have h3 := m.hd; have h4 := m.hg; omega))
  go_region_held3 (fun w' => True) (first | assumption | go_keep) ((go_at_call 94; with_reducible refine C.out.mono ?_; rintro e w3 ⟨rfl, p1⟩; obtain ⟨v3, h1, f1⟩ := PD.out.put p1; have P3 := Lib.hid h1; have F3 := Lib.hid f1; clear p1 h1 f1 C PD))
  clear P2 F3 lm2
  have lm2 := bk_lt (P3.out.box hgm hm)
  go_upto_region 15 with fail
  have PD := Lib.hid ((P3).out.below (w' := (w3).drew) (by (repeat (first | exact Below.refl _ _ | assumption | refine Below.drew ?_ | refine bdrewN ?_ _ | refine Below.alloc ?_ (by first | omega | (simp <;> omega) | (simp only [World.size_alloc] <;> omega)) _ | refine below_setRow ?_ (by first | omega | (simp <;> omega)) _ | refine Below.setCell ?_ (by first | omega | (simp <;> omega)) _))))
  have C := Lib.hid (pone_put n gp gm 59 m.rob _ _ _ PD.out.pu ((bk_cell (PD.out.box hgm hm) 59).trans (mC_59 m)) (bk_lt (PD.out.box hgm hm)) (by (try (have dd := dumL; simp only [List.length_append, List.length_replicate, nb_length] at dd ⊢)); have h1 := HL.out; have h2 := m.ht; have h3 := m.hd; have h4 := m.hg; omega))
  go_region_held3 (fun w' => True) (first | assumption | go_keep) ((go_at_call 98; with_reducible refine C.out.mono ?_; rintro e w4 ⟨rfl, p1⟩; obtain ⟨v4, h1, f1⟩ := PD.out.put p1; have P4 := Lib.hid h1; have F4 := Lib.hid f1; clear p1 h1 f1 C PD))
  clear P3
  clear F4 lm2
  have lm2 := bk_lt (P4.out.box hgm hm)
  go_upto_region 16 with fail
  have PD := Lib.hid ((P4).out.below (w' := (w4).drew) (by (repeat (first | exact Below.refl _ _ | assumption | refine Below.drew ?_ | refine bdrewN ?_ _ | refine Below.alloc ?_ (by first | omega | (simp <;> omega) | (simp only [World.size_alloc] <;> omega)) _ | refine below_setRow ?_ (by first | omega | (simp <;> omega)) _ | refine Below.setCell ?_ (by first | omega | (simp <;> omega)) _))))
  have C := Lib.hid (pone_put n gp gm 60 m.int _ _ _ PD.out.pu ((bk_cell (PD.out.box hgm hm) 60).trans (mC_60 m)) (bk_lt (PD.out.box hgm hm)) (by (try (have dd := dumL; simp only [List.length_append, List.length_replicate, nb_length] at dd ⊢)); have h1 := HL.out; have h2 := m.ht; have h3 := m.hd; have h4 := m.hg; omega))
  go_region_held3 (fun w' => True) (first | assumption | go_keep) ((go_at_call 98; with_reducible refine C.out.mono ?_; rintro e w5 ⟨rfl, p1⟩; obtain ⟨v5, h1, f1⟩ := PD.out.put p1; have P5 := Lib.hid h1; have F5 := Lib.hid f1; clear p1 h1 f1 C PD))
  clear P4
  clear F5 lm2
  have lm2 := bk_lt (P5.out.box hgm hm)
  have C := Lib.hid (addrs_put n gp gm 61 62 #[] m.SA m.ss m.sc [] _ _ (mC m) 33 w5 P5.out.pu (fun e => by have := (P5.out.pu.lt gm e).1; omega) (P5.out.box hgm hm) (mC_61 m) (OK.out.ss.below P5.out.bl (Nat.le_refl _)) OK.out.s16 HL.out.2 e62 (fun W v' hp => parts1_put n gp v' _ W hp.pu) (by (try simp only [List.length_append, List.length_replicate, nb_length, List.length_nil]); have h1 := HL.out; have h4 := m.hg; omega))
  go_wp2_with fail
  refine C.out.mono ?_
  rintro e w6 ⟨rfl, p6⟩
  have FX := Lib.hid (HE.out (by unfold partB; rw [HQ.out]; (have dd := dumP m ⟨0, none, [], 0⟩; simp [nb1, List.replicate, Mv.pl, Ov.pl] at dd ⊢)) (P5.out.put2 p6))
  clear p6 C P5
  go_wp2_with fail
  go_ret
  exact ⟨rfl, FX.out⟩
end Go.Proofs.Ytjimmfbjhkoekaa
/- Icmps: parts, put: reports of listeners. -/
namespace Go.Proofs.Ytjimmfbjhkoekaa
open Go.RowKit
set_option maxRecDepth 100000
set_option maxHeartbeats 1000000
theorem infoRc : (Try.prog.info? 57).map (fun i => (i.zero, i.size, i.bytes)) = some (some (.agg (#[.int .u8 0] ++ Array.replicate 16 (.int .u8 0) ++ #[.slice none 0 0])), 18, 48) := by kernel_rfl
def zRecs (c : Nat) : Array Value := madeCells (#[.int .u8 0] ++ Array.replicate 16 (.int .u8 0) ++ #[.slice none 0 0]) (c * 18)
@[go_sem ↓] theorem mkRecs (dst : Option Tmp) (x y : Operand) (t : TypeId) (pos : String) (af : Array Edge) (g : Option (Nat × Bool)) (a : Act) (w : World) (K : Act → World → Prop) (Q : Exit → Act → World → Prop) :
    Oper.wp Try.prog ⟨dst, .makeSlice 31 x y, t, pos, af, g⟩ a w K Q = mkTo2 (wpHid Try.prog ⟨dst, .makeSlice 31 x y, t, pos, af, g⟩ a w K Q)
      (fun n c => K (a.put dst (.slice (some ⟨w.heap.size, 0, none⟩) n c)) (w.alloc (.cells (zRecs c) 57))) (a.eval x) (a.eval y) :=
  wp_mk2 31 57 _ 18 48 zRecs Try.underlying31 infoRc (by decide) (fun c => rfl) dst x y t pos af g a w K Q
theorem zRecs_size (c : Nat) : (zRecs c).size = c * 18 := size_madeCells _ _
/-- Reports from the k-th on lie in a block as they were. -/
def RcsAt (cur : Array Value) (rs : List Rv) (k : Nat) : Prop := ∀ i (h : i < rs.length), k ≤ i → RcAt cur (i * 18) rs[i]
theorem rcs_start (rs : List Rv) : RcsAt ((rs.map fun r => r.row.toList).flatten).toArray rs 0 := fun i hi _ => by
  have key : ∀ j, j < 18 → (((rs.map fun r => r.row.toList).flatten).toArray)[i * 18 + j]? = rs[i].row[j]? := fun j hj => by
    have e1 : (i * 18 + j) / 18 = i := by omega
    have e2 : (i * 18 + j) % 18 = j := by omega
    rw [List.getElem?_toArray, flat_at (fun r : Rv => r.row.toList) 18 (by decide) rs (i * 18 + j) (fun r _ => by simp [Rv.row_size]) (by rw [e1]; exact hi)]
    simp only [e1, e2, Array.getElem?_toList]
  have hg := rs[i].hg
  refine ⟨?_, fun j hj => ?_, ?_⟩
  · have := key 0 (by omega)
    rw [Nat.add_zero] at this
    rw [this]; rfl
  · rw [Nat.add_assoc, key (1 + j) (by omega)]
    simp only [Rv.row, List.getElem?_toArray]
    rw [Nat.add_comm 1 j, List.getElem?_cons_succ, List.getElem?_append_left (by simpa using hj)]
    simp [hj]
  · rw [key 17 (by omega)]
    simp only [Rv.row, List.getElem?_toArray]
    rw [List.getElem?_cons_succ, List.getElem?_append_right (by simp [hg])]
    simp [hg]
theorem RcsAt.next {cur : Array Value} {rs : List Rv} {k : Nat} (h : RcsAt cur rs k) (val : Value) : RcsAt (cur.setIfInBounds (k * 18 + 17) val) rs (k + 1) := fun i hi hk => by
  obtain ⟨h1, h2, h3⟩ := h i hi (by omega)
  have hg := rs[i].hg
  refine ⟨?_, fun j hj => ?_, ?_⟩
  · rw [Array.getElem?_setIfInBounds_ne (by omega)]; exact h1
  · rw [Array.getElem?_setIfInBounds_ne (by omega)]; exact h2 j hj
  · rw [Array.getElem?_setIfInBounds_ne (by omega)]; exact h3
theorem recB_eq (x : Rv) (L : List UInt8) : L ++ nb 1 x.kind.toNat ++ nb 1 0 ++ nb 2 x.s.length ++ x.g ++ x.s.flatten = L ++ recB x.pl := by
  have e : nb 1 0 = [0] := by decide
  unfold recB
  simp [nb1, e, Rv.pl]
theorem take_recs {rs : List Rv} {k : Nat} (h : k < rs.length) : recsB ((rs.take (k + 1)).map Rv.pl) = recsB ((rs.take k).map Rv.pl) ++ recB rs[k].pl := by
  rw [List.take_succ_eq_append_getElem h]; unfold recsB; rw [List.map_append, List.map_append, List.flatten_append]; simp
theorem recsB_le (l : List Rv) (k : Nat) : (recsB ((l.take k).map Rv.pl)).length ≤ (recsB (l.map Rv.pl)).length := by
  conv => rhs; rw [← List.take_append_drop k l]
  unfold recsB
  simp only [List.map_append, List.flatten_append, List.length_append]
  omega
/-- From round to round: a block of its own turns, too. -/
structure PSG (w0 w : World) (n gp go : Nat) (v0 v : Value) (L : List UInt8) (cur : Array Value) (t : TypeId) : Prop where
  pu : PU w n gp v L
  nw : ∀ k, v.ownBlock = some k → v0.ownBlock = some k ∨ w0.heap.size ≤ k
  t' : Tn (fun k => Fp gp v0 k ∨ k = go) w0 w
  bl : Below n w0 w
  kb : bk w go = some (.cells cur t (0, 0))
  gf : ¬ Fp gp v0 go
  gl : go < w0.heap.size
  ng : n ≤ go
theorem PSG.off {w0 w : World} {n gp go : Nat} {v0 v : Value} {L : List UInt8} {cur : Array Value} {t : TypeId} (h : PSG w0 w n gp go v0 v L cur t) : ¬ Fp gp v go := fun e => by
  rcases e with e | e
  · exact h.gf (.inl e)
  · rcases h.nw go e with q | q
    · exact h.gf (.inr q)
    · have := h.gl; omega
theorem PSG.put {w0 w w' : World} {n gp go ol : Nat} {v0 v : Value} {L L' : List UInt8} {cur : Array Value} {t : TypeId} (h : PSG w0 w n gp go v0 v L cur t) (p : Put2 w n gp go ol v cur t L' w') : ∃ v' x, PSG w0 w' n gp go v0 v' L' (cur.setIfInBounds ol x) t := by
  obtain ⟨v', x, h1, h2, h3, h4⟩ := p
  have hs := h.t'.size
  refine ⟨v', x, h1, fun k hk => ?_, h.t'.trans h3 fun j hj => ?_, h.bl.trans (h3.below (fun k hk => ?_) (by have := h.pu.lt gp (.inl rfl); omega)), h4, h.gf, h.gl, h.ng⟩
  · rcases h2 k hk with q | q
    · exact h.nw k q
    · exact .inr (by omega)
  · rcases hj with (rfl | hj) | hj
    · exact .inl (.inl (.inl rfl))
    · rcases h.nw j hj with q | q
      · exact .inl (.inl (.inr q))
      · exact .inr q
    · exact .inl (.inr hj)
  · rcases hk with hk | rfl
    · exact (h.pu.lt k hk).1
    · exact h.ng
theorem PSG.done {w w0 w' : World} {n gp go gm : Nat} {v vv v' : Value} {L L' : List UInt8} {cur : Array Value} {t t2 : TypeId} {m : Array Value} (p : PS w w0 n gp v vv L) (hgm : gm < n) (hm : bk w gm = some (.cells m t2 (0, 0))) (h : PSG w0 w' n gp go vv v' L' cur t) (hw : w.heap.size ≤ go) (x : Value) (o : Nat) : Put3 w n gp gm v L' (w'.setCell ⟨gm, o, none⟩ x) := by
  have hs := p.t.size
  have hg0 := fun k hk => (h.pu.lt k hk).1
  refine ⟨v', h.pu.keep (F := fun j => j = gm) ((Tn.refl _ _).set (.inl rfl)) (fun j hj e => by subst hj; have := hg0 _ e; omega), fun k hk => ?_, ((p.t.mono (G := fun k => Fp gp v k ∨ k = gm) fun k e => .inl e).trans h.t' fun j hj => ?_).set (.inl (.inr rfl))⟩
  · rcases h.nw k hk with q | q
    · exact p.nw k q
    · exact .inr (by omega)
  · rcases hj with (rfl | hj) | rfl
    · exact .inl (.inl (.inl rfl))
    · rcases p.nw j hj with q | q
      · exact .inl (.inl (.inr q))
      · exact .inr q
    · exact .inr hw
theorem p143_put (n gp gm : Nat) (m : Mv) (v : Value) (L : List UInt8) (w : World) (h : PU w n gp v L) (hf : Full v L) (hgm : gm < n) (hm : bk w gm = some (.cells (mC m) 33 (0, 0))) (hok : MvOk w n m) (hl : L.length < 2 ^ 20 ∧ m.rs.length < 65536 ∧ (∀ r ∈ m.rs, r.s.length < 65536) ∧ (recsB (m.rs.map Rv.pl)).length < 2 ^ 20) (hk : m.kind = 143) :
    Calls Try.prog 31 #[sideP gp, .pointer (some ⟨gm, 0, none⟩)] w fun e w' => e = .returned (.bool true) ∧ Put3 w n gp gm v (L ++ partB m.pl) w' := by
  have c0 : w.cell? ⟨gm, 0, none⟩ = some (.int .u8 143) := by rw [bk_cell hm, mC_0, hk]; rfl
  have lm := bk_lt hm
  have P0 := Lib.hid (PS.start h)
  have OK := Lib.hid hok; have HL := Lib.hid hl; have HQ : Hid (m.pl.kind = 143) := Lib.hid hk; have HF := Lib.hid hf
  obtain ⟨N, hN⟩ : ∃ N, N = m.rs.length := ⟨_, rfl⟩
  have HN := Lib.hid hN
  have hN65 : N < 65536 := by rw [hN]; exact hl.2.1
  clear h hok hl hk hf hN
  go_enter Try.func31, Try.ntmps31
  have C := Lib.hid (pnought_put n gp 2 _ _ _ P0.out.pu HF.out (by omega) (by omega) (by have := HL.out; omega))
  go_wp2_with fail
  refine C.out.mono ?_
  rintro e w1 ⟨rfl, p1⟩
  obtain ⟨v1, h1, f1⟩ := (P0).out.put p1
  have P1 := Lib.hid h1
  have F1 := Lib.hid f1
  clear p1 h1 f1 C
  clear P0 F1 HF c0
  have c62 : w1.drew.cell? ⟨gm, 62, none⟩ = some (.slice m.RA N m.rc) := by rw [HN.out]; exact (bk_cell (P1.out.box hgm hm) 62).trans (mC_62 m)
  have lm1 := bk_lt (P1.out.box hgm hm)
  have hN20 : (N : Int) ≤ 1048576 := by omega
  go_upto_region 20 with fail
  have PD := Lib.hid (P1.out.below (w' := w1.drew) (by (repeat (first | exact Below.refl _ _ | assumption | refine Below.drew ?_ | refine bdrewN ?_ _ | refine Below.alloc ?_ (by first | omega | (simp <;> omega) | (simp only [World.size_alloc] <;> omega)) _ | refine below_setRow ?_ (by first | omega | (simp <;> omega)) _ | refine Below.setCell ?_ (by first | omega | (simp <;> omega)) _))))
  have C := Lib.hid (pcount_put n gp N _ _ _ PD.out.pu (by omega) (by (try simp only [List.length_append, List.length_replicate]); have := HL.out; omega))
  have HK : Hid (∀ {w' : World} {v' : Value} {L' : List UInt8}, PS w w' n gp v v' L' → w'.cell? ⟨gm, 62, none⟩ = some (.slice m.RA N m.rc)) := Lib.hid fun q => by rw [HN.out]; exact (bk_cell (q.box hgm hm) 62).trans (mC_62 m)
  go_region_law ((go_simp; go_at_call 95; with_reducible refine C.out.mono ?_; rintro e w2 ⟨rfl, p2⟩; obtain ⟨v2, h2, f2⟩ := PD.out.put p2; have P2 := Lib.hid h2; have c62' := HK.out h2; have lm2 := bk_lt (P2.out.box hgm hm); clear p2 h2 f2 C PD))
  all_goals
    go_simp
    obtain ⟨go, hgo⟩ : ∃ g, g = w2.heap.size := ⟨_, rfl⟩
    have k3 : bk (w2.alloc (.cells (zRecs N) 57)) go = some (.cells (zRecs N) 57 (0, 0)) := bk_alloc_at _ _ _ hgo
    have b3 : Below w2.heap.size w2 (w2.alloc (.cells (zRecs N) 57)) := (by (repeat (first | exact Below.refl _ _ | assumption | refine Below.drew ?_ | refine bdrewN ?_ _ | refine Below.alloc ?_ (by first | omega | (simp <;> omega) | (simp only [World.size_alloc] <;> omega)) _ | refine below_setRow ?_ (by first | omega | (simp <;> omega)) _ | refine Below.setCell ?_ (by first | omega | (simp <;> omega)) _)))
    have P3 := Lib.hid (P2.out.below b3)
    have c3 := HK.out P3.out
    have lm3 := bk_lt (P3.out.box hgm hm)
    have GF : Hid (¬ Fp gp v2 go) := Lib.hid fun e => by have := (P2.out.pu.lt go e).2; omega
    have hgo2 : Hid (gm ≠ go ∧ w.heap.size ≤ go ∧ n ≤ go) := Lib.hid (by have h1 := P2.out.t.size; have h2 := P2.out.nle; omega)
    obtain ⟨Z0, hZ0⟩ : ∃ Z, Z = zRecs N := ⟨_, rfl⟩
    rw [← hgo, ← hZ0]
    rw [← hZ0] at k3 P3 c3 lm3
    have hZs : Z0.size = N * 18 := by rw [hZ0]; exact zRecs_size N
    clear b3 hgo P2 c62 c62' lm2 hZ0
    generalize w2.alloc (.cells Z0 57) = w3 at *
    obtain ⟨CS, hCS⟩ : ∃ C, C = (m.rs.map fun r => r.row.toList).flatten := ⟨_, rfl⟩
    have hlen : CS.length = N * 18 := by rw [hCS, flat_len (fun r : Rv => r.row.toList) 18 m.rs (fun r _ => by simp [Rv.row_size]), ← HN.out]
    have CP : Hid (CS.length = Nat.min N N * 18 ∧ (0 < Nat.min N N → some (⟨go, 0, none⟩ : Addr) = some ⟨go, 0, none⟩ ∧ ∃ ad, m.RA = some ad ∧ ∀ j v, CS[j]? = some v → w3.cell? (ad.add j) = some v)) := Lib.hid ⟨by rw [hlen]; show N * 18 = min N N * 18; rw [Nat.min_self], fun h0 => ⟨rfl, by
      have := (OK.out.rs.below P3.out.bl (Nat.le_refl _)).cells (fun r _ => Rv.row_size r) (by decide) (by rw [← HN.out]; exact Nat.lt_of_lt_of_le h0 (Nat.min_le_left _ _))
      rw [hCS]
      exact this⟩⟩
    have HSP : Hid (spl Z0.toList 0 CS = CS.toArray) := Lib.hid (by
      unfold spl
      rw [List.take_zero, List.nil_append, List.drop_of_length_le (by rw [hlen]; simp [hZs]), List.append_nil])
    have HFI : Hid (0 + CS.length ≤ Z0.size ∧ ∀ v ∈ CS, v.oneCell' = true) := Lib.hid ⟨by rw [hlen, hZs]; omega, by
      rw [hCS]
      intro u hu
      obtain ⟨l, hl, hu⟩ := List.mem_flatten.1 hu
      obtain ⟨r, _, rfl⟩ := List.mem_map.1 hl
      exact ones_mem (Rv.row_ones r) u hu⟩
    have HRA : Hid (RcsAt CS.toArray m.rs 0) := Lib.hid (by rw [hCS]; exact rcs_start m.rs)
    clear hCS hlen hZs
    go_upto_region 21 with fail
    go_wp2_with (with_reducible refine wpList_copyS rfl _ _ _ _ rfl 57 18 Try.underlying31 (by kernel_rfl) (some ⟨go, 0, none⟩) m.RA N N N m.rc rfl rfl go 0 _ _ k3 CS CP.out.1 CP.out.2 HFI.out.1 HFI.out.2 ?_)
    rw [HSP.out]
    have P4 := Lib.hid (P3.out.fresh GF.out hgo2.out.2.1 hgo2.out.2.2 CS.toArray)
    have k4 : bk (w3.setRow go CS.toArray) go = some (.cells CS.toArray 57 (0, 0)) := by rw [bk_setRow_same, k3]; rfl
    have K4 := Lib.hid k4
    clear k3 P3 CP HSP HFI c3 lm3 k4
    generalize w3.setRow go CS.toArray = w4 at *
    generalize CS.toArray = C0 at *
    obtain ⟨L3, hL3⟩ : ∃ L', L' = L ++ List.replicate 2 0 ++ nb 2 N := ⟨_, rfl⟩
    rw [← hL3] at P4
    have HL3 := Lib.hid hL3
    have HLL : Hid (L3.length < 2 ^ 21) := Lib.hid (by rw [hL3, List.length_append, List.length_append, nb_length, List.length_replicate]; have := HL.out; omega)
    have P5 : Hid (PSG w4 w4 n gp go v2 v2 (L3 ++ recsB ((m.rs.take 0).map Rv.pl)) C0 57) := Lib.hid ⟨by rw [List.take_zero]; show PU w4 n gp v2 (L3 ++ []); rw [List.append_nil]; exact P4.out.pu, fun _ e => .inl e, Tn.refl _ _, Below.refl _ _, K4.out, GF.out, bk_lt K4.out, hgo2.out.2.2⟩
    clear hL3
    go_loopw [98] (fun i wr => ∃ (k : Nat) (v' : Value) (cur : Array Value), k ≤ N ∧ i = .int .i64 (k : Int) ∧ Hid (PSG w4 wr n gp go v2 v' (L3 ++ recsB ((m.rs.take k).map Rv.pl)) cur 57) ∧ Hid (RcsAt cur m.rs k)) (fun i _ => N - (intOf i).toNat)
    case atStart => exact ⟨0, v2, C0, by omega, rfl, P5, HRA⟩
    case round =>
      clear P5 HRA K4
      obtain ⟨k, v', cur, hk, rfl, PR, RA⟩ := hrel
      by_cases hlt : k < N
      · have d1 : decide ((k : Int) < (N : Int)) = true := by simp; omega
        have hks : k < m.rs.length := by rw [← HN.out]; exact hlt
        have hr := OK.out.rss _ (List.getElem_mem hks)
        have C := Lib.hid (record_put n gp go (k * 18) m.rs[k] v' _ cur 57 wr PR.out.pu PR.out.off PR.out.kb (RA.out k hks (Nat.le_refl _)) (hr.1.below (P4.out.bl.trans PR.out.bl) (Nat.le_refl _)) hr.2.1 (HL.out.2.2.1 _ (List.getElem_mem hks)) (by rw [List.length_append]; have h1 := HLL.out; have h2 := recsB_le m.rs k; have h3 := HL.out.2.2.2; omega))
        have HX : Hid (recsB ((m.rs.take (k + 1)).map Rv.pl) = recsB ((m.rs.take k).map Rv.pl) ++ recB m.rs[k].pl) := Lib.hid (take_recs hks)
        have HNX : Hid (∀ x, RcsAt (cur.setIfInBounds (k * 18 + 17) x) m.rs (k + 1)) := Lib.hid fun x => RA.out.next x
        have HRB := Lib.hid (fun L0 => recB_eq m.rs[k] L0)
        rw [HRB.out] at C
        obtain ⟨X, hX⟩ : ∃ X, X = recB m.rs[k].pl := ⟨_, rfl⟩
        rw [← hX] at C HX
        clear hX hr hks HRB RA
        go_wp2_with fail
        refine C.out.mono ?_
        rintro e w6 ⟨rfl, p6⟩
        obtain ⟨v6, x6, h6⟩ := PR.out.put p6
        have P6 : Hid (PSG w4 w6 n gp go v2 v6 (L3 ++ recsB ((m.rs.take (k + 1)).map Rv.pl)) (cur.setIfInBounds (k * 18 + 17) x6) 57) := Lib.hid (by rw [HX.out, ← List.append_assoc]; exact h6)
        have R6 := Lib.hid (HNX.out x6)
        clear p6 h6 C PR HX HNX
        go_wp2_with fail
        go_roundw
        case rel => exact ⟨k + 1, v6, _, by omega, by go_num, P6, R6⟩
        case measure => simp [intOf]; omega
      · obtain rfl : k = N := by omega
        have d1 : decide ((k : Int) < (k : Int)) = false := by simp
        have kb := bk_keep (P4.out.bl.trans PR.out.bl) hgm hm
        have q1 := bk_lt kb
        have q2 := bk_frozen kb 62
        have q3 := (bk_cell kb 62).trans (mC_62 m)
        have FX : Hid (∀ x, Put3 w n gp gm v (L3 ++ recsB ((m.rs.take k).map Rv.pl)) (wr.setCell ⟨gm, 62, none⟩ x)) := Lib.hid fun x => PSG.done P4.out hgm hm PR.out hgo2.out.2.1 x 62
        have HE : Hid (L3 ++ recsB ((m.rs.take k).map Rv.pl) = L ++ partB m.pl) := Lib.hid (by
          rw [HL3.out, HN.out, List.take_length]
          unfold partB
          rw [HQ.out]
          simp [List.replicate, Mv.pl])
        clear kb PR RA P4
        go_wp2_with fail
        go_ret
        exact ⟨rfl, by rw [← HE.out]; exact FX.out _⟩
end Go.Proofs.Ytjimmfbjhkoekaa
/- Icmps: may a message's lists be? -/
namespace Go.Proofs.Ytjimmfbjhkoekaa
open Go.RowKit
set_option maxRecDepth 100000
set_option maxHeartbeats 1000000
@[go_sem ↓] theorem ldRc (dst : Option Tmp) (x : Operand) (t : TypeId) (pos : String) (af : Array Edge) (g : Option (Nat × Bool)) (a : Act) (w : World) (K : Act → World → Prop) (Q : Exit → Act → World → Prop) :
    Oper.wp Try.prog ⟨dst, .load 57 x, t, pos, af, g⟩ a w K Q = ldPtr (wpHid Try.prog ⟨dst, .load 57 x, t, pos, af, g⟩ a w K Q) 18 w (fun c => K (a.put dst (.agg c)) w) (a.eval x) :=
  wp_load_bk 57 18 _ Try.underlying57 rfl (by kernel_rfl) dst x t pos af g a w K Q
@[go_sem ↓] theorem stRc (dst : Option Tmp) (x y : Operand) (t : TypeId) (pos : String) (af : Array Edge) (g : Option (Nat × Bool)) (a : Act) (w : World) (K : Act → World → Prop) (Q : Exit → Act → World → Prop) :
    Oper.wp Try.prog ⟨dst, .store 57 x y, t, pos, af, g⟩ a w K Q = stPtr (wpHid Try.prog ⟨dst, .store 57 x y, t, pos, af, g⟩ a w K Q) 18 w (fun w' => K (a.put dst undef) w') (a.eval x) (a.eval y) :=
  wp_store_bk 57 18 (by kernel_rfl) dst x y t pos af g a w K Q
@[go_sem ↓] theorem qlRc (dst : Option Tmp) (x : Operand) (t : TypeId) (pos : String) (af : Array Edge) (g : Option (Nat × Bool)) (a : Act) (m : Nat) (W : World) (K : Act → Prop) :
    Oper.quiet Try.prog ⟨dst, .load 57 x, t, pos, af, g⟩ a (fun w' => ∃ x : Later m W, w' = x.w) K =
      ldLater (quietHid Try.prog ⟨dst, .load 57 x, t, pos, af, g⟩ a (fun w' => ∃ x : Later m W, w' = x.w) K) m 18 W (fun c => K (a.put dst (.agg c))) (a.eval x) :=
  quiet_load_bk 57 18 _ Try.underlying57 rfl (by kernel_rfl) dst x t pos af g a m W K
def longR (r : Rv) : Bool := decide (64 < r.s.length)
def mayB (m : Msg) : Bool :=
  if m.kind = 130 then decide (m.srcs.length ≤ 64)
  else if m.kind = 143 then decide (m.recs.length ≤ 64) && m.recs.all fun r => decide (r.s.length ≤ 64)
  else if m.kind = 133 ∨ m.kind = 134 ∨ m.kind = 135 ∨ m.kind = 136 ∨ m.kind = 137 then decide (m.opts.length ≤ 64)
  else true
theorem e59 (v : Array Value) (w : World) : (callFunc 59 v).run Try.prog w = .ok (.enter 59 v) w := by kernel_rfl
theorem long_any (x : Rv) (w : World) (hl : x.s.length < 2 ^ 63) : Calls Try.prog 59 #[.agg x.row] w fun e w' => e = .returned (.bool (longR x)) ∧ Below w.heap.size w w' := by
  have hc : x.row[17]? = some (.slice x.A x.s.length x.c) := by
    have := x.hg
    simp [Rv.row, this]
  have k0 : bk (w.alloc (.cells x.row 57)) w.heap.size = some (.cells x.row 57 (0, 0)) := bk_alloc_at _ _ _ rfl
  have b0 : Below w.heap.size w (w.alloc (.cells x.row 57)) := (by (repeat (first | exact Below.refl _ _ | assumption | refine Below.drew ?_ | refine bdrewN ?_ _ | refine Below.alloc ?_ (by first | omega | (simp <;> omega) | (simp only [World.size_alloc] <;> omega)) _ | refine below_setRow ?_ (by first | omega | (simp <;> omega)) _ | refine Below.setCell ?_ (by first | omega | (simp <;> omega)) _)))
  have c17 := (bk_cell k0 17).trans hc
  have l0 := bk_lt k0
  obtain ⟨N, hN⟩ : ∃ N, N = x.s.length := ⟨_, rfl⟩
  have HR : Hid (longR x = decide (64 < N)) := Lib.hid (by rw [hN]; rfl)
  rw [← hN] at hl c17
  have B0 := Lib.hid b0
  clear k0 hN b0 hc
  rw [HR.out]
  go_enter Try.func59, Try.ntmps59
  go_upto_region 1 with fail
  generalize w.alloc (.cells x.row 57) = w1 at *
  go_wp2_with fail
  go_ret
  exact ⟨by simp <;> omega, B0.out⟩
theorem index_any (A : Option Addr) (l : List Rv) (c : Nat) (w : World) (h : Rws 18 Rv.row w w.heap.size A l) (hl : l.length < 2 ^ 63) (hs : ∀ r ∈ l, r.s.length < 2 ^ 63) :
    Calls Try.prog 74 #[.slice A l.length c, .func (.func 59) #[] #[]] w fun e w' => ∃ z : Int, e = .returned (.int .i64 z) ∧ decide (0 ≤ z) = l.any longR ∧ Below w.heap.size w w' := by
  have HA := Lib.hid h; have HS := Lib.hid hs
  have hE := e59
  obtain ⟨N, hN⟩ : ∃ N, N = l.length := ⟨_, rfl⟩
  have HN := Lib.hid hN
  rw [← hN] at hl ⊢
  clear h hs hN
  go_enter Try.func74, Try.ntmps74
  go_wp2_with fail
  go_loopw [8] (fun i wr => ∃ k : Nat, k ≤ N ∧ i = .int .i64 (k : Int) ∧ Hid ((l.take k).any longR = false) ∧ Hid (Below w.heap.size w wr)) (fun i _ => N - (intOf i).toNat)
  case atStart => exact ⟨0, by omega, rfl, Lib.hid rfl, Lib.hid (Below.refl _ _)⟩
  case round =>
    obtain ⟨k, hk, rfl, HT, HB⟩ := hrel
    by_cases hlt : k < N
    · have d1 : decide ((k : Int) < (N : Int)) = true := by simp; omega
      have hkl : k < l.length := by rw [← HN.out]; exact hlt
      obtain ⟨g, o, cc, t, fr, rfl, hgn, hka, hsz, hxt, hcc⟩ := ((HA.out.below HB.out (Nat.le_refl _)).at hkl Rv.row_size)
      obtain ⟨x, hx⟩ : ∃ x, x = l[k] := ⟨_, rfl⟩
      rw [← hx] at hxt
      have hgl := bk_lt hka
      have C := Lib.hid (long_any x wr (by rw [hx]; exact HS.out _ (List.getElem_mem hkl)))
      have HTN : Hid ((l.take (k + 1)).any longR = longR x ∧ (longR x = true → l.any longR = true)) := Lib.hid ⟨by rw [List.take_succ_eq_append_getElem hkl, List.any_append, HT.out, hx]; simp, fun e => List.any_eq_true.2 ⟨x, by rw [hx]; exact List.getElem_mem hkl, e⟩⟩
      clear hcc hx
      go_wp2_with fail
      refine C.out.mono ?_
      rintro e w2 ⟨rfl, b2⟩
      have B2 := Lib.hid (HB.out.trans (b2.mono HB.out.size))
      clear C b2 hka hsz hxt hgl HB
      cases hq : longR x with
      | true =>
        have HQ : Hid (l.any longR = true) := Lib.hid (HTN.out.2 hq)
        clear HTN hq HT
        go_wp2_with fail
        go_ret
        exact ⟨_, rfl, by rw [HQ.out]; simp, B2.out⟩
      | false =>
        have HQ : Hid ((l.take (k + 1)).any longR = false) := Lib.hid (by rw [HTN.out.1, hq])
        clear HTN hq HT
        go_wp2_with fail
        go_roundw
        case rel => exact ⟨k + 1, by omega, by go_num, HQ, B2⟩
        case measure => simp [intOf]; omega
    · obtain rfl : k = N := by omega
      have d1 : decide ((k : Int) < (k : Int)) = false := by simp
      have HQ : Hid (l.any longR = false) := Lib.hid (by have := HT.out; rwa [HN.out, List.take_length] at this)
      clear HT hE
      go_wp2_with fail
      go_ret
      exact ⟨-1, rfl, by rw [HQ.out]; simp, HB.out⟩
theorem contains_any (A : Option Addr) (l : List Rv) (c : Nat) (w : World) (h : Rws 18 Rv.row w w.heap.size A l) (hl : l.length < 2 ^ 63) (hs : ∀ r ∈ l, r.s.length < 2 ^ 63) :
    Calls Try.prog 60 #[.slice A l.length c, .func (.func 59) #[] #[]] w fun e w' => e = .returned (.bool (l.any longR)) ∧ Below w.heap.size w w' := by
  have C := Lib.hid (index_any A l c w h hl hs)
  obtain ⟨b, hb⟩ : ∃ b, b = l.any longR := ⟨_, rfl⟩
  rw [← hb] at C ⊢
  clear h hs hb
  go_enter Try.func60, Try.ntmps60
  go_wp2_with fail
  refine C.out.mono ?_
  rintro e w1 ⟨z, rfl, hz, b1⟩
  have B1 := Lib.hid b1
  have HZ := Lib.hid hz
  clear C b1 hz
  go_wp2_with fail
  go_ret
  exact ⟨by rw [← HZ.out]; rfl, B1.out⟩
end Go.Proofs.Ytjimmfbjhkoekaa
/- Icmps: may it be put; a kind that is none. -/
namespace Go.Proofs.Ytjimmfbjhkoekaa
open Go.RowKit
set_option maxRecDepth 100000
set_option maxHeartbeats 1000000

theorem u8ne {k : UInt8} {c : Nat} (hc : c < 256) (h : k ≠ UInt8.ofNat c) : ((k.toNat : Int) == (c : Int)) = false := beq_eq_false_iff_ne.2 fun e => h (by
  apply UInt8.toNat_inj.1
  rw [UInt8.toNat_ofNat']
  omega)
theorem dec64 (n : Nat) : decide (n ≤ 64) = decide ((n : Int) ≤ 64) := decide_eq_decide.2 (by omega)
theorem all_long : ∀ rs : List Rv, ((rs.map Rv.pl).all fun r => decide (r.s.length ≤ 64)) = !(rs.any longR)
  | [] => rfl
  | r :: rs => by
    simp only [List.map_cons, List.all_cons, List.any_cons, Bool.not_or, all_long rs]
    congr 1
    show decide (r.s.length ≤ 64) = !decide (64 < r.s.length)
    by_cases h : r.s.length ≤ 64
    · rw [decide_eq_true h, decide_eq_false (by omega)]; rfl
    · rw [decide_eq_false h, decide_eq_true (by omega)]; rfl
theorem may_any (m : Mv) (w : World) (hok : MvOk w w.heap.size m) : Calls Try.prog 30 #[.agg (mC m)] w fun e w' => e = .returned (.bool (mayB m.pl)) ∧ Below w.heap.size w w' := by
  have k0 : bk (w.alloc (.cells (mC m) 33)) w.heap.size = some (.cells (mC m) 33 (0, 0)) := bk_alloc_at _ _ _ rfl
  have b0 : Below w.heap.size w (w.alloc (.cells (mC m) 33)) := (by (repeat (first | exact Below.refl _ _ | assumption | refine Below.drew ?_ | refine bdrewN ?_ _ | refine Below.alloc ?_ (by first | omega | (simp <;> omega) | (simp only [World.size_alloc] <;> omega)) _ | refine below_setRow ?_ (by first | omega | (simp <;> omega)) _ | refine Below.setCell ?_ (by first | omega | (simp <;> omega)) _)))
  have OK := Lib.hid (hok.below b0 (Nat.le_refl _))
  have B1 := Lib.hid b0
  have h63 : m.ss.length < 2 ^ 63 ∧ m.rs.length < 2 ^ 63 ∧ m.os.length < 2 ^ 63 := by have h1 := hok.sl; have h2 := hok.sc; have h3 := hok.rl; have h4 := hok.rc; have h5 := hok.ol; have h6 := hok.oc; omega
  clear hok b0
  go_enter Try.func30, Try.ntmps30
  go_upto_region 2 with fail
  obtain ⟨b1, hb1⟩ : ∃ b, b = w.heap.size := ⟨_, rfl⟩
  have HB1 := Lib.hid hb1
  rw [← hb1] at k0 ⊢
  generalize w.alloc (.cells (mC m) 33) = w1 at *
  have KM := Lib.hid k0
  have l1 := bk_lt k0
  clear k0 hb1
  by_cases hk : m.kind = 130
  · skip
    have c0 : w1.cell? ⟨b1, 0, none⟩ = some (.int .u8 130) := by rw [bk_cell KM.out, mC_0, hk]; rfl
    have c1 := (bk_cell KM.out 61).trans (mC_61 m)
    obtain ⟨N, hN⟩ : ∃ N, N = m.ss.length := ⟨_, rfl⟩
    rw [← hN] at c1
    have HF : Hid (mayB m.pl = decide ((N : Int) ≤ 64)) := Lib.hid (by
      have : m.pl.kind = 130 := hk
      unfold mayB
      rw [this, hN]
      simp only [Mv.pl, List.length_map, if_true]
      exact dec64 _)
    clear hk hN
    go_wp2_with fail
    go_ret
    exact ⟨by rw [HF.out]; rfl, B1.out⟩
  by_cases hk2 : m.kind = 133
  · have hk := hk2
    have c0 : w1.cell? ⟨b1, 0, none⟩ = some (.int .u8 133) := by rw [bk_cell KM.out, mC_0, hk]; rfl
    have c1 := (bk_cell KM.out 41).trans (mC_41 m)
    obtain ⟨N, hN⟩ : ∃ N, N = m.os.length := ⟨_, rfl⟩
    rw [← hN] at c1
    have HF : Hid (mayB m.pl = decide ((N : Int) ≤ 64)) := Lib.hid (by
      have : m.pl.kind = 133 := hk
      unfold mayB
      rw [this, hN]
      simp only [Mv.pl, List.length_map, show ((133 : UInt8) = 130) = False by decide, show ((133 : UInt8) = 143) = False by decide, if_false, true_or, if_true]
      exact dec64 _)
    clear hk hN
    go_wp2_with fail
    go_ret
    exact ⟨by rw [HF.out]; rfl, B1.out⟩
  by_cases hk3 : m.kind = 134
  · have hk := hk3
    have c0 : w1.cell? ⟨b1, 0, none⟩ = some (.int .u8 134) := by rw [bk_cell KM.out, mC_0, hk]; rfl
    have c1 := (bk_cell KM.out 41).trans (mC_41 m)
    obtain ⟨N, hN⟩ : ∃ N, N = m.os.length := ⟨_, rfl⟩
    rw [← hN] at c1
    have HF : Hid (mayB m.pl = decide ((N : Int) ≤ 64)) := Lib.hid (by
      have : m.pl.kind = 134 := hk
      unfold mayB
      rw [this, hN]
      simp only [Mv.pl, List.length_map, show ((134 : UInt8) = 130) = False by decide, show ((134 : UInt8) = 143) = False by decide, if_false, true_or, or_true, if_true]
      exact dec64 _)
    clear hk hN
    go_wp2_with fail
    go_ret
    exact ⟨by rw [HF.out]; rfl, B1.out⟩
  by_cases hk4 : m.kind = 135
  · have hk := hk4
    have c0 : w1.cell? ⟨b1, 0, none⟩ = some (.int .u8 135) := by rw [bk_cell KM.out, mC_0, hk]; rfl
    have c1 := (bk_cell KM.out 41).trans (mC_41 m)
    obtain ⟨N, hN⟩ : ∃ N, N = m.os.length := ⟨_, rfl⟩
    rw [← hN] at c1
    have HF : Hid (mayB m.pl = decide ((N : Int) ≤ 64)) := Lib.hid (by
      have : m.pl.kind = 135 := hk
      unfold mayB
      rw [this, hN]
      simp only [Mv.pl, List.length_map, show ((135 : UInt8) = 130) = False by decide, show ((135 : UInt8) = 143) = False by decide, if_false, true_or, or_true, if_true]
      exact dec64 _)
    clear hk hN
    go_wp2_with fail
    go_ret
    exact ⟨by rw [HF.out]; rfl, B1.out⟩
  by_cases hk5 : m.kind = 136
  · have hk := hk5
    have c0 : w1.cell? ⟨b1, 0, none⟩ = some (.int .u8 136) := by rw [bk_cell KM.out, mC_0, hk]; rfl
    have c1 := (bk_cell KM.out 41).trans (mC_41 m)
    obtain ⟨N, hN⟩ : ∃ N, N = m.os.length := ⟨_, rfl⟩
    rw [← hN] at c1
    have HF : Hid (mayB m.pl = decide ((N : Int) ≤ 64)) := Lib.hid (by
      have : m.pl.kind = 136 := hk
      unfold mayB
      rw [this, hN]
      simp only [Mv.pl, List.length_map, show ((136 : UInt8) = 130) = False by decide, show ((136 : UInt8) = 143) = False by decide, if_false, true_or, or_true, if_true]
      exact dec64 _)
    clear hk hN
    go_wp2_with fail
    go_ret
    exact ⟨by rw [HF.out]; rfl, B1.out⟩
  by_cases hk6 : m.kind = 137
  · have hk := hk6
    have c0 : w1.cell? ⟨b1, 0, none⟩ = some (.int .u8 137) := by rw [bk_cell KM.out, mC_0, hk]; rfl
    have c1 := (bk_cell KM.out 41).trans (mC_41 m)
    obtain ⟨N, hN⟩ : ∃ N, N = m.os.length := ⟨_, rfl⟩
    rw [← hN] at c1
    have HF : Hid (mayB m.pl = decide ((N : Int) ≤ 64)) := Lib.hid (by
      have : m.pl.kind = 137 := hk
      unfold mayB
      rw [this, hN]
      simp only [Mv.pl, List.length_map, show ((137 : UInt8) = 130) = False by decide, show ((137 : UInt8) = 143) = False by decide, if_false, or_true, if_true]
      exact dec64 _)
    clear hk hN
    go_wp2_with fail
    go_ret
    exact ⟨by rw [HF.out]; rfl, B1.out⟩
  by_cases hk7 : m.kind = 143
  · have c0 : w1.cell? ⟨b1, 0, none⟩ = some (.int .u8 143) := by rw [bk_cell KM.out, mC_0, hk7]; rfl
    have c1 := (bk_cell KM.out 62).trans (mC_62 m)
    have HM : Hid (mayB m.pl = (decide (m.rs.length ≤ 64) && !m.rs.any longR)) := Lib.hid (by
      have : m.pl.kind = 143 := hk7
      unfold mayB
      rw [this]
      rw [if_neg (by decide), if_pos rfl]
      show (decide ((m.rs.map Rv.pl).length ≤ 64) && (m.rs.map Rv.pl).all fun r => decide (r.s.length ≤ 64)) = _
      rw [all_long, List.length_map])
    have C := Lib.hid (contains_any m.RA m.rs m.rc w1 (OK.out.rs.mono B1.out.size) h63.2.1 (fun r hr => by have h1 := (OK.out.rss r hr).2.2; omega))
    obtain ⟨N, hN⟩ : ∃ N, N = m.rs.length := ⟨_, rfl⟩
    rw [← hN] at c1 HM C
    clear hN hk hk2 hk3 hk4 hk5 hk6 hk7
    by_cases h64 : N ≤ 64
    · have d1 : decide ((N : Int) ≤ 64) = true := by simp; omega
      go_wp2_with fail
      refine C.out.mono ?_
      rintro e w2 ⟨rfl, b2⟩
      have B2 := Lib.hid (B1.out.trans (b2.mono B1.out.size))
      obtain ⟨q, hq⟩ : ∃ q, q = m.rs.any longR := ⟨_, rfl⟩
      rw [← hq]
      have HQ : Hid (mayB m.pl = !q) := Lib.hid (by rw [HM.out, hq]; simp [h64])
      clear C b2 hq HM
      cases q
      all_goals
        go_wp2_with fail
        go_ret
        exact ⟨by rw [HQ.out]; rfl, B2.out⟩
    · have d1 : decide ((N : Int) ≤ 64) = false := by simp; omega
      have HQ : Hid (mayB m.pl = false) := Lib.hid (by rw [HM.out]; simp [h64])
      clear C HM
      go_wp2_with fail
      go_ret
      exact ⟨by rw [HQ.out]; rfl, B1.out⟩
  · have c0 : w1.cell? ⟨b1, 0, none⟩ = some (.int .u8 (m.kind.toNat : Int)) := (bk_cell KM.out 0).trans (mC_0 m)
    have n1 : ((m.kind.toNat : Int) == 130) = false := u8ne (c := 130) (by decide) hk; have n2 : ((m.kind.toNat : Int) == 133) = false := u8ne (c := 133) (by decide) hk2; have n3 : ((m.kind.toNat : Int) == 134) = false := u8ne (c := 134) (by decide) hk3; have n4 : ((m.kind.toNat : Int) == 135) = false := u8ne (c := 135) (by decide) hk4; have n5 : ((m.kind.toNat : Int) == 136) = false := u8ne (c := 136) (by decide) hk5; have n6 : ((m.kind.toNat : Int) == 137) = false := u8ne (c := 137) (by decide) hk6; have n7 : ((m.kind.toNat : Int) == 143) = false := u8ne (c := 143) (by decide) hk7
    have HQ : Hid (mayB m.pl = true) := Lib.hid (by
      unfold mayB
      have e : m.pl.kind = m.kind := rfl
      rw [e, if_neg hk, if_neg hk7, if_neg (by simp [hk2, hk3, hk4, hk5, hk6])])
    clear hk hk2 hk3 hk4 hk5 hk6 hk7
    go_wp2_with fail
    go_ret
    exact ⟨by rw [HQ.out]; rfl, B1.out⟩
theorem parts_none (gm : Nat) (s : Value) (m : Mv) (w : World) (hm : bk w gm = some (.cells (mC m) 33 (0, 0))) (hk : isK m.kind = false) :
    Calls Try.prog 31 #[s, .pointer (some ⟨gm, 0, none⟩)] w fun e w' => e = .returned (.bool false) ∧ w = w' := by
  simp only [isK, Bool.or_eq_false_iff, beq_eq_false_iff_ne, ne_eq] at hk
  obtain ⟨⟨⟨⟨⟨⟨⟨⟨⟨⟨⟨⟨k1, k2⟩, k3⟩, k4⟩, k5⟩, k6⟩, k7⟩, k8⟩, k9⟩, k10⟩, k11⟩, k12⟩, k13⟩ := hk
  have n1 : ((m.kind.toNat : Int) == 1) = false := u8ne (c := 1) (by decide) k1; have n2 : ((m.kind.toNat : Int) == 2) = false := u8ne (c := 2) (by decide) k2; have n3 : ((m.kind.toNat : Int) == 3) = false := u8ne (c := 3) (by decide) k3; have n4 : ((m.kind.toNat : Int) == 4) = false := u8ne (c := 4) (by decide) k4; have n5 : ((m.kind.toNat : Int) == 128) = false := u8ne (c := 128) (by decide) k5; have n6 : ((m.kind.toNat : Int) == 129) = false := u8ne (c := 129) (by decide) k6; have n7 : ((m.kind.toNat : Int) == 130) = false := u8ne (c := 130) (by decide) k7; have n8 : ((m.kind.toNat : Int) == 143) = false := u8ne (c := 143) (by decide) k8; have n9 : ((m.kind.toNat : Int) == 134) = false := u8ne (c := 134) (by decide) k9; have n10 : ((m.kind.toNat : Int) == 133) = false := u8ne (c := 133) (by decide) k10; have n11 : ((m.kind.toNat : Int) == 135) = false := u8ne (c := 135) (by decide) k11; have n12 : ((m.kind.toNat : Int) == 136) = false := u8ne (c := 136) (by decide) k12; have n13 : ((m.kind.toNat : Int) == 137) = false := u8ne (c := 137) (by decide) k13
  have c0 : w.cell? ⟨gm, 0, none⟩ = some (.int .u8 (m.kind.toNat : Int)) := (bk_cell hm 0).trans (mC_0 m)
  have lm := bk_lt hm
  clear k1 k2 k3 k4 k5 k6 k7 k8 k9 k10 k11 k12 k13 hm
  go_enter Try.func31, Try.ntmps31
  go_wp2_with fail
  go_ret
  exact ⟨rfl, rfl⟩
end Go.Proofs.Ytjimmfbjhkoekaa
