import Derived.Test.YtjimmfbjhkoekaaMgH
/- Icmps: neighbors, put. -/
namespace Go.Proofs.Ytjimmfbjhkoekaa
open Go.RowKit
set_option maxRecDepth 100000
set_option maxHeartbeats 1000000
/-- What a message in memory has, below n. -/
structure MvOk (w : World) (n : Nat) (m : Mv) : Prop where
  d : Rd w n m.DA m.dd
  dn : m.DA = none → m.dd = [] ∧ m.dc = 0
  dl : m.dd.length ≤ m.dc
  dc : m.dc < 2 ^ 63
  os : Ovs w n m.OA m.os
  ol : m.os.length ≤ m.oc
  oc : m.oc < 2 ^ 63
  ss : Rws 16 (fun z : List UInt8 => (z.map B).toArray) w n m.SA m.ss
  s16 : ∀ z ∈ m.ss, z.length = 16
  sl : m.ss.length ≤ m.sc
  sc : m.sc < 2 ^ 63
  rs : Rws 18 Rv.row w n m.RA m.rs
  rss : ∀ r ∈ m.rs, Rws 16 (fun z : List UInt8 => (z.map B).toArray) w n r.A r.s ∧ (∀ z ∈ r.s, z.length = 16) ∧ r.s.length ≤ r.c ∧ r.c < 2 ^ 63
  rl : m.rs.length ≤ m.rc
  rc : m.rc < 2 ^ 63
  b1 : m.param < 4294967296
  b2 : m.life < 65536
  b3 : m.reach < 4294967296
  b4 : m.retr < 4294967296
  b5 : m.mx < 65536
theorem MvOk.below {w w' : World} {n k : Nat} {m : Mv} (h : MvOk w n m) (hb : Below k w w') (hk : n ≤ k) : MvOk w' n m :=
  ⟨h.d.below hb hk, h.dn, h.dl, h.dc, h.os.below hb hk, h.ol, h.oc, h.ss.below hb hk, h.s16, h.sl, h.sc, h.rs.below hb hk, fun r hr => ⟨(h.rss r hr).1.below hb hk, (h.rss r hr).2⟩, h.rl, h.rc, h.b1, h.b2, h.b3, h.b4, h.b5⟩
theorem MvOk.mono {w : World} {n k : Nat} {m : Mv} (h : MvOk w n m) (hk : n ≤ k) : MvOk w k m :=
  ⟨h.d.mono hk, h.dn, h.dl, h.dc, h.os.mono hk, h.ol, h.oc, h.ss.mono hk, h.s16, h.sl, h.sc, h.rs.mono hk, fun r hr => ⟨(h.rss r hr).1.mono hk, (h.rss r hr).2⟩, h.rl, h.rc, h.b1, h.b2, h.b3, h.b4, h.b5⟩
theorem PS.nle {w0 w : World} {n gp : Nat} {v0 v : Value} {L : List UInt8} (h : PS w0 w n gp v0 v L) : n ≤ w.heap.size := by have := h.pu.lt gp (.inl rfl); omega
theorem nb136_put (n gp gm : Nat) (m : Mv) (v : Value) (L : List UInt8) (w : World) (h : PU w n gp v L) (hgm : gm < n) (hm : bk w gm = some (.cells (mC m) 33 (0, 0))) (hok : MvOk w n m) (hl : L.length < 2 ^ 20 ∧ m.os.length < 2 ^ 30 ∧ (optsB (m.os.map Ov.pl)).length < 2 ^ 30) (hk : m.kind = 136) :
    Calls Try.prog 64 #[sideP gp, .pointer (some ⟨gm, 0, none⟩)] w fun e w' => e = .returned (.tuple #[]) ∧ Put1 w n gp v (L ++ nb 1 m.flags.toNat ++ List.replicate 3 0 ++ m.tgt ++ optsB (m.os.map Ov.pl)) false w' := by
  have c0 : w.cell? ⟨gm, 0, none⟩ = some (.int .u8 136) := by rw [bk_cell hm, mC_0, hk]; rfl
  have lm := bk_lt hm
  have P0 := Lib.hid (PS.start h)
  have OK := Lib.hid hok; have HL := Lib.hid hl
  clear h hok hl
  go_enter Try.func64, Try.ntmps64
  go_upto_region 1 with fail
  have PD := Lib.hid ((P0).out.below (w' := (w).drew) (by (repeat (first | exact Below.refl _ _ | assumption | refine Below.drew ?_ | refine bdrewN ?_ _ | refine Below.alloc ?_ (by first | omega | (simp <;> omega) | (simp only [World.size_alloc] <;> omega)) _ | refine below_setRow ?_ (by first | omega | (simp <;> omega)) _ | refine Below.setCell ?_ (by first | omega | (simp <;> omega)) _))))
  have C := Lib.hid (pone_put n gp gm 5 m.flags _ _ _ PD.out.pu ((bk_cell (PD.out.box hgm hm) 5).trans (mC_5 m)) (bk_lt (PD.out.box hgm hm)) (by have := HL.out; omega))
  go_region_held3 (fun w' => True) (first | assumption | go_keep) ((go_at_call 98; with_reducible refine C.out.mono ?_; rintro e w1 ⟨rfl, p1⟩; obtain ⟨v1, h1, f1⟩ := PD.out.put p1; have P1 := Lib.hid h1; have F1 := Lib.hid f1; clear p1 h1 f1 C PD))
  have C := Lib.hid (pnought_put n gp 3 _ _ _ P1.out.pu (F1.out (by first | rfl | trivial)) (by omega) (by omega) (by simp only [List.length_append, nb_length]; have := HL.out; omega))
  go_wp2_with fail
  refine C.out.mono ?_
  rintro e w2 ⟨rfl, p1⟩
  obtain ⟨v2, h1, f1⟩ := (P1).out.put p1
  have P2 := Lib.hid h1
  have F2 := Lib.hid f1
  clear p1 h1 f1 C
  clear P1 F1 F2
  have c0' : w2.cell? ⟨gm, 0, none⟩ = some (.int .u8 136) := by rw [bk_cell (P2.out.box hgm hm), mC_0, hk]; rfl
  have lm2 := bk_lt (P2.out.box hgm hm)
  go_upto_region 5 with fail
  have PD := Lib.hid ((P2).out.below (w' := (w2).drew) (by (repeat (first | exact Below.refl _ _ | assumption | refine Below.drew ?_ | refine bdrewN ?_ _ | refine Below.alloc ?_ (by first | omega | (simp <;> omega) | (simp only [World.size_alloc] <;> omega)) _ | refine below_setRow ?_ (by first | omega | (simp <;> omega)) _ | refine Below.setCell ?_ (by first | omega | (simp <;> omega)) _))))
  have C := Lib.hid (paddr_put n gp gm 9 m.tgt _ _ _ PD.out.pu m.ht (Rd.tgt (PD.out.box hgm hm) (bk_lt (PD.out.box hgm hm))) (by (have dd := dumL; simp only [List.length_append, List.length_replicate, nb_length] at dd ⊢); have := HL.out; omega))
  go_region_held3 (fun w' => True) (first | assumption | go_keep) ((go_at_call 94; with_reducible refine C.out.mono ?_; rintro e w3 ⟨rfl, p1⟩; obtain ⟨v3, h1, f1⟩ := PD.out.put p1; have P3 := Lib.hid h1; have F3 := Lib.hid f1; clear p1 h1 f1 C PD))
  clear P2 F3 c0 c0' lm lm2
  have c0' : w3.cell? ⟨gm, 0, none⟩ = some (.int .u8 136) := by rw [bk_cell (P3.out.box hgm hm), mC_0, hk]; rfl
  have lm2 := bk_lt (P3.out.box hgm hm)
  go_upto_region 8 with fail
  have PD := Lib.hid ((P3).out.below (w' := (w3).drew) (by (repeat (first | exact Below.refl _ _ | assumption | refine Below.drew ?_ | refine bdrewN ?_ _ | refine Below.alloc ?_ (by first | omega | (simp <;> omega) | (simp only [World.size_alloc] <;> omega)) _ | refine below_setRow ?_ (by first | omega | (simp <;> omega)) _ | refine Below.setCell ?_ (by first | omega | (simp <;> omega)) _))))
  have C := Lib.hid (poptions_put n gp gm 41 m.OA m.os m.oc _ _ _ PD.out.pu (bk_lt (PD.out.box hgm hm)) ((bk_cell (PD.out.box hgm hm) 41).trans (mC_41 m)) ((OK.out.os.below PD.out.bl (Nat.le_refl _)).mono (PD.out.nle)) HL.out.2.1 (by (have dd := dumL; simp only [List.length_append, List.length_replicate, nb_length] at dd ⊢); have h1 := HL.out; have h2 := m.ht; have h3 := m.hd; omega))
  go_region_held3 (fun w' => True) (first | assumption | go_keep) ((go_at_call 99; with_reducible refine C.out.mono ?_; rintro e w4 ⟨rfl, p1⟩; obtain ⟨v4, h1, f1⟩ := PD.out.put p1; have P4 := Lib.hid h1; have F4 := Lib.hid f1; clear p1 h1 f1 C PD))
  clear P3
  go_wp2_with fail
  go_end0
  exact ⟨rfl, P4.out.done⟩
end Go.Proofs.Ytjimmfbjhkoekaa
/- Icmps: neighbors, put: the other kinds. -/
namespace Go.Proofs.Ytjimmfbjhkoekaa
open Go.RowKit
set_option maxRecDepth 100000
set_option maxHeartbeats 1000000
theorem nb133_put (n gp gm : Nat) (m : Mv) (v : Value) (L : List UInt8) (w : World) (h : PU w n gp v L) (hf : Full v L) (hgm : gm < n) (hm : bk w gm = some (.cells (mC m) 33 (0, 0))) (hok : MvOk w n m) (hl : L.length < 2 ^ 20 ∧ m.os.length < 2 ^ 30 ∧ (optsB (m.os.map Ov.pl)).length < 2 ^ 30) (hk : m.kind = 133) :
    Calls Try.prog 64 #[sideP gp, .pointer (some ⟨gm, 0, none⟩)] w fun e w' => e = .returned (.tuple #[]) ∧ Put1 w n gp v (L ++ List.replicate 4 0 ++ optsB (m.os.map Ov.pl)) false w' := by
  have c0 : w.cell? ⟨gm, 0, none⟩ = some (.int .u8 133) := by rw [bk_cell hm, mC_0, hk]; rfl
  have lm := bk_lt hm
  have P0 := Lib.hid (PS.start h)
  have OK := Lib.hid hok; have HL := Lib.hid hl; have HF := Lib.hid hf
  clear h hok hl hf
  go_enter Try.func64, Try.ntmps64
  have C := Lib.hid (pnought_put n gp 4 _ _ _ P0.out.pu HF.out (by omega) (by omega) (by have := HL.out; omega))
  go_wp2_with fail
  refine C.out.mono ?_
  rintro e w2 ⟨rfl, p1⟩
  obtain ⟨v2, h1, f1⟩ := (P0).out.put p1
  have P2 := Lib.hid h1
  have F2 := Lib.hid f1
  clear p1 h1 f1 C
  clear P0 HF F2
  clear c0 lm
  have c0' : w2.cell? ⟨gm, 0, none⟩ = some (.int .u8 133) := by rw [bk_cell (P2.out.box hgm hm), mC_0, hk]; rfl
  have lm2 := bk_lt (P2.out.box hgm hm)
  go_upto_region 8 with fail
  have PD := Lib.hid ((P2).out.below (w' := (w2).drew) (by (repeat (first | exact Below.refl _ _ | assumption | refine Below.drew ?_ | refine bdrewN ?_ _ | refine Below.alloc ?_ (by first | omega | (simp <;> omega) | (simp only [World.size_alloc] <;> omega)) _ | refine below_setRow ?_ (by first | omega | (simp <;> omega)) _ | refine Below.setCell ?_ (by first | omega | (simp <;> omega)) _))))
  have C := Lib.hid (poptions_put n gp gm 41 m.OA m.os m.oc _ _ _ PD.out.pu (bk_lt (PD.out.box hgm hm)) ((bk_cell (PD.out.box hgm hm) 41).trans (mC_41 m)) ((OK.out.os.below PD.out.bl (Nat.le_refl _)).mono (PD.out.nle)) HL.out.2.1 (by (have dd := dumL; simp only [List.length_append, List.length_replicate, nb_length] at dd ⊢); have h1 := HL.out; have h2 := m.ht; have h3 := m.hd; omega))
  go_region_held3 (fun w' => True) (first | assumption | go_keep) ((go_at_call 99; with_reducible refine C.out.mono ?_; rintro e w9 ⟨rfl, p1⟩; obtain ⟨v9, h1, f1⟩ := PD.out.put p1; have P9 := Lib.hid h1; have F9 := Lib.hid f1; clear p1 h1 f1 C PD))
  clear P2
  go_wp2_with fail
  go_end0
  exact ⟨rfl, P9.out.done⟩
theorem nb135_put (n gp gm : Nat) (m : Mv) (v : Value) (L : List UInt8) (w : World) (h : PU w n gp v L) (hf : Full v L) (hgm : gm < n) (hm : bk w gm = some (.cells (mC m) 33 (0, 0))) (hok : MvOk w n m) (hl : L.length < 2 ^ 20 ∧ m.os.length < 2 ^ 30 ∧ (optsB (m.os.map Ov.pl)).length < 2 ^ 30) (hk : m.kind = 135) :
    Calls Try.prog 64 #[sideP gp, .pointer (some ⟨gm, 0, none⟩)] w fun e w' => e = .returned (.tuple #[]) ∧ Put1 w n gp v (L ++ List.replicate 4 0 ++ m.tgt ++ optsB (m.os.map Ov.pl)) false w' := by
  have c0 : w.cell? ⟨gm, 0, none⟩ = some (.int .u8 135) := by rw [bk_cell hm, mC_0, hk]; rfl
  have lm := bk_lt hm
  have P0 := Lib.hid (PS.start h)
  have OK := Lib.hid hok; have HL := Lib.hid hl; have HF := Lib.hid hf
  clear h hok hl hf
  go_enter Try.func64, Try.ntmps64
  have C := Lib.hid (pnought_put n gp 4 _ _ _ P0.out.pu HF.out (by omega) (by omega) (by have := HL.out; omega))
  go_wp2_with fail
  refine C.out.mono ?_
  rintro e w2 ⟨rfl, p1⟩
  obtain ⟨v2, h1, f1⟩ := (P0).out.put p1
  have P2 := Lib.hid h1
  have F2 := Lib.hid f1
  clear p1 h1 f1 C
  clear P0 HF F2
  clear c0 lm
  have c0' : w2.cell? ⟨gm, 0, none⟩ = some (.int .u8 135) := by rw [bk_cell (P2.out.box hgm hm), mC_0, hk]; rfl
  have lm2 := bk_lt (P2.out.box hgm hm)
  go_upto_region 5 with fail
  have PD := Lib.hid ((P2).out.below (w' := (w2).drew) (by (repeat (first | exact Below.refl _ _ | assumption | refine Below.drew ?_ | refine bdrewN ?_ _ | refine Below.alloc ?_ (by first | omega | (simp <;> omega) | (simp only [World.size_alloc] <;> omega)) _ | refine below_setRow ?_ (by first | omega | (simp <;> omega)) _ | refine Below.setCell ?_ (by first | omega | (simp <;> omega)) _))))
  have C := Lib.hid (paddr_put n gp gm 9 m.tgt _ _ _ PD.out.pu m.ht (Rd.tgt (PD.out.box hgm hm) (bk_lt (PD.out.box hgm hm))) (by (have dd := dumL; simp only [List.length_append, List.length_replicate, nb_length] at dd ⊢); have := HL.out; omega))
  go_region_held3 (fun w' => True) (first | assumption | go_keep) ((go_at_call 94; with_reducible refine C.out.mono ?_; rintro e w3 ⟨rfl, p1⟩; obtain ⟨v3, h1, f1⟩ := PD.out.put p1; have P3 := Lib.hid h1; have F3 := Lib.hid f1; clear p1 h1 f1 C PD))
  clear P2 F3 c0' lm2
  have c0' : w3.cell? ⟨gm, 0, none⟩ = some (.int .u8 135) := by rw [bk_cell (P3.out.box hgm hm), mC_0, hk]; rfl
  have lm2 := bk_lt (P3.out.box hgm hm)
  go_upto_region 8 with fail
  have PD := Lib.hid ((P3).out.below (w' := (w3).drew) (by (repeat (first | exact Below.refl _ _ | assumption | refine Below.drew ?_ | refine bdrewN ?_ _ | refine Below.alloc ?_ (by first | omega | (simp <;> omega) | (simp only [World.size_alloc] <;> omega)) _ | refine below_setRow ?_ (by first | omega | (simp <;> omega)) _ | refine Below.setCell ?_ (by first | omega | (simp <;> omega)) _))))
  have C := Lib.hid (poptions_put n gp gm 41 m.OA m.os m.oc _ _ _ PD.out.pu (bk_lt (PD.out.box hgm hm)) ((bk_cell (PD.out.box hgm hm) 41).trans (mC_41 m)) ((OK.out.os.below PD.out.bl (Nat.le_refl _)).mono (PD.out.nle)) HL.out.2.1 (by (have dd := dumL; simp only [List.length_append, List.length_replicate, nb_length] at dd ⊢); have h1 := HL.out; have h2 := m.ht; have h3 := m.hd; omega))
  go_region_held3 (fun w' => True) (first | assumption | go_keep) ((go_at_call 99; with_reducible refine C.out.mono ?_; rintro e w9 ⟨rfl, p1⟩; obtain ⟨v9, h1, f1⟩ := PD.out.put p1; have P9 := Lib.hid h1; have F9 := Lib.hid f1; clear p1 h1 f1 C PD))
  clear P3
  go_wp2_with fail
  go_end0
  exact ⟨rfl, P9.out.done⟩
theorem nb137_put (n gp gm : Nat) (m : Mv) (v : Value) (L : List UInt8) (w : World) (h : PU w n gp v L) (hf : Full v L) (hgm : gm < n) (hm : bk w gm = some (.cells (mC m) 33 (0, 0))) (hok : MvOk w n m) (hl : L.length < 2 ^ 20 ∧ m.os.length < 2 ^ 30 ∧ (optsB (m.os.map Ov.pl)).length < 2 ^ 30) (hk : m.kind = 137) :
    Calls Try.prog 64 #[sideP gp, .pointer (some ⟨gm, 0, none⟩)] w fun e w' => e = .returned (.tuple #[]) ∧ Put1 w n gp v (L ++ List.replicate 4 0 ++ m.tgt ++ m.dst ++ optsB (m.os.map Ov.pl)) false w' := by
  have c0 : w.cell? ⟨gm, 0, none⟩ = some (.int .u8 137) := by rw [bk_cell hm, mC_0, hk]; rfl
  have lm := bk_lt hm
  have P0 := Lib.hid (PS.start h)
  have OK := Lib.hid hok; have HL := Lib.hid hl; have HF := Lib.hid hf
  clear h hok hl hf
  go_enter Try.func64, Try.ntmps64
  have C := Lib.hid (pnought_put n gp 4 _ _ _ P0.out.pu HF.out (by omega) (by omega) (by have := HL.out; omega))
  go_wp2_with fail
  refine C.out.mono ?_
  rintro e w2 ⟨rfl, p1⟩
  obtain ⟨v2, h1, f1⟩ := (P0).out.put p1
  have P2 := Lib.hid h1
  have F2 := Lib.hid f1
  clear p1 h1 f1 C
  clear P0 HF F2
  clear c0 lm
  have c0' : w2.cell? ⟨gm, 0, none⟩ = some (.int .u8 137) := by rw [bk_cell (P2.out.box hgm hm), mC_0, hk]; rfl
  have lm2 := bk_lt (P2.out.box hgm hm)
  go_upto_region 5 with fail
  have PD := Lib.hid ((P2).out.below (w' := (w2).drew) (by (repeat (first | exact Below.refl _ _ | assumption | refine Below.drew ?_ | refine bdrewN ?_ _ | refine Below.alloc ?_ (by first | omega | (simp <;> omega) | (simp only [World.size_alloc] <;> omega)) _ | refine below_setRow ?_ (by first | omega | (simp <;> omega)) _ | refine Below.setCell ?_ (by first | omega | (simp <;> omega)) _))))
  have C := Lib.hid (paddr_put n gp gm 9 m.tgt _ _ _ PD.out.pu m.ht (Rd.tgt (PD.out.box hgm hm) (bk_lt (PD.out.box hgm hm))) (by (have dd := dumL; simp only [List.length_append, List.length_replicate, nb_length] at dd ⊢); have := HL.out; omega))
  go_region_held3 (fun w' => True) (first | assumption | go_keep) ((go_at_call 94; with_reducible refine C.out.mono ?_; rintro e w3 ⟨rfl, p1⟩; obtain ⟨v3, h1, f1⟩ := PD.out.put p1; have P3 := Lib.hid h1; have F3 := Lib.hid f1; clear p1 h1 f1 C PD))
  clear P2 F3 c0' lm2
  have c0' : w3.cell? ⟨gm, 0, none⟩ = some (.int .u8 137) := by rw [bk_cell (P3.out.box hgm hm), mC_0, hk]; rfl
  have lm2 := bk_lt (P3.out.box hgm hm)
  go_upto_region 7 with fail
  have PD := Lib.hid ((P3).out.below (w' := (w3).drew) (by (repeat (first | exact Below.refl _ _ | assumption | refine Below.drew ?_ | refine bdrewN ?_ _ | refine Below.alloc ?_ (by first | omega | (simp <;> omega) | (simp only [World.size_alloc] <;> omega)) _ | refine below_setRow ?_ (by first | omega | (simp <;> omega)) _ | refine Below.setCell ?_ (by first | omega | (simp <;> omega)) _))))
  have C := Lib.hid (paddr_put n gp gm 25 m.dst _ _ _ PD.out.pu m.hd (Rd.dstM (PD.out.box hgm hm) (bk_lt (PD.out.box hgm hm))) (by (have dd := dumL; simp only [List.length_append, List.length_replicate, nb_length] at dd ⊢); have := HL.out; have := m.ht; omega))
  go_region_held3 (fun w' => True) (first | assumption | go_keep) ((go_at_call 94; with_reducible refine C.out.mono ?_; rintro e w4 ⟨rfl, p1⟩; obtain ⟨v4, h1, f1⟩ := PD.out.put p1; have P4 := Lib.hid h1; have F4 := Lib.hid f1; clear p1 h1 f1 C PD))
  clear P3 F4 c0' lm2
  go_upto_region 8 with fail
  have PD := Lib.hid ((P4).out.below (w' := (w4).drew) (by (repeat (first | exact Below.refl _ _ | assumption | refine Below.drew ?_ | refine bdrewN ?_ _ | refine Below.alloc ?_ (by first | omega | (simp <;> omega) | (simp only [World.size_alloc] <;> omega)) _ | refine below_setRow ?_ (by first | omega | (simp <;> omega)) _ | refine Below.setCell ?_ (by first | omega | (simp <;> omega)) _))))
  have C := Lib.hid (poptions_put n gp gm 41 m.OA m.os m.oc _ _ _ PD.out.pu (bk_lt (PD.out.box hgm hm)) ((bk_cell (PD.out.box hgm hm) 41).trans (mC_41 m)) ((OK.out.os.below PD.out.bl (Nat.le_refl _)).mono (PD.out.nle)) HL.out.2.1 (by (have dd := dumL; simp only [List.length_append, List.length_replicate, nb_length] at dd ⊢); have h1 := HL.out; have h2 := m.ht; have h3 := m.hd; omega))
  go_region_held3 (fun w' => True) (first | assumption | go_keep) ((go_at_call 99; with_reducible refine C.out.mono ?_; rintro e w9 ⟨rfl, p1⟩; obtain ⟨v9, h1, f1⟩ := PD.out.put p1; have P9 := Lib.hid h1; have F9 := Lib.hid f1; clear p1 h1 f1 C PD))
  clear P4
  go_wp2_with fail
  go_end0
  exact ⟨rfl, P9.out.done⟩
end Go.Proofs.Ytjimmfbjhkoekaa
/- Copies and makings of elements of whatever size. Over any program. -/
namespace Go.Proofs.Ytjimmfbjhkoekaa
open Go.RowKit
set_option maxRecDepth 100000
section
variable {P : Program}
theorem run_copyS (w : World) (dT sT ty elem : TypeId) (s : Nat) (hu : P.underlying dT = some (.slice elem)) (hs : (P.info? elem).map (·.size) = some s) (dp sp : Option Addr) (dLen dCap sLen sCap : Nat) (g o : Nat) (cur : Array Value) (t : TypeId) (hg : bk w g = some (.cells cur t (0, 0)))
    (cs : List Value) (hn : cs.length = Nat.min sLen dLen * s) (hpos : 0 < Nat.min sLen dLen → dp = some ⟨g, o, none⟩ ∧ ∃ ad, sp = some ad ∧ ∀ j v, cs[j]? = some v → w.cell? (ad.add j) = some v) (hfit : o + cs.length ≤ cur.size) (h1 : ∀ v ∈ cs, v.oneCell' = true) :
    (Builtin.copy_ #[dT, sT] ty #[.slice dp dLen dCap, .slice sp sLen sCap]).run P w = .ok (goInt (Nat.min sLen dLen)) (w.setRow g (spl cur.toList o cs)) := by
  cases hq : P.info? elem with
  | none => simp [hq] at hs
  | some i =>
    have his : i.size = s := by simpa [hq] using hs
    rcases Nat.eq_zero_or_pos (Nat.min sLen dLen) with h0 | h0
    · have hc0 : cs = [] := List.eq_nil_of_length_eq_zero (by rw [hn, h0, Nat.zero_mul])
      subst hc0
      have e : spl cur.toList o [] = cur := by simp [spl, List.take_append_drop]
      rw [e, setRow_self w g cur t (0, 0) hg]
      have hl : ∀ (x : Addr), (loadCells x 0).run P w = .ok #[] w := fun x => by simpa using run_loadCells_list (P := P) w x [] (by simp)
      cases dp <;> cases sp <;> simp [Builtin.copy_, run_underlying hu, Builtin.lenOf, Builtin.firstCells, sizeOf, typeInfo, hq, h0, storeCells, hl]
    · obtain ⟨rfl, ad, rfl, hsrc⟩ := hpos h0
      have hf := run_firstCells_some (P := P) w s (Nat.min sLen dLen) ad sLen sCap cs hn hsrc
      have hst := run_storeCells_at P g o t cs 0 cur w hg (by simpa using hfit) h1
      simp only [Nat.add_zero] at hst
      have e : spl cur.toList o cs = (cur.toList.take o ++ cs ++ cur.toList.drop (o + cs.length)).toArray := by simp [spl]
      rw [e]
      simp [Builtin.copy_, run_underlying hu, Builtin.lenOf, sizeOf, typeInfo, hq, his, hf, hst]
theorem wpList_copyS {w : World} {ops : Array Oper} {rest : List Oper} {op : Oper} {a : Act} {Q : Exit → Act → World → Prop} (hgd : op.guard = none) (d s : Operand) (dT sT : TypeId)
    (ho : op.op = .call { callee := .builtin .copy, args := #[d, s], argTypes := #[dT, sT] }) (elem : TypeId) (sz : Nat) (hu : P.underlying dT = some (.slice elem)) (hsz : (P.info? elem).map (·.size) = some sz)
    (dp sp : Option Addr) (dLen dCap sLen sCap : Nat) (hd : a.eval d = .slice dp dLen dCap) (hs : a.eval s = .slice sp sLen sCap) (g o : Nat) (cur : Array Value) (t : TypeId) (hg : bk w g = some (.cells cur t (0, 0)))
    (cs : List Value) (hn : cs.length = Nat.min sLen dLen * sz) (hpos : 0 < Nat.min sLen dLen → dp = some ⟨g, o, none⟩ ∧ ∃ ad, sp = some ad ∧ ∀ j v, cs[j]? = some v → w.cell? (ad.add j) = some v) (hfit : o + cs.length ≤ cur.size) (h1 : ∀ v ∈ cs, v.oneCell' = true)
    (h : wpList P ops Q rest (a.put op.dst (goInt (Nat.min sLen dLen))) (w.setRow g (spl cur.toList o cs))) : wpList P ops Q (op :: rest) a w := by
  refine wpList_plain hgd fun K hK => ?_
  have hrun := run_copyS (P := P) w dT sT op.type elem sz hu hsz dp sp dLen dCap sLen sCap g o cur t hg cs hn hpos hfit h1
  unfold Oper.wp
  simp [execOp, ho, resolve, invoke, builtin, hd, hs, hrun, Result.andThen]
  exact hK _ _ h
/-- make of elements of whatever size. -/
theorem wp_make_any (ty e : TypeId) (z : Value) (s b : Nat) (he : P.underlying ty = some (.slice e)) (hi : (P.info? e).map (fun i => (i.zero, i.size, i.bytes)) = some (some z, s, b))
    (dst : Option Tmp) (x y : Operand) (t : TypeId) (pos : String) (af : Array Edge) (g : Option (Nat × Bool)) (a : Act) (w : World) (K : Act → World → Prop) (Q : Exit → Act → World → Prop) (n c : Nat) (hb : b * c ≤ 281474976710656) (hx : a.eval x = .int .i64 n) (hy : a.eval y = .int .i64 c) (hnc : n ≤ c) (hc : c < 2 ^ 60)
    (h : K (a.put dst (.slice (some ⟨w.heap.size, 0, none⟩) n c)) (w.alloc (.cells (madeCells z.cells (c * s)) e))) :
    Oper.wp P ⟨dst, .makeSlice ty x y, t, pos, af, g⟩ a w K Q := by
  obtain ⟨i, hi1, hz, hs, hb'⟩ := info_parts hi
  have hr := run_make (P := P) w ty e i _ he hi1 hz .i64 .i64 n c (by omega) (by omega) (by rw [hb']; have h1 := Int.ofNat_le.2 hb; rw [Int.natCast_mul] at h1; exact h1) (by omega)
  rw [hs] at hr
  unfold Oper.wp execOp
  simp only [hx, hy, Sem.run_bind, hr, Result.andThen_ok, Int.toNat_natCast]
  exact h
end
theorem flat_at {α β : Type} (f : α → List β) (C : Nat) (hC0 : 0 < C) : ∀ (l : List α) (j : Nat), (∀ x ∈ l, (f x).length = C) → (h : j / C < l.length) → ((l.map f).flatten)[j]? = (f l[j / C])[j % C]?
  | [], j, _, h => absurd h (by simp)
  | x :: l, j, hl, h => by
    have hx := hl x (by simp)
    rw [List.map_cons, List.flatten_cons]
    by_cases hj : j < C
    · rw [List.getElem?_append_left (by omega)]
      simp only [Nat.div_eq_of_lt hj, Nat.mod_eq_of_lt hj, List.getElem_cons_zero]
    · rw [List.getElem?_append_right (by omega), hx]
      have e1 : j / C = (j - C) / C + 1 := by rw [← Nat.div_eq_sub_div hC0 (by omega)]
      have e2 : j % C = (j - C) % C := by rw [Nat.mod_eq_sub_mod (by omega)]
      have h' : (j - C) / C < l.length := by rw [e1] at h; simpa using h
      rw [flat_at f C hC0 l (j - C) (fun y hy => hl y (List.mem_cons_of_mem _ hy)) h', e2]
      simp only [e1, List.getElem_cons_succ]
theorem flat_len {α β : Type} (f : α → List β) (C : Nat) : ∀ (l : List α), (∀ x ∈ l, (f x).length = C) → ((l.map f).flatten).length = l.length * C
  | [], _ => by simp
  | x :: l, hl => by
    rw [List.map_cons, List.flatten_cons, List.length_append, flat_len f C l fun y hy => hl y (List.mem_cons_of_mem _ hy), hl x (by simp), List.length_cons, Nat.succ_mul]
    omega
/-- A row's cells, one behind the other. -/
theorem Rws.cells {α : Type} {C : Nat} {row : α → Array Value} {w : World} {n : Nat} {A : Option Addr} {l : List α} (h : Rws C row w n A l) (hC : ∀ x ∈ l, (row x).size = C) (hC0 : 0 < C) (hl : 0 < l.length) :
    ∃ ad, A = some ad ∧ ∀ j v, ((l.map fun x => (row x).toList).flatten)[j]? = some v → w.cell? (ad.add j) = some v := by
  obtain ⟨g, o, c, t, fr, rfl, _, hb, hr⟩ := h (by intro e; rw [e] at hl; simp at hl)
  refine ⟨_, rfl, fun j v hj => ?_⟩
  have hjl := (List.getElem?_eq_some_iff.1 hj).1
  rw [flat_len (fun x => (row x).toList) C l (fun x hx => by simpa using hC x hx)] at hjl
  have hk : j / C < l.length := Nat.div_lt_of_lt_mul (by rw [Nat.mul_comm]; exact hjl)
  rw [flat_at (fun x => (row x).toList) C hC0 l j (fun x hx => by simpa using hC x hx) hk] at hj
  obtain ⟨h1, h2⟩ := hr (j / C) hk
  have hm := Nat.mod_lt j hC0
  have hja : (⟨g, o, none⟩ : Addr).add j = ⟨g, o + j, none⟩ := by unfold Addr.add; split <;> simp_all
  rw [hja, bk_cell hb]
  rw [← h2, Array.getElem?_toList] at hj
  have hdm : j / C * C + j % C = j := by have := Nat.div_add_mod j C; rw [Nat.mul_comm] at this; exact this
  have hlt : j % C < o + j / C * C + C - (o + j / C * C) := by omega
  simp only [xt, Array.getElem?_extract] at hj
  rw [if_pos (by omega)] at hj
  rw [← hj]
  congr 1
  omega
theorem madeZ (k n : Nat) (hk : 0 < k) : madeCells (Array.replicate k (Value.int .u8 0)) n = (List.map B (List.replicate n 0)).toArray := by
  apply Array.ext_getElem?
  intro i
  simp [madeCells, B]
  by_cases h : i < n
  · have := Nat.mod_lt i hk
    simp [h, getElem!_pos, this]
  · simp [h]
end Go.Proofs.Ytjimmfbjhkoekaa
