import Derived.Test.YtjimmfbjhkoekaaMgJ
/- Icmps: parts, put: routers, reports, echoes. -/
namespace Go.Proofs.Ytjimmfbjhkoekaa
open Go.RowKit
set_option maxRecDepth 100000
set_option maxHeartbeats 1000000
theorem p134_put (n gp gm : Nat) (m : Mv) (v : Value) (L : List UInt8) (w : World) (h : PU w n gp v L) (hgm : gm < n) (hm : bk w gm = some (.cells (mC m) 33 (0, 0))) (hok : MvOk w n m) (hl : L.length < 2 ^ 20 ∧ m.os.length < 2 ^ 30 ∧ (optsB (m.os.map Ov.pl)).length < 2 ^ 30) (hk : m.kind = 134) :
    Calls Try.prog 31 #[sideP gp, .pointer (some ⟨gm, 0, none⟩)] w fun e w' => e = .returned (.bool true) ∧ Put3 w n gp gm v (L ++ partB m.pl) w' := by
  have c0 : w.cell? ⟨gm, 0, none⟩ = some (.int .u8 134) := by rw [bk_cell hm, mC_0, hk]; rfl
  have lm := bk_lt hm
  have P0 := Lib.hid (PS.start h)
  have OK := Lib.hid hok; have HL := Lib.hid hl; have HQ : Hid (m.pl.kind = 134) := Lib.hid hk
  have HE : Hid (∀ {w' : World} {L' : List UInt8} {f : Bool}, L' = L ++ partB m.pl → Put1 w n gp v L' f w' → Put3 w n gp gm v (L ++ partB m.pl) w') := Lib.hid fun e q => e ▸ q.to3
  clear h hok hl hk
  go_enter Try.func31, Try.ntmps31
  go_upto_region 29 with fail
  have PD := Lib.hid ((P0).out.below (w' := (w).drew) (by (repeat (first | exact Below.refl _ _ | assumption | refine Below.drew ?_ | refine bdrewN ?_ _ | refine Below.alloc ?_ (by first | omega | (simp <;> omega) | (simp only [World.size_alloc] <;> omega)) _ | refine below_setRow ?_ (by first | omega | (simp <;> omega)) _ | refine Below.setCell ?_ (by first | omega | (simp <;> omega)) _))))
  have C := Lib.hid (pone_put n gp gm 4 m.hops _ _ _ PD.out.pu ((bk_cell (PD.out.box hgm hm) 4).trans (mC_4 m)) (bk_lt (PD.out.box hgm hm)) (by (try (have dd := dumL; simp only [List.length_append, List.length_replicate, nb_length] at dd ⊢)); have h1 := HL.out; have h2 := m.ht; have h3 := m.hd; have h4 := m.hg; omega))
  go_region_held3 (fun w' => True) (first | assumption | go_keep) ((go_at_call 98; with_reducible refine C.out.mono ?_; rintro e w1 ⟨rfl, p1⟩; obtain ⟨v1, h1, f1⟩ := PD.out.put p1; have P1 := Lib.hid h1; have F1 := Lib.hid f1; clear p1 h1 f1 C PD))
  clear P0
  clear F1
  go_upto_region 30 with fail
  have PD := Lib.hid ((P1).out.below (w' := (w1).drew) (by (repeat (first | exact Below.refl _ _ | assumption | refine Below.drew ?_ | refine bdrewN ?_ _ | refine Below.alloc ?_ (by first | omega | (simp <;> omega) | (simp only [World.size_alloc] <;> omega)) _ | refine below_setRow ?_ (by first | omega | (simp <;> omega)) _ | refine Below.setCell ?_ (by first | omega | (simp <;> omega)) _))))
  have C := Lib.hid (pone_put n gp gm 5 m.flags _ _ _ PD.out.pu ((bk_cell (PD.out.box hgm hm) 5).trans (mC_5 m)) (bk_lt (PD.out.box hgm hm)) (by (try (have dd := dumL; simp only [List.length_append, List.length_replicate, nb_length] at dd ⊢)); have h1 := HL.out; have h2 := m.ht; have h3 := m.hd; have h4 := m.hg; omega))
  go_region_held3 (fun w' => True) (first | assumption | go_keep) ((go_at_call 98; with_reducible refine C.out.mono ?_; rintro e w2 ⟨rfl, p1⟩; obtain ⟨v2, h1, f1⟩ := PD.out.put p1; have P2 := Lib.hid h1; have F2 := Lib.hid f1; clear p1 h1 f1 C PD))
  clear P1
  clear F2
  go_upto_region 31 with fail
  have PD := Lib.hid ((P2).out.below (w' := (w2).drew) (by (repeat (first | exact Below.refl _ _ | assumption | refine Below.drew ?_ | refine bdrewN ?_ _ | refine Below.alloc ?_ (by first | omega | (simp <;> omega) | (simp only [World.size_alloc] <;> omega)) _ | refine below_setRow ?_ (by first | omega | (simp <;> omega)) _ | refine Below.setCell ?_ (by first | omega | (simp <;> omega)) _))))
  have C := Lib.hid (ptwo_put n gp gm 6 m.life _ _ _ PD.out.pu ((bk_cell (PD.out.box hgm hm) 6).trans (mC_6 m)) (bk_lt (PD.out.box hgm hm)) OK.out.b2 (by (try (have dd := dumL; simp only [List.length_append, List.length_replicate, nb_length] at dd ⊢)); have h1 := HL.out; have h2 := m.ht; have h3 := m.hd; have h4 := m.hg; omega))
  go_region_held3 (fun w' => True) (first | assumption | go_keep) ((go_at_call 102; with_reducible refine C.out.mono ?_; rintro e w3 ⟨rfl, p1⟩; obtain ⟨v3, h1, f1⟩ := PD.out.put p1; have P3 := Lib.hid h1; have F3 := Lib.hid f1; clear p1 h1 f1 C PD))
  clear P2
  clear F3
  go_upto_region 32 with fail
  have PD := Lib.hid ((P3).out.below (w' := (w3).drew) (by (repeat (first | exact Below.refl _ _ | assumption | refine Below.drew ?_ | refine bdrewN ?_ _ | refine Below.alloc ?_ (by first | omega | (simp <;> omega) | (simp only [World.size_alloc] <;> omega)) _ | refine below_setRow ?_ (by first | omega | (simp <;> omega)) _ | refine Below.setCell ?_ (by first | omega | (simp <;> omega)) _))))
  have C := Lib.hid (pfour_put n gp gm 7 m.reach _ _ _ PD.out.pu ((bk_cell (PD.out.box hgm hm) 7).trans (mC_7 m)) (bk_lt (PD.out.box hgm hm)) OK.out.b3 (by (try (have dd := dumL; simp only [List.length_append, List.length_replicate, nb_length] at dd ⊢)); have h1 := HL.out; have h2 := m.ht; have h3 := m.hd; have h4 := m.hg; omega))
  go_region_held3 (fun w' => True) (first | assumption | go_keep) ((go_at_call 96; with_reducible refine C.out.mono ?_; rintro e w4 ⟨rfl, p1⟩; obtain ⟨v4, h1, f1⟩ := PD.out.put p1; have P4 := Lib.hid h1; have F4 := Lib.hid f1; clear p1 h1 f1 C PD))
  clear P3
  clear F4
  go_upto_region 33 with fail
  have PD := Lib.hid ((P4).out.below (w' := (w4).drew) (by (repeat (first | exact Below.refl _ _ | assumption | refine Below.drew ?_ | refine bdrewN ?_ _ | refine Below.alloc ?_ (by first | omega | (simp <;> omega) | (simp only [World.size_alloc] <;> omega)) _ | refine below_setRow ?_ (by first | omega | (simp <;> omega)) _ | refine Below.setCell ?_ (by first | omega | (simp <;> omega)) _))))
  have C := Lib.hid (pfour_put n gp gm 8 m.retr _ _ _ PD.out.pu ((bk_cell (PD.out.box hgm hm) 8).trans (mC_8 m)) (bk_lt (PD.out.box hgm hm)) OK.out.b4 (by (try (have dd := dumL; simp only [List.length_append, List.length_replicate, nb_length] at dd ⊢)); have h1 := HL.out; have h2 := m.ht; have h3 := m.hd; have h4 := m.hg; omega))
  go_region_held3 (fun w' => True) (first | assumption | go_keep) ((go_at_call 96; with_reducible refine C.out.mono ?_; rintro e w5 ⟨rfl, p1⟩; obtain ⟨v5, h1, f1⟩ := PD.out.put p1; have P5 := Lib.hid h1; have F5 := Lib.hid f1; clear p1 h1 f1 C PD))
  clear P4
  clear F5
  go_upto_region 34 with fail
  have PD := Lib.hid ((P5).out.below (w' := (w5).drew) (by (repeat (first | exact Below.refl _ _ | assumption | refine Below.drew ?_ | refine bdrewN ?_ _ | refine Below.alloc ?_ (by first | omega | (simp <;> omega) | (simp only [World.size_alloc] <;> omega)) _ | refine below_setRow ?_ (by first | omega | (simp <;> omega)) _ | refine Below.setCell ?_ (by first | omega | (simp <;> omega)) _))))
  have C := Lib.hid (poptions_put n gp gm 41 m.OA m.os m.oc _ _ _ PD.out.pu (bk_lt (PD.out.box hgm hm)) ((bk_cell (PD.out.box hgm hm) 41).trans (mC_41 m)) ((OK.out.os.below PD.out.bl (Nat.le_refl _)).mono (PD.out.nle)) HL.out.2.1 (by (try (have dd := dumL; simp only [List.length_append, List.length_replicate, nb_length] at dd ⊢)); have h1 := HL.out; have h2 := m.ht; have h3 := m.hd; have h4 := m.hg; omega))
  go_region_held3 (fun w' => True) (first | assumption | go_keep) ((go_at_call 99; with_reducible refine C.out.mono ?_; rintro e w6 ⟨rfl, p1⟩; obtain ⟨v6, h1, f1⟩ := PD.out.put p1; have P6 := Lib.hid h1; have F6 := Lib.hid f1; clear p1 h1 f1 C PD))
  clear P5
  have FX := Lib.hid (HE.out (by unfold partB; rw [HQ.out]; (have dd := dumP m ⟨0, none, [], 0⟩; simp [nb1, List.replicate, Mv.pl, Ov.pl] at dd ⊢)) P6.out.done)
  clear P6
  go_wp2_with fail
  go_ret
  exact ⟨rfl, FX.out⟩
theorem p1_put (n gp gm : Nat) (m : Mv) (v : Value) (L : List UInt8) (w : World) (h : PU w n gp v L) (hgm : gm < n) (hm : bk w gm = some (.cells (mC m) 33 (0, 0))) (hok : MvOk w n m) (hl : L.length < 2 ^ 20 ∧ m.dd.length < 2 ^ 30) (hk : m.kind = 1) :
    Calls Try.prog 31 #[sideP gp, .pointer (some ⟨gm, 0, none⟩)] w fun e w' => e = .returned (.bool true) ∧ Put3 w n gp gm v (L ++ partB m.pl) w' := by
  have c0 : w.cell? ⟨gm, 0, none⟩ = some (.int .u8 1) := by rw [bk_cell hm, mC_0, hk]; rfl
  have lm := bk_lt hm
  have P0 := Lib.hid (PS.start h)
  have OK := Lib.hid hok; have HL := Lib.hid hl; have HQ : Hid (m.pl.kind = 1) := Lib.hid hk
  have HE : Hid (∀ {w' : World} {L' : List UInt8} {f : Bool}, L' = L ++ partB m.pl → Put1 w n gp v L' f w' → Put3 w n gp gm v (L ++ partB m.pl) w') := Lib.hid fun e q => e ▸ q.to3
  clear h hok hl hk
  go_enter Try.func31, Try.ntmps31
  go_upto_region 9 with fail
  have PD := Lib.hid ((P0).out.below (w' := (w).drew) (by (repeat (first | exact Below.refl _ _ | assumption | refine Below.drew ?_ | refine bdrewN ?_ _ | refine Below.alloc ?_ (by first | omega | (simp <;> omega) | (simp only [World.size_alloc] <;> omega)) _ | refine below_setRow ?_ (by first | omega | (simp <;> omega)) _ | refine Below.setCell ?_ (by first | omega | (simp <;> omega)) _))))
  have C := Lib.hid (pfour_put n gp gm 2 m.param _ _ _ PD.out.pu ((bk_cell (PD.out.box hgm hm) 2).trans (mC_2 m)) (bk_lt (PD.out.box hgm hm)) OK.out.b1 (by (try (have dd := dumL; simp only [List.length_append, List.length_replicate, nb_length] at dd ⊢)); have h1 := HL.out; have h2 := m.ht; have h3 := m.hd; have h4 := m.hg; omega))
  go_region_held3 (fun w' => True) (first | assumption | go_keep) ((go_at_call 96; with_reducible refine C.out.mono ?_; rintro e w1 ⟨rfl, p1⟩; obtain ⟨v1, h1, f1⟩ := PD.out.put p1; have P1 := Lib.hid h1; have F1 := Lib.hid f1; clear p1 h1 f1 C PD))
  clear P0
  clear F1
  go_upto_region 10 with fail
  have PD := Lib.hid ((P1).out.below (w' := (w1).drew) (by (repeat (first | exact Below.refl _ _ | assumption | refine Below.drew ?_ | refine bdrewN ?_ _ | refine Below.alloc ?_ (by first | omega | (simp <;> omega) | (simp only [World.size_alloc] <;> omega)) _ | refine below_setRow ?_ (by first | omega | (simp <;> omega)) _ | refine Below.setCell ?_ (by first | omega | (simp <;> omega)) _))))
  have C := Lib.hid (prest_put n gp gm 3 m.DA m.dd m.dc _ _ _ PD.out.pu (bk_lt (PD.out.box hgm hm)) ((bk_cell (PD.out.box hgm hm) 3).trans (mC_3 m)) ((OK.out.d.below PD.out.bl (Nat.le_refl _)).mono PD.out.nle) OK.out.dn (by (try (have dd := dumL; simp only [List.length_append, List.length_replicate, nb_length] at dd ⊢)); have h1 := HL.out; have h2 := m.ht; have h3 := m.hd; have h4 := m.hg; omega))
  go_region_held3 (fun w' => True) (first | assumption | go_keep) ((go_at_call 101; with_reducible refine C.out.mono ?_; rintro e w2 ⟨rfl, p1⟩; obtain ⟨v2, h1, f1⟩ := PD.out.put p1; have P2 := Lib.hid h1; have F2 := Lib.hid f1; clear p1 h1 f1 C PD))
  clear P1
  have FX := Lib.hid (HE.out (by unfold partB; rw [HQ.out]; (have dd := dumP m ⟨0, none, [], 0⟩; simp [nb1, List.replicate, Mv.pl, Ov.pl] at dd ⊢)) P2.out.done)
  clear P2
  go_wp2_with fail
  go_ret
  exact ⟨rfl, FX.out⟩
theorem p2_put (n gp gm : Nat) (m : Mv) (v : Value) (L : List UInt8) (w : World) (h : PU w n gp v L) (hgm : gm < n) (hm : bk w gm = some (.cells (mC m) 33 (0, 0))) (hok : MvOk w n m) (hl : L.length < 2 ^ 20 ∧ m.dd.length < 2 ^ 30) (hk : m.kind = 2) :
    Calls Try.prog 31 #[sideP gp, .pointer (some ⟨gm, 0, none⟩)] w fun e w' => e = .returned (.bool true) ∧ Put3 w n gp gm v (L ++ partB m.pl) w' := by
  have c0 : w.cell? ⟨gm, 0, none⟩ = some (.int .u8 2) := by rw [bk_cell hm, mC_0, hk]; rfl
  have lm := bk_lt hm
  have P0 := Lib.hid (PS.start h)
  have OK := Lib.hid hok; have HL := Lib.hid hl; have HQ : Hid (m.pl.kind = 2) := Lib.hid hk
  have HE : Hid (∀ {w' : World} {L' : List UInt8} {f : Bool}, L' = L ++ partB m.pl → Put1 w n gp v L' f w' → Put3 w n gp gm v (L ++ partB m.pl) w') := Lib.hid fun e q => e ▸ q.to3
  clear h hok hl hk
  go_enter Try.func31, Try.ntmps31
  go_upto_region 9 with fail
  have PD := Lib.hid ((P0).out.below (w' := (w).drew) (by (repeat (first | exact Below.refl _ _ | assumption | refine Below.drew ?_ | refine bdrewN ?_ _ | refine Below.alloc ?_ (by first | omega | (simp <;> omega) | (simp only [World.size_alloc] <;> omega)) _ | refine below_setRow ?_ (by first | omega | (simp <;> omega)) _ | refine Below.setCell ?_ (by first | omega | (simp <;> omega)) _))))
  have C := Lib.hid (pfour_put n gp gm 2 m.param _ _ _ PD.out.pu ((bk_cell (PD.out.box hgm hm) 2).trans (mC_2 m)) (bk_lt (PD.out.box hgm hm)) OK.out.b1 (by (try (have dd := dumL; simp only [List.length_append, List.length_replicate, nb_length] at dd ⊢)); have h1 := HL.out; have h2 := m.ht; have h3 := m.hd; have h4 := m.hg; omega))
  go_region_held3 (fun w' => True) (first | assumption | go_keep) ((go_at_call 96; with_reducible refine C.out.mono ?_; rintro e w1 ⟨rfl, p1⟩; obtain ⟨v1, h1, f1⟩ := PD.out.put p1; have P1 := Lib.hid h1; have F1 := Lib.hid f1; clear p1 h1 f1 C PD))
  clear P0
  clear F1
  go_upto_region 10 with fail
  have PD := Lib.hid ((P1).out.below (w' := (w1).drew) (by (repeat (first | exact Below.refl _ _ | assumption | refine Below.drew ?_ | refine bdrewN ?_ _ | refine Below.alloc ?_ (by first | omega | (simp <;> omega) | (simp only [World.size_alloc] <;> omega)) _ | refine below_setRow ?_ (by first | omega | (simp <;> omega)) _ | refine Below.setCell ?_ (by first | omega | (simp <;> omega)) _))))
  have C := Lib.hid (prest_put n gp gm 3 m.DA m.dd m.dc _ _ _ PD.out.pu (bk_lt (PD.out.box hgm hm)) ((bk_cell (PD.out.box hgm hm) 3).trans (mC_3 m)) ((OK.out.d.below PD.out.bl (Nat.le_refl _)).mono PD.out.nle) OK.out.dn (by (try (have dd := dumL; simp only [List.length_append, List.length_replicate, nb_length] at dd ⊢)); have h1 := HL.out; have h2 := m.ht; have h3 := m.hd; have h4 := m.hg; omega))
  go_region_held3 (fun w' => True) (first | assumption | go_keep) ((go_at_call 101; with_reducible refine C.out.mono ?_; rintro e w2 ⟨rfl, p1⟩; obtain ⟨v2, h1, f1⟩ := PD.out.put p1; have P2 := Lib.hid h1; have F2 := Lib.hid f1; clear p1 h1 f1 C PD))
  clear P1
  have FX := Lib.hid (HE.out (by unfold partB; rw [HQ.out]; (have dd := dumP m ⟨0, none, [], 0⟩; simp [nb1, List.replicate, Mv.pl, Ov.pl] at dd ⊢)) P2.out.done)
  clear P2
  go_wp2_with fail
  go_ret
  exact ⟨rfl, FX.out⟩
theorem p3_put (n gp gm : Nat) (m : Mv) (v : Value) (L : List UInt8) (w : World) (h : PU w n gp v L) (hgm : gm < n) (hm : bk w gm = some (.cells (mC m) 33 (0, 0))) (hok : MvOk w n m) (hl : L.length < 2 ^ 20 ∧ m.dd.length < 2 ^ 30) (hk : m.kind = 3) :
    Calls Try.prog 31 #[sideP gp, .pointer (some ⟨gm, 0, none⟩)] w fun e w' => e = .returned (.bool true) ∧ Put3 w n gp gm v (L ++ partB m.pl) w' := by
  have c0 : w.cell? ⟨gm, 0, none⟩ = some (.int .u8 3) := by rw [bk_cell hm, mC_0, hk]; rfl
  have lm := bk_lt hm
  have P0 := Lib.hid (PS.start h)
  have OK := Lib.hid hok; have HL := Lib.hid hl; have HQ : Hid (m.pl.kind = 3) := Lib.hid hk
  have HE : Hid (∀ {w' : World} {L' : List UInt8} {f : Bool}, L' = L ++ partB m.pl → Put1 w n gp v L' f w' → Put3 w n gp gm v (L ++ partB m.pl) w') := Lib.hid fun e q => e ▸ q.to3
  clear h hok hl hk
  go_enter Try.func31, Try.ntmps31
  go_upto_region 9 with fail
  have PD := Lib.hid ((P0).out.below (w' := (w).drew) (by (repeat (first | exact Below.refl _ _ | assumption | refine Below.drew ?_ | refine bdrewN ?_ _ | refine Below.alloc ?_ (by first | omega | (simp <;> omega) | (simp only [World.size_alloc] <;> omega)) _ | refine below_setRow ?_ (by first | omega | (simp <;> omega)) _ | refine Below.setCell ?_ (by first | omega | (simp <;> omega)) _))))
  have C := Lib.hid (pfour_put n gp gm 2 m.param _ _ _ PD.out.pu ((bk_cell (PD.out.box hgm hm) 2).trans (mC_2 m)) (bk_lt (PD.out.box hgm hm)) OK.out.b1 (by (try (have dd := dumL; simp only [List.length_append, List.length_replicate, nb_length] at dd ⊢)); have h1 := HL.out; have h2 := m.ht; have h3 := m.hd; have h4 := m.hg; omega))
  go_region_held3 (fun w' => True) (first | assumption | go_keep) ((go_at_call 96; with_reducible refine C.out.mono ?_; rintro e w1 ⟨rfl, p1⟩; obtain ⟨v1, h1, f1⟩ := PD.out.put p1; have P1 := Lib.hid h1; have F1 := Lib.hid f1; clear p1 h1 f1 C PD))
  clear P0
  clear F1
  go_upto_region 10 with fail
  have PD := Lib.hid ((P1).out.below (w' := (w1).drew) (by (repeat (first | exact Below.refl _ _ | assumption | refine Below.drew ?_ | refine bdrewN ?_ _ | refine Below.alloc ?_ (by first | omega | (simp <;> omega) | (simp only [World.size_alloc] <;> omega)) _ | refine below_setRow ?_ (by first | omega | (simp <;> omega)) _ | refine Below.setCell ?_ (by first | omega | (simp <;> omega)) _))))
  have C := Lib.hid (prest_put n gp gm 3 m.DA m.dd m.dc _ _ _ PD.out.pu (bk_lt (PD.out.box hgm hm)) ((bk_cell (PD.out.box hgm hm) 3).trans (mC_3 m)) ((OK.out.d.below PD.out.bl (Nat.le_refl _)).mono PD.out.nle) OK.out.dn (by (try (have dd := dumL; simp only [List.length_append, List.length_replicate, nb_length] at dd ⊢)); have h1 := HL.out; have h2 := m.ht; have h3 := m.hd; have h4 := m.hg; omega))
  go_region_held3 (fun w' => True) (first | assumption | go_keep) ((go_at_call 101; with_reducible refine C.out.mono ?_; rintro e w2 ⟨rfl, p1⟩; obtain ⟨v2, h1, f1⟩ := PD.out.put p1; have P2 := Lib.hid h1; have F2 := Lib.hid f1; clear p1 h1 f1 C PD))
  clear P1
  have FX := Lib.hid (HE.out (by unfold partB; rw [HQ.out]; (have dd := dumP m ⟨0, none, [], 0⟩; simp [nb1, List.replicate, Mv.pl, Ov.pl] at dd ⊢)) P2.out.done)
  clear P2
  go_wp2_with fail
  go_ret
  exact ⟨rfl, FX.out⟩
theorem p4_put (n gp gm : Nat) (m : Mv) (v : Value) (L : List UInt8) (w : World) (h : PU w n gp v L) (hgm : gm < n) (hm : bk w gm = some (.cells (mC m) 33 (0, 0))) (hok : MvOk w n m) (hl : L.length < 2 ^ 20 ∧ m.dd.length < 2 ^ 30) (hk : m.kind = 4) :
    Calls Try.prog 31 #[sideP gp, .pointer (some ⟨gm, 0, none⟩)] w fun e w' => e = .returned (.bool true) ∧ Put3 w n gp gm v (L ++ partB m.pl) w' := by
  have c0 : w.cell? ⟨gm, 0, none⟩ = some (.int .u8 4) := by rw [bk_cell hm, mC_0, hk]; rfl
  have lm := bk_lt hm
  have P0 := Lib.hid (PS.start h)
  have OK := Lib.hid hok; have HL := Lib.hid hl; have HQ : Hid (m.pl.kind = 4) := Lib.hid hk
  have HE : Hid (∀ {w' : World} {L' : List UInt8} {f : Bool}, L' = L ++ partB m.pl → Put1 w n gp v L' f w' → Put3 w n gp gm v (L ++ partB m.pl) w') := Lib.hid fun e q => e ▸ q.to3
  clear h hok hl hk
  go_enter Try.func31, Try.ntmps31
  go_upto_region 9 with fail
  have PD := Lib.hid ((P0).out.below (w' := (w).drew) (by (repeat (first | exact Below.refl _ _ | assumption | refine Below.drew ?_ | refine bdrewN ?_ _ | refine Below.alloc ?_ (by first | omega | (simp <;> omega) | (simp only [World.size_alloc] <;> omega)) _ | refine below_setRow ?_ (by first | omega | (simp <;> omega)) _ | refine Below.setCell ?_ (by first | omega | (simp <;> omega)) _))))
  have C := Lib.hid (pfour_put n gp gm 2 m.param _ _ _ PD.out.pu ((bk_cell (PD.out.box hgm hm) 2).trans (mC_2 m)) (bk_lt (PD.out.box hgm hm)) OK.out.b1 (by (try (have dd := dumL; simp only [List.length_append, List.length_replicate, nb_length] at dd ⊢)); have h1 := HL.out; have h2 := m.ht; have h3 := m.hd; have h4 := m.hg; omega))
  go_region_held3 (fun w' => True) (first | assumption | go_keep) ((go_at_call 96; with_reducible refine C.out.mono ?_; rintro e w1 ⟨rfl, p1⟩; obtain ⟨v1, h1, f1⟩ := PD.out.put p1; have P1 := Lib.hid h1; have F1 := Lib.hid f1; clear p1 h1 f1 C PD))
  clear P0
  clear F1
  go_upto_region 10 with fail
  have PD := Lib.hid ((P1).out.below (w' := (w1).drew) (by (repeat (first | exact Below.refl _ _ | assumption | refine Below.drew ?_ | refine bdrewN ?_ _ | refine Below.alloc ?_ (by first | omega | (simp <;> omega) | (simp only [World.size_alloc] <;> omega)) _ | refine below_setRow ?_ (by first | omega | (simp <;> omega)) _ | refine Below.setCell ?_ (by first | omega | (simp <;> omega)) _))))
  have C := Lib.hid (prest_put n gp gm 3 m.DA m.dd m.dc _ _ _ PD.out.pu (bk_lt (PD.out.box hgm hm)) ((bk_cell (PD.out.box hgm hm) 3).trans (mC_3 m)) ((OK.out.d.below PD.out.bl (Nat.le_refl _)).mono PD.out.nle) OK.out.dn (by (try (have dd := dumL; simp only [List.length_append, List.length_replicate, nb_length] at dd ⊢)); have h1 := HL.out; have h2 := m.ht; have h3 := m.hd; have h4 := m.hg; omega))
  go_region_held3 (fun w' => True) (first | assumption | go_keep) ((go_at_call 101; with_reducible refine C.out.mono ?_; rintro e w2 ⟨rfl, p1⟩; obtain ⟨v2, h1, f1⟩ := PD.out.put p1; have P2 := Lib.hid h1; have F2 := Lib.hid f1; clear p1 h1 f1 C PD))
  clear P1
  have FX := Lib.hid (HE.out (by unfold partB; rw [HQ.out]; (have dd := dumP m ⟨0, none, [], 0⟩; simp [nb1, List.replicate, Mv.pl, Ov.pl] at dd ⊢)) P2.out.done)
  clear P2
  go_wp2_with fail
  go_ret
  exact ⟨rfl, FX.out⟩
theorem p128_put (n gp gm : Nat) (m : Mv) (v : Value) (L : List UInt8) (w : World) (h : PU w n gp v L) (hgm : gm < n) (hm : bk w gm = some (.cells (mC m) 33 (0, 0))) (hok : MvOk w n m) (hl : L.length < 2 ^ 20 ∧ m.dd.length < 2 ^ 30) (hk : m.kind = 128) :
    Calls Try.prog 31 #[sideP gp, .pointer (some ⟨gm, 0, none⟩)] w fun e w' => e = .returned (.bool true) ∧ Put3 w n gp gm v (L ++ partB m.pl) w' := by
  have c0 : w.cell? ⟨gm, 0, none⟩ = some (.int .u8 128) := by rw [bk_cell hm, mC_0, hk]; rfl
  have lm := bk_lt hm
  have P0 := Lib.hid (PS.start h)
  have OK := Lib.hid hok; have HL := Lib.hid hl; have HQ : Hid (m.pl.kind = 128) := Lib.hid hk
  have HE : Hid (∀ {w' : World} {L' : List UInt8} {f : Bool}, L' = L ++ partB m.pl → Put1 w n gp v L' f w' → Put3 w n gp gm v (L ++ partB m.pl) w') := Lib.hid fun e q => e ▸ q.to3
  clear h hok hl hk
  go_enter Try.func31, Try.ntmps31
  go_upto_region 9 with fail
  have PD := Lib.hid ((P0).out.below (w' := (w).drew) (by (repeat (first | exact Below.refl _ _ | assumption | refine Below.drew ?_ | refine bdrewN ?_ _ | refine Below.alloc ?_ (by first | omega | (simp <;> omega) | (simp only [World.size_alloc] <;> omega)) _ | refine below_setRow ?_ (by first | omega | (simp <;> omega)) _ | refine Below.setCell ?_ (by first | omega | (simp <;> omega)) _))))
  have C := Lib.hid (pfour_put n gp gm 2 m.param _ _ _ PD.out.pu ((bk_cell (PD.out.box hgm hm) 2).trans (mC_2 m)) (bk_lt (PD.out.box hgm hm)) OK.out.b1 (by (try (have dd := dumL; simp only [List.length_append, List.length_replicate, nb_length] at dd ⊢)); have h1 := HL.out; have h2 := m.ht; have h3 := m.hd; have h4 := m.hg; omega))
  go_region_held3 (fun w' => True) (first | assumption | go_keep) ((go_at_call 96; with_reducible refine C.out.mono ?_; rintro e w1 ⟨rfl, p1⟩; obtain ⟨v1, h1, f1⟩ := PD.out.put p1; have P1 := Lib.hid h1; have F1 := Lib.hid f1; clear p1 h1 f1 C PD))
  clear P0
  clear F1
  go_upto_region 10 with fail
  have PD := Lib.hid ((P1).out.below (w' := (w1).drew) (by (repeat (first | exact Below.refl _ _ | assumption | refine Below.drew ?_ | refine bdrewN ?_ _ | refine Below.alloc ?_ (by first | omega | (simp <;> omega) | (simp only [World.size_alloc] <;> omega)) _ | refine below_setRow ?_ (by first | omega | (simp <;> omega)) _ | refine Below.setCell ?_ (by first | omega | (simp <;> omega)) _))))
  have C := Lib.hid (prest_put n gp gm 3 m.DA m.dd m.dc _ _ _ PD.out.pu (bk_lt (PD.out.box hgm hm)) ((bk_cell (PD.out.box hgm hm) 3).trans (mC_3 m)) ((OK.out.d.below PD.out.bl (Nat.le_refl _)).mono PD.out.nle) OK.out.dn (by (try (have dd := dumL; simp only [List.length_append, List.length_replicate, nb_length] at dd ⊢)); have h1 := HL.out; have h2 := m.ht; have h3 := m.hd; have h4 := m.hg; omega))
  go_region_held3 (fun w' => True) (first | assumption | go_keep) ((go_at_call 101; with_reducible refine C.out.mono ?_; rintro e w2 ⟨rfl, p1⟩; obtain ⟨v2, h1, f1⟩ := PD.out.put p1; have P2 := Lib.hid h1; have F2 := Lib.hid f1; clear p1 h1 f1 C PD))
  clear P1
  have FX := Lib.hid (HE.out (by unfold partB; rw [HQ.out]; (have dd := dumP m ⟨0, none, [], 0⟩; simp [nb1, List.replicate, Mv.pl, Ov.pl] at dd ⊢)) P2.out.done)
  clear P2
  go_wp2_with fail
  go_ret
  exact ⟨rfl, FX.out⟩
theorem p129_put (n gp gm : Nat) (m : Mv) (v : Value) (L : List UInt8) (w : World) (h : PU w n gp v L) (hgm : gm < n) (hm : bk w gm = some (.cells (mC m) 33 (0, 0))) (hok : MvOk w n m) (hl : L.length < 2 ^ 20 ∧ m.dd.length < 2 ^ 30) (hk : m.kind = 129) :
    Calls Try.prog 31 #[sideP gp, .pointer (some ⟨gm, 0, none⟩)] w fun e w' => e = .returned (.bool true) ∧ Put3 w n gp gm v (L ++ partB m.pl) w' := by
  have c0 : w.cell? ⟨gm, 0, none⟩ = some (.int .u8 129) := by rw [bk_cell hm, mC_0, hk]; rfl
  have lm := bk_lt hm
  have P0 := Lib.hid (PS.start h)
  have OK := Lib.hid hok; have HL := Lib.hid hl; have HQ : Hid (m.pl.kind = 129) := Lib.hid hk
  have HE : Hid (∀ {w' : World} {L' : List UInt8} {f : Bool}, L' = L ++ partB m.pl → Put1 w n gp v L' f w' → Put3 w n gp gm v (L ++ partB m.pl) w') := Lib.hid fun e q => e ▸ q.to3
  clear h hok hl hk
  go_enter Try.func31, Try.ntmps31
  go_upto_region 9 with fail
  have PD := Lib.hid ((P0).out.below (w' := (w).drew) (by (repeat (first | exact Below.refl _ _ | assumption | refine Below.drew ?_ | refine bdrewN ?_ _ | refine Below.alloc ?_ (by first | omega | (simp <;> omega) | (simp only [World.size_alloc] <;> omega)) _ | refine below_setRow ?_ (by first | omega | (simp <;> omega)) _ | refine Below.setCell ?_ (by first | omega | (simp <;> omega)) _))))
  have C := Lib.hid (pfour_put n gp gm 2 m.param _ _ _ PD.out.pu ((bk_cell (PD.out.box hgm hm) 2).trans (mC_2 m)) (bk_lt (PD.out.box hgm hm)) OK.out.b1 (by (try (have dd := dumL; simp only [List.length_append, List.length_replicate, nb_length] at dd ⊢)); have h1 := HL.out; have h2 := m.ht; have h3 := m.hd; have h4 := m.hg; omega))
  go_region_held3 (fun w' => True) (first | assumption | go_keep) ((go_at_call 96; with_reducible refine C.out.mono ?_; rintro e w1 ⟨rfl, p1⟩; obtain ⟨v1, h1, f1⟩ := PD.out.put p1; have P1 := Lib.hid h1; have F1 := Lib.hid f1; clear p1 h1 f1 C PD))
  clear P0
  clear F1
  go_upto_region 10 with fail
  have PD := Lib.hid ((P1).out.below (w' := (w1).drew) (by (repeat (first | exact Below.refl _ _ | assumption | refine Below.drew ?_ | refine bdrewN ?_ _ | refine Below.alloc ?_ (by first | omega | (simp <;> omega) | (simp only [World.size_alloc] <;> omega)) _ | refine below_setRow ?_ (by first | omega | (simp <;> omega)) _ | refine Below.setCell ?_ (by first | omega | (simp <;> omega)) _))))
  have C := Lib.hid (prest_put n gp gm 3 m.DA m.dd m.dc _ _ _ PD.out.pu (bk_lt (PD.out.box hgm hm)) ((bk_cell (PD.out.box hgm hm) 3).trans (mC_3 m)) ((OK.out.d.below PD.out.bl (Nat.le_refl _)).mono PD.out.nle) OK.out.dn (by (try (have dd := dumL; simp only [List.length_append, List.length_replicate, nb_length] at dd ⊢)); have h1 := HL.out; have h2 := m.ht; have h3 := m.hd; have h4 := m.hg; omega))
  go_region_held3 (fun w' => True) (first | assumption | go_keep) ((go_at_call 101; with_reducible refine C.out.mono ?_; rintro e w2 ⟨rfl, p1⟩; obtain ⟨v2, h1, f1⟩ := PD.out.put p1; have P2 := Lib.hid h1; have F2 := Lib.hid f1; clear p1 h1 f1 C PD))
  clear P1
  have FX := Lib.hid (HE.out (by unfold partB; rw [HQ.out]; (have dd := dumP m ⟨0, none, [], 0⟩; simp [nb1, List.replicate, Mv.pl, Ov.pl] at dd ⊢)) P2.out.done)
  clear P2
  go_wp2_with fail
  go_ret
  exact ⟨rfl, FX.out⟩
end Go.Proofs.Ytjimmfbjhkoekaa
