import Derived.Test.YtjimmfbjhkoekaaMgQ
import Derived.Test.YtjimmfbjhkoekaaMgM
/- Icmps: Get: what it walks. -/
namespace Go.Proofs.Ytjimmfbjhkoekaa
open Go.RowKit
set_option maxRecDepth 100000
set_option maxHeartbeats 2000000
@[go_sem ↓] theorem bwMsg (dst : Option Tmp) (ps : Array (Nat × Operand)) (t : TypeId) (pos : String) (af : Array Edge) (g : Option (Nat × Bool)) (a : Act) (w : World) (K : Act → World → Prop) (Q : Exit → Act → World → Prop) :
    Oper.wp Try.prog ⟨dst, .build 33 ps, t, pos, af, g⟩ a w K Q = bldTo (wpHid Try.prog ⟨dst, .build 33 ps, t, pos, af, g⟩ a w K Q) (fun c => K (a.put dst (.agg c)) w) (Try.prog.built 33 (ps.toList.map fun x => (x.1, a.eval x.2))) :=
  wp_build_bk 33 dst ps t pos af g a w K Q
@[go_sem ↓] theorem bqMsg (dst : Option Tmp) (ps : Array (Nat × Operand)) (t : TypeId) (pos : String) (af : Array Edge) (g : Option (Nat × Bool)) (a : Act) (m : Nat) (W : World) (K : Act → Prop) :
    Oper.quiet Try.prog ⟨dst, .build 33 ps, t, pos, af, g⟩ a (fun w' => ∃ x : Later m W, w' = x.w) K = bldTo (quietHid0 Try.prog ⟨dst, .build 33 ps, t, pos, af, g⟩ a (fun w' => ∃ x : Later m W, w' = x.w) K) (fun c => K (a.put dst (.agg c))) (Try.prog.built 33 (ps.toList.map fun x => (x.1, a.eval x.2))) :=
  quiet_build_bk 33 dst ps t pos af g a _ ⟨W, ⟨W, Below.refl _ _⟩, rfl⟩ K
@[go_sem ↓] theorem bwGtt (dst : Option Tmp) (ps : Array (Nat × Operand)) (t : TypeId) (pos : String) (af : Array Edge) (g : Option (Nat × Bool)) (a : Act) (w : World) (K : Act → World → Prop) (Q : Exit → Act → World → Prop) :
    Oper.wp Try.prog ⟨dst, .build 84 ps, t, pos, af, g⟩ a w K Q = bldTo (wpHid Try.prog ⟨dst, .build 84 ps, t, pos, af, g⟩ a w K Q) (fun c => K (a.put dst (.agg c)) w) (Try.prog.built 84 (ps.toList.map fun x => (x.1, a.eval x.2))) :=
  wp_build_bk 84 dst ps t pos af g a w K Q
@[go_sem ↓] theorem bqGtt (dst : Option Tmp) (ps : Array (Nat × Operand)) (t : TypeId) (pos : String) (af : Array Edge) (g : Option (Nat × Bool)) (a : Act) (m : Nat) (W : World) (K : Act → Prop) :
    Oper.quiet Try.prog ⟨dst, .build 84 ps, t, pos, af, g⟩ a (fun w' => ∃ x : Later m W, w' = x.w) K = bldTo (quietHid0 Try.prog ⟨dst, .build 84 ps, t, pos, af, g⟩ a (fun w' => ∃ x : Later m W, w' = x.w) K) (fun c => K (a.put dst (.agg c))) (Try.prog.built 84 (ps.toList.map fun x => (x.1, a.eval x.2))) :=
  quiet_build_bk 84 dst ps t pos af g a _ ⟨W, ⟨W, Below.refl _ _⟩, rfl⟩ K
@[go_sem] theorem builtMsg_0 : Try.prog.built 33 [] = some (mC (mZ 0 0)) := by kernel_rfl
@[go_sem] theorem builtMsg_2 (k c : UInt8) : Try.prog.built 33 [(0, .int .u8 (k.toNat : Int)), (1, .int .u8 (c.toNat : Int))] = some (mC (mZ k c)) := by kernel_rfl
@[go_sem] theorem builtGtt_1 (p : Option Addr) : Try.prog.built 84 [(0, .pointer p)] = some #[.pointer p, .int .i64 0] := by kernel_rfl
theorem parts_get (gg gc gb gm : Nat) (k c : UInt8) (L : List UInt8) (st : GS) (w : World) (h : GU w gg gc gb L st) (hx : Bx w gg gc gb gm 0 (mC (mZ k c)) 33) (hL : L.length < 2 ^ 40) (hk : isK k = true) :
    Calls Try.prog 31 #[sideG gg, .pointer (some ⟨gm, 0, none⟩)] w fun e w' => e = .returned (.bool true) ∧ GotP w w' gg gc gb gm L st (mZ k c) := by
  simp only [isK, Bool.or_eq_true, beq_iff_eq] at hk
  rcases hk with (((((((((((rfl | rfl) | rfl) | rfl) | rfl) | rfl) | rfl) | rfl) | rfl) | rfl) | rfl) | rfl) | rfl
  · exact p1_get gg gc gb gm c L st w h hx hL
  · exact p2_get gg gc gb gm c L st w h hx hL
  · exact p3_get gg gc gb gm c L st w h hx hL
  · exact p4_get gg gc gb gm c L st w h hx hL
  · exact p128_get gg gc gb gm c L st w h hx hL
  · exact p129_get gg gc gb gm c L st w h hx hL
  · exact p130_get gg gc gb gm c L st w h hx
  · exact p143_get gg gc gb gm c L st w h hx
  · exact p134_get gg gc gb gm c L st w h hx hL
  · exact p133_get gg gc gb gm c L st w h hx hL
  · exact p135_get gg gc gb gm c L st w h hx hL
  · exact p136_get gg gc gb gm c L st w h hx hL
  · exact p137_get gg gc gb gm c L st w h hx hL
/-- What Get hands back. -/
def GetM (src dst b : List UInt8) (n : Nat) (e : Ending) (w' : World) : Prop :=
  if b.length < 4 then e = .returned (.tuple #[.agg (mC (mZ 0 0)), .int .i64 5])
  else if sumOf (ovr src dst 58 b) ≠ 0 then e = .returned (.tuple #[.agg (mC (mZ 0 0)), .int .i64 6])
  else if isK (b.headD 0) = false then e = .returned (.tuple #[.agg (mC (mZ 0 0)), .int .i64 9])
  else ∃ st' m', PartG (b.drop 4) (.ok 0) (mZ (b.headD 0) (b.getD 1 0)).pl m'.pl st' ∧
    ((st'.err ≠ 0 ∧ e = .returned (.tuple #[.agg (mC (mZ 0 0)), .int .i64 ((st'.err : Nat) : Int)])) ∨
     (∃ q gb, st' = .ok q ∧ e = .returned (.tuple #[.agg (mC m'), .int .i64 0]) ∧ MvOk w' w'.heap.size m' ∧ Fr w' n gb m' ∧ (4 < b.length → n ≤ gb)))
theorem below_row {w w' : World} {g : Nat} (h : Below w.heap.size w w') (hg : w.heap.size ≤ g) (c : Array Value) : Below w.heap.size w (w'.setRow g c) := ((Tn.of (F := fun _ => False) h).setRow (.inr hg)).below (fun _ e => e.elim) (Nat.le_refl _)
theorem MvOk.keepT {F : Nat → Prop} {n gb : Nat} {m : Mv} {w w' : World} (h : MvOk w w.heap.size m) (f : Fr w n gb m) (t : Tn F w w') (hF : ∀ k, F k → k < n ∧ k ≠ gb) : MvOk w' w'.heap.size m := by
  refine ⟨?_, h.dn, h.dl, h.dc, ?_, h.ol, h.oc, ?_, h.s16, h.sl, h.sc, ?_, fun r hr => ⟨?_, (h.rss r hr).2⟩, h.rl, h.rc, h.b1, h.b2, h.b3, h.b4, h.b5⟩
  · by_cases hd : m.dd = []
    · rw [hd]; exact Rd.nil
    · obtain ⟨o, e⟩ := f.d hd
      have := h.d
      rw [e] at this ⊢
      exact this.keepT t (fun e => (hF _ e).2 rfl)
  · obtain ⟨g, q, h1, h2, h3, _⟩ := f.os
    exact h.os.keepT t (fun a e k => by have := h3 a e; have := (hF _ k).1; omega) h2 (fun e k => by have := h1 e; have := (hF _ k).1; omega)
  · by_cases hd : m.ss = []
    · rw [hd]; exact Rws.nil
    · obtain ⟨g, e, hg, _⟩ := f.ss hd
      exact h.ss.keepT t (fun a e' k => by rw [e] at e'; cases e'; have := (hF _ k).1; simp at this; omega)
  · exact h.rs.keepT t (fun a e k => by have := f.ro a e; have := (hF _ k).1; omega)
  · obtain ⟨i, hi, rfl⟩ := List.mem_iff_getElem.1 hr
    obtain ⟨g, e, hg, _⟩ := f.rs i hi
    exact (h.rss _ hr).1.keepT t (fun a e' k => by rw [e] at e'; cases e'; have := (hF _ k).1; simp at this; omega)
theorem Fr.mono {w : World} {n k gb : Nat} {m : Mv} (f : Fr w n gb m) (h : k ≤ n) : Fr w k gb m := by
  refine ⟨f.d, f.dc, ?_, f.oc, fun e => ?_, f.sc, fun i hi => ?_, f.ra, fun a e => Nat.le_trans h (f.ro a e), f.rc, f.ud⟩
  · obtain ⟨g, q, h1, h2, h3, h4⟩ := f.os
    exact ⟨g, q, fun e => Nat.le_trans h (h1 e), h2, fun a e => Nat.le_trans h (h3 a e), h4⟩
  · obtain ⟨g, e1, e2, e4⟩ := f.ss e
    exact ⟨g, e1, Nat.le_trans h e2, e4⟩
  · obtain ⟨g, e1, e2, e3, e4⟩ := f.rs i hi
    exact ⟨g, e1, Nat.le_trans h e2, e3, e4⟩
theorem Fr.keepT {F : Nat → Prop} {w w' : World} {n gb : Nat} {m : Mv} (f : Fr w n gb m) (t : Tn F w w') (hF : ∀ k, F k → k < n ∧ k ≠ gb) : Fr w' n gb m := by
  refine ⟨f.d, f.dc, ?_, f.oc, fun e => ?_, f.sc, fun i hi => ?_, f.ra, f.ro, f.rc, fun e => ?_⟩
  · obtain ⟨g, q, h1, h2, h3, h4⟩ := f.os
    exact ⟨g, q, h1, h2, h3, fun e => by obtain ⟨cur, hb⟩ := h4 e; exact ⟨cur, t.keep (fun k => by have := h1 e; have := (hF _ k).1; omega) hb⟩⟩
  · obtain ⟨g, e1, e2, cur, hb⟩ := f.ss e
    exact ⟨g, e1, e2, cur, t.keep (fun k => by have := (hF _ k).1; omega) hb⟩
  · obtain ⟨g, e1, e2, e3, cur, hb⟩ := f.rs i hi
    exact ⟨g, e1, e2, e3, cur, t.keep (fun k => by have := (hF _ k).1; omega) hb⟩
  · obtain ⟨cur, hb⟩ := f.ud e
    exact ⟨cur, t.keep (fun k => (hF _ k).2 rfl) hb⟩
theorem GS.err0 {st : GS} (h : st.err = 0) : ∃ q, st = .ok q := by
  cases st with
  | ok q => exact ⟨q, rfl⟩
  | short => simp [GS.err] at h
  | form => simp [GS.err] at h
theorem get_done {w w8 : World} {src dst l : List UInt8} {k0 k1 : UInt8} {n7 gb s2 : Nat} {st' : GS} {m' : Mv} (h4 : ¬ l.length < 4) (hS : sumOf (ovr src dst 58 l) = 0) (h0 : l.headD 0 = k0) (h1 : l.getD 1 0 = k1) (hk : isK k0 = true) (hp : PartG (l.drop 4) (.ok 0) (mZ k0 k1).pl m'.pl st') (hn : w.heap.size ≤ n7) (hb : Below w.heap.size w w8) (hs2 : w.heap.size ≤ s2 ∧ s2 < n7 ∧ s2 ≠ gb) (hgb : 4 < l.length → w.heap.size ≤ gb) :
    (st'.err ≠ 0 → ∀ W, Below w.heap.size w W → GetM src dst l w.heap.size (.returned (.tuple #[.agg (mC (mZ 0 0)), .int .i64 ((st'.err : Nat) : Int)])) W ∧ Below w.heap.size w W) ∧
    (∀ q, st' = .ok q → MvOk w8 w8.heap.size m' → Fr w8 n7 gb m' → ∀ c, GetM src dst l w.heap.size (.returned (.tuple #[.agg (mC m'), .int .i64 0])) (w8.setRow s2 c) ∧ Below w.heap.size w (w8.setRow s2 c)) := by
  have e : ∀ (e : Ending) (W : World), (∃ st' m', PartG (l.drop 4) (.ok 0) (mZ (l.headD 0) (l.getD 1 0)).pl m'.pl st' ∧
    ((st'.err ≠ 0 ∧ e = .returned (.tuple #[.agg (mC (mZ 0 0)), .int .i64 ((st'.err : Nat) : Int)])) ∨
     (∃ q gb, st' = .ok q ∧ e = .returned (.tuple #[.agg (mC m'), .int .i64 0]) ∧ MvOk W W.heap.size m' ∧ Fr W w.heap.size gb m' ∧ (4 < l.length → w.heap.size ≤ gb)))) → GetM src dst l w.heap.size e W := fun e W h => by
    unfold GetM
    rw [if_neg h4, if_neg (by rw [hS]; simp), if_neg (by rw [h0, hk]; simp)]
    exact h
  refine ⟨fun he W hW => ⟨e _ _ ⟨st', m', by rw [h0, h1]; exact hp, .inl ⟨he, rfl⟩⟩, hW⟩, fun q hq hm hf c => ⟨e _ _ ⟨st', m', by rw [h0, h1]; exact hp, .inr ⟨q, gb, hq, rfl, ?_, (hf.keepT (F := fun k => k = s2) ((Tn.refl _ _).setRow (.inl rfl)) fun k e => by subst e; exact ⟨hs2.2.1, hs2.2.2⟩).mono hn, hgb⟩⟩, ?_⟩⟩
  · exact hm.keepT hf (F := fun k => k = s2) ((Tn.refl _ _).setRow (.inl rfl)) fun k e => by subst e; exact ⟨hs2.2.1, hs2.2.2⟩
  · exact ((Tn.of (F := fun _ => False) hb).setRow (.inr hs2.1)).below (fun k e => e.elim) (Nat.le_refl _)
theorem getm_any (src dst : List UInt8) (h1 : src.length = 16) (h2 : dst.length = 16) (A : Option Addr) (l : List UInt8) (c : Nat) (w : World) (h : Rd w w.heap.size A l) (hA : A = none → l = [] ∧ c = 0) (hc : l.length ≤ c) (hl : l.length < 2 ^ 32) (h0 : 0 < w.heap.size) :
    Calls Try.prog 19 #[av src, av dst, .slice A l.length c] w fun e w' => GetM src dst l w.heap.size e w' ∧ Below w.heap.size w w' := by
  have H := Lib.hid h; have HA := Lib.hid hA; have HL := Lib.hid hl
  have z1 := h1; have z2 := h2
  clear h hA hl
  go_enter Try.func19, Try.ntmps19
  go_upto_region 1 with fail
  generalize hW3 : World.alloc (World.alloc (World.alloc w _) _) _ = W3
  have b3 : Below w.heap.size w W3 := by rw [← hW3]; exact (by (repeat (first | exact Below.refl _ _ | assumption | refine Below.drew ?_ | refine bdrewN ?_ _ | refine Below.alloc ?_ (by first | omega | (simp <;> omega) | (simp only [World.size_alloc] <;> omega)) _ | refine below_setRow ?_ (by first | omega | (simp <;> omega)) _ | refine Below.setCell ?_ (by first | omega | (simp <;> omega)) _)))
  obtain ⟨s, hs⟩ : ∃ s, s = w.heap.size := ⟨_, rfl⟩
  have ks : bk W3 s = some (.cells (src.map B).toArray 23 (0, 0)) := by rw [← hW3, hs, bk_alloc_past _ _ _ (by simp <;> omega), bk_alloc_past _ _ _ (by simp)]; exact bk_alloc_at _ _ _ rfl
  have kd : bk W3 (s + 1) = some (.cells (dst.map B).toArray 23 (0, 0)) := by rw [← hW3, hs, bk_alloc_past _ _ _ (by simp)]; exact bk_alloc_at _ _ _ (by simp)
  have km : bk W3 (s + 1 + 1) = some (.cells (mC (mZ 0 0)) 33 (0, 0)) := by rw [← hW3, hs]; exact (bk_alloc_at _ _ _ (by simp)).trans (by kernel_rfl)
  rw [← hs]
  have B3 := Lib.hid b3; have HS := Lib.hid hs
  clear b3 hs hW3
  have KS := Lib.hid ks; have KD := Lib.hid kd; have KM := Lib.hid km
  have l1 := bk_lt ks; have l2 := bk_lt kd; have l3 := bk_lt km
  by_cases h4 : l.length < 4
  · have d1 : decide ((l.length : Int) < 4) = true := by simp; omega
    have FX : Hid (∀ W, Below w.heap.size w W → GetM src dst l w.heap.size (.returned (.tuple #[.agg (mC (mZ 0 0)), .int .i64 5])) W ∧ Below w.heap.size w W) := Lib.hid fun W hW => ⟨by unfold GetM; rw [if_pos h4], hW⟩
    clear h4
    go_wp2_with fail
    refine ret_two (cs := mC (mZ 0 0)) rfl rfl rfl rfl (by rw [bk_setRow_same, KM.out]; rfl) Try.underlying33 rfl (by rw [mC_size]; kernel_rfl) ?_
    exact FX.out _ (below_row B3.out (by have := HS.out; omega) _)
  · have d1 : decide ((l.length : Int) < 4) = false := by simp; omega
    obtain ⟨SM, hSM⟩ : ∃ S, S = sumOf (ovr src dst 58 l) := ⟨_, rfl⟩
    have CG := Lib.hid (good_any src dst 58 A l c W3 h1 h2 ((H.out.below B3.out (Nat.le_refl _)).mono B3.out.size) HL.out)
    rw [← hSM] at CG
    have HSM := Lib.hid hSM
    have H4 := Lib.hid h4
    clear hSM h4
    go_wp2_with fail
    refine CG.out.mono ?_
    rintro e w4 ⟨rfl, b4⟩
    have B4 := Lib.hid b4
    have km4 := bk_keep b4 l3 km
    have KM4 := Lib.hid km4
    have F4 := Lib.hid (B3.out.trans (b4.mono B3.out.size))
    have lm4 := bk_lt km4
    clear ks kd km l1 l2 l3 b4 CG
    by_cases h0s : SM = 0
    · have d2 : decide (SM = 0) = true := by simp [h0s]
      rw [d2]
      have hSMz : sumOf (ovr src dst 58 l) = 0 := by rw [← HSM.out]; exact h0s
      have h4' := H4.out
      obtain ⟨b, o, rfl, hbn, hcell⟩ : ∃ b o, A = some ⟨b, o, none⟩ ∧ b < w4.heap.size ∧ ∀ j (h : j < l.length), w4.cell? ⟨b, o + j, none⟩ = some (B l[j]) := by
        obtain ⟨b, o, e, hb, hc'⟩ := (H.out.below F4.out (Nat.le_refl _)).mono F4.out.size (by omega)
        exact ⟨b, o, e, hb, hc'⟩
      obtain ⟨k0, hk0⟩ : ∃ k, k = l[0]'(by omega) := ⟨_, rfl⟩
      obtain ⟨k1, hk1⟩ : ∃ k, k = l[1]'(by omega) := ⟨_, rfl⟩
      have g0 : w4.cell? ⟨b, o, none⟩ = some (.int .u8 (k0.toNat : Int)) := by rw [hk0]; exact hcell 0 (by omega)
      have g1 : w4.cell? ⟨b, o + 1, none⟩ = some (.int .u8 (k1.toNat : Int)) := by rw [hk1]; exact hcell 1 (by omega)
      have i0 : decide ((0 : Int) < (l.length : Int)) = true := by simp; omega
      have i1 : decide ((1 : Int) < (l.length : Int)) = true := by simp; omega
      have HK := Lib.hid (And.intro hk0 (And.intro hk1 hSMz))
      clear hk0 hk1 hcell h0s d2 hSMz
      go_upto_region 5 with fail
      go_region
      generalize hW5 : World.drew (World.alloc w4 _) = W5
      have b5 : Below w4.heap.size w4 W5 := by rw [← hW5]; exact (by (repeat (first | exact Below.refl _ _ | assumption | refine Below.drew ?_ | refine bdrewN ?_ _ | refine Below.alloc ?_ (by first | omega | (simp <;> omega) | (simp only [World.size_alloc] <;> omega)) _ | refine below_setRow ?_ (by first | omega | (simp <;> omega)) _ | refine Below.setCell ?_ (by first | omega | (simp <;> omega)) _)))
      have kgm : bk W5 w4.heap.size = some (.cells (mC (mZ k0 k1)) 33 (0, 0)) := by rw [← hW5, bk_drew]; exact (bk_alloc_at _ _ _ rfl).trans (by kernel_rfl)
      have KGM := Lib.hid kgm; have B5 := Lib.hid b5
      have F5 := Lib.hid (F4.out.trans (b5.mono F4.out.size))
      have CO : Hid (∀ A' c', A' ≠ none → c' = c - 4 → (l.drop 4 ≠ [] → A' = some ⟨b, o + 4, none⟩) → Calls Try.prog 44 #[.slice A' (l.length - 4) c'] W5 fun e w' => ∃ g gb, e = .returned (.pointer (some ⟨g, 0, none⟩)) ∧ W5.heap.size ≤ g ∧ gb < g ∧ (4 < l.length → W5.heap.size ≤ gb) ∧ PK w' g gb (l.drop 4) (some 0) ∧ PB w' gb (l.drop 4) ∧ Below W5.heap.size W5 w' ∧ gb ≠ w4.heap.size ∧ gb ≠ s + 1 + 1) := Lib.hid fun A' c' hn hc' hA' => by
        subst hc'
        have hr := (H.out.below F5.out (Nat.le_refl _)).mono F5.out.size
        have hlen : (l.drop 4).length = l.length - 4 := List.length_drop
        have hrd : Rd W5 W5.heap.size A' (l.drop 4) := fun hpos => by
          have hne : l.drop 4 ≠ [] := fun e => by rw [e] at hpos; simp at hpos
          rw [hA' hne]
          obtain ⟨b', o', e, hb, hcc⟩ := hr (by omega)
          cases e
          exact ⟨b, o + 4, rfl, hb, fun j hj => by rw [List.getElem_drop]; have := hcc (4 + j) (by omega); rw [Nat.add_assoc]; exact this⟩
        have hsz := F5.out.size
        have hof := of_PK A' (l.drop 4) (c - 4) W5 hrd (fun e => absurd e hn) (by rw [hlen]; have := HL.out; omega) 0 (by omega)
        rw [hlen] at hof
        refine hof.mono ?_
        rintro e w' ⟨g, gb, rfl, q1, q2, q3, q4, q5, q6, q7⟩
        by_cases h44 : 4 < l.length
        · exact ⟨g, gb, rfl, q1, q3, fun _ => q4 (by omega), q5, q6, q7, by have := q4 (by omega); have := bk_lt KGM.out; omega, by have := q4 (by omega); have := bk_lt KGM.out; omega⟩
        · have hl0 : l.drop 4 = [] := List.drop_of_length_le (by omega)
          rw [hl0] at q5 q6 ⊢
          obtain ⟨p1, A2, c2, p2, p3, _⟩ := q5
          exact ⟨g, 0, rfl, q1, by omega, fun e => absurd e h44, ⟨p1, A2, c2, p2, p3, fun e => absurd e (by simp)⟩, fun e => absurd e (by simp), q7, by have := F4.out.size; omega, by omega⟩
      have hcl : (4 : Int) ≤ (l.length : Int) := by omega
      have hlc : (l.length : Int) ≤ (c : Int) := by omega
      clear b5 kgm hW5 g0 g1 i0 i1
      go_upto_region 6 with fail
      go_wp2_with fail
      · refine (CO.out (some ⟨b, o, none⟩) 0 (fun e => by cases e) (by omega) (fun e => absurd (List.drop_of_length_le (by omega)) e)).mono ?_
        rintro e w6 ⟨g, gb, rfl, hg, hgb, hgb2, hpk, hpb, b6, hne, hne2⟩
        have hgl : g < w6.heap.size := by obtain ⟨cs, hb⟩ := hpk.obj; exact bk_lt hb
        have F6 := Lib.hid (F5.out.trans (b6.mono F5.out.size))
        have kgm6 := bk_keep b6 (bk_lt KGM.out) KGM.out
        have km6 := bk_keep b6 (Nat.lt_of_lt_of_le lm4 B5.out.size) (bk_keep B5.out lm4 KM4.out)
        have hz6 : W5.heap.size ≤ w6.heap.size := b6.size
        have hz5 := B5.out.size
        have hlt5 := bk_lt KGM.out
        clear CO
        go_upto_region 7 with fail
        generalize hW7 : World.alloc w6 _ = W7
        have b7 : Below w6.heap.size w6 W7 := by rw [← hW7]; exact (by (repeat (first | exact Below.refl _ _ | assumption | refine Below.drew ?_ | refine bdrewN ?_ _ | refine Below.alloc ?_ (by first | omega | (simp <;> omega) | (simp only [World.size_alloc] <;> omega)) _ | refine below_setRow ?_ (by first | omega | (simp <;> omega)) _ | refine Below.setCell ?_ (by first | omega | (simp <;> omega)) _)))
        have kgg : bk W7 w6.heap.size = some (.cells #[.pointer (some ⟨g, 0, none⟩), .int .i64 ((((GS.ok 0).err : Nat) : Int))] 84 (0, 0)) := by rw [← hW7]; exact bk_alloc_at _ _ _ rfl
        have hgbl : gb < w6.heap.size := by omega
        have t7 : Tn (fun _ => False) w6 W7 := Tn.of b7
        have HU : Hid (GU W7 w6.heap.size g gb (l.drop 4) (.ok 0)) := Lib.hid ⟨kgg, ⟨some 0, hpk.keepT t7 (fun e => e), fun q e => by cases e; rfl⟩, hpb.keepT t7 (fun e => e), hgb, by omega, by omega⟩
        have kgm7 := bk_keep b7 (bk_lt kgm6) kgm6
        have HB : Hid (Bx W7 w6.heap.size g gb w4.heap.size 0 (mC (mZ k0 k1)) 33) := Lib.hid ⟨kgm7, by rw [mC_size]; decide, by omega, by omega, fun e => hne e.symm⟩
        have KM7 := Lib.hid (bk_keep b7 (bk_lt km6) km6)
        have F7 := Lib.hid (F6.out.trans (b7.mono F6.out.size))
        have HLO : Hid (g ≠ s + 1 + 1 ∧ gb ≠ s + 1 + 1 ∧ w6.heap.size ≠ s + 1 + 1 ∧ w4.heap.size ≠ s + 1 + 1 ∧ s + 1 + 1 < W7.heap.size ∧ w.heap.size ≤ s + 1 + 1 ∧ w.heap.size ≤ W7.heap.size ∧ (4 < l.length → w.heap.size ≤ gb)) := Lib.hid (by
          have h1 := HS.out; have h2 := bk_lt KM7.out; have h3 := F5.out.size; have h4 := F7.out.size
          exact ⟨by omega, hne2, by omega, by omega, h2, by omega, h4, fun h => by have := hgb2 h; omega⟩)
        have HLG : Hid (w.heap.size ≤ g) := Lib.hid (by have := F5.out.size; omega)
        clear hgl kgm6 km6 hz6 hz5 hlt5 hW7 b7 kgg hgbl t7 kgm7 hg hgb hgb2 hpk hpb b6 hne hne2
        have HH : Hid (l.headD 0 = k0 ∧ l.getD 1 0 = k1) := Lib.hid (by
          have h4 := H4.out
          obtain ⟨e0, e1, _⟩ := HK.out
          rw [e0, e1]
          match l, h4 with
          | x :: y :: r, _ => exact ⟨rfl, rfl⟩
          | [x], h4 => exact absurd (by simp) h4
          | [], h4 => exact absurd (by simp) h4)
        have HL40 : Hid ((l.drop 4).length < 2 ^ 40) := Lib.hid (by rw [List.length_drop]; have := HL.out; omega)
        by_cases hkk : isK k0 = true
        · have CP := Lib.hid (parts_get w6.heap.size g gb w4.heap.size k0 k1 (l.drop 4) (.ok 0) W7 HU.out HB.out HL40.out hkk)
          have HKK := Lib.hid hkk
          clear hkk
          go_wp2_with fail
          refine CP.out.mono ?_
          rintro e w8 ⟨rfl, st', m', q1, q2, q3⟩
          have km8 := q1.tn.keep (fun e => by rcases e with (e | e) | e; exact HLO.out.2.2.1 e.symm; exact HLO.out.1 e.symm; exact HLO.out.2.2.2.1 e.symm) KM7.out
          have F8 : Hid (Below w.heap.size w w8) := Lib.hid (F7.out.trans (q1.tn.below (fun k e => by
            have h1 := F4.out.size; have h2 := F6.out.size
            rcases e with (e | e) | e
            · omega
            · rw [e]; have := HU.out.bc; have := HB.out.n2; exact HLG.out
            · omega) F7.out.size))
          have c1 : w8.cell? ⟨w6.heap.size, 1, none⟩ = some (.int .i64 ((st'.err : Nat) : Int)) := (bk_cell q1.gu.box 1).trans rfl
          have lg8 := bk_lt q1.gu.box
          have lm8 := bk_lt km8
          have kgm8 := q1.bx.kb
          have lgm8 := bk_lt kgm8
          have GD := Lib.hid (get_done (w8 := w8) H4.out HK.out.2.2 HH.out.1 HH.out.2 HKK.out q2 HLO.out.2.2.2.2.2.2.1 F8.out ⟨HLO.out.2.2.2.2.2.1, HLO.out.2.2.2.2.1, fun e => HLO.out.2.1 e.symm⟩ HLO.out.2.2.2.2.2.2.2)
          have GB8 := Lib.hid q1.gu.box
          have HQ3 := Lib.hid q3
          have KM8 := Lib.hid km8
          clear q1 q2 q3 CP
          obtain ⟨E, hE⟩ : ∃ E, E = st'.err := ⟨_, rfl⟩
          by_cases he : st'.err = 0
          · have n1 : (((st'.err : Nat) : Int) != 0) = false := by simp [he]
            obtain ⟨q, hq⟩ := GS.err0 he
            obtain ⟨r1, r2, _⟩ := HQ3.out q hq
            have FX := Lib.hid (GD.out.2 q hq r1 r2)
            clear he hq r1 r2 HQ3 GD hE
            go_wp2_with fail
            refine ret_two (cs := mC m') rfl rfl rfl rfl (by rw [bk_setRow_same, KM8.out]; rfl) Try.underlying33 rfl (by rw [mC_size]; kernel_rfl) ?_
            exact FX.out _
          · have n1 : (((st'.err : Nat) : Int) != 0) = true := by simp [he]
            have FX := Lib.hid (GD.out.1 he)
            have hn6 := HLO.out.2.2.1
            have hn7 := HLO.out.2.2.1.symm
            have cR : ∀ c, (w8.setRow (s + 1 + 1) c).cell? ⟨w6.heap.size, 1, none⟩ = some (.int .i64 ((st'.err : Nat) : Int)) := fun c => (bk_cell (show bk (w8.setRow (s + 1 + 1) c) w6.heap.size = _ from (bk_setRow_other _ _ _ _ hn6).trans GB8.out) 1).trans rfl
            clear he HQ3 GD hE
            go_upto_region 10 with fail
            go_region
            go_wp2_with fail
            refine ret_two (cs := mC (mZ 0 0)) rfl rfl rfl rfl (by rw [bk_drew, bk_setRow_same, KM8.out]; kernel_rfl) Try.underlying33 rfl (by rw [mC_size]; kernel_rfl) ?_
            exact FX.out _ (below_row F8.out HLO.out.2.2.2.2.2.1 _).drew
        · have CN := Lib.hid (parts_none w4.heap.size (sideG w6.heap.size) (mZ k0 k1) W7 HB.out.kb (by show isK k0 = false; simpa using hkk))
          have FX : Hid (∀ W, Below w.heap.size w W → GetM src dst l w.heap.size (.returned (.tuple #[.agg (mC (mZ 0 0)), .int .i64 9])) W ∧ Below w.heap.size w W) := Lib.hid fun W hW => ⟨by
            unfold GetM
            rw [if_neg H4.out, if_neg (by rw [HK.out.2.2]; simp), if_pos (by rw [HH.out.1]; simpa using hkk)], hW⟩
          have lm7 := bk_lt KM7.out
          have km7 := KM7.out
          clear hkk
          go_wp2_with fail
          refine CN.out.mono ?_
          rintro e w8 ⟨rfl, rfl⟩
          go_wp2_with fail
          refine ret_two (cs := mC (mZ 0 0)) rfl rfl rfl rfl (by rw [bk_setRow_same, KM7.out]; rfl) Try.underlying33 rfl (by rw [mC_size]; kernel_rfl) ?_
          exact FX.out _ (below_row F7.out HLO.out.2.2.2.2.2.1 _)
      · refine (CO.out (some ⟨b, o + 4, none⟩) (c - 4) (fun e => by cases e) rfl (fun _ => rfl)).mono ?_
        rintro e w6 ⟨g, gb, rfl, hg, hgb, hgb2, hpk, hpb, b6, hne, hne2⟩
        have hgl : g < w6.heap.size := by obtain ⟨cs, hb⟩ := hpk.obj; exact bk_lt hb
        have F6 := Lib.hid (F5.out.trans (b6.mono F5.out.size))
        have kgm6 := bk_keep b6 (bk_lt KGM.out) KGM.out
        have km6 := bk_keep b6 (Nat.lt_of_lt_of_le lm4 B5.out.size) (bk_keep B5.out lm4 KM4.out)
        have hz6 : W5.heap.size ≤ w6.heap.size := b6.size
        have hz5 := B5.out.size
        have hlt5 := bk_lt KGM.out
        clear CO
        go_upto_region 7 with fail
        generalize hW7 : World.alloc w6 _ = W7
        have b7 : Below w6.heap.size w6 W7 := by rw [← hW7]; exact (by (repeat (first | exact Below.refl _ _ | assumption | refine Below.drew ?_ | refine bdrewN ?_ _ | refine Below.alloc ?_ (by first | omega | (simp <;> omega) | (simp only [World.size_alloc] <;> omega)) _ | refine below_setRow ?_ (by first | omega | (simp <;> omega)) _ | refine Below.setCell ?_ (by first | omega | (simp <;> omega)) _)))
        have kgg : bk W7 w6.heap.size = some (.cells #[.pointer (some ⟨g, 0, none⟩), .int .i64 ((((GS.ok 0).err : Nat) : Int))] 84 (0, 0)) := by rw [← hW7]; exact bk_alloc_at _ _ _ rfl
        have hgbl : gb < w6.heap.size := by omega
        have t7 : Tn (fun _ => False) w6 W7 := Tn.of b7
        have HU : Hid (GU W7 w6.heap.size g gb (l.drop 4) (.ok 0)) := Lib.hid ⟨kgg, ⟨some 0, hpk.keepT t7 (fun e => e), fun q e => by cases e; rfl⟩, hpb.keepT t7 (fun e => e), hgb, by omega, by omega⟩
        have kgm7 := bk_keep b7 (bk_lt kgm6) kgm6
        have HB : Hid (Bx W7 w6.heap.size g gb w4.heap.size 0 (mC (mZ k0 k1)) 33) := Lib.hid ⟨kgm7, by rw [mC_size]; decide, by omega, by omega, fun e => hne e.symm⟩
        have KM7 := Lib.hid (bk_keep b7 (bk_lt km6) km6)
        have F7 := Lib.hid (F6.out.trans (b7.mono F6.out.size))
        have HLO : Hid (g ≠ s + 1 + 1 ∧ gb ≠ s + 1 + 1 ∧ w6.heap.size ≠ s + 1 + 1 ∧ w4.heap.size ≠ s + 1 + 1 ∧ s + 1 + 1 < W7.heap.size ∧ w.heap.size ≤ s + 1 + 1 ∧ w.heap.size ≤ W7.heap.size ∧ (4 < l.length → w.heap.size ≤ gb)) := Lib.hid (by
          have h1 := HS.out; have h2 := bk_lt KM7.out; have h3 := F5.out.size; have h4 := F7.out.size
          exact ⟨by omega, hne2, by omega, by omega, h2, by omega, h4, fun h => by have := hgb2 h; omega⟩)
        have HLG : Hid (w.heap.size ≤ g) := Lib.hid (by have := F5.out.size; omega)
        clear hgl kgm6 km6 hz6 hz5 hlt5 hW7 b7 kgg hgbl t7 kgm7 hg hgb hgb2 hpk hpb b6 hne hne2
        have HH : Hid (l.headD 0 = k0 ∧ l.getD 1 0 = k1) := Lib.hid (by
          have h4 := H4.out
          obtain ⟨e0, e1, _⟩ := HK.out
          rw [e0, e1]
          match l, h4 with
          | x :: y :: r, _ => exact ⟨rfl, rfl⟩
          | [x], h4 => exact absurd (by simp) h4
          | [], h4 => exact absurd (by simp) h4)
        have HL40 : Hid ((l.drop 4).length < 2 ^ 40) := Lib.hid (by rw [List.length_drop]; have := HL.out; omega)
        by_cases hkk : isK k0 = true
        · have CP := Lib.hid (parts_get w6.heap.size g gb w4.heap.size k0 k1 (l.drop 4) (.ok 0) W7 HU.out HB.out HL40.out hkk)
          have HKK := Lib.hid hkk
          clear hkk
          go_wp2_with fail
          refine CP.out.mono ?_
          rintro e w8 ⟨rfl, st', m', q1, q2, q3⟩
          have km8 := q1.tn.keep (fun e => by rcases e with (e | e) | e; exact HLO.out.2.2.1 e.symm; exact HLO.out.1 e.symm; exact HLO.out.2.2.2.1 e.symm) KM7.out
          have F8 : Hid (Below w.heap.size w w8) := Lib.hid (F7.out.trans (q1.tn.below (fun k e => by
            have h1 := F4.out.size; have h2 := F6.out.size
            rcases e with (e | e) | e
            · omega
            · rw [e]; have := HU.out.bc; have := HB.out.n2; exact HLG.out
            · omega) F7.out.size))
          have c1 : w8.cell? ⟨w6.heap.size, 1, none⟩ = some (.int .i64 ((st'.err : Nat) : Int)) := (bk_cell q1.gu.box 1).trans rfl
          have lg8 := bk_lt q1.gu.box
          have lm8 := bk_lt km8
          have kgm8 := q1.bx.kb
          have lgm8 := bk_lt kgm8
          have GD := Lib.hid (get_done (w8 := w8) H4.out HK.out.2.2 HH.out.1 HH.out.2 HKK.out q2 HLO.out.2.2.2.2.2.2.1 F8.out ⟨HLO.out.2.2.2.2.2.1, HLO.out.2.2.2.2.1, fun e => HLO.out.2.1 e.symm⟩ HLO.out.2.2.2.2.2.2.2)
          have GB8 := Lib.hid q1.gu.box
          have HQ3 := Lib.hid q3
          have KM8 := Lib.hid km8
          clear q1 q2 q3 CP
          obtain ⟨E, hE⟩ : ∃ E, E = st'.err := ⟨_, rfl⟩
          by_cases he : st'.err = 0
          · have n1 : (((st'.err : Nat) : Int) != 0) = false := by simp [he]
            obtain ⟨q, hq⟩ := GS.err0 he
            obtain ⟨r1, r2, _⟩ := HQ3.out q hq
            have FX := Lib.hid (GD.out.2 q hq r1 r2)
            clear he hq r1 r2 HQ3 GD hE
            go_wp2_with fail
            refine ret_two (cs := mC m') rfl rfl rfl rfl (by rw [bk_setRow_same, KM8.out]; rfl) Try.underlying33 rfl (by rw [mC_size]; kernel_rfl) ?_
            exact FX.out _
          · have n1 : (((st'.err : Nat) : Int) != 0) = true := by simp [he]
            have FX := Lib.hid (GD.out.1 he)
            have hn6 := HLO.out.2.2.1
            have hn7 := HLO.out.2.2.1.symm
            have cR : ∀ c, (w8.setRow (s + 1 + 1) c).cell? ⟨w6.heap.size, 1, none⟩ = some (.int .i64 ((st'.err : Nat) : Int)) := fun c => (bk_cell (show bk (w8.setRow (s + 1 + 1) c) w6.heap.size = _ from (bk_setRow_other _ _ _ _ hn6).trans GB8.out) 1).trans rfl
            clear he HQ3 GD hE
            go_upto_region 10 with fail
            go_region
            go_wp2_with fail
            refine ret_two (cs := mC (mZ 0 0)) rfl rfl rfl rfl (by rw [bk_drew, bk_setRow_same, KM8.out]; kernel_rfl) Try.underlying33 rfl (by rw [mC_size]; kernel_rfl) ?_
            exact FX.out _ (below_row F8.out HLO.out.2.2.2.2.2.1 _).drew
        · have CN := Lib.hid (parts_none w4.heap.size (sideG w6.heap.size) (mZ k0 k1) W7 HB.out.kb (by show isK k0 = false; simpa using hkk))
          have FX : Hid (∀ W, Below w.heap.size w W → GetM src dst l w.heap.size (.returned (.tuple #[.agg (mC (mZ 0 0)), .int .i64 9])) W ∧ Below w.heap.size w W) := Lib.hid fun W hW => ⟨by
            unfold GetM
            rw [if_neg H4.out, if_neg (by rw [HK.out.2.2]; simp), if_pos (by rw [HH.out.1]; simpa using hkk)], hW⟩
          have lm7 := bk_lt KM7.out
          have km7 := KM7.out
          clear hkk
          go_wp2_with fail
          refine CN.out.mono ?_
          rintro e w8 ⟨rfl, rfl⟩
          go_wp2_with fail
          refine ret_two (cs := mC (mZ 0 0)) rfl rfl rfl rfl (by rw [bk_setRow_same, KM7.out]; rfl) Try.underlying33 rfl (by rw [mC_size]; kernel_rfl) ?_
          exact FX.out _ (below_row F7.out HLO.out.2.2.2.2.2.1 _)
    · have d2 : decide (SM = 0) = false := by simp [h0s]
      rw [d2]
      have FX : Hid (∀ W, Below w.heap.size w W → GetM src dst l w.heap.size (.returned (.tuple #[.agg (mC (mZ 0 0)), .int .i64 6])) W ∧ Below w.heap.size w W) := Lib.hid fun W hW => ⟨by unfold GetM; rw [if_neg H4.out, ← HSM.out, if_pos h0s], hW⟩
      clear h0s
      go_wp2_with fail
      refine ret_two (cs := mC (mZ 0 0)) rfl rfl rfl rfl (by rw [bk_setRow_same, KM4.out]; rfl) Try.underlying33 rfl (by rw [mC_size]; kernel_rfl) ?_
      exact FX.out _ (below_row F4.out (by have := HS.out; omega) _)
end Go.Proofs.Ytjimmfbjhkoekaa
