import Derived.Test.YtjimmfbjhkoekaaMhL
/- Icmps, the document: Get, of a kind: reports. -/
namespace Go.Proofs.Ytjimmfbjhkoekaa
open Go.RowKit
set_option maxRecDepth 100000
set_option maxHeartbeats 2000000
def zeroR : Array Value := #[.int .u8 0, .int .u8 0, .int .u8 0, .int .u8 0, .int .u8 0, .int .u8 0, .int .u8 0, .int .u8 0, .int .u8 0, .int .u8 0, .int .u8 0, .int .u8 0, .int .u8 0, .int .u8 0, .int .u8 0, .int .u8 0, .int .u8 0, .slice none 0 0]
theorem fold_rec (c : Array Value) (h : c.size = 18) : Array.foldl (fun cs x => cs.setIfInBounds x.snd x.fst) (#[.int .u8 0, .int .u8 0, .int .u8 0, .int .u8 0, .int .u8 0, .int .u8 0, .int .u8 0, .int .u8 0, .int .u8 0, .int .u8 0, .int .u8 0, .int .u8 0, .int .u8 0, .int .u8 0, .int .u8 0, .int .u8 0, .int .u8 0, .slice none 0 0] : Array Value) c.zipIdx 0 18 = c := by
  have e := fill_all (fun k => some (k * 18, 18)) [.agg c] 0 0 zeroR (by simp [placesOk, Value.cells, h]) (by simp [widths, Value.cells, h, zeroR])
  simp [widths, Value.cells, h, partsAt, Instr.fill, zeroR] at e
  simpa using e
theorem appR : App1 31 57 (.agg zeroR) 18 48 := ⟨Try.underlying31, by kernel_rfl, rfl, by decide, by decide⟩
theorem row_oneR (r : Rv) : ∀ u ∈ r.row.toList, u.oneCell' = true := fun u hu => by
  unfold Rv.row at hu
  simp only [List.mem_cons, List.mem_append, List.mem_map, List.not_mem_nil, or_false] at hu
  rcases hu with rfl | ⟨x, _, rfl⟩ | rfl <;> rfl
theorem OA.mono {w : World} {n m c : Nat} {A : Option Addr} {zs : List (List UInt8)} (h : OA w n A c zs) (hm : m ≤ n) : OA w m A c zs := by
  refine ⟨h.1, ?_⟩
  rcases h.2 with h2 | ⟨g', cap, cur, e1, e2, e3⟩
  · exact .inl h2
  · exact .inr ⟨g', cap, cur, e1, by omega, e3⟩
theorem recsS_add (L : List UInt8) : ∀ (i j : Nat) (s : GS), recsS L (i + j) s = recsS L j (recsS L i s)
  | 0, j, s => by rw [Nat.zero_add]; rfl
  | i + 1, j, s => by
    rw [show i + 1 + j = (i + j) + 1 by omega]
    show recsS L (i + j) (recS L s) = recsS L j (recsS L i (recS L s))
    exact recsS_add L i j (recS L s)
theorem recsS_succ (L : List UInt8) (i : Nat) (s : GS) : recsS L (i + 1) s = recS L (recsS L i s) := recsS_add L i 1 s
theorem recS_ok {L : List UInt8} {p q : Nat} (h : recS L (.ok p) = .ok q) : q = p + 4 + recL L p := by
  have h2 : (((GS.ok p).adv L 2).cnt L).adv L (recL L p) = .ok q := h
  obtain ⟨p3, g1, g2, g3⟩ := adv_ok h2
  obtain ⟨p2, e1, e2, e3, e4⟩ := cnt_ok g1
  obtain ⟨p1, f1, f2, f3⟩ := adv_ok e1
  cases f1
  omega
theorem recsV_snoc (L : List UInt8) : ∀ (n p q : Nat), recsS L n (.ok p) = .ok q → recsV L (n + 1) p = recsV L n p ++ [recV L q]
  | 0, p, q, h => by cases h; rfl
  | n + 1, p, q, h => by
    have h' : recsS L n (recS L (.ok p)) = .ok q := h
    have hx : ∃ p', recS L (.ok p) = .ok p' := by
      cases e : recS L (.ok p) with
      | ok p' => exact ⟨p', rfl⟩
      | short => rw [e, recsS_err n (fun q e => by cases e)] at h'; cases h'
      | form => rw [e, recsS_err n (fun q e => by cases e)] at h'; cases h'
    obtain ⟨p', hp'⟩ := hx
    rw [hp'] at h'
    have e2 := recS_ok hp'
    show recV L p :: recsV L (n + 1) (p + 4 + recL L p) = (recV L p :: recsV L n (p + 4 + recL L p)) ++ [recV L q]
    rw [← e2, recsV_snoc L n p' q h']
    rfl
theorem part143 {L : List UInt8} {N i : Nat} {c : UInt8} {rl : List Rc} {s2 : GS} (hs2 : s2 = (GS.cnt L (GS.adv L 2 (.ok 0)))) (hN : ∀ q, (GS.ok 0).adv L 2 = .ok q → q + 2 ≤ L.length → N = numV L q 2) (hi : i ≤ N) (he : i = N ∨ ∀ q, recsS L i s2 ≠ .ok q) (hr : ∀ q, recsS L i s2 = .ok q → ∃ p, s2 = .ok p ∧ rl = recsV L i p) :
    recsS L i s2 = getS 143 L ∧ ∀ q, recsS L i s2 = .ok q → ({ (mZ 143 c).pl with recs := rl } : Msg) = getV 143 c L := by
  have eS : getS 143 L = recsS L (numV L 2 2) s2 := by rw [hs2]; rfl
  have eV : getV 143 c L = { (mZ 143 c).pl with recs := recsV L (numV L 2 2) 4 } := rfl
  have eN : recsS L i s2 = recsS L N s2 := by
    rcases he with he | he
    · rw [he]
    · rw [show N = i + (N - i) by omega, recsS_add, recsS_err _ he]
  rw [eS, eV]
  by_cases hc : ∃ q, s2 = .ok q
  · obtain ⟨q, hc⟩ := hc
    obtain ⟨p2, e1, e2, e3, e4⟩ := cnt_ok (hs2.symm.trans hc)
    obtain ⟨p1, f1, f2, f3⟩ := adv_ok e1
    cases f1
    have e5 : p2 = 2 := by omega
    subst e5
    have hN' : N = numV L 2 2 := hN _ e1 (by omega)
    refine ⟨by rw [eN, hN'], fun q' hq' => ?_⟩
    obtain ⟨p, h1, h2⟩ := hr q' hq'
    rw [hc] at h1
    cases h1
    rcases he with he | he
    · rw [h2, he, hN', e2]
    · exact absurd hq' (he q')
  · have hn : ∀ q, s2 ≠ .ok q := fun q hq => hc ⟨q, hq⟩
    rw [recsS_err _ hn, recsS_err _ hn]
    exact ⟨rfl, fun q hq => absurd hq (hn q)⟩
/-- What the loop holds. -/
structure RL (w wr : World) (s gm gt n0 i c : Nat) (L : List UInt8) (k1 : UInt8) (s2 : GS) (A : Option Addr) (rl : List Rv) : Prop where
  rm : RM true w wr s gm gt L { mZ 143 k1 with RA := A, rs := rl, rc := c } (recsS L i s2)
  or' : OR wr n0 A c rl
  ln : rl.length = i
  vf : ∀ q, recsS L i s2 = .ok q → ∃ p, s2 = .ok p ∧ rl.map Rv.pl = recsV L i p
  hn : gt < n0
  hw : n0 ≤ wr.heap.size
theorem RL.done {w wr : World} {s gm gt n0 i c N : Nat} {L : List UInt8} {k1 : UInt8} {s2 : GS} {A : Option Addr} {rl : List Rv} (h : RL w wr s gm gt n0 i c L k1 s2 A rl) (hs2 : s2 = (GS.cnt L (GS.adv L 2 (.ok 0)))) (hN : ∀ q, (GS.ok 0).adv L 2 = .ok q → q + 2 ≤ L.length → N = numV L q 2) (hi : i ≤ N) (he : i = N ∨ ∀ q, recsS L i s2 ≠ .ok q) :
    (recsS L i s2 = getS 143 L ∧ ∀ q, recsS L i s2 = .ok q → (Mv.pl { mZ 143 k1 with RA := A, rs := rl, rc := c }) = getV 143 k1 L) ∧ ∀ c', OR (wr.setRow s c') n0 A c rl := by
  refine ⟨part143 hs2 hN hi he h.vf, fun c' => h.or'.turnBelow (F := fun k => k = s) ((Tn.refl _ _).setRow (.inl rfl)) fun k e => ?_⟩
  have := h.rm.lo; have := h.hn; omega
theorem rget143 (src dst : List UInt8) (h1 : src.length = 16) (h2 : dst.length = 16) (A : Option Addr) (l : List UInt8) (c : Nat) (w : World) (h : Rd w w.heap.size A l) (hA : A = none → l = [] ∧ c = 0) (hc : l.length ≤ c) (hl : l.length < 2 ^ 32) (h4 : ¬ l.length < 4) (hsm : sumOf (ovr src dst 58 l) = 0) (hk : l.headD 0 = 143) :
    Calls Try.prog 20 #[av src, av dst, .slice A l.length c] w fun e w' => RGet 143 (l.getD 1 0) (l.drop 4) w e w' := by
  have hd : ∃ k1 r, l = 143 :: k1 :: r := by
    match l, h4, hk with
    | x :: y :: r, _, hk => exact ⟨y, r, by rw [show x = 143 from hk]⟩
    | [x], h4, _ => exact absurd (by simp) h4
    | [], h4, _ => exact absurd (by simp) h4
  have HSM := Lib.hid hsm; have HKK := Lib.hid hk; have HHD := Lib.hid hd; have H4 := Lib.hid h4
  have H := Lib.hid h; have HA := Lib.hid hA; have HL := Lib.hid hl
  have z1 := h1; have z2 := h2
  clear h hA hl hsm hk hd
  go_enter Try.func20, Try.ntmps20
  go_upto_region 1 with fail
  generalize hW3 : World.alloc (World.alloc (World.alloc w _) _) _ = W3
  have b3 : Below w.heap.size w W3 := by rw [← hW3]; exact (by (repeat (first | exact Below.refl _ _ | assumption | refine Below.drew ?_ | refine bdrewN ?_ _ | refine Below.alloc ?_ (by first | omega | (simp <;> omega) | (simp only [World.size_alloc] <;> omega)) _ | refine below_setRow ?_ (by first | omega | (simp <;> omega)) _ | refine Below.setCell ?_ (by first | omega | (simp <;> omega)) _)))
  obtain ⟨s0, hs⟩ : ∃ s, s = w.heap.size := ⟨_, rfl⟩
  have ks : bk W3 s0 = some (.cells (src.map B).toArray 23 (0, 0)) := by rw [← hW3, hs, bk_alloc_past _ _ _ (by simp <;> omega), bk_alloc_past _ _ _ (by simp)]; exact bk_alloc_at _ _ _ rfl
  have kd : bk W3 (s0 + 1) = some (.cells (dst.map B).toArray 23 (0, 0)) := by rw [← hW3, hs, bk_alloc_past _ _ _ (by simp)]; exact bk_alloc_at _ _ _ (by simp)
  have km : bk W3 (s0 + 1 + 1) = some (.cells (mC (mZ 0 0)) 33 (0, 0)) := by rw [← hW3, hs]; exact (bk_alloc_at _ _ _ (by simp)).trans (by kernel_rfl)
  rw [← hs]
  have B3 := Lib.hid b3; have HS := Lib.hid hs
  clear b3 hs hW3
  have KM := Lib.hid km
  have l1 := bk_lt ks; have l2 := bk_lt kd; have l3 := bk_lt km
  have d1 : decide ((l.length : Int) < 4) = false := by simp; omega
  have CG : Hid (Calls Try.prog 35 #[av src, av dst, B 58, .slice A l.length c] W3 fun e w' => e = .returned (.int .u16 0) ∧ Below W3.heap.size W3 w') := Lib.hid (by
    refine (rover_any src dst 58 A l c W3 h1 h2 ((H.out.below B3.out (Nat.le_refl _)).mono B3.out.size) HA.out HL.out).mono ?_
    rintro e w' ⟨rfl, b⟩
    rw [HSM.out]
    exact ⟨rfl, b⟩)
  clear h4
  go_wp2_with fail
  refine CG.out.mono ?_
  rintro e w4 ⟨rfl, b4⟩
  have B4 := Lib.hid b4
  have km4 := bk_keep b4 l3 km
  have KM4 := Lib.hid km4
  have F4 := Lib.hid (B3.out.trans (b4.mono B3.out.size))
  clear ks kd km l1 l2 l3 b4 CG km4 d1 z1 z2
  obtain ⟨k1, rr, hlr⟩ := HHD.out
  have hln : 4 ≤ l.length := by have := H4.out; omega
  obtain ⟨b, o, rfl, hbn, hcell⟩ : ∃ b o, A = some ⟨b, o, none⟩ ∧ b < w.heap.size ∧ ∀ j (h : j < l.length), w4.cell? ⟨b, o + j, none⟩ = some (B l[j]) := by
    obtain ⟨b, o, e, hb, hc'⟩ := (H.out.below F4.out (Nat.le_refl _)) (by omega)
    exact ⟨b, o, e, hb, hc'⟩
  have g0 : w4.cell? ⟨b, o, none⟩ = some (.int .u8 ((143 : UInt8).toNat : Int)) := by have := hcell 0 (by omega); rw [show l[0] = 143 by simp [hlr]] at this; exact this
  have g1 : w4.cell? ⟨b, o + 1, none⟩ = some (.int .u8 (k1.toNat : Int)) := by have := hcell 1 (by omega); rw [show l[1] = k1 by simp [hlr]] at this; exact this
  have i0 : decide ((0 : Int) < (l.length : Int)) = true := by simp; omega
  have i1 : decide ((1 : Int) < (l.length : Int)) = true := by simp; omega
  have hb4 : b < w4.heap.size := Nat.lt_of_lt_of_le hbn F4.out.size
  have HK1 : Hid (l.getD 1 0 = k1) := Lib.hid (by rw [hlr]; rfl)
  have HHL := Lib.hid (And.intro hln hbn)
  clear hcell hlr
  go_upto_region 5 with fail
  go_region
  generalize hW5 : World.drew (World.alloc w4 _) = W5
  have b5 : Below w4.heap.size w4 W5 := by rw [← hW5]; exact (by (repeat (first | exact Below.refl _ _ | assumption | refine Below.drew ?_ | refine bdrewN ?_ _ | refine Below.alloc ?_ (by first | omega | (simp <;> omega) | (simp only [World.size_alloc] <;> omega)) _ | refine below_setRow ?_ (by first | omega | (simp <;> omega)) _ | refine Below.setCell ?_ (by first | omega | (simp <;> omega)) _)))
  have kgm : bk W5 w4.heap.size = some (.cells (mC (mZ 143 k1)) 33 (0, 0)) := by rw [← hW5, bk_drew]; exact (bk_alloc_at _ _ _ rfl).trans (by kernel_rfl)
  obtain ⟨gm, hgm⟩ : ∃ g, g = w4.heap.size := ⟨_, rfl⟩
  rw [← hgm] at kgm ⊢
  have KGM := Lib.hid kgm; have B5 := Lib.hid b5; have HGM := Lib.hid hgm
  have F5 := Lib.hid (F4.out.trans (b5.mono F4.out.size))
  have hcl : (4 : Int) ≤ (l.length : Int) := by omega
  have hlc : (l.length : Int) ≤ (c : Int) := by omega
  obtain ⟨A4, hA4⟩ : ∃ A4, (if c = 4 then some (⟨b, o, none⟩ : Addr) else some ⟨b, o + 4, none⟩) = A4 := ⟨_, rfl⟩
  have HA4 := Lib.hid hA4
  clear b5 kgm hW5 g0 g1 i0 i1 hgm hb4
  go_upto_region 7 with fail
  obtain ⟨gt, hgt⟩ : ∃ g, g = W5.heap.size := ⟨_, rfl⟩
  rw [← hgt]
  obtain ⟨L, hL⟩ : ∃ L, L = l.drop 4 := ⟨_, rfl⟩
  generalize hW6 : World.alloc W5 _ = W6
  have P0 : Hid (RM true w W6 (s0 + 1 + 1) gm gt L (mZ 143 k1) (.ok 0)) := Lib.hid (by
    have b6 : Below W5.heap.size W5 W6 := by rw [← hW6]; exact (by (repeat (first | exact Below.refl _ _ | assumption | refine Below.drew ?_ | refine bdrewN ?_ _ | refine Below.alloc ?_ (by first | omega | (simp <;> omega) | (simp only [World.size_alloc] <;> omega)) _ | refine below_setRow ?_ (by first | omega | (simp <;> omega)) _ | refine Below.setCell ?_ (by first | omega | (simp <;> omega)) _)))
    have kt : bk W6 gt = some (.cells #[.slice A4 (l.length - 4) (c - 4), .int .i64 0] 87 (0, 0)) := by rw [← hW6]; exact bk_alloc_at _ _ _ hgt
    have F6 := F5.out.trans (b6.mono F5.out.size)
    have q1 := bk_lt KM4.out; have q2 := bk_lt KGM.out; have q3 := HGM.out; have q4 := HS.out; have q5 := F4.out.size
    have hT : TU W6 gt w.heap.size L (.ok 0) := by
      refine ⟨⟨A4, l.length - 4, c - 4, kt, fun e => ?_, by omega, fun q e => ?_⟩, by omega⟩
      · rw [← HA4.out] at e
        split at e <;> cases e
      · cases e
        have e0 : L.length = l.length - 4 := by rw [hL, List.length_drop]
        refine ⟨by omega, by omega, fun h0 => ?_⟩
        rw [List.drop_zero] at h0 ⊢
        have e1 : A4 = some ⟨b, o + 4, none⟩ := by rw [← HA4.out, if_neg (by omega)]
        obtain ⟨b', o', e2, hb, hcc⟩ := H.out.below F6 (Nat.le_refl _) (by omega)
        cases e2
        refine ⟨b, o + 4, e1, hb, fun j hj => ?_⟩
        have h5 := hcc (4 + j) (by omega)
        have e3 : L[j] = l[4 + j]'(by omega) := by simp only [hL, List.getElem_drop]
        rw [e3, Nat.add_assoc]
        exact h5
    refine ⟨F6, hT.te, fun _ => hT, ?_, bk_keep b6 q2 KGM.out, by omega⟩
    exact bk_keep b6 (Nat.lt_of_lt_of_le (Nat.lt_of_lt_of_le q1 (by have := B5.out.size; exact this)) (Nat.le_refl _)) (bk_keep B5.out q1 KM4.out))
  have HLL : Hid (L.length < 2 ^ 32) := Lib.hid (by rw [hL, List.length_drop]; have := HL.out; omega)
  have HLE := Lib.hid hL
  have hres : ∀ e w', RGet 143 k1 L w e w' → RGet 143 (l.getD 1 0) (l.drop 4) w e w' := fun e w' h => by rw [HK1.out, ← hL]; exact h
  have HRES := Lib.hid hres
  have u0 : W6.cell? ⟨gm, 0, none⟩ = some (.int .u8 143) := by rw [bk_cell P0.out.km, mC_0]; rfl
  have lgm := bk_lt P0.out.km
  have LT : Hid (gt = W5.heap.size ∧ W6.heap.size = gt + 1) := Lib.hid ⟨hgt, by rw [← hW6, hgt]; simp⟩
  clear hA4 hgt hL hW6 hres H HA HL F4 F5 B3 B4 B5 KM KM4 KGM HGM HSM HKK HHD H4 HS HHL HA4 hcl hlc hln hbn LT W3 W5 w4
  have C := Lib.hid (tk_bytes gt w.heap.size 2 L _ W6 ((P0).out.tu rfl) HLL.out (by omega))
  go_upto_region 49 with fail
  go_wp2_with fail
  refine C.out.mono ?_
  rintro e X1 ⟨_, _, rfl, _, hu1, t1⟩
  try simp only [GS.adv_adv, Nat.reduceAdd] at hu1
  have Q1 := Lib.hid ((P0).out.call hu1 t1)
  clear C P0 hu1 t1
  have C := Lib.hid (tk_count gt w.heap.size L _ X1 (Q1.out.tu rfl) HLL.out)
  go_upto_region 50 with fail
  go_wp2_with fail
  refine C.out.mono ?_
  rintro e X2 ⟨N, rfl, hN64, hN, hu1, t1⟩
  have Q2 := Lib.hid (Q1.out.call hu1 t1)
  have HN := Lib.hid hN
  obtain ⟨s2, hs2⟩ : ∃ s2, s2 = (GS.cnt L (GS.adv L 2 (.ok 0))) := ⟨_, rfl⟩
  have HS2 := Lib.hid hs2
  obtain ⟨n0, hn0⟩ : ∃ n, n = X2.heap.size := ⟨_, rfl⟩
  have R0 : Hid (RL w X2 (s0 + 1 + 1) gm gt n0 0 0 L k1 s2 none []) := Lib.hid ⟨by rw [hs2]; exact Q2.out, OR.nil _ _, rfl, fun q e => ⟨q, e, rfl⟩, by rw [hn0]; exact (Q2.out.te.err).2, by rw [hn0]; exact Nat.le_refl _⟩
  clear C Q1 Q2 hu1 t1 hN hs2 hn0
  go_wp2_with fail
  go_loopw [11] (fun v wr => ∃ (i c : Nat) (A : Option Addr) (rl : List Rv), i ≤ N ∧ v = .int .i64 (i : Int) ∧ Hid (RL w wr (s0 + 1 + 1) gm gt n0 i c L k1 s2 A rl)) (fun v _ => N - (intOf v).toNat)
  case atStart => exact ⟨0, 0, none, [], by omega, rfl, R0⟩
  case round =>
    clear R0
    obtain ⟨i, c2, A2, rl, hi, rfl, HR⟩ := hrel
    obtain ⟨sx, hsx⟩ : ∃ s, s = recsS L i s2 := ⟨_, rfl⟩
    have HSX := Lib.hid hsx
    have c1x : wr.cell? ⟨gt, 1, none⟩ = some (.int .i64 ((sx.err : Nat) : Int)) := by rw [hsx]; exact (HR.out.rm.te.err).1
    have lgx := (HR.out.rm.te.err).2
    clear hsx
    by_cases hx : sx.err = 0
    · have n0x : (((sx.err : Nat) : Int) == 0) = true := by simp [hx]
      have n0y : decide (((sx.err : Nat) : Int) = 0) = true := by simp [hx]
      by_cases hlt : i < N
      · have d1 : decide ((i : Int) < (N : Int)) = true := by simp; omega
        have BD : Hid (Below wr.heap.size wr wr.drew) := Lib.hid (by (repeat (first | exact Below.refl _ _ | assumption | refine Below.drew ?_ | refine bdrewN ?_ _ | refine Below.alloc ?_ (by first | omega | (simp <;> omega) | (simp only [World.size_alloc] <;> omega)) _ | refine below_setRow ?_ (by first | omega | (simp <;> omega)) _ | refine Below.setCell ?_ (by first | omega | (simp <;> omega)) _)))
        have RD : Hid (RM true w wr.drew (s0 + 1 + 1) gm gt L { mZ 143 k1 with RA := A2, rs := rl, rc := c2 } (recsS L i s2)) := Lib.hid (HR.out.rm.turn (F := fun _ => False) (Tn.of BD.out) fun k e => e.elim)
        have OD : Hid (OR wr.drew n0 A2 c2 rl) := Lib.hid (HR.out.or'.below BD.out)
        have C := Lib.hid (tk_record gt w.heap.size L (recsS L i s2) wr.drew (RD.out.tu rfl) HLL.out)
        unfold TkR at C
        have hli := HR.out.ln
        have c62 : wr.drew.cell? ⟨gm, 62, none⟩ = some (.slice A2 i c2) := by
          have h := (bk_cell RD.out.km 62).trans (mC_62 _)
          rw [← hli]; exact h
        have HLI := Lib.hid hli
        have lgmd : gm < wr.drew.heap.size := bk_lt RD.out.km
        have HK30 : Hid (i < 2 ^ 30) := Lib.hid (by omega)
        have FA : Hid (∀ (r : Rv) (w1 : World), OA w1 wr.drew.heap.size r.A r.c r.s → (∀ z ∈ r.s, z.length = 16) → TU w1 gt w.heap.size L (recS L (recsS L i s2)) → Tn (fun j => j = gt) wr.drew w1 → (w1.cell? ⟨gm, 62, none⟩ = some (.slice A2 i c2) ∧ gm < w1.heap.size) ∧
            RM true w (w1.alloc (.cells r.row 57)) (s0 + 1 + 1) gm gt L { mZ 143 k1 with RA := A2, rs := rl, rc := c2 } (recsS L (i + 1) s2) ∧ OR (w1.alloc (.cells r.row 57)) n0 A2 c2 rl ∧ OA (w1.alloc (.cells r.row 57)) n0 r.A r.c r.s ∧
            ((w1.alloc (.cells r.row 57)).ownsRow n0 57 18 (.slice A2 i c2) i (rvF rl)) ∧ (∀ j u, r.row.toList[j]? = some u → (w1.alloc (.cells r.row 57)).cell? ⟨w1.heap.size, j, none⟩ = some u) ∧ n0 ≤ (w1.alloc (.cells r.row 57)).heap.size) := Lib.hid fun r w1 q1 q2 q3 q4 => by
          have b2 : Below w1.heap.size w1 (w1.alloc (.cells r.row 57)) := (by (repeat (first | exact Below.refl _ _ | assumption | refine Below.drew ?_ | refine bdrewN ?_ _ | refine Below.alloc ?_ (by first | omega | (simp <;> omega) | (simp only [World.size_alloc] <;> omega)) _ | refine below_setRow ?_ (by first | omega | (simp <;> omega)) _ | refine Below.setCell ?_ (by first | omega | (simp <;> omega)) _)))
          have hn := HR.out.hn; have hw := HR.out.hw; have hs := BD.out.size
          have p1 := RD.out.call q3 q4
          have o1 := OD.out.turnBelow q4 fun k e => by omega
          refine ⟨⟨?_, bk_lt p1.km⟩, ?_, o1.below b2, (q1.below b2).mono (by omega), ?_, fun j u hu => ?_, ?_⟩
          · have h := (bk_cell p1.km 62).trans (mC_62 _)
            rw [← HLI.out]; exact h
          · rw [recsS_succ]
            exact p1.turn (F := fun _ => False) (Tn.of b2) fun k e => e.elim
          · have h := (o1.below b2).row
            rw [HLI.out] at h
            exact h
          · rw [bk_cell (bk_alloc_at w1 (.cells r.row 57) _ rfl)]
            rw [← Array.getElem?_toList]; exact hu
          · have := b2.size; have := q4.size; omega
        have FW : Hid (∀ (r : Rv) (w2 w6 : World) (A6 : Option Addr) (c6 : Nat), (∀ z ∈ r.s, z.length = 16) → RM true w w2 (s0 + 1 + 1) gm gt L { mZ 143 k1 with RA := A2, rs := rl, rc := c2 } (recsS L (i + 1) s2) → OR w2 n0 A2 c2 rl → OA w2 n0 r.A r.c r.s → n0 ≤ w2.heap.size →
            w6.ownsRow n0 57 18 (.slice A6 (i + 1) c6) (i + 1) (rvF rl ++ r.row.toList) → w2.grownBy w6 (Value.slice A2 i c2).ownBlock → RM true w w6 (s0 + 1 + 1) gm gt L { mZ 143 k1 with RA := A2, rs := rl, rc := c2 } (recsS L (i + 1) s2) ∧ OR w6 n0 A6 c6 (rl ++ [r]) ∧ n0 ≤ w6.heap.size) := Lib.hid fun r w2 w6 A6 c6 q1 q2 q3 q4 q5 q6 q7 => by
          have t : Tn (fun k => (Value.slice A2 i c2).ownBlock = some k) w2 w6 := Tn.grown q7 fun k e => e
          have hn := HR.out.hn
          rw [← HLI.out] at q6 q7 t
          refine ⟨q2.turn t fun k e => by have := (q3.row.lt k e).1; omega, q3.snoc q4 q1 q6 q7, Nat.le_trans q5 t.size⟩
        have HNN : Hid (gm < gt ∧ gt < n0) := Lib.hid ⟨by have := HR.out.rm.lo; omega, HR.out.hn⟩
        have HVF := Lib.hid HR.out.vf
        clear HR hx hli
        go_upto_region 54 with fail
        clear n0x n0y d1 c1x lgx
        go_region_law (first
          | (go_simp; go_at_call 51; with_reducible refine C.out.mono ?_; intro e w1 hq1; obtain ⟨r, rfl, q1, q2, q3, q4, q5⟩ := hq1; have HV := Lib.hid (And.intro q2 q4); have Q := Lib.hid (FA.out r w1 q1 q2 q3 q5).2; obtain ⟨c62', lgm1⟩ := (FA.out r w1 q1 q2 q3 q5).1; have hrs := Rv.row_size r; have hro := Rv.row_ones r; clear q1 q2 q3 q4 q5 C)
          | (rw [fold_rec _ hrs]; refine step_app1 appR rfl (.tmp 167) (.tmp 170) rfl n0 (.slice A2 i c2) i (rvF rl) (by simp [Act.eval]) Q.out.2.2.2.1 w1.heap.size 1 (by simp [Act.eval]) r.row.toList (by simp [hrs]) Q.out.2.2.2.2.1 (row_oneR r) Q.out.2.2.2.2.2 HK30.out ?_; intro A6 c6 w6 ho6 hg6 _ _; have HW6 := Lib.hid (FW.out r _ w6 A6 c6 HV.out.1 Q.out.1 Q.out.2.1 Q.out.2.2.1 Q.out.2.2.2.2.2 ho6 hg6); have k6 := HW6.out.1.km; have c626 := (bk_cell k6 62).trans (mC_62 _); have f626 := bk_frozen k6 62; have l6 := bk_lt k6; clear ho6 hg6 k6))
        all_goals
          have hs6 : (mC { mZ 143 k1 with RA := A2, rs := rl, rc := c2 }).setIfInBounds 62 (.slice A6 (i + 1) c6) = mC { mZ 143 k1 with RA := A6, rs := rl ++ [r], rc := c6 } := by
            have h := sM62 { mZ 143 k1 with RA := A2, rs := rl, rc := c2 } A6 (rl ++ [r]) c6
            rw [List.length_append, HLI.out] at h
            exact h
          have R7 : Hid (RL w (w6.setCell ⟨gm, 62, none⟩ (.slice A6 (i + 1) c6)) (s0 + 1 + 1) gm gt n0 (i + 1) c6 L k1 s2 A6 (rl ++ [r])) := Lib.hid ⟨HW6.out.1.set hs6, HW6.out.2.1.turnBelow (F := fun k => k = gm) ((Tn.refl _ _).set (.inl rfl)) (fun k e => by have := HNN.out; omega), by simp [HLI.out], fun q hq => by
              rw [recsS_succ] at hq
              obtain ⟨p, g1, g2, _⟩ := HV.out.2 q hq
              obtain ⟨p0, g3, g4⟩ := HVF.out p g1
              refine ⟨p0, g3, ?_⟩
              rw [recsV_snoc L i p0 p (by rw [← g3]; exact g1), List.map_append, g4, ← g2]
              rfl, HNN.out.2, by simpa using HW6.out.2.2⟩
          clear HW6 HV HVF Q FA FW RD OD BD c62 c62' c626 f626 l6 lgm1 lgmd hs6 hrs hro HLI
          go_wp2_with fail
          go_roundw
          case rel => exact ⟨i + 1, c6, A6, _, by omega, by go_num, R7⟩
          case measure => simp [intOf]; omega
      · have d1 : decide ((i : Int) < (N : Int)) = false := by simp; omega
        have HD := Lib.hid (HR.out.done HS2.out HN.out hi (.inl (by omega)))
        have Q7 := Lib.hid HR.out.rm
        have HST : Hid (recsS L i s2 = getS 143 L) := Lib.hid HD.out.1.1
        have HPL : Hid (∀ q, recsS L i s2 = .ok q → (Mv.pl { mZ 143 k1 with RA := A2, rs := rl, rc := c2 }) = getV 143 k1 L) := Lib.hid HD.out.1.2
        clear HR hx
        go_upto_region 55 with fail
        clear c1x n0x n0y lgx d1
        obtain ⟨st, hst⟩ : ∃ st, st = recsS L i s2 := ⟨_, rfl⟩
        have PF : Hid (RM true w wr (s0 + 1 + 1) gm gt L { mZ 143 k1 with RA := A2, rs := rl, rc := c2 } st) := Lib.hid (by rw [hst]; exact (Q7).out)
        have HM : Hid (∀ c', MvOk (World.setRow wr (s0 + 1 + 1) c') (World.setRow wr (s0 + 1 + 1) c').heap.size { mZ 143 k1 with RA := A2, rs := rl, rc := c2 }) := Lib.hid (fun c' => mv_ok (no_d _ _) (no_o _ _) (no_s _ _) (HD.out.2 c').rws (by show _ ∧ _; simp [mZ]))
        rw [← hst] at HST HPL
        clear hst Q7
        have c1 := (PF.out.te.err).1
        have lgt := (PF.out.te.err).2
        have km8 := PF.out.km
        have kr8 := PF.out.kr
        have lm8 := bk_lt km8
        have lr8 := bk_lt kr8
        have sz := fun m => mC_size m
        have so := fun m => mC_ones m
        by_cases he : st.err = 0
        · have n1 : (((st.err : Nat) : Int) != 0) = false := by simp [he]
          obtain ⟨q, hq⟩ := GS.err0 he
          have FX := Lib.hid (HRES.out _ _ (PF.out.fin HST.out hq (HPL.out q hq) (HM.out _)))
          clear he hq
          go_wp2_with fail
          refine ret_two (cs := mC _) rfl rfl rfl rfl (by rw [bk_setRow_same, kr8]; rfl) Try.underlying33 rfl (by rw [mC_size]; kernel_rfl) ?_
          exact FX.out
        · have n1 : (((st.err : Nat) : Int) != 0) = true := by simp [he]
          have FX := Lib.hid (fun W' hb => HRES.out _ W' (rm_bad HST.out he hb))
          have hng : gt ≠ s0 + 1 + 1 := by have := PF.out.lo; omega
          have hng' : s0 + 1 + 1 ≠ gt := hng.symm
          have cR : ∀ c, (World.setRow wr (s0 + 1 + 1) c).cell? ⟨gt, 1, none⟩ = some (.int .i64 ((st.err : Nat) : Int)) := fun c => (cell_of_bk (bk_setRow_other _ _ _ _ hng) 1).trans c1
          clear he
          go_upto_region 56 with fail
          go_region
          go_wp2_with fail
          refine ret_two (cs := mC (mZ 0 0)) rfl rfl rfl rfl (by rw [bk_drew, bk_setRow_same, kr8]; kernel_rfl) Try.underlying33 rfl (by rw [mC_size]; kernel_rfl) ?_
          exact FX.out _ (below_row PF.out.bl PF.out.lo.1 _).drew
    · have n0x : (((sx.err : Nat) : Int) == 0) = false := by simp [hx]
      have n0y : decide (((sx.err : Nat) : Int) = 0) = false := by simp [hx]
      have HD := Lib.hid (HR.out.done HS2.out HN.out hi (.inr fun q e => hx (by rw [HSX.out, e]; rfl)))
      have Q7 := Lib.hid HR.out.rm
      have HST : Hid (recsS L i s2 = getS 143 L) := Lib.hid HD.out.1.1
      have HPL : Hid (∀ q, recsS L i s2 = .ok q → (Mv.pl { mZ 143 k1 with RA := A2, rs := rl, rc := c2 }) = getV 143 k1 L) := Lib.hid HD.out.1.2
      clear HR hx
      by_cases hlt : i < N
      · have d1 : decide ((i : Int) < (N : Int)) = true := by simp; omega
        go_upto_region 55 with fail
        clear c1x n0x n0y lgx d1
        obtain ⟨st, hst⟩ : ∃ st, st = recsS L i s2 := ⟨_, rfl⟩
        have PF : Hid (RM true w wr (s0 + 1 + 1) gm gt L { mZ 143 k1 with RA := A2, rs := rl, rc := c2 } st) := Lib.hid (by rw [hst]; exact (Q7).out)
        have HM : Hid (∀ c', MvOk (World.setRow wr (s0 + 1 + 1) c') (World.setRow wr (s0 + 1 + 1) c').heap.size { mZ 143 k1 with RA := A2, rs := rl, rc := c2 }) := Lib.hid (fun c' => mv_ok (no_d _ _) (no_o _ _) (no_s _ _) (HD.out.2 c').rws (by show _ ∧ _; simp [mZ]))
        rw [← hst] at HST HPL
        clear hst Q7
        have c1 := (PF.out.te.err).1
        have lgt := (PF.out.te.err).2
        have km8 := PF.out.km
        have kr8 := PF.out.kr
        have lm8 := bk_lt km8
        have lr8 := bk_lt kr8
        have sz := fun m => mC_size m
        have so := fun m => mC_ones m
        by_cases he : st.err = 0
        · have n1 : (((st.err : Nat) : Int) != 0) = false := by simp [he]
          obtain ⟨q, hq⟩ := GS.err0 he
          have FX := Lib.hid (HRES.out _ _ (PF.out.fin HST.out hq (HPL.out q hq) (HM.out _)))
          clear he hq
          go_wp2_with fail
          refine ret_two (cs := mC _) rfl rfl rfl rfl (by rw [bk_setRow_same, kr8]; rfl) Try.underlying33 rfl (by rw [mC_size]; kernel_rfl) ?_
          exact FX.out
        · have n1 : (((st.err : Nat) : Int) != 0) = true := by simp [he]
          have FX := Lib.hid (fun W' hb => HRES.out _ W' (rm_bad HST.out he hb))
          have hng : gt ≠ s0 + 1 + 1 := by have := PF.out.lo; omega
          have hng' : s0 + 1 + 1 ≠ gt := hng.symm
          have cR : ∀ c, (World.setRow wr (s0 + 1 + 1) c).cell? ⟨gt, 1, none⟩ = some (.int .i64 ((st.err : Nat) : Int)) := fun c => (cell_of_bk (bk_setRow_other _ _ _ _ hng) 1).trans c1
          clear he
          go_upto_region 56 with fail
          go_region
          go_wp2_with fail
          refine ret_two (cs := mC (mZ 0 0)) rfl rfl rfl rfl (by rw [bk_drew, bk_setRow_same, kr8]; kernel_rfl) Try.underlying33 rfl (by rw [mC_size]; kernel_rfl) ?_
          exact FX.out _ (below_row PF.out.bl PF.out.lo.1 _).drew
      · have d1 : decide ((i : Int) < (N : Int)) = false := by simp; omega
        go_upto_region 55 with fail
        clear c1x n0x n0y lgx d1
        obtain ⟨st, hst⟩ : ∃ st, st = recsS L i s2 := ⟨_, rfl⟩
        have PF : Hid (RM true w wr (s0 + 1 + 1) gm gt L { mZ 143 k1 with RA := A2, rs := rl, rc := c2 } st) := Lib.hid (by rw [hst]; exact (Q7).out)
        have HM : Hid (∀ c', MvOk (World.setRow wr (s0 + 1 + 1) c') (World.setRow wr (s0 + 1 + 1) c').heap.size { mZ 143 k1 with RA := A2, rs := rl, rc := c2 }) := Lib.hid (fun c' => mv_ok (no_d _ _) (no_o _ _) (no_s _ _) (HD.out.2 c').rws (by show _ ∧ _; simp [mZ]))
        rw [← hst] at HST HPL
        clear hst Q7
        have c1 := (PF.out.te.err).1
        have lgt := (PF.out.te.err).2
        have km8 := PF.out.km
        have kr8 := PF.out.kr
        have lm8 := bk_lt km8
        have lr8 := bk_lt kr8
        have sz := fun m => mC_size m
        have so := fun m => mC_ones m
        by_cases he : st.err = 0
        · have n1 : (((st.err : Nat) : Int) != 0) = false := by simp [he]
          obtain ⟨q, hq⟩ := GS.err0 he
          have FX := Lib.hid (HRES.out _ _ (PF.out.fin HST.out hq (HPL.out q hq) (HM.out _)))
          clear he hq
          go_wp2_with fail
          refine ret_two (cs := mC _) rfl rfl rfl rfl (by rw [bk_setRow_same, kr8]; rfl) Try.underlying33 rfl (by rw [mC_size]; kernel_rfl) ?_
          exact FX.out
        · have n1 : (((st.err : Nat) : Int) != 0) = true := by simp [he]
          have FX := Lib.hid (fun W' hb => HRES.out _ W' (rm_bad HST.out he hb))
          have hng : gt ≠ s0 + 1 + 1 := by have := PF.out.lo; omega
          have hng' : s0 + 1 + 1 ≠ gt := hng.symm
          have cR : ∀ c, (World.setRow wr (s0 + 1 + 1) c).cell? ⟨gt, 1, none⟩ = some (.int .i64 ((st.err : Nat) : Int)) := fun c => (cell_of_bk (bk_setRow_other _ _ _ _ hng) 1).trans c1
          clear he
          go_upto_region 56 with fail
          go_region
          go_wp2_with fail
          refine ret_two (cs := mC (mZ 0 0)) rfl rfl rfl rfl (by rw [bk_drew, bk_setRow_same, kr8]; kernel_rfl) Try.underlying33 rfl (by rw [mC_size]; kernel_rfl) ?_
          exact FX.out _ (below_row PF.out.bl PF.out.lo.1 _).drew
end Go.Proofs.Ytjimmfbjhkoekaa
