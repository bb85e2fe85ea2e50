/- HeadersOver, walked. -/
import Derived.Test.YtbfiakikhkiefaaH26
import Derived.Test.YtbfiakikhkiefaaMgG
namespace Go.Proofs.Ytbfiakikhkiefaa
open Go.RowKit
set_option maxRecDepth 100000
set_option maxHeartbeats 4000000
theorem number_any (n : UInt8) (w : World) : Calls Try.prog 21 #[B n] w fun e w' => e = .returned (.bool (numO n)) ∧ w = w' := by
  by_cases h0 : n = 0
  · subst h0
    go_enter Try.func21, Try.ntmps21
    go_wp2_with fail
    go_ret
    exact ⟨rfl, rfl⟩
  by_cases h1 : n = 43
  · subst h1
    go_enter Try.func21, Try.ntmps21
    go_wp2_with fail
    go_ret
    exact ⟨rfl, rfl⟩
  by_cases h2 : n = 44
  · subst h2
    go_enter Try.func21, Try.ntmps21
    go_wp2_with fail
    go_ret
    exact ⟨rfl, rfl⟩
  by_cases h3 : n = 59
  · subst h3
    go_enter Try.func21, Try.ntmps21
    go_wp2_with fail
    go_ret
    exact ⟨rfl, rfl⟩
  by_cases h4 : n = 60
  · subst h4
    go_enter Try.func21, Try.ntmps21
    go_wp2_with fail
    go_ret
    exact ⟨rfl, rfl⟩
  have e : numO n = false := by unfold numO; simp [h0, h1, h2, h3, h4]
  have f0 : n.toNat ≠ 0 := fun h => h0 (UInt8.toNat_inj.1 h)
  have f1 : n.toNat ≠ 43 := fun h => h1 (UInt8.toNat_inj.1 h)
  have f2 : n.toNat ≠ 44 := fun h => h2 (UInt8.toNat_inj.1 h)
  have f3 : n.toNat ≠ 59 := fun h => h3 (UInt8.toNat_inj.1 h)
  have f4 : n.toNat ≠ 60 := fun h => h4 (UInt8.toNat_inj.1 h)
  have z0 : ((n.toNat : Int) == 0) = false := beq_eq_false_iff_ne.2 (by omega)
  have z1 : ((n.toNat : Int) == 43) = false := beq_eq_false_iff_ne.2 (by omega)
  have z2 : ((n.toNat : Int) == 44) = false := beq_eq_false_iff_ne.2 (by omega)
  have z3 : ((n.toNat : Int) == 59) = false := beq_eq_false_iff_ne.2 (by omega)
  have z4 : ((n.toNat : Int) == 60) = false := beq_eq_false_iff_ne.2 (by omega)
  have y0 : decide ((n.toNat : Int) = 0) = false := decide_eq_false (by omega)
  have y1 : decide ((n.toNat : Int) = 43) = false := decide_eq_false (by omega)
  have y2 : decide ((n.toNat : Int) = 44) = false := decide_eq_false (by omega)
  have y3 : decide ((n.toNat : Int) = 59) = false := decide_eq_false (by omega)
  have y4 : decide ((n.toNat : Int) = 60) = false := decide_eq_false (by omega)
  rw [e]
  clear e h0 h1 h2 h3 h4
  go_enter Try.func21, Try.ntmps21
  go_wp2_with fail
  go_ret
  exact ⟨rfl, rfl⟩
theorem set4 (n : Nat) (a b c d : UInt8) : ((((List.replicate (n + 4) 0).set 0 a).set 1 b).set 2 c).set 3 d = [a, b, c, d] ++ List.replicate n 0 := rfl
theorem set2 (n : Nat) (a b : UInt8) : ((List.replicate (n + 4) 0).set 0 a).set 1 b = [a, b, 0, 0] ++ List.replicate n 0 := rfl
theorem stO_next {l : List UInt8} {nx : UInt8} {rest : List UInt8} {j : Nat} {s : UInt8} {b : List UInt8} (h : stO (l.take j) (nx, rest) = (s, b)) (hj : j < l.length) : stO (l.take (j + 1)) (nx, rest) = (nxO (l[j].toNat % 4), hdO (l[j].toNat % 4) (lgO l[j]) s l[j] ++ b) := by
  rw [List.take_succ_eq_append_getElem hj, stO_snoc, h]
theorem headersOver_walk (Ar : Option Addr) (rest : List UInt8) (cr : Nat) (nx : UInt8) (Al : Option Addr) (l : List UInt8) (cl : Nat) (w : World) (h1 : Rd w w.heap.size Ar rest) (hN1 : Ar = none → rest = [] ∧ cr = 0) (h2 : Rd w w.heap.size Al l) :
    Calls Try.prog 5 #[.slice Ar rest.length cr, B nx, .slice Al l.length cl] w fun e w' => e = .returned (.bool true) ∧ Below w.heap.size w w' := by
  have H1 := Lib.hid h1
  have H2 := Lib.hid h2
  have HN1 := Lib.hid hN1
  clear h1 h2 hN1
  have LV := Lib.hid (lives9_any w)
  have FZ := Lib.hid (Below.refl w.heap.size w)
  by_cases r1 : 1000 < rest.length
  · have d1 : decide ((rest.length : Int) > 1000) = true := by simp; omega
    clear H1 H2 HN1
    go_enter Try.func5, Try.ntmps5
    go_wp2_with fail
    refine LV.out.mono ?_
    rintro e wq ⟨rfl, bq⟩
    have F2 := Lib.hid (FZ.out.trans (bq.mono FZ.out.size))
    clear bq
    go_wp2_with fail
    go_ret
    exact ⟨rfl, F2.out⟩
  by_cases r2 : 20 < l.length
  · have d1 : decide ((rest.length : Int) > 1000) = false := by simp; omega
    have d2 : decide ((l.length : Int) > 20) = true := by simp; omega
    clear H1 H2 HN1
    go_enter Try.func5, Try.ntmps5
    go_wp2_with fail
    refine LV.out.mono ?_
    rintro e wq ⟨rfl, bq⟩
    have F2 := Lib.hid (FZ.out.trans (bq.mono FZ.out.size))
    clear bq
    go_wp2_with fail
    go_ret
    exact ⟨rfl, F2.out⟩
  have d1 : decide ((rest.length : Int) > 1000) = false := by simp; omega
  have d2 : decide ((l.length : Int) > 20) = false := by simp; omega
  have NM := Lib.hid (number_any nx w)
  obtain ⟨nb', hnb⟩ : ∃ b, b = numO nx := ⟨_, rfl⟩
  rw [← hnb] at NM
  cases nb' with
  | true =>
    clear H1 H2 HN1 hnb
    go_enter Try.func5, Try.ntmps5
    go_wp2_with fail
    refine NM.out.mono ?_
    rintro e wn ⟨rfl, rfl⟩
    clear NM
    go_wp2_with fail
    refine LV.out.mono ?_
    rintro e wq ⟨rfl, bq⟩
    have F2 := Lib.hid (FZ.out.trans (bq.mono FZ.out.size))
    clear bq
    go_wp2_with fail
    go_ret
    exact ⟨rfl, F2.out⟩
  | false =>
  have HNB := Lib.hid hnb
  clear hnb LV FZ
  go_enter Try.func5, Try.ntmps5
  go_wp2_with fail
  refine NM.out.mono ?_
  rintro e wn ⟨rfl, rfl⟩
  clear NM
  go_wp2_with (at_builtin; refine append_rd rfl _ _ rfl w.heap.size (.slice none 0 0) 0 [] rfl ⟨rfl, .inl ⟨rfl, rfl⟩⟩ Ar rest cr rfl HN1.out H1.out (by omega) (by simp) ?_)
  intro v1 w1 ho1 hg1
  have hb1 : Hid (Below w.heap.size w w1) := Lib.hid ((Below.refl _ _).grown hg1 (by simp) (fun x hx => by cases hx))
  have HO1 : Hid (w1.ownsRow w.heap.size 5 1 v1 rest.length (List.map B rest)) := Lib.hid (by simpa using ho1)
  obtain ⟨A1, c1, rfl, _, _, _⟩ := Rd.of_own HO1.out rfl
  clear ho1 hg1
  go_wp2_with fail
  go_loopw [7, 8, 9] (fun v f i wr => ∃ (j : Nat) (A : Option Addr) (c : Nat) (s : UInt8) (b : List UInt8), j ≤ l.length ∧ i = .int .i64 j ∧ f = B s ∧ v = .slice A b.length c ∧ Hid (stO (l.take j) (nx, rest) = (s, b)) ∧ Hid (wr.ownsRow w.heap.size 5 1 (.slice A b.length c) b.length (List.map B b)) ∧ Hid (Below w.heap.size w wr)) (fun _ _ i _ => l.length - (intOf i).toNat)
  case atStart => exact ⟨0, A1, c1, nx, rest, by omega, rfl, rfl, rfl, Lib.hid rfl, HO1, hb1⟩
  case round =>
    clear HO1 hb1
    obtain ⟨j, A, c, s, b, hj, rfl, rfl, rfl, HS, HO, BR⟩ := hrel
    have hs := BR.out.size
    have hbl : b.length ≤ 1000 + 40 * 20 := by
      have h := stO_len (l.take j) (nx, rest)
      rw [HS.out, List.length_take] at h
      simp only at h
      omega
    by_cases hjn : j < l.length
    · have d3 : decide ((j : Int) < (l.length : Int)) = true := by simp; omega
      obtain ⟨b1, o1, rfl, hb1, hc1⟩ := (H2.out.below BR.out (Nat.le_refl _)).at hjn
      obtain ⟨x, hx⟩ : ∃ x, x = l[j] := ⟨_, rfl⟩
      have HX := Lib.hid hx
      rw [← hx] at hc1
      clear hx
      obtain ⟨lg, hlg⟩ : ∃ n, n = lgO x := ⟨_, rfl⟩
      obtain ⟨m, hm⟩ : ∃ n, n = x.toNat % 4 := ⟨_, rfl⟩
      have hlg5 : lg < 5 := by rw [hlg]; unfold lgO; omega
      have hm4 : m < 4 := by omega
      obtain ⟨M, hM⟩ : ∃ n, n = 8 * lg := ⟨_, rfl⟩
      obtain ⟨N, hN⟩ : ∃ n, n = 8 + M := ⟨_, rfl⟩
      have hx256 : x.toNat < 256 := x.toNat_lt
      have q8 : (x.toNat : Int) % 4 = (m : Int) := by omega
      have HQI : Hid ((x.toNat : Int) / 4 % 256 % 5 = (lg : Int)) := Lib.hid (by rw [hlg]; unfold lgO; omega)
      have HQN : Hid (8 + 8 * (x.toNat / 4 % 256 % 5) = N) := Lib.hid (by rw [hN, hM, hlg]; unfold lgO; omega)
      have HLG := Lib.hid (And.intro hlg (And.intro hm (And.intro hM hN)))
      have HN8 : Hid (8 ≤ N) := Lib.hid (by omega)
      have HX2 := Lib.hid hx256
      clear hx256 hm hlg hM hN q8
      go_upto_region 11 with fail
      have qI := HQI.out
      have qN := HQN.out
      obtain ⟨L0, hL0⟩ : ∃ X : List UInt8, X = List.replicate N 0 := ⟨_, rfl⟩
      have qR : Array.replicate N (B 0) = (List.map B L0).toArray := by rw [hL0]; simp
      simp only [qI, qN, qR]
      clear qI qN qR HQI HQN
      change Code.wp _ _ _ _ (wr.alloc (.cells (List.map B L0).toArray 5 (0, 0)))
      have HL : Hid (L0.length = N) := Lib.hid (by rw [hL0, List.length_replicate])
      have o0 := own_lit (w := wr) L0 (by rw [HL.out]; have := HLG.out.2.2; omega)
      rw [HL.out] at o0
      have FB0 : Hid (Below wr.heap.size wr (wr.alloc (.cells (List.map B L0).toArray 5 (0, 0)))) := Lib.hid ((Below.refl _ _).alloc (Nat.le_refl _) _)
      obtain ⟨gh, hgh⟩ : ∃ g, g = wr.heap.size := ⟨_, rfl⟩
      have O0 : Hid ((wr.alloc (.cells (List.map B L0).toArray 5 (0, 0))).ownsRow wr.heap.size 5 1 (.slice (some ⟨gh, 0, none⟩) N N) N (List.map B L0)) := Lib.hid (hgh ▸ o0)
      have E0 := Lib.hid hL0
      rw [← hgh]
      clear hgh o0 hL0
      generalize wr.alloc (.cells (List.map B L0).toArray 5 (0, 0)) = w0 at *
      obtain ⟨u1, hu1⟩ : ∃ u : UInt8, u = UInt8.ofNat lg := ⟨_, rfl⟩
      have q4 : IntKind.u8.wrap (lg : Int) = (u1.toNat : Int) := by rw [hu1, IntKind.wrap_u8, UInt8.toNat_ofNat']; omega
      have q4' : (lg : Int) % 256 = (u1.toNat : Int) := by rw [hu1, UInt8.toNat_ofNat']; omega
      have HU1 := Lib.hid hu1
      obtain ⟨_, _, _, hRb, hNb, hCb⟩ := Rd.of_own HO.out rfl
      rename_i eA
      cases eA
      have HRB := Lib.hid (And.intro hRb (And.intro hNb hCb))
      clear hu1 hRb hNb hCb HO
      have z0 : 0 < N := by have := HN8.out; omega
      have z1 : 1 < N := by have := HN8.out; omega
      have z2 : 2 < N := by have := HN8.out; omega
      have z3 : 3 < N := by have := HN8.out; omega
      obtain ⟨g', cur, e', hk', hlo', hle', hsz', htk'⟩ := own_parts O0.out (by have := HN8.out; omega)
      obtain rfl : gh = g' := congrArg Addr.block (Option.some.inj e')
      have hj' : ∃ x, L0[0]? = some x := by have := HL.out; have := HN8.out; exact ⟨_, List.getElem?_eq_getElem (show 0 < L0.length by omega)⟩
      obtain ⟨xo, hj'⟩ := hj'
      have hc' := own_cell hk' htk' hj'
      have hf' := bk_frozen hk' 0
      obtain ⟨L1, hL2⟩ : ∃ X, X = L0.set 0 s := ⟨_, rfl⟩
      have O1 : Hid ((w0.setCell ⟨gh, 0, none⟩ (B s)).ownsRow wr.heap.size 5 1 (.slice (some ⟨gh, 0, none⟩) N N) N (List.map B L1)) := Lib.hid (hL2 ▸ own_set O0.out s)
      have FB1 : Hid (Below wr.heap.size wr (w0.setCell ⟨gh, 0, none⟩ (B s))) := Lib.hid (FB0.out.setCell (show wr.heap.size ≤ gh from hlo') _)
      have HL' : Hid (L1.length = N) := Lib.hid (by rw [hL2, List.length_set]; exact HL.out)
      have E12 := Lib.hid hL2
      clear hk' htk' hj' hL2 e' hle' hsz' HL O0 FB0
      go_upto_region 12 with fail
      change Code.wp _ _ _ _ (w0.setCell ⟨gh, 0, none⟩ (B s))
      generalize w0.setCell ⟨gh, 0, none⟩ (B s) = w1' at *
      clear hc' hf'
      have HL := HL'
      clear HL'
      obtain ⟨g', cur, e', hk', hlo', hle', hsz', htk'⟩ := own_parts O1.out (by have := HN8.out; omega)
      obtain rfl : gh = g' := congrArg Addr.block (Option.some.inj e')
      have hj' : ∃ x, L1[1]? = some x := by have := HL.out; have := HN8.out; exact ⟨_, List.getElem?_eq_getElem (show 1 < L1.length by omega)⟩
      obtain ⟨xo, hj'⟩ := hj'
      have hc' := own_cell hk' htk' hj'
      have hf' := bk_frozen hk' 1
      obtain ⟨L2, hL2⟩ : ∃ X, X = L1.set 1 u1 := ⟨_, rfl⟩
      have O2 : Hid ((w1'.setCell ⟨gh, 1, none⟩ (B u1)).ownsRow wr.heap.size 5 1 (.slice (some ⟨gh, 0, none⟩) N N) N (List.map B L2)) := Lib.hid (hL2 ▸ own_set O1.out u1)
      have FB2 : Hid (Below wr.heap.size wr (w1'.setCell ⟨gh, 1, none⟩ (B u1))) := Lib.hid (FB1.out.setCell (show wr.heap.size ≤ gh from hlo') _)
      have HL' : Hid (L2.length = N) := Lib.hid (by rw [hL2, List.length_set]; exact HL.out)
      have E13 := Lib.hid hL2
      clear hk' htk' hj' hL2 e' hle' hsz' HL O1 FB1
      go_upto_region 13 with fail
      change Code.wp _ _ _ _ (w1'.setCell ⟨gh, 1, none⟩ (B u1))
      generalize w1'.setCell ⟨gh, 1, none⟩ (B u1) = w2 at *
      clear hc' hf'
      have HL := HL'
      clear HL'
      have hcl : w2.cell? ⟨b1, o1 + j, none⟩ = some (B x) := (FB2.out.cell (p := ⟨b1, o1 + j, none⟩) (Nat.lt_of_lt_of_le hb1 hs)).trans hc1
      clear hc1 q4 q4' hb1
      rcases (show m = 0 ∨ m = 1 ∨ m = 2 ∨ m = 3 by omega) with rfl | rfl | rfl | rfl
      · have q8 : (x.toNat : Int) % 4 = 0 := by have := HLG.out.2.1; omega
        have q8' : (x.toNat : Int).tmod 4 = 0 := by rw [Int.tmod_eq_emod_of_nonneg (by omega)]; exact q8
        obtain ⟨u3, hu3⟩ : ∃ u : UInt8, u = UInt8.ofNat (8 * lg + 4) := ⟨_, rfl⟩
        obtain ⟨P, hP⟩ : ∃ P, P = N - 4 := ⟨_, rfl⟩
        have HU3 := Lib.hid hu3
        have y1 : IntKind.i64.wrap ((N : Int) - 4) = (P : Int) := by have := HLG.out; rw [IntKind.wrap_i64]; omega
        have y2 : IntKind.u8.wrap (P : Int) = (u3.toNat : Int) := by have := HLG.out; rw [hu3, IntKind.wrap_u8, UInt8.toNat_ofNat']; omega
        have y3 : (P : Int) % 256 = (u3.toNat : Int) := by have := HLG.out; rw [hu3, UInt8.toNat_ofNat']; omega
        have y4 : ((N : Int) - 4) % 256 = (u3.toNat : Int) := by have := HLG.out; rw [hu3, UInt8.toNat_ofNat']; omega
        clear hu3 hP
        obtain ⟨g', cur, e', hk', hlo', hle', hsz', htk'⟩ := own_parts O2.out (by have := HN8.out; omega)
        obtain rfl : gh = g' := congrArg Addr.block (Option.some.inj e')
        have hj' : ∃ x, L2[2]? = some x := by have := HL.out; have := HN8.out; exact ⟨_, List.getElem?_eq_getElem (show 2 < L2.length by omega)⟩
        obtain ⟨xo, hj'⟩ := hj'
        have hc' := own_cell hk' htk' hj'
        have hf' := bk_frozen hk' 2
        obtain ⟨L3, hL2⟩ : ∃ X, X = L2.set 2 1 := ⟨_, rfl⟩
        have O3 : Hid ((w2.setCell ⟨gh, 2, none⟩ (B 1)).ownsRow wr.heap.size 5 1 (.slice (some ⟨gh, 0, none⟩) N N) N (List.map B L3)) := Lib.hid (hL2 ▸ own_set O2.out 1)
        have FB3 : Hid (Below wr.heap.size wr (w2.setCell ⟨gh, 2, none⟩ (B 1))) := Lib.hid (FB2.out.setCell (show wr.heap.size ≤ gh from hlo') _)
        have HL' : Hid (L3.length = N) := Lib.hid (by rw [hL2, List.length_set]; exact HL.out)
        have E18 := Lib.hid hL2
        clear hk' htk' hj' hL2 e' hle' hsz' HL O2 FB2
        go_upto_region 18 with fail
        change Code.wp _ _ _ _ (w2.setCell ⟨gh, 2, none⟩ (B 1))
        generalize w2.setCell ⟨gh, 2, none⟩ (B 1) = w3 at *
        clear hc' hf'
        have HL := HL'
        clear HL'
        clear hcl
        obtain ⟨g', cur, e', hk', hlo', hle', hsz', htk'⟩ := own_parts O3.out (by have := HN8.out; omega)
        obtain rfl : gh = g' := congrArg Addr.block (Option.some.inj e')
        have hj' : ∃ x, L3[3]? = some x := by have := HL.out; have := HN8.out; exact ⟨_, List.getElem?_eq_getElem (show 3 < L3.length by omega)⟩
        obtain ⟨xo, hj'⟩ := hj'
        have hc' := own_cell hk' htk' hj'
        have hf' := bk_frozen hk' 3
        obtain ⟨L4, hL2⟩ : ∃ X, X = L3.set 3 u3 := ⟨_, rfl⟩
        have O4 : Hid ((w3.setCell ⟨gh, 3, none⟩ (B u3)).ownsRow wr.heap.size 5 1 (.slice (some ⟨gh, 0, none⟩) N N) N (List.map B L4)) := Lib.hid (hL2 ▸ own_set O3.out u3)
        have FB4 : Hid (Below wr.heap.size wr (w3.setCell ⟨gh, 3, none⟩ (B u3))) := Lib.hid (FB3.out.setCell (show wr.heap.size ≤ gh from hlo') _)
        have HL' : Hid (L4.length = N) := Lib.hid (by rw [hL2, List.length_set]; exact HL.out)
        have E19 := Lib.hid hL2
        clear hk' htk' hj' hL2 e' hle' hsz' HL O3 FB3
        go_upto_region 19 with fail
        change Code.wp _ _ _ _ (w3.setCell ⟨gh, 3, none⟩ (B u3))
        generalize w3.setCell ⟨gh, 3, none⟩ (B u3) = w4 at *
        clear hc' hf'
        have HL := HL'
        clear HL'
        go_upto_region 26 with fail
        refine wp_region_lit ?_
        refine wpList_step (fun K hK => ?_)
        go_simp
        refine hK _ _ ?_
        clear hK K
        refine wpList_step (fun K hK => ?_)
        go_simp
        refine hK _ _ ?_
        clear hK K
        have hN47 : N + b.length < 2 ^ 47 := by have := HLG.out.2.2; omega
        refine append_rd rfl _ _ rfl w.heap.size (.slice (some ⟨gh, 0, none⟩) N N) N (List.map B L4) rfl (World.ownsRow.mono O4.out hs) A b c rfl HRB.out.2.1 ((HRB.out.1.below FB4.out (Nat.le_refl _)).mono FB4.out.size) hN47 (Nat.le_trans hs FB4.out.size) ?_
        intro v5 w5 ho5 hg5
        have F5 : Hid (Below w.heap.size w w5) := Lib.hid ((BR.out.trans (FB4.out.mono hs)).grown hg5 (Nat.le_trans hs FB4.out.size) (fun x hx => ((World.ownsRow.mono O4.out hs).lt x hx).1))
        have HO5 : Hid (w5.ownsRow w.heap.size 5 1 v5 (L4 ++ b).length (List.map B (L4 ++ b))) := Lib.hid (by
          rw [List.length_append, HL.out, List.map_append]; exact ho5)
        obtain ⟨A5, c5, rfl, _, _, _⟩ := Rd.of_own HO5.out rfl
        have hle5 : N + b.length = (L4 ++ b).length := by rw [List.length_append, HL.out]
        obtain ⟨j2, hj2⟩ : ∃ x, x = j + 1 := ⟨_, rfl⟩
        have g5 : IntKind.i64.wrap ((j : Int) + 1) = (j2 : Int) := by rw [IntKind.wrap_i64]; omega
        have HJ := Lib.hid hj2
        clear hj2 ho5 hg5
        go_wp2_with fail
        refine ⟨⟨j2, A5, c5, nxO 0, L4 ++ b, by have := HJ.out; omega, rfl, rfl, by rw [List.length_append], Lib.hid ?_, HO5, F5⟩, by have := HJ.out; simp [intOf]; omega⟩
        have eL : L4 = hdO 0 lg s x := by
          have eN : N = (8 * lg + 4) + 4 := by have := HLG.out; omega
          rw [E19.out, E18.out, E13.out, E12.out, E0.out, eN, set4, HU1.out, HU3.out]; rfl
        rw [HJ.out, stO_next HS.out hjn, ← HX.out, ← HLG.out.2.1, ← HLG.out.1, eL]
      · have q8 : (x.toNat : Int) % 4 = 1 := by have := HLG.out.2.1; omega
        have q8' : (x.toNat : Int).tmod 4 = 1 := by rw [Int.tmod_eq_emod_of_nonneg (by omega)]; exact q8
        obtain ⟨u3, hu3⟩ : ∃ u : UInt8, u = UInt8.ofNat (8 * lg + 4) := ⟨_, rfl⟩
        obtain ⟨P, hP⟩ : ∃ P, P = N - 4 := ⟨_, rfl⟩
        have HU3 := Lib.hid hu3
        have y1 : IntKind.i64.wrap ((N : Int) - 4) = (P : Int) := by have := HLG.out; rw [IntKind.wrap_i64]; omega
        have y2 : IntKind.u8.wrap (P : Int) = (u3.toNat : Int) := by have := HLG.out; rw [hu3, IntKind.wrap_u8, UInt8.toNat_ofNat']; omega
        have y3 : (P : Int) % 256 = (u3.toNat : Int) := by have := HLG.out; rw [hu3, UInt8.toNat_ofNat']; omega
        have y4 : ((N : Int) - 4) % 256 = (u3.toNat : Int) := by have := HLG.out; rw [hu3, UInt8.toNat_ofNat']; omega
        clear hu3 hP
        obtain ⟨g', cur, e', hk', hlo', hle', hsz', htk'⟩ := own_parts O2.out (by have := HN8.out; omega)
        obtain rfl : gh = g' := congrArg Addr.block (Option.some.inj e')
        have hj' : ∃ x, L2[2]? = some x := by have := HL.out; have := HN8.out; exact ⟨_, List.getElem?_eq_getElem (show 2 < L2.length by omega)⟩
        obtain ⟨xo, hj'⟩ := hj'
        have hc' := own_cell hk' htk' hj'
        have hf' := bk_frozen hk' 2
        obtain ⟨L3, hL2⟩ : ∃ X, X = L2.set 2 30 := ⟨_, rfl⟩
        have O3 : Hid ((w2.setCell ⟨gh, 2, none⟩ (B 30)).ownsRow wr.heap.size 5 1 (.slice (some ⟨gh, 0, none⟩) N N) N (List.map B L3)) := Lib.hid (hL2 ▸ own_set O2.out 30)
        have FB3 : Hid (Below wr.heap.size wr (w2.setCell ⟨gh, 2, none⟩ (B 30))) := Lib.hid (FB2.out.setCell (show wr.heap.size ≤ gh from hlo') _)
        have HL' : Hid (L3.length = N) := Lib.hid (by rw [hL2, List.length_set]; exact HL.out)
        have E22 := Lib.hid hL2
        clear hk' htk' hj' hL2 e' hle' hsz' HL O2 FB2
        go_upto_region 22 with fail
        change Code.wp _ _ _ _ (w2.setCell ⟨gh, 2, none⟩ (B 30))
        generalize w2.setCell ⟨gh, 2, none⟩ (B 30) = w3 at *
        clear hc' hf'
        have HL := HL'
        clear HL'
        clear hcl
        obtain ⟨g', cur, e', hk', hlo', hle', hsz', htk'⟩ := own_parts O3.out (by have := HN8.out; omega)
        obtain rfl : gh = g' := congrArg Addr.block (Option.some.inj e')
        have hj' : ∃ x, L3[3]? = some x := by have := HL.out; have := HN8.out; exact ⟨_, List.getElem?_eq_getElem (show 3 < L3.length by omega)⟩
        obtain ⟨xo, hj'⟩ := hj'
        have hc' := own_cell hk' htk' hj'
        have hf' := bk_frozen hk' 3
        obtain ⟨L4, hL2⟩ : ∃ X, X = L3.set 3 u3 := ⟨_, rfl⟩
        have O4 : Hid ((w3.setCell ⟨gh, 3, none⟩ (B u3)).ownsRow wr.heap.size 5 1 (.slice (some ⟨gh, 0, none⟩) N N) N (List.map B L4)) := Lib.hid (hL2 ▸ own_set O3.out u3)
        have FB4 : Hid (Below wr.heap.size wr (w3.setCell ⟨gh, 3, none⟩ (B u3))) := Lib.hid (FB3.out.setCell (show wr.heap.size ≤ gh from hlo') _)
        have HL' : Hid (L4.length = N) := Lib.hid (by rw [hL2, List.length_set]; exact HL.out)
        have E23 := Lib.hid hL2
        clear hk' htk' hj' hL2 e' hle' hsz' HL O3 FB3
        go_upto_region 23 with fail
        change Code.wp _ _ _ _ (w3.setCell ⟨gh, 3, none⟩ (B u3))
        generalize w3.setCell ⟨gh, 3, none⟩ (B u3) = w4 at *
        clear hc' hf'
        have HL := HL'
        clear HL'
        go_upto_region 26 with fail
        refine wp_region_lit ?_
        refine wpList_step (fun K hK => ?_)
        go_simp
        refine hK _ _ ?_
        clear hK K
        refine wpList_step (fun K hK => ?_)
        go_simp
        refine hK _ _ ?_
        clear hK K
        have hN47 : N + b.length < 2 ^ 47 := by have := HLG.out.2.2; omega
        refine append_rd rfl _ _ rfl w.heap.size (.slice (some ⟨gh, 0, none⟩) N N) N (List.map B L4) rfl (World.ownsRow.mono O4.out hs) A b c rfl HRB.out.2.1 ((HRB.out.1.below FB4.out (Nat.le_refl _)).mono FB4.out.size) hN47 (Nat.le_trans hs FB4.out.size) ?_
        intro v5 w5 ho5 hg5
        have F5 : Hid (Below w.heap.size w w5) := Lib.hid ((BR.out.trans (FB4.out.mono hs)).grown hg5 (Nat.le_trans hs FB4.out.size) (fun x hx => ((World.ownsRow.mono O4.out hs).lt x hx).1))
        have HO5 : Hid (w5.ownsRow w.heap.size 5 1 v5 (L4 ++ b).length (List.map B (L4 ++ b))) := Lib.hid (by
          rw [List.length_append, HL.out, List.map_append]; exact ho5)
        obtain ⟨A5, c5, rfl, _, _, _⟩ := Rd.of_own HO5.out rfl
        have hle5 : N + b.length = (L4 ++ b).length := by rw [List.length_append, HL.out]
        obtain ⟨j2, hj2⟩ : ∃ x, x = j + 1 := ⟨_, rfl⟩
        have g5 : IntKind.i64.wrap ((j : Int) + 1) = (j2 : Int) := by rw [IntKind.wrap_i64]; omega
        have HJ := Lib.hid hj2
        clear hj2 ho5 hg5
        go_wp2_with fail
        refine ⟨⟨j2, A5, c5, nxO 1, L4 ++ b, by have := HJ.out; omega, rfl, rfl, by rw [List.length_append], Lib.hid ?_, HO5, F5⟩, by have := HJ.out; simp [intOf]; omega⟩
        have eL : L4 = hdO 1 lg s x := by
          have eN : N = (8 * lg + 4) + 4 := by have := HLG.out; omega
          rw [E23.out, E22.out, E13.out, E12.out, E0.out, eN, set4, HU1.out, HU3.out]; rfl
        rw [HJ.out, stO_next HS.out hjn, ← HX.out, ← HLG.out.2.1, ← HLG.out.1, eL]
      · have q8 : (x.toNat : Int) % 4 = 2 := by have := HLG.out.2.1; omega
        have q8' : (x.toNat : Int).tmod 4 = 2 := by rw [Int.tmod_eq_emod_of_nonneg (by omega)]; exact q8
        go_upto_region 26 with fail
        refine wp_region_lit ?_
        refine wpList_step (fun K hK => ?_)
        go_simp
        refine hK _ _ ?_
        clear hK K
        refine wpList_step (fun K hK => ?_)
        go_simp
        refine hK _ _ ?_
        clear hK K
        have hN47 : N + b.length < 2 ^ 47 := by have := HLG.out.2.2; omega
        refine append_rd rfl _ _ rfl w.heap.size (.slice (some ⟨gh, 0, none⟩) N N) N (List.map B L2) rfl (World.ownsRow.mono O2.out hs) A b c rfl HRB.out.2.1 ((HRB.out.1.below FB2.out (Nat.le_refl _)).mono FB2.out.size) hN47 (Nat.le_trans hs FB2.out.size) ?_
        intro v5 w5 ho5 hg5
        have F5 : Hid (Below w.heap.size w w5) := Lib.hid ((BR.out.trans (FB2.out.mono hs)).grown hg5 (Nat.le_trans hs FB2.out.size) (fun x hx => ((World.ownsRow.mono O2.out hs).lt x hx).1))
        clear hcl
        have HO5 : Hid (w5.ownsRow w.heap.size 5 1 v5 (L2 ++ b).length (List.map B (L2 ++ b))) := Lib.hid (by
          rw [List.length_append, HL.out, List.map_append]; exact ho5)
        obtain ⟨A5, c5, rfl, _, _, _⟩ := Rd.of_own HO5.out rfl
        have hle5 : N + b.length = (L2 ++ b).length := by rw [List.length_append, HL.out]
        obtain ⟨j2, hj2⟩ : ∃ x, x = j + 1 := ⟨_, rfl⟩
        have g5 : IntKind.i64.wrap ((j : Int) + 1) = (j2 : Int) := by rw [IntKind.wrap_i64]; omega
        have HJ := Lib.hid hj2
        clear hj2 ho5 hg5
        go_wp2_with fail
        refine ⟨⟨j2, A5, c5, nxO 2, L2 ++ b, by have := HJ.out; omega, rfl, rfl, by rw [List.length_append], Lib.hid ?_, HO5, F5⟩, by have := HJ.out; simp [intOf]; omega⟩
        have eL : L2 = hdO 2 lg s x := by
          have eN : N = (8 * lg + 4) + 4 := by have := HLG.out; omega
          rw [E13.out, E12.out, E0.out, eN, set2, HU1.out]; rfl
        rw [HJ.out, stO_next HS.out hjn, ← HX.out, ← HLG.out.2.1, ← HLG.out.1, eL]
      · have q8 : (x.toNat : Int) % 4 = 3 := by have := HLG.out.2.1; omega
        have q8' : (x.toNat : Int).tmod 4 = 3 := by rw [Int.tmod_eq_emod_of_nonneg (by omega)]; exact q8
        go_upto_region 15 with fail
        change Code.wp _ _ _ _ (w2.alloc (.cells (List.map B [s, 0, 0, 0, 1, 2, 3, x]).toArray 5 (0, 0)))
        clear HL
        obtain ⟨L4, hL4⟩ : ∃ X : List UInt8, X = [s, 0, 0, 0, 1, 2, 3, x] := ⟨_, rfl⟩
        have HL : Hid (L4.length = 8) := Lib.hid (by rw [hL4]; rfl)
        have o0 := own_lit (w := w2) L4 (by rw [HL.out]; omega)
        rw [HL.out] at o0
        rw [← hL4]
        have FB4 : Hid (Below wr.heap.size wr (w2.alloc (.cells (List.map B L4).toArray 5 (0, 0)))) := Lib.hid (FB2.out.alloc FB2.out.size _)
        have O4' := World.ownsRow.mono o0 FB2.out.size
        obtain ⟨g4, hg4⟩ : ∃ g, g = w2.heap.size := ⟨_, rfl⟩
        rw [← hg4] at O4' ⊢
        have O4 := Lib.hid O4'
        have E14 := Lib.hid hL4
        clear O4' o0 hL4 hg4 hcl FB2 O2
        generalize w2.alloc (.cells (List.map B L4).toArray 5 (0, 0)) = w4 at *
        go_upto_region 26 with fail
        refine wp_region_lit ?_
        refine wpList_step (fun K hK => ?_)
        go_simp
        refine hK _ _ ?_
        clear hK K
        refine wpList_step (fun K hK => ?_)
        go_simp
        refine hK _ _ ?_
        clear hK K
        have hN47 : 8 + b.length < 2 ^ 47 := by have := HLG.out.2.2; omega
        refine append_rd rfl _ _ rfl w.heap.size (.slice (some ⟨g4, 0, none⟩) 8 8) 8 (List.map B L4) rfl (World.ownsRow.mono O4.out hs) A b c rfl HRB.out.2.1 ((HRB.out.1.below FB4.out (Nat.le_refl _)).mono FB4.out.size) hN47 (Nat.le_trans hs FB4.out.size) ?_
        intro v5 w5 ho5 hg5
        have F5 : Hid (Below w.heap.size w w5) := Lib.hid ((BR.out.trans (FB4.out.mono hs)).grown hg5 (Nat.le_trans hs FB4.out.size) (fun x hx => ((World.ownsRow.mono O4.out hs).lt x hx).1))
        have HO5 : Hid (w5.ownsRow w.heap.size 5 1 v5 (L4 ++ b).length (List.map B (L4 ++ b))) := Lib.hid (by
          rw [List.length_append, HL.out, List.map_append]; exact ho5)
        obtain ⟨A5, c5, rfl, _, _, _⟩ := Rd.of_own HO5.out rfl
        have hle5 : 8 + b.length = (L4 ++ b).length := by rw [List.length_append, HL.out]
        obtain ⟨j2, hj2⟩ : ∃ x, x = j + 1 := ⟨_, rfl⟩
        have g5 : IntKind.i64.wrap ((j : Int) + 1) = (j2 : Int) := by rw [IntKind.wrap_i64]; omega
        have HJ := Lib.hid hj2
        clear hj2 ho5 hg5
        go_wp2_with fail
        refine ⟨⟨j2, A5, c5, nxO 3, L4 ++ b, by have := HJ.out; omega, rfl, rfl, by rw [List.length_append], Lib.hid ?_, HO5, F5⟩, by have := HJ.out; simp [intOf]; omega⟩
        have eL : L4 = hdO 3 lg s x := by rw [E14.out]; rfl
        rw [HJ.out, stO_next HS.out hjn, ← HX.out, ← HLG.out.2.1, ← HLG.out.1, eL]
    · obtain rfl : j = l.length := by omega
      have d3 : decide ((l.length : Int) < (l.length : Int)) = false := by simp
      obtain ⟨_, _, _, hRb, hNb, hCb⟩ := Rd.of_own HO.out rfl
      rename_i eA
      cases eA
      have hch := over_stO HNB.out.symm l 40 6 true false (mc := Al.isNone) (rest := rest)
      have hS := HS.out
      rw [List.take_length] at hS
      rw [hS] at hch
      obtain ⟨mc, hmc⟩ : ∃ b, b = Al.isNone := ⟨_, rfl⟩
      rw [← hmc] at hch
      have HMC := Lib.hid hmc
      have HC : Hid (Calls Try.prog 18 #[B s, .slice A b.length c, .int .u32 40, .bool mc] wr fun e w'' => ∃ A', e = .returned (tlV (tlO nx rest false) A' rest.length) ∧ Gots rest wr.heap.size A' w'' ∧ Below wr.heap.size wr w'') := Lib.hid (by
        have C := chain_any s A b c 40 mc wr hRb hNb hCb (by omega) (by omega)
        rw [show chain mc s b 40 (if 40 = 40 then 6 else 40 - 8) (40 == 40) false = tlO nx rest false from hch] at C
        exact C)
      clear hch hS hRb hNb hCb HO HS
      rw [hmc] at HC
      clear hmc HMC
      go_wp2_with fail
      refine HC.out.mono ?_
      rintro e w2 ⟨A5, rfl, hg, b2⟩
      have F2 := Lib.hid (BR.out.trans (b2.mono hs))
      have HG := Lib.hid hg.rd
      clear hg
      unfold tlO tlV
      go_upto_region 28 with fail
      have a3 : Below w2.heap.size w2 ((w2.alloc (.cells (fragC false 0 0 false) 27 (0, 0))).alloc (.cells (faultC 0 0) 47 (0, 0))) := (by (repeat (first | exact Below.refl _ _ | assumption | refine Below.drew ?_ | refine bdrewN ?_ _ | refine Below.alloc ?_ (by first | omega | (simp <;> omega) | (simp only [World.size_alloc] <;> omega)) _ | refine below_setRow ?_ (by first | omega | (simp <;> omega)) _ | refine Below.setCell ?_ (by first | omega | (simp <;> omega)) _)))
      have KF : Hid (bk ((w2.alloc (.cells (fragC false 0 0 false) 27 (0, 0))).alloc (.cells (faultC 0 0) 47 (0, 0))) (w2.heap.size + 1) = some (.cells (faultC 0 0) 47 (0, 0))) := Lib.hid (bk_alloc_at _ _ _ (by simp))
      have KG0 : bk (w2.alloc (.cells (fragC false 0 0 false) 27 (0, 0))) w2.heap.size = some (.cells (fragC false 0 0 false) 27 (0, 0)) := bk_alloc_at _ _ _ rfl
      have KG : Hid (bk ((w2.alloc (.cells (fragC false 0 0 false) 27 (0, 0))).alloc (.cells (faultC 0 0) 47 (0, 0))) w2.heap.size = some (.cells (fragC false 0 0 false) 27 (0, 0))) := Lib.hid (bk_keep ((Below.refl _ _).alloc (by simp) _) (bk_lt KG0) KG0)
      have F3 := Lib.hid (F2.out.trans (a3.mono F2.out.size))
      have HG3 := Lib.hid ((HG.out.below a3 (Nat.le_refl _)).mono a3.size)
      have HR3 := Lib.hid ((H1.out.below F3.out (Nat.le_refl _)).mono F3.out.size)
      change Code.wp _ _ _ _ ((w2.alloc (.cells (fragC false 0 0 false) 27 (0, 0))).alloc (.cells (faultC 0 0) 47 (0, 0)))
      obtain ⟨p1, hp1⟩ : ∃ p, p = w2.heap.size + 1 := ⟨_, rfl⟩
      obtain ⟨p0, hp0⟩ : ∃ p, p = w2.heap.size := ⟨_, rfl⟩
      rw [← hp1] at KF ⊢
      rw [← hp0] at KG ⊢
      clear a3 b2 hp1 hp0 KG0 HG F2
      generalize (w2.alloc (.cells (fragC false 0 0 false) 27 (0, 0))).alloc (.cells (faultC 0 0) 47 (0, 0)) = w3 at *
      have k0 := bk_cell KG.out 0
      have LB : Hid (Calls Try.prog 13 #[.slice A5 rest.length rest.length, .slice Ar rest.length cr] w3 fun e w' => e = .returned (.bool true) ∧ Below w3.heap.size w3 w') := Lib.hid (by
        have C := sameBytes_any A5 Ar rest rest rest.length cr w3 HG3.out HR3.out (by omega) (by omega)
        rw [show (rest == rest) = true by simp] at C
        exact C)
      have q1 := fun w => eqFault 0 0 w
      go_wp2_with fail
      refine LB.out.mono ?_
      rintro e w4 ⟨rfl, b4⟩
      have FZ := Lib.hid (F3.out.trans (b4.mono F3.out.size))
      have K1 := bk_keep b4 (bk_lt KF.out) KF.out
      have K0 := bk_keep b4 (bk_lt KG.out) KG.out
      have k0' := bk_cell K0 0
      have LV := Lib.hid (lives9_any w4)
      clear b4 F3 LB k0 KF KG HG3 HR3
      go_wp2_with fail
      refine LV.out.mono ?_
      rintro e wq ⟨rfl, bq⟩
      have F2 := Lib.hid (FZ.out.trans (bq.mono FZ.out.size))
      clear bq
      go_wp2_with fail
      go_ret
      exact ⟨rfl, F2.out⟩
end Go.Proofs.Ytbfiakikhkiefaa
