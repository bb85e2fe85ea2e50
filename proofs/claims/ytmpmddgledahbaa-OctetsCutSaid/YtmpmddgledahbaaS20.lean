/- OctetsParts, walked. -/
import Derived.Test.YtmpmddgledahbaaS17
import Derived.Test.YtmpmddgledahbaaS12
import Derived.Test.YtmpmddgledahbaaS15
namespace Go.Proofs.Ytmpmddgledahbaa
open Go.RowKit
set_option maxRecDepth 100000
theorem left_Kq (g : Nat) (l : List UInt8) (w : World) (h : KC w g l) : Calls Try.prog 14 #[.pointer (some ⟨g, 0, none⟩)] w fun e w' => e = .returned (.int .i64 l.length) ∧ w' = w :=
  (left_K g l w h).mono fun _ _ ⟨h1, h2⟩ => ⟨h1, h2.symm⟩
theorem bytes_KB (g : Nat) (m : Int) (w : World) (h : KB w g) :
    Calls Try.prog 24 #[.pointer (some ⟨g, 0, none⟩), .int .i64 m] w fun e w' => e = .returned (.slice none 0 0) ∧ KB w' g ∧ Only g w w' := by
  obtain ⟨A, N, c, hb⟩ := h
  refine (bytes_bad g N c A false m w hb (.inl rfl)).mono ?_
  rintro e w' ⟨rfl, hch⟩
  exact ⟨rfl, ⟨_, _, _, hch.new⟩, hch.only⟩
theorem bytes_KS (g : Nat) (l : List UInt8) (m : Int) (w : World) (h : KC w g l) (hm : m < 0 ∨ (l.length : Int) < m) :
    Calls Try.prog 24 #[.pointer (some ⟨g, 0, none⟩), .int .i64 m] w fun e w' => e = .returned (.slice none 0 0) ∧ KB w' g ∧ Only g w w' := by
  obtain ⟨A, c, hb, _, _⟩ := h
  refine (bytes_bad g l.length c A true m w hb (.inr hm)).mono ?_
  rintro e w' ⟨rfl, hch⟩
  exact ⟨rfl, ⟨_, _, _, hch.new⟩, hch.only⟩
theorem Only.grown {g : Nat} {w w' : World} (h : Only g w w') : w.grownBy w' (some g) := ⟨h.os, h.tape, h.output, by rw [h.size]; exact Nat.le_refl _, fun k _ hk => h.old k (fun e => hk (by rw [e]))⟩
theorem ownsRow_only {w w' : World} {g base : Nat} {e : TypeId} {size : Nat} {v : Value} {n : Nat} {xs : List Value} (h : w.ownsRow base e size v n xs) (ho : Only g w w') (hg : g < base) : w'.ownsRow base e size v n xs :=
  h.kept ho.grown (by
    rcases hx : v.ownBlock with _ | k
    · exact .inl rfl
    · refine .inr fun e => ?_
      have := (h.lt k hx).1
      cases e
      omega)
theorem Rd.none_nil {w : World} {n : Nat} {l : List UInt8} (h : Rd w n none l) : l = [] := by
  rcases Nat.eq_zero_or_pos l.length with h0 | h0
  · exact List.eq_nil_of_length_eq_zero h0
  · obtain ⟨b, o, e, _⟩ := h h0
    cases e
theorem Only.size_eq {g : Nat} {w w' : World} (h : Only g w w') : w'.heap.size = w.heap.size := h.size
theorem octetsParts_long (A A2 : Option Addr) (l l2 : List UInt8) (c c2 : Nat) (x : UInt8) (n : Int) (w : World) (hl : 2000 < l.length ∨ 300 < l2.length) (h1 : l.length < 2 ^ 63) (h2 : l2.length < 2 ^ 63) :
    Calls Try.prog 7 #[.slice A l.length c, .slice A2 l2.length c2, .agg #[B x, .int .i64 n]] w fun e w' => e = .returned (.bool true) ∧ Below w.heap.size w w' := by
  by_cases hb : 2000 < l.length
  · have d1 : decide (2000 < (l.length : Int)) = true := by simp; omega
    have d2 : decide (2000 < l.length) = true := by simp; omega
    clear hl
    go_enter Try.func7, Try.ntmps7
    go_wp2_with fail
    refine (lives_any _).mono ?_
    rintro e w1 ⟨rfl, b1⟩
    go_wp2_with fail
    go_ret
    exact ⟨rfl, ((Below.refl w.heap.size w).alloc (Nat.le_refl _) _).trans (b1.mono (by simp))⟩
  · have hb2 : 300 < l2.length := by omega
    have d1 : decide (2000 < (l.length : Int)) = false := by simp; omega
    have d2 : decide (2000 < l.length) = false := by simp; omega
    have d3 : decide (300 < (l2.length : Int)) = true := by simp; omega
    have d4 : decide (300 < l2.length) = true := by simp; omega
    clear hl
    go_enter Try.func7, Try.ntmps7
    go_wp2_with fail
    refine (lives_any _).mono ?_
    rintro e w1 ⟨rfl, b1⟩
    go_wp2_with fail
    go_ret
    exact ⟨rfl, ((Below.refl w.heap.size w).alloc (Nat.le_refl _) _).trans (b1.mono (by simp))⟩
set_option maxHeartbeats 2000000 in
theorem octetsParts_walk (A A2 : Option Addr) (l l2 : List UInt8) (c c2 : Nat) (x : UInt8) (n : Int) (w : World) (h : Rd w w.heap.size A l) (hA : A = none → l = [] ∧ c = 0) (hlc : l.length ≤ c) (h2 : Rd w w.heap.size A2 l2) (hl : l.length ≤ 2000) (hl2 : l2.length ≤ 300) (hn : -2 ^ 63 ≤ n ∧ n < 2 ^ 63) :
    Calls Try.prog 7 #[.slice A l.length c, .slice A2 l2.length c2, .agg #[B x, .int .i64 n]] w fun e w' => e = .returned (.bool true) ∧ Below w.heap.size w w' := by
  have H := Lib.hid h; have HA := Lib.hid hA; have H2 := Lib.hid h2
  clear h hA h2
  have d1 : decide (2000 < (l.length : Int)) = false := by simp; omega
  have d2 : decide (2000 < l.length) = false := by simp; omega
  have d3 : decide (300 < (l2.length : Int)) = false := by simp; omega
  have d4 : decide (300 < l2.length) = false := by simp; omega
  go_enter Try.func7, Try.ntmps7
  go_wp2_with fail
  have a0 : Below w.heap.size w (w.alloc (.cells #[B x, .int .i64 n] 35)) := (Below.refl _ _).alloc (Nat.le_refl _) _
  refine (of_K A l c _ ((H.out.below a0 (Nat.le_refl _)).mono (by simp)) HA.out (by omega)).mono ?_
  rintro e w1 ⟨g, rfl, hg, hK, b1⟩
  have hg0 : w.heap.size + 1 ≤ g := by simpa using hg
  have f1 : Below w.heap.size w w1 := a0.trans (b1.mono (by simp))
  have hx0 : bk w1 w.heap.size = some (.cells #[B x, .int .i64 n] 35 (0, 0)) := bk_keep b1 (by simp) (bk_alloc_at _ _ _ rfl)
  have s1 : w.heap.size + 1 ≤ w1.heap.size := by have := b1.size; simpa using this
  have HK := Lib.hid hK; have HX := Lib.hid hx0
  clear hK hx0 hg b1 a0
  go_wp2
  go_loopw [8, 9] (fun v i wr => ∃ k q : Nat, k ≤ l2.length ∧ q ≤ l.length ∧ i = .int .i64 k ∧ Hid (KC wr g (l.drop q)) ∧ Hid (wr.ownsRow (g + 1) 5 1 v q ((l.take q).map B)) ∧ Below w.heap.size w wr ∧ w.heap.size + 1 ≤ wr.heap.size ∧ g < wr.heap.size ∧ Hid (bk wr w.heap.size = some (.cells #[B x, .int .i64 n] 35 (0, 0)))) (fun _ i _ => l2.length - (intOf i).toNat)
  case atStart => exact ⟨0, 0, by omega, by omega, rfl, HK, Lib.hid (World.ownsRow_nil _ _ _ _), f1, s1, HK.out.lt, HX⟩
  case round =>
    obtain ⟨k, q, hk, hq, rfl, hK, ho, hB, hs, hgl, hX⟩ := hrel
    by_cases hlt : k < l2.length
    · have e1 : decide ((k : Int) < (l2.length : Int)) = true := by simp; omega
      obtain ⟨b2, o2, rfl, hb2, hc2⟩ := (H2.out.below hB (Nat.le_refl _)).at hlt
      obtain ⟨y, hy⟩ : ∃ y, y = l2[k] := ⟨_, rfl⟩
      rw [← hy] at hc2
      have hyl := y.toNat_lt
      clear hy
      go_wp2
      go_quiet ((go_at_call 14; exact Calls.quiet_of_same (left_Kq g (l.drop q) _ hK.out)))
      obtain ⟨m, hm⟩ : ∃ m : Nat, m = min y.toNat (l.length - q) := ⟨_, rfl⟩
      have em : (if l.length - q < y.toNat then ((l.length - q : Nat) : Int) else (y.toNat : Int)) = (m : Int) := by rw [hm]; split <;> omega
      have hmq : m ≤ l.length - q := by omega
      simp only [em]
      have K1 : KC (wr.drewN nq) g (l.drop q) := hK.out
      have O1 : (wr.drewN nq).ownsRow (g + 1) 5 1 u8 q ((l.take q).map B) := ho.out
      have B1 : Below w.heap.size w (wr.drewN nq) := bdrewN hB _
      have X1 : bk (wr.drewN nq) w.heap.size = some (.cells #[B x, .int .i64 n] 35 (0, 0)) := hX.out
      have S1 : w.heap.size + 1 ≤ (wr.drewN nq).heap.size := hs
      have G1 : g < (wr.drewN nq).heap.size := hgl
      clear hK ho hB hX hs hgl em hm hc2 hyl
      generalize wr.drewN nq = wd at *
      have hlm : ((l.drop q).take m).length = m := by rw [List.length_take, List.length_drop]; omega
      have HO1 := Lib.hid O1; have HX1 := Lib.hid X1; have HLM := Lib.hid hlm
      clear O1 X1 hlm
      obtain ⟨A3, c3, rfl⟩ := ownsRow_header HO1.out
      go_wp2_with fail
      refine (bytes_K g (l.drop q) m wd K1 (by rw [List.length_drop]; exact hmq)).mono ?_
      rintro e w2 ⟨A', rfl, hR2, K2, o2'⟩
      have z2 := o2'.size_eq
      have B2 := B1.trans (o2'.below (by omega : w.heap.size ≤ g))
      have O2 := Lib.hid (ownsRow_only HO1.out o2' (by omega))
      have X2 := Lib.hid ((o2'.old w.heap.size (by omega)).trans HX1.out)
      have G2 : g < w2.heap.size := by omega
      have S2 : w.heap.size + 1 ≤ w2.heap.size := by omega
      have HK2 := Lib.hid K2
      have HR2 := Lib.hid hR2
      clear K2 HO1 HX1 o2' K1 z2 hR2
      go_wp2_with fail
      refine (bad_K g _ w2 HK2.out).mono ?_
      rintro e w3 ⟨rfl, rfl⟩
      go_wp2_with (at_builtin; refine append_rd rfl _ _ rfl (g + 1) _ q _ rfl O2.out A' ((l.drop q).take m) m (by rw [HLM.out]; rfl) (fun h => by subst h; have := HR2.out.none_nil; exact ⟨this, by have h3 := HLM.out; rw [this] at h3; simpa using h3.symm⟩) (HR2.out.mono (by omega)) (by rw [HLM.out]; omega) (by omega) ?_)
      intro v' w4 hown' hgrow
      have ho4 : w4.ownsRow (g + 1) 5 1 v' (q + m) ((l.take (q + m)).map B) := by
        rw [show (l.take (q + m)).map B = List.take q (List.map B l) ++ List.take m (List.drop q (List.map B l)) by rw [List.take_add]; simp [List.map_take, List.map_drop]]
        exact hown'
      have hb4 : Below (g + 1) w2 w4 := (Below.refl _ _).grown hgrow (by omega) (fun k hk => (O2.out.lt k hk).1)
      have B4 := B2.trans (hb4.mono (by omega))
      have HO4 := Lib.hid ho4
      have K4 := HK2.out.keep hb4 (by omega)
      rw [List.drop_drop] at K4
      have HK4 := Lib.hid K4
      have s4 := hb4.size
      have X4 := Lib.hid (bk_keep hb4 (by omega) X2.out)
      clear hown' hgrow ho4 K4 hb4 O2 X2 HK2
      go_wp2_with fail
      go_roundw
      case rel => exact ⟨k + 1, q + m, by omega, by omega, by go_num, HK4, HO4, B4, by omega, by omega, X4⟩
      case measure => simp [intOf]; omega
    · have e1 : decide ((k : Int) < (l2.length : Int)) = false := by simp; omega
      have e2 : decide (k < l2.length) = false := by simp; omega
      obtain ⟨A3, c3, rfl⟩ := ownsRow_header ho.out
      obtain ⟨R, hR⟩ : ∃ R : Nat, R = l.length - q := ⟨_, rfl⟩
      have hdl : (l.drop q).length = R := by rw [List.length_drop, hR]
      have HDL := Lib.hid hdl
      have HR := Lib.hid hR
      clear hlt hdl hR
      go_wp2_with fail
      have CL := left_K g (l.drop q) wr hK.out
      rw [HDL.out] at CL
      refine CL.mono ?_
      rintro e w2 ⟨rfl, rfl⟩
      clear CL
      have e3 : ((q : Int) + (R : Int) != (l.length : Int)) = false := by rw [bne_eq_false_iff_eq]; have := HR.out; omega
      have hRl : R ≤ 2000 := by have := HR.out; omega
      go_wp2_with fail
      refine (bytes_KS g (l.drop q) ((R : Int) + 1) wr hK.out (by rw [HDL.out]; omega)).mono ?_
      rintro e w3 ⟨rfl, K3, o3⟩
      have O3 := Lib.hid (ownsRow_only ho.out o3 (by omega))
      have B3 := hB.trans (o3.below (by omega : w.heap.size ≤ g))
      have X3 := Lib.hid ((o3.old w.heap.size (by omega)).trans hX.out)
      clear hK ho hX o3
      go_wp2_with fail
      refine (bad_KB g w3 K3).mono ?_
      rintro e w4 ⟨rfl, rfl⟩
      go_wp2_with fail
      refine (left_KB g w3 K3).mono ?_
      rintro e w4 ⟨rfl, rfl⟩
      go_wp2_with fail
      refine (num_KB g 1 w3 K3).mono ?_
      rintro e w4 ⟨rfl, K4, o4⟩
      have O4 := Lib.hid (ownsRow_only O3.out o4 (by omega))
      have B4 := B3.trans (o4.below (by omega : w.heap.size ≤ g))
      have X4 := Lib.hid ((o4.old w.heap.size (by omega)).trans X3.out)
      clear O3 X3 K3 o4
      go_wp2_with fail
      refine (bytes_KB g 0 w4 K4).mono ?_
      rintro e w5 ⟨rfl, K5, o5⟩
      have O5 := Lib.hid (ownsRow_only O4.out o5 (by omega))
      have B5 := B4.trans (o5.below (by omega : w.heap.size ≤ g))
      have x5 := bk_cell ((o5.old w.heap.size (by omega)).trans X4.out) 1
      have X5 := Lib.hid ((o5.old w.heap.size (by omega)).trans X4.out)
      simp at x5
      clear O4 X4 K4 o5
      go_wp2_with fail
      refine (num_KB g n w5 K5).mono ?_
      rintro e w6 ⟨rfl, K6, o6⟩
      have O6 := Lib.hid (ownsRow_only O5.out o6 (by omega))
      have B6 := B5.trans (o6.below (by omega : w.heap.size ≤ g))
      have x6 := bk_cell ((o6.old w.heap.size (by omega)).trans X5.out) 1
      simp at x6
      clear O5 X5 K5 o6 x5
      go_wp2_with fail
      refine (bytes_KB g n w6 K6).mono ?_
      rintro e w7 ⟨rfl, K7, o7⟩
      have O7 := Lib.hid (ownsRow_only O6.out o7 (by omega))
      have B7 := B6.trans (o7.below (by omega : w.heap.size ≤ g))
      clear O6 K6 o7 x6
      go_wp2_with fail
      refine (rest_KB g w7 K7).mono ?_
      rintro e w8 ⟨rfl, rfl⟩
      go_wp2_with fail
      refine (bad_KB g w7 K7).mono ?_
      rintro e w8 ⟨rfl, rfl⟩
      have e4 : decide ((q : Int) ≤ (c : Int)) = true := by simp; omega
      go_wp2_with fail
      obtain ⟨A5, c5, hv5, hR5, _, _⟩ := Rd.of_own (l := l.take q) O7.out (by rw [List.length_take]; omega)
      have hlq : (l.take q).length = q := by rw [List.length_take]; omega
      rw [hlq] at hv5
      cases hv5
      have CS := sameBytes_any A3 A (l.take q) (l.take q) c3 c w7 hR5 ((H.out.take.below B7 (Nat.le_refl _)).mono B7.size) (by omega) (by omega)
      rw [hlq, beq_self_eq_true] at CS
      refine CS.mono ?_
      rintro e w8 ⟨rfl, b8⟩
      have B8 := B7.trans (b8.mono B7.size)
      clear CS O7 hR5 hlq b8
      go_wp2_with fail
      refine (lives_any w8).mono ?_
      rintro e w9 ⟨rfl, b9⟩
      have B9 := B8.trans (b9.mono B8.size)
      clear b9
      go_wp2_with fail
      go_ret
      exact ⟨rfl, B9⟩
end Go.Proofs.Ytmpmddgledahbaa
