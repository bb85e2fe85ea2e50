/- OctetsBack, walked. -/
import Derived.Test.YtmpmddgledahbaaS20
namespace Go.Proofs.Ytmpmddgledahbaa
open Go.RowKit
set_option maxRecDepth 100000
/-- How wide a number is put, and the number that is cut again. -/
def wd (m : UInt8) : Nat := 1 + m.toNat % 8
def cutn (n : Nat) (m : UInt8) : Nat := n % 256 ^ wd m
/-- All bytes of numbers, one behind the other. -/
def nbs (l : List (Nat × UInt8)) : List UInt8 := (l.map fun x => nb (wd x.2) x.1).flatten
theorem wd_le (m : UInt8) : 1 ≤ wd m ∧ wd m ≤ 8 := by unfold wd; omega
theorem nbs_take {l : List (Nat × UInt8)} {k : Nat} (h : k < l.length) : nbs (l.take (k + 1)) = nbs (l.take k) ++ nb (wd l[k].2) l[k].1 := by
  rw [List.take_succ_eq_append_getElem h]; unfold nbs; rw [List.map_append, List.flatten_append]; simp
theorem nbs_drop {l : List (Nat × UInt8)} {k : Nat} (h : k < l.length) : nbs (l.drop k) = nb (wd l[k].2) l[k].1 ++ nbs (l.drop (k + 1)) := by
  rw [List.drop_eq_getElem_cons h]; unfold nbs; rw [List.map_cons, List.flatten_cons]
theorem nbs_le (l : List (Nat × UInt8)) : (nbs l).length ≤ 8 * l.length := by
  induction l with
  | nil => simp [nbs]
  | cons x l ih =>
    have : nbs (x :: l) = nb (wd x.2) x.1 ++ nbs l := by simp [nbs]
    rw [this, List.length_append, nb_length, List.length_cons]
    have := wd_le x.2
    omega
theorem shl_wd (m : UInt8) (h : wd m < 8) : IntKind.u64.wrap (2 ^ (8 * (1 + m.toNat % 8))) = ((256 ^ wd m : Nat) : Int) := by
  have hW : wd m = 1 + m.toNat % 8 := rfl
  rw [← hW]
  generalize wd m = W at *
  have : 256 ^ W ≤ 256 ^ 7 := Nat.pow_le_pow_right (by omega) (by omega)
  rw [show (256 : Nat) = 2 ^ 8 from rfl, ← Nat.pow_mul, ← Nat.pow_mul] at this
  rw [show (256 : Nat) = 2 ^ 8 from rfl, ← Nat.pow_mul]
  have h2 : ((2 : Int) ^ (8 * W)) = ((2 ^ (8 * W) : Nat) : Int) := by norm_cast
  rw [h2]
  generalize 2 ^ (8 * W) = z at *
  rw [IntKind.wrap_u64]
  simp only [Nat.reduceMul, Nat.reducePow] at this
  omega
theorem rest_K (g : Nat) (l : List UInt8) (w : World) (h : KC w g l) :
    Calls Try.prog 17 #[.pointer (some ⟨g, 0, none⟩)] w fun e w' => ∃ A, e = .returned (.slice A l.length l.length) ∧ Rd w' g A l ∧ KC w' g [] ∧ Only g w w' := by
  obtain ⟨A, c, hb, hr, hc⟩ := h
  refine (rest_good g l.length c A w hb hc).mono ?_
  rintro e w' ⟨rfl, hch⟩
  refine ⟨A, rfl, hr.below (hch.below (Nat.le_refl _)) (Nat.le_refl _), ?_, hch.only⟩
  have := KC.next (m := l.length) (N := l.length) hr rfl hc (by rw [Nat.sub_self]; exact hch)
  rwa [List.drop_length] at this
theorem octetsBack_long (A A2 : Option Addr) (n : Nat) (l2 : List UInt8) (c c2 : Nat) (w : World) (hl : 100 < n ∨ 1000 < l2.length) (h1 : n < 2 ^ 63) (h2 : l2.length < 2 ^ 63) :
    Calls Try.prog 6 #[.slice A n c, .slice A2 l2.length c2] w fun e w' => e = .returned (.bool true) ∧ Below w.heap.size w w' := by
  by_cases hb : 100 < n
  · have d1 : decide (100 < (n : Int)) = true := by simp; omega
    have d2 : decide (100 < n) = true := by simp; omega
    clear hl
    go_enter Try.func6, Try.ntmps6
    go_wp2_with fail
    refine (lives_any _).mono ?_
    rintro e w1 ⟨rfl, b1⟩
    go_wp2_with fail
    go_ret
    exact ⟨rfl, b1⟩
  · have hb2 : 1000 < l2.length := by omega
    have d1 : decide (100 < (n : Int)) = false := by simp; omega
    have d2 : decide (100 < n) = false := by simp; omega
    have d3 : decide (1000 < (l2.length : Int)) = true := by simp; omega
    have d4 : decide (1000 < l2.length) = true := by simp; omega
    clear hl
    go_enter Try.func6, Try.ntmps6
    go_wp2_with fail
    refine (lives_any _).mono ?_
    rintro e w1 ⟨rfl, b1⟩
    go_wp2_with fail
    go_ret
    exact ⟨rfl, b1⟩
/-- A slice of numbers. -/
def Nums (w : World) (n : Nat) (A : Option Addr) (l : List (Nat × UInt8)) : Prop := ∀ k (h : k < l.length), ∃ b o, A = some ⟨b, o, none⟩ ∧ b < n ∧ w.cell? ⟨b, o + k * 2, none⟩ = some (.int .u64 l[k].1) ∧ w.cell? ⟨b, o + k * 2 + 1, none⟩ = some (B l[k].2) ∧ l[k].1 < 2 ^ 64
theorem Nums.below {w w' : World} {n m : Nat} {A : Option Addr} {l : List (Nat × UInt8)} (h : Nums w n A l) (hb : Below m w w') (hn : n ≤ m) : Nums w' n A l := fun k hk => by
  obtain ⟨b, o, e, h1, h2, h3, h4⟩ := h k hk
  exact ⟨b, o, e, h1, (hb.cell (p := ⟨b, _, none⟩) (by show b < m; omega)).trans h2, (hb.cell (p := ⟨b, _, none⟩) (by show b < m; omega)).trans h3, h4⟩
set_option maxHeartbeats 4000000 in
theorem octetsBack_walk (A A2 : Option Addr) (l : List (Nat × UInt8)) (l2 : List UInt8) (c c2 : Nat) (w : World) (h : Nums w w.heap.size A l) (h2 : Rd w w.heap.size A2 l2) (hA : A2 = none → l2 = [] ∧ c2 = 0) (hl : l.length ≤ 100) (hl2 : l2.length ≤ 1000) :
    Calls Try.prog 6 #[.slice A l.length c, .slice A2 l2.length c2] w fun e w' => e = .returned (.bool true) ∧ Below w.heap.size w w' := by
  have H := Lib.hid h; have HA := Lib.hid hA; have H2 := Lib.hid h2
  clear h hA h2
  have d1 : decide (100 < (l.length : Int)) = false := by simp; omega
  have d2 : decide (100 < l.length) = false := by simp; omega
  have d3 : decide (1000 < (l2.length : Int)) = false := by simp; omega
  have d4 : decide (1000 < l2.length) = false := by simp; omega
  go_enter Try.func6, Try.ntmps6
  go_wp2_with fail
  go_loopw [5, 6] (fun v i wr => ∃ k : Nat, k ≤ l.length ∧ i = .int .i64 k ∧ (∃ A1 c1, v = .slice A1 (nbs (l.take k)).length c1 ∧ Hid (Rd wr wr.heap.size A1 (nbs (l.take k))) ∧ Hid (A1 = none → nbs (l.take k) = [] ∧ c1 = 0)) ∧ Below w.heap.size w wr) (fun _ i _ => l.length - (intOf i).toNat)
  case atStart => exact ⟨0, by omega, rfl, ⟨none, 0, rfl, Lib.hid Rd.nil, Lib.hid fun _ => ⟨rfl, rfl⟩⟩, Below.refl _ _⟩
  case round =>
    obtain ⟨k, hk, rfl, ⟨A1, c1, rfl, hR, hN⟩, hB⟩ := hrel
    by_cases hlt : k < l.length
    · have e1 : decide ((k : Int) < (l.length : Int)) = true := by simp; omega
      obtain ⟨b, o, rfl, hb, hc0, hc1, hlt64⟩ := (H.out.below hB (Nat.le_refl _)) k hlt
      have hX := nbs_take hlt
      obtain ⟨n, hn⟩ : ∃ n, n = l[k].1 := ⟨_, rfl⟩
      obtain ⟨m, hm⟩ : ∃ m, m = l[k].2 := ⟨_, rfl⟩
      rw [← hn] at hc0 hlt64 hX
      rw [← hm] at hc1 hX
      have hml := m.toNat_lt
      have hlen := nbs_le (l.take k)
      rw [List.length_take] at hlen
      obtain ⟨X, hXe⟩ : ∃ X, X = nbs (l.take k) := ⟨_, rfl⟩
      rw [← hXe] at hX hlen hR hN
      rw [← hXe]
      have HX := Lib.hid hX
      clear hX hn hm hXe
      have hwm := wd_le m
      have hwd : (1 : Int) + (m.toNat : Int) % 8 = (wd m : Int) := by unfold wd; omega
      have HWD := Lib.hid hwd
      clear hwd
      go_wp2_with fail
      rw [HWD.out]
      refine (put_any A1 X c1 n (wd m : Int) wr hR.out hN.out (by omega) hlt64 (by omega)).mono ?_
      rintro e w1 ⟨g, cur, rfl, hg, hgb, hgs, hgt, b1⟩
      have hw : wid (wd m : Int) = wd m := by unfold wid; rw [if_pos (by omega)]; rfl
      rw [hw] at hgs hgt ⊢
      obtain ⟨W, hW⟩ : ∃ W, W = wd m := ⟨_, rfl⟩
      rw [← hW] at hgs hgt HX hwm
      rw [← hW]
      have HG := Lib.hid (Rd.of_take hgb hgt (bk_lt hgb))
      have B1 := hB.trans (b1.mono hB.size)
      have hXW : (X ++ nb W n).length = X.length + W := by rw [List.length_append, nb_length]
      have HXW := Lib.hid hXW
      have e2 : (((X.length + W : Nat) : Int) != (X.length : Int) + (W : Int)) = false := by rw [bne_eq_false_iff_eq]; omega
      clear hW hw hgb hgs hgt hXW
      go_wp2_with fail
      go_roundw
      case rel =>
        refine ⟨k + 1, by omega, by go_num, ⟨some ⟨g, 0, none⟩, X.length + W, ?_, Lib.hid (by rw [HX.out]; exact HG.out), Lib.hid (fun h => by cases h)⟩, B1⟩
        rw [HX.out, HXW.out]
      case measure => simp [intOf]; omega
    · have e1 : decide ((k : Int) < (l.length : Int)) = false := by simp; omega
      obtain rfl : k = l.length := by omega
      rw [List.take_length] at hR hN ⊢
      have hlen := nbs_le l
      have hXt : nbs l = nbs l := rfl
      obtain ⟨X, hX⟩ : ∃ X, X = nbs l := ⟨_, rfl⟩
      rw [← hX] at hR hN hlen
      rw [← hX]
      have HXE := Lib.hid hX
      clear hX hXt hlt
      go_wp2_with (at_builtin; refine append_rd rfl _ _ rfl wr.heap.size (.slice none 0 0) 0 [] rfl (World.ownsRow_nil _ _ _ _) A1 X c1 rfl hN.out hR.out (by omega) (Nat.le_refl _) ?_)
      intro v1 w1 hown hgrow
      have ho1 : w1.ownsRow wr.heap.size 5 1 v1 X.length (X.map B) := by simpa using hown
      have b1 : Below wr.heap.size wr w1 := (Below.refl _ _).grown hgrow (Nat.le_refl _) (fun k hk => by simp [Value.ownBlock] at hk)
      have B1 := hB.trans (b1.mono hB.size)
      have s1 := b1.size
      have HO1 := Lib.hid ho1
      clear hown hgrow ho1 hR hN b1
      have HR2 := Lib.hid ((H2.out.below B1 (Nat.le_refl _)).mono B1.size)
      go_wp2_with (at_builtin; refine append_rd rfl _ _ rfl wr.heap.size v1 X.length (X.map B) rfl HO1.out A2 l2 c2 rfl HA.out HR2.out (by omega) s1 ?_)
      intro v2 w2 hown hgrow
      have hown2 : w2.ownsRow wr.heap.size 5 1 v2 (X.length + l2.length) ((X ++ l2).map B) := hown
      obtain ⟨A3, c3, rfl, hR3, hN3, _⟩ := Rd.of_own (l := X ++ l2) hown2 (by simp)
      clear hown2
      have b2 : Below wr.heap.size w1 w2 := (Below.refl _ _).grown hgrow s1 (fun k hk => (HO1.out.lt k hk).1)
      have B2 := B1.trans (b2.mono hB.size)
      have HR3 := Lib.hid hR3
      have HN3 := Lib.hid hN3
      have hXl : (X ++ l2).length ≤ 2000 := by rw [List.length_append]; omega
      clear hown hgrow HO1 b2 hR3 hN3 HR2
      go_wp2_with fail
      have CO := of_K A3 (X ++ l2) c3 w2 HR3.out HN3.out (by omega)
      rw [List.length_append] at CO
      refine CO.mono ?_
      clear CO
      rintro e w3 ⟨g, rfl, hg, K3, b3⟩
      have B3 := B2.trans (b3.mono B2.size)
      have hg0 : w.heap.size ≤ g := Nat.le_trans B2.size hg
      have HK3 := Lib.hid K3
      clear HR3 HN3 K3 b3 hg
      go_wp2_with fail
      rw [HXE.out] at HK3
      obtain ⟨N, hN⟩ : ∃ N, N = l.length := ⟨_, rfl⟩
      have HNN := Lib.hid hN
      rw [← hN] at hl
      rw [← hN]
      clear hN e1 d1 d2
      go_loopw [10] (fun i wq => ∃ j : Nat, j ≤ N ∧ i = .int .i64 j ∧ Hid (KC wq g (nbs (l.drop j) ++ l2)) ∧ Below w.heap.size w wq) (fun i _ => N - (intOf i).toNat)
      case atStart => exact ⟨0, by omega, rfl, HK3, B3⟩
      case round =>
        obtain ⟨j, hj, rfl, K, hB4⟩ := hrel
        by_cases hlt : j < N
        · have e1 : decide ((j : Int) < (N : Int)) = true := by simp; omega
          have hlt' : j < l.length := by rw [← HNN.out]; exact hlt
          obtain ⟨b, o, rfl, hb, hc0, hc1, hlt64⟩ := (H.out.below hB4 (Nat.le_refl _)) j hlt'
          have hX := nbs_drop hlt'
          obtain ⟨n, hn⟩ : ∃ n, n = l[j].1 := ⟨_, rfl⟩
          obtain ⟨m, hm⟩ : ∃ m, m = l[j].2 := ⟨_, rfl⟩
          rw [← hn] at hc0 hlt64 hX
          rw [← hm] at hc1 hX
          have hml := m.toNat_lt
          have hwm := wd_le m
          have hwd : (1 : Int) + (m.toNat : Int) % 8 = (wd m : Int) := by unfold wd; omega
          have HWD := Lib.hid hwd
          have HX := Lib.hid hX
          have key : Hid (nbs (l.drop j) ++ l2 = nb (wd m) n ++ (nbs (l.drop (j + 1)) ++ l2)) := Lib.hid (by rw [HX.out, List.append_assoc])
          have hval : val ((nb (wd m) n ++ (nbs (l.drop (j + 1)) ++ l2)).take (wd m)) = n % 256 ^ wd m := by
            rw [List.take_left' (nb_length _ _), val_nb]
          have hdrop : (nb (wd m) n ++ (nbs (l.drop (j + 1)) ++ l2)).drop (wd m) = nbs (l.drop (j + 1)) ++ l2 := List.drop_left' (nb_length _ _)
          have hlen : wd m ≤ (nb (wd m) n ++ (nbs (l.drop (j + 1)) ++ l2)).length := by rw [List.length_append, nb_length]; omega
          have CN := num_K g (nb (wd m) n ++ (nbs (l.drop (j + 1)) ++ l2)) (wd m) wr (by rw [← key.out]; exact K.out) hwm.1 hwm.2 hlen
          rw [hval, hdrop] at CN
          obtain ⟨P, hP⟩ : ∃ P, P = 256 ^ wd m := ⟨_, rfl⟩
          have hP0 : 0 < P := by rw [hP]; exact Nat.pow_pos (by omega)
          rw [← hP] at CN
          have HCN := Lib.hid CN
          clear CN hval hdrop hX hwd hn hm
          by_cases h8 : wd m < 8
          · have e5 := shl_wd m h8
            rw [← hP] at e5
            have d5 : decide ((1 : Int) + (m.toNat : Int) % 8 < 8) = true := by have := HWD.out; simp; omega
            clear hP
            go_wp2_with fail
            rw [HWD.out]
            refine HCN.out.mono ?_
            rintro e w4 ⟨rfl, K4, o4⟩
            have B5 := hB4.trans (o4.below hg0)
            have HK4 := Lib.hid K4
            clear K4 o4 HCN
            go_wp2_with fail
            refine (bad_K g _ w4 HK4.out).mono ?_
            rintro e w5 ⟨rfl, rfl⟩
            go_wp2_with fail
            go_roundw
            case rel => exact ⟨j + 1, by omega, by go_num, HK4, B5⟩
            case measure => simp [intOf]; omega
          · have d5 : decide ((1 : Int) + (m.toNat : Int) % 8 < 8) = false := by have := HWD.out; simp; omega
            have hnP : n % P = n := by
              rw [hP, show wd m = 8 by omega]
              exact Nat.mod_eq_of_lt hlt64
            rw [hnP] at HCN
            clear hP hnP
            go_wp2_with fail
            rw [HWD.out]
            refine HCN.out.mono ?_
            rintro e w4 ⟨rfl, K4, o4⟩
            have B5 := hB4.trans (o4.below hg0)
            have HK4 := Lib.hid K4
            clear K4 o4 HCN
            go_wp2_with fail
            refine (bad_K g _ w4 HK4.out).mono ?_
            rintro e w5 ⟨rfl, rfl⟩
            go_wp2_with fail
            go_roundw
            case rel => exact ⟨j + 1, by omega, by go_num, HK4, B5⟩
            case measure => simp [intOf]; omega
        · have e1 : decide ((j : Int) < (N : Int)) = false := by simp; omega
          have e2 : decide (j < N) = false := by simp; omega
          have hj : j = l.length := by rw [← HNN.out]; omega
          have hnil : nbs (l.drop j) ++ l2 = l2 := by rw [hj, List.drop_length]; rfl
          rw [hnil] at K
          clear hnil hj hlt
          go_wp2_with fail
          refine (left_K g l2 wr K.out).mono ?_
          rintro e w4 ⟨rfl, rfl⟩
          go_wp2_with fail
          refine (rest_K g l2 wr K.out).mono ?_
          rintro e w4 ⟨A5, rfl, hr5, K5, o5⟩
          have B5 := hB4.trans (o5.below hg0)
          have HK5 := Lib.hid K5
          have hlt5 := K5.lt
          clear K5 o5 K
          go_wp2_with fail
          refine (sameBytes_any A5 A2 l2 l2 l2.length c2 w4 (hr5.mono (by omega)) ((H2.out.below B5 (Nat.le_refl _)).mono B5.size) (by omega) (by omega)).mono ?_
          rintro e w5 ⟨rfl, b6⟩
          have B6 := B5.trans (b6.mono B5.size)
          have HK6 := Lib.hid (HK5.out.keep b6 hlt5)
          simp only [beq_self_eq_true]
          clear HK5 b6 hr5 hlt5
          go_wp2_with fail
          refine (bad_K g [] w5 HK6.out).mono ?_
          rintro e w6 ⟨rfl, rfl⟩
          go_wp2_with fail
          refine (left_K g [] w5 HK6.out).mono ?_
          rintro e w6 ⟨rfl, rfl⟩
          go_wp2_with fail
          refine (lives_any w5).mono ?_
          rintro e w6 ⟨rfl, b7⟩
          have B7 := B6.trans (b7.mono B6.size)
          clear b7
          go_wp2_with fail
          go_ret
          exact ⟨rfl, B7⟩
end Go.Proofs.Ytmpmddgledahbaa
