import Derived.Test.YtjimmfbjhkoekaaMgB
import Derived.Test.YtjimmfbjhkoekaaMgH
import Derived.Test.YtjimmfbjhkoekaaMgM
/- A number behind bytes: the document's Put. -/
namespace Go.Proofs.Ytjimmfbjhkoekaa
open Go.RowKit
set_option maxRecDepth 100000
set_option maxHeartbeats 1000000 in
theorem rput_own (A : Option Addr) (l : List UInt8) (c n : Nat) (m : Int) (w : World) (h : Rd w w.heap.size A l) (hA : A = none → l = [] ∧ c = 0) (hl : l.length < 2 ^ 45) (hn : n < 2 ^ 64) (hm : -2 ^ 63 ≤ m ∧ m < 2 ^ 63) :
    Calls Try.prog 76 #[.slice A l.length c, .int .u64 n, .int .i64 m] w fun e w' => ∃ v, e = .returned v ∧ w'.ownsRow w.heap.size 5 1 v (l.length + wid m) ((l ++ nb (wid m) n).map B) ∧ Below w.heap.size w w' := by
  obtain ⟨i0, hi, hz0, hz1, hz2⟩ := info_parts infoB
  have H := Lib.hid h; have HA := Lib.hid hA
  clear h hA
  obtain ⟨M, hM⟩ : ∃ M, M = wid m := ⟨_, rfl⟩
  have hMl := wid_le m
  rw [← hM] at hMl
  have HM : Hid (M = wid m) := hM
  clear hM
  rw [← HM.out]
  go_enter Try.func76, Try.ntmps76
  apply wp_seq_k; intro _ _
  go_cut [6] (fun x wx => x = .slice none 0 0 ∧ w = wx)
  case first =>
    go_wp2_with fail
    go_meet
    exact ⟨rfl, rfl⟩
  obtain ⟨rfl, rfl⟩ := hcut
  rename_i hkk
  apply hkk
  clear hkk
  apply wp_seq_k; intro _ _
  go_cut [2] (fun x wx => x = .int .i64 M ∧ w = wx)
  case first =>
    go_wp2_with fail
    all_goals
      go_meet
      refine ⟨?_, rfl⟩
      have e := HM.out
      unfold wid at e
      split at e
      all_goals first | (refine congrArg (Value.int .i64) ?_; omega) | (exfalso; simp only [Bool.or_eq_true, decide_eq_true_eq, not_or, Bool.not_eq_true] at *; omega)
  case rest =>
    obtain ⟨rfl, rfl⟩ := hcut
    go_wp2_with (at_builtin; refine append_rd rfl _ _ rfl w.heap.size (.slice none 0 0) 0 [] rfl (World.ownsRow_nil _ _ _ _) A l c rfl HA.out H.out (by omega) (Nat.le_refl _) ?_)
    intro v w1 hown hgrow
    have ho1 : w1.ownsRow w.heap.size 5 1 v l.length (l.map B) := by simpa using hown
    have hb : Below w.heap.size w w1 := (Below.refl _ _).grown hgrow (Nat.le_refl _) (fun k hk => by simp [Value.ownBlock] at hk)
    have HO := Lib.hid ho1
    clear hown hgrow ho1
    go_wp2
    go_loopw [8, 9] (fun p i w' => ∃ j : Nat, 1 ≤ j ∧ j ≤ M ∧ i = .int .i64 j ∧ p = .int .u64 ((256 ^ (j - 1) : Nat) : Int) ∧ w1 = w') (fun _ i _ => M - (intOf i).toNat)
    case atStart => exact ⟨1, by omega, by omega, by go_num, rfl, rfl⟩
    case round =>
      obtain ⟨j, hj1, hj2, rfl, rfl, rfl⟩ := hrel
      by_cases hlt : j < M
      · have d1 : decide ((j : Int) < (M : Int)) = true := by simp; omega
        obtain ⟨p, hp⟩ : ∃ p : Nat, p = 256 ^ (j - 1) := ⟨_, rfl⟩
        have hp1 : 256 ^ (j + 1 - 1) = p * 256 := by rw [hp, ← Nat.pow_succ]; congr 1; omega
        have hp2 : p ≤ 256 ^ 6 := by rw [hp]; exact Nat.pow_le_pow_right (by omega) (by omega)
        rw [← hp]
        have HP := Lib.hid hp1
        clear hp1 hp
        simp only [Nat.reducePow] at hp2
        go_wp2
        go_roundw
        case rel => exact ⟨j + 1, by omega, by omega, by go_num, by rw [HP.out]; go_num, by trivial⟩
        case measure => simp [intOf]; omega
      · have d1 : decide ((j : Int) < (M : Int)) = false := by simp; omega
        have hj : j = M := by omega
        obtain ⟨P, hP⟩ : ∃ P : Nat, P = 256 ^ (M - 1) := ⟨_, rfl⟩
        rw [hj] at d1
        rw [hj, ← hP]
        have HP := Lib.hid hP
        clear hP hj hlt hj1 hj2
        go_wp2
        go_loopw [7, 8, 10] (fun x p i w' => ∃ k : Nat, k ≤ M ∧ i = .int .i64 k ∧ p = .int .u64 ((P / 256 ^ k : Nat) : Int) ∧ Hid (w'.ownsRow w.heap.size 5 1 x (l.length + k) ((l ++ (nb M n).take k).map B)) ∧ Below w.heap.size w w') (fun _ _ i _ => M - (intOf i).toNat)
        case atStart => exact ⟨0, by omega, by go_num, by simp, Lib.hid (by simpa using HO.out), hb⟩
        case round =>
          obtain ⟨k, hk, rfl, rfl, ho, hbel⟩ := hrel
          have hbs := hbel.size
          by_cases hlt : k < M
          · have d2 : decide ((k : Int) < (M : Int)) = true := by simp; omega
            obtain ⟨s, hs⟩ : ∃ s : Nat, s = M - 1 - k := ⟨_, rfl⟩
            obtain ⟨q, hq⟩ : ∃ q : Nat, q = P / 256 ^ k := ⟨_, rfl⟩
            have hq2 : P / 256 ^ (k + 1) = q / 256 := by rw [hq, Nat.div_div_eq_div_mul, ← Nat.pow_succ]
            have hq3 : q = 256 ^ s := by
              rw [hq, HP.out, show M - 1 = s + k by omega, Nat.pow_add]
              exact Nat.mul_div_cancel _ (Nat.pow_pos (by omega))
            have hq0 : 0 < q := by rw [hq3]; exact Nat.pow_pos (by omega)
            have hq1 : q ≤ 256 ^ 7 := by rw [hq3]; exact Nat.pow_le_pow_right (by omega) (by omega)
            obtain ⟨t, htq⟩ : ∃ t : Nat, t = n / q := ⟨_, rfl⟩
            have ev : (t : Int) % 256 = (n : Int) / 2 ^ (8 * s) % 256 := by rw [htq, hq3, show (256 : Nat) = 2 ^ 8 from rfl, ← Nat.pow_mul]; norm_cast
            have ht : (n : Int) / (q : Int) = (t : Int) := by rw [htq]; norm_cast
            have ht2 : t < 2 ^ 64 := by rw [htq]; exact Nat.lt_of_le_of_lt (Nat.div_le_self _ _) hn
            clear htq
            rw [← hq]
            simp only [Nat.reducePow] at hq1
            have HQ2 := Lib.hid hq2
            have HEV := Lib.hid ev
            have HS := Lib.hid hs
            clear hq hq2 hq3 ev hs
            go_wp2_with (at_builtin; refine wpList_append_own _ rfl _ _ 27 rfl w.heap.size 5 i0 (.int .u8 0) 1 1 Try.underlying27 hi hz0 hz1 hz2 rfl (by decide) _ _ _ rfl (ho.out.alloc _) ⟨wr.heap.size, 0, none⟩ 1 1 [.int .u8 ((t : Int) % 256)] rfl rfl (by intro j u hj; match j, hj with | 0, hj => (simp at hj; subst hj; simp [Addr.add])) (by intro u hu; simp at hu; subst hu; rfl) (by unfold maxLen; omega) (by omega) (by simp; omega) ?_)
            intro v' w2 hown' hgrow _
            have ho2 : w2.ownsRow w.heap.size 5 1 v' (l.length + (k + 1)) ((l ++ (nb M n).take (k + 1)).map B) := by rw [nb_step l M n k s hlt HS.out, ← HEV.out]; exact hown'
            have hb1 : Below w.heap.size w w2 := (hbel.alloc hbs _).grown hgrow (by simp; omega) (fun g hg => (ho.out.lt g hg).1)
            have HO2 := Lib.hid ho2
            clear ho2 hown' hgrow ho
            go_wp2
            go_roundw
            case rel => exact ⟨k + 1, by omega, by go_num, by rw [HQ2.out]; go_num, HO2, hb1⟩
            case measure => simp [intOf]; omega
          · have d2 : decide ((k : Int) < (M : Int)) = false := by simp; omega
            have hk' : k = M := by omega
            have ho' := ho.out
            rw [hk', List.take_of_length_le (by rw [nb_length]; omega)] at ho'
            have HR := Lib.hid ho'
            clear ho ho' hlt
            go_wp2
            go_ret
            exact ⟨_, rfl, HR.out, hbel⟩
theorem rput_any (A : Option Addr) (l : List UInt8) (c n : Nat) (m : Int) (w : World) (h : Rd w w.heap.size A l) (hA : A = none → l = [] ∧ c = 0) (hl : l.length < 2 ^ 45) (hn : n < 2 ^ 64) (hm : -2 ^ 63 ≤ m ∧ m < 2 ^ 63) :
    Calls Try.prog 76 #[.slice A l.length c, .int .u64 n, .int .i64 m] w fun e w' => ∃ A' c', e = .returned (.slice A' (l.length + wid m) c') ∧ Rd w' w'.heap.size A' (l ++ nb (wid m) n) ∧ Below w.heap.size w w' := by
  refine (rput_own A l c n m w h hA hl hn hm).mono ?_
  rintro e w' ⟨v, rfl, ho, hb⟩
  obtain ⟨A', c', rfl, hrd, _⟩ := Rd.of_own ho (by simp [nb_length])
  exact ⟨A', c', by simp [nb_length], hrd, hb⟩
end Go.Proofs.Ytjimmfbjhkoekaa
/- Icmps: the document's number; the document's options.Put. -/
namespace Go.Proofs.Ytjimmfbjhkoekaa
open Go.RowKit
set_option maxRecDepth 100000
set_option maxHeartbeats 2000000
theorem Own.low {w : World} {n n' : Nat} {v : Value} {L : List UInt8} (h : Own w n v L) (hn : n' ≤ n) : Own w n' v L := by
  rcases h with h | ⟨g, c, cur, e, hg, r⟩
  · exact .inl h
  · exact .inr ⟨g, c, cur, e, Nat.le_trans hn hg, r⟩
theorem Own.nil (w : World) (n : Nat) : Own w n (.slice none 0 0) [] := .inl ⟨rfl, rfl⟩
theorem Own.below {w w' : World} {n : Nat} {v : Value} {L : List UInt8} (h : Own w n v L) (hb : Below w.heap.size w w') : Own w' n v L := h.turn fun k hk => hb.block k (h.lt hk).2
/-- Bytes put behind such of one's own, in a plain region. -/
theorem wpList_appN {w : World} {ops : Array Oper} {rest : List Oper} {o : Oper} {a : Act} {Q : Exit → Act → World → Prop} (hgd : o.guard = none) (s x : Operand)
    (ho : o.op = .call { callee := .builtin .append, args := #[s, x], argTypes := #[27, 27] })
    (n : Nat) (v : Value) (l m : List UInt8) (k : Nat) (hs : a.eval s = v) (hown : Own w n v l) (A : Option Addr) (c : Nat) (hx : a.eval x = .slice A k c) (hk : k = m.length) (hr : Rd w w.heap.size A m) (hA : A = none → m = [] ∧ c = 0) (hn : n ≤ w.heap.size) (hl : l.length + m.length < 2 ^ 46) (N : Nat) (hN : (l ++ m).length = N)
    (h : ∀ A' c' w', Own w' n (.slice A' N c') (l ++ m) → w.grownBy w' v.ownBlock → (∀ k, (Value.slice A' N c').ownBlock = some k → v.ownBlock = some k ∨ w.heap.size ≤ k) → wpList Try.prog ops Q rest (a.put o.dst (.slice A' N c')) w') :
    wpList Try.prog ops Q (o :: rest) a w := by
  subst hk hN
  obtain ⟨v', w', h1, h2, h3, h4⟩ := run_app n v l m hown A c hr hA hn hl o.type
  refine wpList_plain hgd fun K hK => ?_
  unfold Oper.wp execOp
  simp only [ho, resolve, invoke, builtin, Sem.run_bind, Sem.run_pure, Result.andThen_ok, List.map_toArray, List.map_cons, List.map_nil, hs, hx, h1]
  obtain ⟨A', c', rfl, _⟩ := h2.sl
  exact hK _ _ (h _ _ w' h2 h3 h4)
/-- A number behind bytes, the document's. -/
theorem rnum_own (A : Option Addr) (l : List UInt8) (c N : Nat) (m : Int) (k : Nat) (w : World) (h : Rd w w.heap.size A l) (hA : A = none → l = [] ∧ c = 0) (hl : l.length < 2 ^ 40) (hN : N < 2 ^ 64) (hm : -2 ^ 63 ≤ m ∧ m < 2 ^ 63) (hk : wid m = k) :
    Calls Try.prog 65 #[.slice A l.length c, .int .u64 (N : Int), .int .i64 m] w fun e w' => ∃ A' c', e = .returned (.slice A' (l.length + k) c') ∧ Own w' w.heap.size (.slice A' (l.length + k) c') (l ++ nb k N) ∧ Below w.heap.size w w' := by
  subst hk
  have C := Lib.hid (rput_own A l c N m w h hA (by omega) hN hm)
  clear h hA
  go_enter Try.func65, Try.ntmps65
  go_wp2_with fail
  refine C.out.mono ?_
  rintro e w1 ⟨v, rfl, ho, hb⟩
  have ho' := Own.of (L := l ++ nb (wid m) N) ho (by simp [nb_length])
  obtain ⟨A', c', e', _⟩ := ho'.sl
  subst e'
  have el : (l ++ nb (wid m) N).length = l.length + wid m := by simp [nb_length]
  rw [el] at ho' ⊢
  have HO := Lib.hid (And.intro ho' hb)
  clear ho ho' hb C el
  go_wp2_with fail
  go_ret
  exact ⟨A', c', rfl, HO.out⟩
theorem optB_base (x : UInt8 × List UInt8) (j : Nat) (h1 : (optE x.2).length + 2 + j ≤ optM x.2 * 8) (h2 : ((optE x.2).length + 2 + j) % 8 = 0) : ([x.1, 0] ++ optE x.2 ++ List.replicate j 0).set 1 (UInt8.ofNat (optM x.2)) = optB x ∧ (optE x.2).length + 2 + j = optM x.2 * 8 := by
  have h3 := optB_sz x.2
  have e : (optE x.2).length + 2 + j = optM x.2 * 8 := by omega
  refine ⟨?_, e⟩
  unfold optB
  rw [show optM x.2 * 8 - 2 - (optE x.2).length = j by omega]
  rfl
def slenN : Value → Nat
  | .slice _ n _ => n
  | _ => 0
set_option maxHeartbeats 4000000 in
theorem roput_any (A : Option Addr) (ol : List Ov) (c : Nat) (w : World) (h : Ovs w w.heap.size A ol) (hl : ol.length < 2 ^ 30) (hb : (optsB (ol.map Ov.pl)).length < 2 ^ 36) :
    Calls Try.prog 66 #[.slice A ol.length c] w fun e w' => ∃ A' c', e = .returned (.slice A' (optsB (ol.map Ov.pl)).length c') ∧ Own w' w.heap.size (.slice A' (optsB (ol.map Ov.pl)).length c') (optsB (ol.map Ov.pl)) ∧ Below w.heap.size w w' := by
  have H := Lib.hid h; have HB := Lib.hid hb
  clear h hb
  obtain ⟨N, hN⟩ : ∃ N, N = ol.length := ⟨_, rfl⟩
  rw [← hN] at hl ⊢
  have HN := Lib.hid hN
  clear hN
  go_enter Try.func66, Try.ntmps66
  go_wp2_with fail
  go_loopw [3, 4] (fun ov i W => ∃ (k : Nat) (Ao : Option Addr) (no co : Nat), k ≤ N ∧ i = .int .i64 k ∧ ov = .slice Ao no co ∧ Hid (no = (optsB ((ol.map Ov.pl).take k)).length) ∧ Hid (Own W w.heap.size (.slice Ao no co) (optsB ((ol.map Ov.pl).take k))) ∧ Below w.heap.size w W) (fun _ i _ => N - (intOf i).toNat)
  case atStart => exact ⟨0, none, 0, 0, by omega, rfl, rfl, Lib.hid rfl, Lib.hid (Own.nil _ _), Below.refl _ _⟩
  case round =>
    obtain ⟨k, Ao, no, co, hk, rfl, rfl, HNO, HO, hbel⟩ := hrel
    by_cases hlt : k < N
    · have d1 : decide ((k : Int) < (N : Int)) = true := by simp; omega
      have d1' : decide (k < N) = true := by simp; omega
      have hks : k < ol.length := by rw [← HN.out]; exact hlt
      obtain ⟨x, hx⟩ : ∃ x, x = ol[k] := ⟨_, rfl⟩
      obtain ⟨g1, o1, cur1, t1, f1, e1', hg1, hb1, hs1, hx1, hx2⟩ := Rws.at (H.out.1.below hbel (Nat.le_refl _)) hks Ov.row_size
      subst e1'
      have HOK := Lib.hid (show OvOk wr wr.heap.size x by rw [hx]; exact ((H.out.2 _ (List.getElem_mem hks)).below hbel (Nat.le_refl _)).mono hbel.size)
      have p1 := hx2 0 (by decide)
      have p2 := hx2 1 (by decide)
      rw [← hx] at p1 p2
      have l1 := bk_lt hb1
      have HX := Lib.hid hx
      have KB1 := Lib.hid hb1
      clear hx2 hx1 hx hb1 hs1
      obtain ⟨kx, Ax, dx, cx⟩ := x
      change wr.cell? ⟨g1, o1 + k * 2 + 0, none⟩ = some (.int .u8 (kx.toNat : Int)) at p1
      change wr.cell? ⟨g1, o1 + k * 2 + 1, none⟩ = some (.slice Ax dx.length cx) at p2
      simp only [Nat.add_zero] at p1
      obtain ⟨D, hD⟩ : ∃ D, D = dx.length := ⟨_, rfl⟩
      obtain ⟨E, hE⟩ : ∃ E, E = (optE dx).length := ⟨_, rfl⟩
      have hED : E = min D 2038 := by rw [hE, hD]; unfold optE; rw [List.length_take]; omega
      have hcx : D ≤ cx := by rw [hD]; exact HOK.out.le
      have hcx2 : cx < 2 ^ 63 := HOK.out.lt
      have RE : Hid (Rd wr wr.heap.size Ax (optE dx)) := Lib.hid (HOK.out.rd.tk 2038)
      have XN : Hid (Ax = none → optE dx = [] ∧ cx = 0) := Lib.hid fun e => by have := HOK.out.nil e; exact ⟨by unfold optE; rw [show dx = [] from this.1]; rfl, this.2⟩
      rw [← hD] at p2
      have HE := Lib.hid hE; have HD := Lib.hid hD; have HED := Lib.hid hED
      clear hE hD hED
      by_cases h38 : D ≤ 2038
      · have d2 : decide ((D : Int) > 2038) = false := by simp; omega
        have d2' : decide (2038 < D) = false := by simp; omega
        go_upto_region 8 with fail
        obtain rfl : E = D := by have := HED.out; omega
        clear d2 d2' h38
        obtain ⟨wo, rfl⟩ : ∃ wo, wo = wr := ⟨_, rfl⟩
        have RA : Hid (Rd (wo.alloc (.cells #[.int .u8 (kx.toNat : Int), .int .u8 0] 5)) (wo.alloc (.cells #[.int .u8 (kx.toNat : Int), .int .u8 0] 5)).heap.size (some ⟨wo.heap.size, 0, none⟩) [kx, 0]) := Lib.hid (Rd.lit wo [kx, 0] 5)
        have BA : Hid (Below wo.heap.size wo (wo.alloc (.cells #[.int .u8 (kx.toNat : Int), .int .u8 0] 5))) := Lib.hid (by (repeat (first | exact Below.refl _ _ | assumption | refine Below.drew ?_ | refine bdrewN ?_ _ | refine Below.alloc ?_ (by first | omega | (simp <;> omega) | (simp only [World.size_alloc] <;> omega)) _ | refine below_setRow ?_ (by first | omega | (simp <;> omega)) _ | refine Below.setCell ?_ (by first | omega | (simp <;> omega)) _)))
        have LB : Hid (([] : List UInt8).length + [kx, (0 : UInt8)].length < 2 ^ 46) := Lib.hid (by simp)
        go_wp2_with (at_builtin; refine wpList_appN rfl _ _ rfl wo.heap.size (.slice none 0 0) [] [kx, 0] 2 rfl (Own.nil _ _) (some ⟨wo.heap.size, 0, none⟩) 2 rfl rfl RA.out (fun e => by cases e) BA.out.size LB.out 2 rfl ?_)
        intro A6 c6 w6 r1 r2 _
        have B6 : Hid (Below wo.heap.size wo w6) := Lib.hid (BA.out.trans (((Below.refl _ _).grown r2 (Nat.le_refl _) (fun k hk => by simp [Value.ownBlock] at hk)).mono BA.out.size))
        have R6 := Lib.hid r1
        have RE6 : Hid (Rd w6 w6.heap.size Ax (optE dx)) := Lib.hid ((RE.out.below B6.out (Nat.le_refl _)).mono B6.out.size)
        have LB2 : Hid (([] ++ [kx, (0 : UInt8)]).length + (optE dx).length < 2 ^ 46) := Lib.hid (by have := (optE_le dx).1; simp; omega)
        have NE : Hid (([] ++ [kx, (0 : UInt8)] ++ optE dx).length = E + 2) := Lib.hid (by rw [HE.out]; simp)
        clear r1 r2 RA BA LB RE p1 p2 l1
        go_wp2_with (at_builtin; refine wpList_appN rfl _ _ rfl wo.heap.size (.slice A6 2 c6) ([] ++ [kx, 0]) (optE dx) E rfl R6.out Ax cx rfl HE.out RE6.out XN.out B6.out.size LB2.out (E + 2) NE.out ?_)
        intro A7 c7 w7 r1 r2 _
        have B7 : Hid (Below wo.heap.size wo w7) := Lib.hid (B6.out.grown r2 B6.out.size (fun k hk => (R6.out.lt hk).1))
        have R7 : Hid (Own w7 wo.heap.size (.slice A7 (E + 2) c7) ([kx, 0] ++ optE dx)) := Lib.hid r1
        clear r1 r2 R6 RE6 LB2 NE B6
        have hE8 : E ≤ 2038 := by rw [HE.out]; exact (optE_le dx).1
        obtain ⟨T, hT⟩ : ∃ T, T = optM dx * 8 := ⟨_, rfl⟩
        have hTE : E + 2 ≤ T ∧ T ≤ E + 9 ∧ T % 8 = 0 := by have := optB_sz dx; rw [hT, HE.out]; omega
        have HT := Lib.hid hT
        clear hT
        go_wp2_with fail
        go_loopw [6] (fun v wi => ∃ (Ai : Option Addr) (ni ci : Nat), v = .slice Ai ni ci ∧ E + 2 ≤ ni ∧ ni ≤ T ∧ Hid (Own wi wo.heap.size (.slice Ai ni ci) ([kx, 0] ++ optE dx ++ List.replicate (ni - (E + 2)) 0)) ∧ Hid (Below wo.heap.size wo wi)) (fun v _ => T - slenN v)
        case atStart => exact ⟨A7, E + 2, c7, rfl, Nat.le_refl _, hTE.1, Lib.hid (by rw [Nat.sub_self, List.replicate_zero, List.append_nil]; exact R7.out), B7⟩
        case round =>
          clear B7 R7
          obtain ⟨Ai, ni, ci, rfl, hn1, hn2, HOi, HBi⟩ := hrel
          obtain ⟨r, hr⟩ : ∃ r, r = ni % 8 := ⟨_, rfl⟩
          have mr1 : (ni : Int).tmod 8 = (r : Int) := by rw [hr, Int.tmod_eq_emod_of_nonneg (by omega)]; omega
          have mr2 : (ni : Int) % 8 = (r : Int) := by omega
          have hrz : r = 0 ↔ ni = T := by omega
          have HRZ := Lib.hid hrz
          clear hr hrz
          by_cases hlt2 : ni < T
          · have nz : ((r : Int) != 0) = true := by rw [bne_iff_ne]; intro e; have h := HRZ.out.1 (by omega); omega
            have hBA : Below wr.heap.size wr (wr.alloc (.cells #[.int .u8 0] 5)) := (by (repeat (first | exact Below.refl _ _ | assumption | refine Below.drew ?_ | refine bdrewN ?_ _ | refine Below.alloc ?_ (by first | omega | (simp <;> omega) | (simp only [World.size_alloc] <;> omega)) _ | refine below_setRow ?_ (by first | omega | (simp <;> omega)) _ | refine Below.setCell ?_ (by first | omega | (simp <;> omega)) _)))
            obtain ⟨X, hX⟩ : ∃ X, X = [kx, 0] ++ optE dx ++ List.replicate (ni - (E + 2)) 0 := ⟨_, rfl⟩
            have hXl : X.length = ni := by rw [hX]; simp [← HE.out]; omega
            have HX1 := Lib.hid hX; have HX2 := Lib.hid hXl
            clear hX hXl
            have OA : Hid (Own (wr.alloc (.cells #[.int .u8 0] 5)) wo.heap.size (.slice Ai ni ci) X) := Lib.hid (by rw [HX1.out]; exact HOi.out.below hBA)
            have RA : Hid (Rd (wr.alloc (.cells #[.int .u8 0] 5)) (wr.alloc (.cells #[.int .u8 0] 5)).heap.size (some ⟨wr.heap.size, 0, none⟩) [0]) := Lib.hid (Rd.lit wr [0] 5)
            have LA : Hid (wo.heap.size ≤ (wr.alloc (.cells #[.int .u8 0] 5)).heap.size) := Lib.hid (by have := HBi.out.size; simp; omega)
            have LB : Hid (X.length + [(0 : UInt8)].length < 2 ^ 46) := Lib.hid (by rw [HX2.out]; simp; omega)
            have BA := Lib.hid hBA
            clear hBA
            go_wp2_with (at_builtin; refine wpList_appN rfl _ _ rfl wo.heap.size (.slice Ai ni ci) X [0] 1 rfl OA.out (some ⟨wr.heap.size, 0, none⟩) 1 rfl rfl RA.out (fun e => by cases e) LA.out LB.out (ni + 1) (by rw [List.length_append, HX2.out]; rfl) ?_)
            intro A8 c8 w8 r1 r2 _
            have R8 : Hid (Own w8 wo.heap.size (.slice A8 (ni + 1) c8) ([kx, 0] ++ optE dx ++ List.replicate (ni + 1 - (E + 2)) 0)) := Lib.hid (by
              rw [show ni + 1 - (E + 2) = (ni - (E + 2)) + 1 by omega, List.replicate_succ', ← List.append_assoc, ← HX1.out]; exact r1)
            have B8 : Hid (Below wo.heap.size wo w8) := Lib.hid ((HBi.out.trans (BA.out.mono HBi.out.size)).grown r2 LA.out (fun k hk => (OA.out.lt hk).1))
            clear r1 r2 OA RA LA LB BA HBi HOi mr1 mr2 nz
            go_wp2_with fail
            refine ⟨⟨A8, ni + 1, c8, rfl, by omega, by omega, R8, B8⟩, ?_⟩
            simp [slenN]
            omega
          · obtain rfl : ni = T := by omega
            have nz : ((r : Int) != 0) = false := by rw [bne_eq_false_iff_eq]; have h := HRZ.out.2 rfl; omega
            obtain ⟨X, hX⟩ : ∃ X, X = [kx, 0] ++ optE dx ++ List.replicate (ni - (E + 2)) 0 := ⟨_, rfl⟩
            have hXl : X.length = ni := by rw [hX]; simp [← HE.out]; omega
            have hO := HOi.out
            rw [← hX] at hO
            have HX1 := Lib.hid hX; have HX2 := Lib.hid hXl
            clear hX
            obtain ⟨g, c', cur, e, hg, hbg, hc1, hc2, hc3, htk, hfull⟩ : ∃ g c' cur, Value.slice Ai ni ci = .slice (some ⟨g, 0, none⟩) X.length c' ∧ wo.heap.size ≤ g ∧ bk wr g = some (.cells cur 5 (0, 0)) ∧ X.length ≤ c' ∧ c' ≤ cur.size ∧ c' ≤ maxLen ∧ cur.toList.take X.length = X.map B ∧ (cur.size = c' ∨ c' = X.length) := by
              rcases hO with ⟨_, e2⟩ | h
              · rw [e2] at hXl; simp at hXl; omega
              · exact h
            have e1 := (Value.slice.inj e).1
            have e3 := (Value.slice.inj e).2.2
            subst e1 e3
            obtain ⟨u1, g1'⟩ : ∃ u, wr.cell? ⟨g, 1, none⟩ = some u := ⟨cur[1]'(by omega), by rw [bk_cell hbg]; exact Array.getElem?_eq_getElem _⟩
            have f1 := bk_frozen hbg 1
            have lg := bk_lt hbg
            have KG := Lib.hid (And.intro hbg (And.intro htk (And.intro hg (And.intro hc1 (And.intro hc2 (And.intro hc3 hfull))))))
            obtain ⟨M, hM⟩ : ∃ M, M = optM dx := ⟨_, rfl⟩
            have hM2 : ni = M * 8 := by rw [hM]; exact HT.out
            have hM3 : M ≤ 255 := by rw [hM]; exact (optM_le dx).2
            have q1 : (ni : Int).tdiv 8 = (M : Int) := by rw [hM2, Int.tdiv_eq_ediv_of_nonneg (by omega)]; omega
            have q2 : (ni : Int) / 8 = (M : Int) := by omega
            have i1 : decide ((1 : Int) < (ni : Int)) = true := by simp; omega
            have i1' : decide (1 < ni) = true := by simp; omega
            have i1'' : (1 : Int) < (ni : Int) := by omega
            have HM := Lib.hid hM; have HM2 := Lib.hid hM2
            clear e hO hbg htk hg hc1 hc2 hc3 hfull hXl hM hM2 mr1 hlt2 HOi
            go_upto_region 14 with fail
            have B9 : Below wo.heap.size wo (wr.setCell ⟨g, 1, none⟩ (.int .u8 (M : Int))) := HBi.out.setCell (p := ⟨g, 1, none⟩) KG.out.2.2.1 _
            have hOB := optB_base (kx, dx) (ni - (E + 2)) (by have h1 := HM2.out; have h2 := HM.out; rw [← HE.out, ← h2]; omega) (by rw [← HE.out]; have h1 := HM2.out; omega)
            have hXO : X.set 1 (UInt8.ofNat M) = optB (kx, dx) := by rw [HX1.out, HM.out]; exact hOB.1
            have hOl : (optB (kx, dx)).length = ni := by rw [← hXO, List.length_set]; exact HX2.out
            have O9 : Own (wr.setCell ⟨g, 1, none⟩ (.int .u8 (M : Int))) wo.heap.size (.slice (some ⟨g, 0, none⟩) ni ci) (optB (kx, dx)) := by
              obtain ⟨h1, h2, h3, h4, h5, h6, h7⟩ := KG.out
              refine .inr ⟨g, ci, cur.setIfInBounds 1 (.int .u8 (M : Int)), by rw [hOl], h3, by rw [bk_setCell_same, h1]; rfl, by rw [hOl]; have := HX2.out; omega, by simpa using h5, h6, ?_, by rw [hOl, ← HX2.out]; simpa using h7⟩
              rw [Array.toList_setIfInBounds, hOl, List.take_set]
              rw [HX2.out] at h2
              rw [h2, ← hXO, List.map_set]
              have e6 : B (UInt8.ofNat M) = .int .u8 (M : Int) := by unfold B; rw [UInt8.toNat_ofNat']; congr 1; omega
              rw [e6]
            have RD9 := Lib.hid (own_rd O9)
            have HO9 : Hid (Own (wr.setCell ⟨g, 1, none⟩ (.int .u8 (M : Int))) w.heap.size (.slice Ao no co) (optsB ((ol.map Ov.pl).take k))) := Lib.hid (HO.out.below B9)
            have F9 := Lib.hid (hbel.trans (B9.mono hbel.size))
            have hks' : k < (ol.map Ov.pl).length := by rw [List.length_map]; exact hks
            have hsn := optsB_snoc (l := ol.map Ov.pl) (k := k) hks'
            have hxe : (ol.map Ov.pl)[k] = (kx, dx) := by rw [List.getElem_map, ← HX.out]; rfl
            rw [hxe] at hsn
            have hle := optsB_le (l := ol.map Ov.pl) (k + 1)
            have HSN := Lib.hid hsn
            have HOL := Lib.hid hOl
            have LB : Hid ((optsB ((ol.map Ov.pl).take k)).length + (optB (kx, dx)).length < 2 ^ 46) := Lib.hid (by rw [← List.length_append, ← hsn]; have := HB.out; omega)
            have NB : Hid ((optsB ((ol.map Ov.pl).take k) ++ optB (kx, dx)).length = no + ni) := Lib.hid (by rw [List.length_append, hOl, ← HNO.out])
            clear hOB hXO hOl O9 B9 hsn hxe hle KG HBi HX1 HX2 u1 g1' f1 lg i1 i1' i1'' q1 q2 nz mr2 HO hbel hks'
            generalize wr.setCell ⟨g, 1, none⟩ (.int .u8 (M : Int)) = w9 at *
            go_wp2_with (at_builtin; refine wpList_appN rfl _ _ rfl w.heap.size (.slice Ao no co) (optsB ((ol.map Ov.pl).take k)) (optB (kx, dx)) ni rfl HO9.out (some ⟨g, 0, none⟩) ci rfl HOL.out.symm RD9.out (fun e => by cases e) F9.out.size LB.out (no + ni) NB.out ?_)
            intro A10 c10 w10 r1 r2 _
            have R10 : Hid (Own w10 w.heap.size (.slice A10 (no + ni) c10) (optsB ((ol.map Ov.pl).take (k + 1)))) := Lib.hid (by rw [HSN.out]; exact r1)
            have F10 : Hid (Below w.heap.size w w10) := Lib.hid (F9.out.grown r2 F9.out.size (fun k hk => (HO9.out.lt hk).1))
            have N10 : Hid (no + ni = (optsB ((ol.map Ov.pl).take (k + 1))).length) := Lib.hid (by rw [HSN.out]; exact NB.out.symm)
            clear r1 r2 HO9 RD9 F9 LB NB HOL HSN
            go_wp2
            go_roundw
            case rel => exact ⟨k + 1, A10, no + ni, c10, by omega, by go_num, rfl, N10, R10, F10.out⟩
            case measure => simp [intOf]; omega
      · have d2 : decide ((D : Int) > 2038) = true := by simp; omega
        have d2' : decide (2038 < D) = true := by simp; omega
        have d3 : decide (2038 ≤ cx) = true := by simp; omega
        have d3' : decide ((2038 : Int) ≤ (cx : Int)) = true := by simp; omega
        go_upto_region 8 with fail
        have hE2 : 2038 = E := by have := HED.out; omega
        rw [hE2]
        clear d2 d2' h38 d3 d3' hE2
        obtain ⟨wo, rfl⟩ : ∃ wo, wo = wr := ⟨_, rfl⟩
        have RA : Hid (Rd (wo.alloc (.cells #[.int .u8 (kx.toNat : Int), .int .u8 0] 5)) (wo.alloc (.cells #[.int .u8 (kx.toNat : Int), .int .u8 0] 5)).heap.size (some ⟨wo.heap.size, 0, none⟩) [kx, 0]) := Lib.hid (Rd.lit wo [kx, 0] 5)
        have BA : Hid (Below wo.heap.size wo (wo.alloc (.cells #[.int .u8 (kx.toNat : Int), .int .u8 0] 5))) := Lib.hid (by (repeat (first | exact Below.refl _ _ | assumption | refine Below.drew ?_ | refine bdrewN ?_ _ | refine Below.alloc ?_ (by first | omega | (simp <;> omega) | (simp only [World.size_alloc] <;> omega)) _ | refine below_setRow ?_ (by first | omega | (simp <;> omega)) _ | refine Below.setCell ?_ (by first | omega | (simp <;> omega)) _)))
        have LB : Hid (([] : List UInt8).length + [kx, (0 : UInt8)].length < 2 ^ 46) := Lib.hid (by simp)
        go_wp2_with (at_builtin; refine wpList_appN rfl _ _ rfl wo.heap.size (.slice none 0 0) [] [kx, 0] 2 rfl (Own.nil _ _) (some ⟨wo.heap.size, 0, none⟩) 2 rfl rfl RA.out (fun e => by cases e) BA.out.size LB.out 2 rfl ?_)
        intro A6 c6 w6 r1 r2 _
        have B6 : Hid (Below wo.heap.size wo w6) := Lib.hid (BA.out.trans (((Below.refl _ _).grown r2 (Nat.le_refl _) (fun k hk => by simp [Value.ownBlock] at hk)).mono BA.out.size))
        have R6 := Lib.hid r1
        have RE6 : Hid (Rd w6 w6.heap.size Ax (optE dx)) := Lib.hid ((RE.out.below B6.out (Nat.le_refl _)).mono B6.out.size)
        have LB2 : Hid (([] ++ [kx, (0 : UInt8)]).length + (optE dx).length < 2 ^ 46) := Lib.hid (by have := (optE_le dx).1; simp; omega)
        have NE : Hid (([] ++ [kx, (0 : UInt8)] ++ optE dx).length = E + 2) := Lib.hid (by rw [HE.out]; simp)
        clear r1 r2 RA BA LB RE p1 p2 l1
        go_wp2_with (at_builtin; refine wpList_appN rfl _ _ rfl wo.heap.size (.slice A6 2 c6) ([] ++ [kx, 0]) (optE dx) E rfl R6.out Ax cx rfl HE.out RE6.out XN.out B6.out.size LB2.out (E + 2) NE.out ?_)
        intro A7 c7 w7 r1 r2 _
        have B7 : Hid (Below wo.heap.size wo w7) := Lib.hid (B6.out.grown r2 B6.out.size (fun k hk => (R6.out.lt hk).1))
        have R7 : Hid (Own w7 wo.heap.size (.slice A7 (E + 2) c7) ([kx, 0] ++ optE dx)) := Lib.hid r1
        clear r1 r2 R6 RE6 LB2 NE B6
        have hE8 : E ≤ 2038 := by rw [HE.out]; exact (optE_le dx).1
        obtain ⟨T, hT⟩ : ∃ T, T = optM dx * 8 := ⟨_, rfl⟩
        have hTE : E + 2 ≤ T ∧ T ≤ E + 9 ∧ T % 8 = 0 := by have := optB_sz dx; rw [hT, HE.out]; omega
        have HT := Lib.hid hT
        clear hT
        go_wp2_with fail
        go_loopw [6] (fun v wi => ∃ (Ai : Option Addr) (ni ci : Nat), v = .slice Ai ni ci ∧ E + 2 ≤ ni ∧ ni ≤ T ∧ Hid (Own wi wo.heap.size (.slice Ai ni ci) ([kx, 0] ++ optE dx ++ List.replicate (ni - (E + 2)) 0)) ∧ Hid (Below wo.heap.size wo wi)) (fun v _ => T - slenN v)
        case atStart => exact ⟨A7, E + 2, c7, rfl, Nat.le_refl _, hTE.1, Lib.hid (by rw [Nat.sub_self, List.replicate_zero, List.append_nil]; exact R7.out), B7⟩
        case round =>
          clear B7 R7
          obtain ⟨Ai, ni, ci, rfl, hn1, hn2, HOi, HBi⟩ := hrel
          obtain ⟨r, hr⟩ : ∃ r, r = ni % 8 := ⟨_, rfl⟩
          have mr1 : (ni : Int).tmod 8 = (r : Int) := by rw [hr, Int.tmod_eq_emod_of_nonneg (by omega)]; omega
          have mr2 : (ni : Int) % 8 = (r : Int) := by omega
          have hrz : r = 0 ↔ ni = T := by omega
          have HRZ := Lib.hid hrz
          clear hr hrz
          by_cases hlt2 : ni < T
          · have nz : ((r : Int) != 0) = true := by rw [bne_iff_ne]; intro e; have h := HRZ.out.1 (by omega); omega
            have hBA : Below wr.heap.size wr (wr.alloc (.cells #[.int .u8 0] 5)) := (by (repeat (first | exact Below.refl _ _ | assumption | refine Below.drew ?_ | refine bdrewN ?_ _ | refine Below.alloc ?_ (by first | omega | (simp <;> omega) | (simp only [World.size_alloc] <;> omega)) _ | refine below_setRow ?_ (by first | omega | (simp <;> omega)) _ | refine Below.setCell ?_ (by first | omega | (simp <;> omega)) _)))
            obtain ⟨X, hX⟩ : ∃ X, X = [kx, 0] ++ optE dx ++ List.replicate (ni - (E + 2)) 0 := ⟨_, rfl⟩
            have hXl : X.length = ni := by rw [hX]; simp [← HE.out]; omega
            have HX1 := Lib.hid hX; have HX2 := Lib.hid hXl
            clear hX hXl
            have OA : Hid (Own (wr.alloc (.cells #[.int .u8 0] 5)) wo.heap.size (.slice Ai ni ci) X) := Lib.hid (by rw [HX1.out]; exact HOi.out.below hBA)
            have RA : Hid (Rd (wr.alloc (.cells #[.int .u8 0] 5)) (wr.alloc (.cells #[.int .u8 0] 5)).heap.size (some ⟨wr.heap.size, 0, none⟩) [0]) := Lib.hid (Rd.lit wr [0] 5)
            have LA : Hid (wo.heap.size ≤ (wr.alloc (.cells #[.int .u8 0] 5)).heap.size) := Lib.hid (by have := HBi.out.size; simp; omega)
            have LB : Hid (X.length + [(0 : UInt8)].length < 2 ^ 46) := Lib.hid (by rw [HX2.out]; simp; omega)
            have BA := Lib.hid hBA
            clear hBA
            go_wp2_with (at_builtin; refine wpList_appN rfl _ _ rfl wo.heap.size (.slice Ai ni ci) X [0] 1 rfl OA.out (some ⟨wr.heap.size, 0, none⟩) 1 rfl rfl RA.out (fun e => by cases e) LA.out LB.out (ni + 1) (by rw [List.length_append, HX2.out]; rfl) ?_)
            intro A8 c8 w8 r1 r2 _
            have R8 : Hid (Own w8 wo.heap.size (.slice A8 (ni + 1) c8) ([kx, 0] ++ optE dx ++ List.replicate (ni + 1 - (E + 2)) 0)) := Lib.hid (by
              rw [show ni + 1 - (E + 2) = (ni - (E + 2)) + 1 by omega, List.replicate_succ', ← List.append_assoc, ← HX1.out]; exact r1)
            have B8 : Hid (Below wo.heap.size wo w8) := Lib.hid ((HBi.out.trans (BA.out.mono HBi.out.size)).grown r2 LA.out (fun k hk => (OA.out.lt hk).1))
            clear r1 r2 OA RA LA LB BA HBi HOi mr1 mr2 nz
            go_wp2_with fail
            refine ⟨⟨A8, ni + 1, c8, rfl, by omega, by omega, R8, B8⟩, ?_⟩
            simp [slenN]
            omega
          · obtain rfl : ni = T := by omega
            have nz : ((r : Int) != 0) = false := by rw [bne_eq_false_iff_eq]; have h := HRZ.out.2 rfl; omega
            obtain ⟨X, hX⟩ : ∃ X, X = [kx, 0] ++ optE dx ++ List.replicate (ni - (E + 2)) 0 := ⟨_, rfl⟩
            have hXl : X.length = ni := by rw [hX]; simp [← HE.out]; omega
            have hO := HOi.out
            rw [← hX] at hO
            have HX1 := Lib.hid hX; have HX2 := Lib.hid hXl
            clear hX
            obtain ⟨g, c', cur, e, hg, hbg, hc1, hc2, hc3, htk, hfull⟩ : ∃ g c' cur, Value.slice Ai ni ci = .slice (some ⟨g, 0, none⟩) X.length c' ∧ wo.heap.size ≤ g ∧ bk wr g = some (.cells cur 5 (0, 0)) ∧ X.length ≤ c' ∧ c' ≤ cur.size ∧ c' ≤ maxLen ∧ cur.toList.take X.length = X.map B ∧ (cur.size = c' ∨ c' = X.length) := by
              rcases hO with ⟨_, e2⟩ | h
              · rw [e2] at hXl; simp at hXl; omega
              · exact h
            have e1 := (Value.slice.inj e).1
            have e3 := (Value.slice.inj e).2.2
            subst e1 e3
            obtain ⟨u1, g1'⟩ : ∃ u, wr.cell? ⟨g, 1, none⟩ = some u := ⟨cur[1]'(by omega), by rw [bk_cell hbg]; exact Array.getElem?_eq_getElem _⟩
            have f1 := bk_frozen hbg 1
            have lg := bk_lt hbg
            have KG := Lib.hid (And.intro hbg (And.intro htk (And.intro hg (And.intro hc1 (And.intro hc2 (And.intro hc3 hfull))))))
            obtain ⟨M, hM⟩ : ∃ M, M = optM dx := ⟨_, rfl⟩
            have hM2 : ni = M * 8 := by rw [hM]; exact HT.out
            have hM3 : M ≤ 255 := by rw [hM]; exact (optM_le dx).2
            have q1 : (ni : Int).tdiv 8 = (M : Int) := by rw [hM2, Int.tdiv_eq_ediv_of_nonneg (by omega)]; omega
            have q2 : (ni : Int) / 8 = (M : Int) := by omega
            have i1 : decide ((1 : Int) < (ni : Int)) = true := by simp; omega
            have i1' : decide (1 < ni) = true := by simp; omega
            have i1'' : (1 : Int) < (ni : Int) := by omega
            have HM := Lib.hid hM; have HM2 := Lib.hid hM2
            clear e hO hbg htk hg hc1 hc2 hc3 hfull hXl hM hM2 mr1 hlt2 HOi
            go_upto_region 14 with fail
            have B9 : Below wo.heap.size wo (wr.setCell ⟨g, 1, none⟩ (.int .u8 (M : Int))) := HBi.out.setCell (p := ⟨g, 1, none⟩) KG.out.2.2.1 _
            have hOB := optB_base (kx, dx) (ni - (E + 2)) (by have h1 := HM2.out; have h2 := HM.out; rw [← HE.out, ← h2]; omega) (by rw [← HE.out]; have h1 := HM2.out; omega)
            have hXO : X.set 1 (UInt8.ofNat M) = optB (kx, dx) := by rw [HX1.out, HM.out]; exact hOB.1
            have hOl : (optB (kx, dx)).length = ni := by rw [← hXO, List.length_set]; exact HX2.out
            have O9 : Own (wr.setCell ⟨g, 1, none⟩ (.int .u8 (M : Int))) wo.heap.size (.slice (some ⟨g, 0, none⟩) ni ci) (optB (kx, dx)) := by
              obtain ⟨h1, h2, h3, h4, h5, h6, h7⟩ := KG.out
              refine .inr ⟨g, ci, cur.setIfInBounds 1 (.int .u8 (M : Int)), by rw [hOl], h3, by rw [bk_setCell_same, h1]; rfl, by rw [hOl]; have := HX2.out; omega, by simpa using h5, h6, ?_, by rw [hOl, ← HX2.out]; simpa using h7⟩
              rw [Array.toList_setIfInBounds, hOl, List.take_set]
              rw [HX2.out] at h2
              rw [h2, ← hXO, List.map_set]
              have e6 : B (UInt8.ofNat M) = .int .u8 (M : Int) := by unfold B; rw [UInt8.toNat_ofNat']; congr 1; omega
              rw [e6]
            have RD9 := Lib.hid (own_rd O9)
            have HO9 : Hid (Own (wr.setCell ⟨g, 1, none⟩ (.int .u8 (M : Int))) w.heap.size (.slice Ao no co) (optsB ((ol.map Ov.pl).take k))) := Lib.hid (HO.out.below B9)
            have F9 := Lib.hid (hbel.trans (B9.mono hbel.size))
            have hks' : k < (ol.map Ov.pl).length := by rw [List.length_map]; exact hks
            have hsn := optsB_snoc (l := ol.map Ov.pl) (k := k) hks'
            have hxe : (ol.map Ov.pl)[k] = (kx, dx) := by rw [List.getElem_map, ← HX.out]; rfl
            rw [hxe] at hsn
            have hle := optsB_le (l := ol.map Ov.pl) (k + 1)
            have HSN := Lib.hid hsn
            have HOL := Lib.hid hOl
            have LB : Hid ((optsB ((ol.map Ov.pl).take k)).length + (optB (kx, dx)).length < 2 ^ 46) := Lib.hid (by rw [← List.length_append, ← hsn]; have := HB.out; omega)
            have NB : Hid ((optsB ((ol.map Ov.pl).take k) ++ optB (kx, dx)).length = no + ni) := Lib.hid (by rw [List.length_append, hOl, ← HNO.out])
            clear hOB hXO hOl O9 B9 hsn hxe hle KG HBi HX1 HX2 u1 g1' f1 lg i1 i1' i1'' q1 q2 nz mr2 HO hbel hks'
            generalize wr.setCell ⟨g, 1, none⟩ (.int .u8 (M : Int)) = w9 at *
            go_wp2_with (at_builtin; refine wpList_appN rfl _ _ rfl w.heap.size (.slice Ao no co) (optsB ((ol.map Ov.pl).take k)) (optB (kx, dx)) ni rfl HO9.out (some ⟨g, 0, none⟩) ci rfl HOL.out.symm RD9.out (fun e => by cases e) F9.out.size LB.out (no + ni) NB.out ?_)
            intro A10 c10 w10 r1 r2 _
            have R10 : Hid (Own w10 w.heap.size (.slice A10 (no + ni) c10) (optsB ((ol.map Ov.pl).take (k + 1)))) := Lib.hid (by rw [HSN.out]; exact r1)
            have F10 : Hid (Below w.heap.size w w10) := Lib.hid (F9.out.grown r2 F9.out.size (fun k hk => (HO9.out.lt hk).1))
            have N10 : Hid (no + ni = (optsB ((ol.map Ov.pl).take (k + 1))).length) := Lib.hid (by rw [HSN.out]; exact NB.out.symm)
            clear r1 r2 HO9 RD9 F9 LB NB HOL HSN
            go_wp2
            go_roundw
            case rel => exact ⟨k + 1, A10, no + ni, c10, by omega, by go_num, rfl, N10, R10, F10.out⟩
            case measure => simp [intOf]; omega
    · have d1 : decide ((k : Int) < (N : Int)) = false := by simp; omega
      have d1' : decide (k < N) = false := by simp; omega
      obtain rfl : k = N := by omega
      have HOO : Hid (Own wr w.heap.size (.slice Ao no co) (optsB (ol.map Ov.pl)) ∧ no = (optsB (ol.map Ov.pl)).length) := Lib.hid (by
        have h1 := HO.out; have h2 := HNO.out
        rw [HN.out, ← List.length_map (f := Ov.pl), List.take_length] at h1 h2
        exact ⟨h1, h2⟩)
      clear hlt HO HNO
      go_wp2_with fail
      go_ret
      obtain ⟨h1, h2⟩ := HOO.out
      subst h2
      exact ⟨Ao, co, rfl, h1, hbel⟩
end Go.Proofs.Ytjimmfbjhkoekaa
/- Icmps: may it be put, the document's. -/
namespace Go.Proofs.Ytjimmfbjhkoekaa
open Go.RowKit
set_option maxRecDepth 100000
set_option maxHeartbeats 2000000
theorem isK_false {k : UInt8} (k1 : k ≠ 1) (k2 : k ≠ 2) (k3 : k ≠ 3) (k4 : k ≠ 4) (k5 : k ≠ 128) (k6 : k ≠ 129) (k7 : k ≠ 130) (k8 : k ≠ 143) (k9 : k ≠ 134) (k10 : k ≠ 133) (k11 : k ≠ 135) (k12 : k ≠ 136) (k13 : k ≠ 137) : isK k = false := by
  simp only [isK, Bool.or_eq_false_iff, beq_eq_false_iff_ne, ne_eq]
  exact ⟨⟨⟨⟨⟨⟨⟨⟨⟨⟨⟨⟨k1, k2⟩, k3⟩, k4⟩, k5⟩, k6⟩, k7⟩, k8⟩, k9⟩, k10⟩, k11⟩, k12⟩, k13⟩
theorem rmay_any (m : Mv) (w : World) (hok : MvOk w w.heap.size m) : Calls Try.prog 33 #[.agg (mC m)] w fun e w' => e = .returned (.bool (okM m.pl)) ∧ Below w.heap.size w w' := by
  have k0 : bk (w.alloc (.cells (mC m) 33)) w.heap.size = some (.cells (mC m) 33 (0, 0)) := bk_alloc_at _ _ _ rfl
  have b0 : Below w.heap.size w (w.alloc (.cells (mC m) 33)) := (by (repeat (first | exact Below.refl _ _ | assumption | refine Below.drew ?_ | refine bdrewN ?_ _ | refine Below.alloc ?_ (by first | omega | (simp <;> omega) | (simp only [World.size_alloc] <;> omega)) _ | refine below_setRow ?_ (by first | omega | (simp <;> omega)) _ | refine Below.setCell ?_ (by first | omega | (simp <;> omega)) _)))
  have OK := Lib.hid (hok.below b0 (Nat.le_refl _))
  have B1 := Lib.hid b0
  have h63 : m.ss.length < 2 ^ 63 ∧ m.rs.length < 2 ^ 63 ∧ m.os.length < 2 ^ 63 := by have h1 := hok.sl; have h2 := hok.sc; have h3 := hok.rl; have h4 := hok.rc; have h5 := hok.ol; have h6 := hok.oc; omega
  clear hok b0
  go_enter Try.func33, Try.ntmps33
  go_upto_region 1 with fail
  obtain ⟨b1, hb1⟩ : ∃ b, b = w.heap.size := ⟨_, rfl⟩
  have HB1 := Lib.hid hb1
  rw [← hb1] at k0 ⊢
  generalize w.alloc (.cells (mC m) 33) = w1 at *
  have KM := Lib.hid k0
  have l1 := bk_lt k0
  clear k0 hb1
  by_cases hk1 : m.kind = 1
  · have c0 : w1.cell? ⟨b1, 0, none⟩ = some (.int .u8 1) := by rw [bk_cell KM.out, mC_0, hk1]; rfl
    have HQ : Hid (okM m.pl = true) := Lib.hid (by
      have : m.pl.kind = 1 := hk1
      unfold okM mayB
      rw [this]
      rfl)
    clear hk1
    go_wp2_with fail
    go_ret
    exact ⟨by rw [HQ.out]; rfl, B1.out⟩
  by_cases hk2 : m.kind = 2
  · have c0 : w1.cell? ⟨b1, 0, none⟩ = some (.int .u8 2) := by rw [bk_cell KM.out, mC_0, hk2]; rfl
    have HQ : Hid (okM m.pl = true) := Lib.hid (by
      have : m.pl.kind = 2 := hk2
      unfold okM mayB
      rw [this]
      rfl)
    clear hk2
    go_wp2_with fail
    go_ret
    exact ⟨by rw [HQ.out]; rfl, B1.out⟩
  by_cases hk3 : m.kind = 3
  · have c0 : w1.cell? ⟨b1, 0, none⟩ = some (.int .u8 3) := by rw [bk_cell KM.out, mC_0, hk3]; rfl
    have HQ : Hid (okM m.pl = true) := Lib.hid (by
      have : m.pl.kind = 3 := hk3
      unfold okM mayB
      rw [this]
      rfl)
    clear hk3
    go_wp2_with fail
    go_ret
    exact ⟨by rw [HQ.out]; rfl, B1.out⟩
  by_cases hk4 : m.kind = 4
  · have c0 : w1.cell? ⟨b1, 0, none⟩ = some (.int .u8 4) := by rw [bk_cell KM.out, mC_0, hk4]; rfl
    have HQ : Hid (okM m.pl = true) := Lib.hid (by
      have : m.pl.kind = 4 := hk4
      unfold okM mayB
      rw [this]
      rfl)
    clear hk4
    go_wp2_with fail
    go_ret
    exact ⟨by rw [HQ.out]; rfl, B1.out⟩
  by_cases hk128 : m.kind = 128
  · have c0 : w1.cell? ⟨b1, 0, none⟩ = some (.int .u8 128) := by rw [bk_cell KM.out, mC_0, hk128]; rfl
    have HQ : Hid (okM m.pl = true) := Lib.hid (by
      have : m.pl.kind = 128 := hk128
      unfold okM mayB
      rw [this]
      rfl)
    clear hk128
    go_wp2_with fail
    go_ret
    exact ⟨by rw [HQ.out]; rfl, B1.out⟩
  by_cases hk129 : m.kind = 129
  · have c0 : w1.cell? ⟨b1, 0, none⟩ = some (.int .u8 129) := by rw [bk_cell KM.out, mC_0, hk129]; rfl
    have HQ : Hid (okM m.pl = true) := Lib.hid (by
      have : m.pl.kind = 129 := hk129
      unfold okM mayB
      rw [this]
      rfl)
    clear hk129
    go_wp2_with fail
    go_ret
    exact ⟨by rw [HQ.out]; rfl, B1.out⟩
  by_cases hk : m.kind = 130
  · skip
    have c0 : w1.cell? ⟨b1, 0, none⟩ = some (.int .u8 130) := by rw [bk_cell KM.out, mC_0, hk]; rfl
    have c1 := (bk_cell KM.out 61).trans (mC_61 m)
    obtain ⟨N, hN⟩ : ∃ N, N = m.ss.length := ⟨_, rfl⟩
    rw [← hN] at c1
    have HF : Hid (okM m.pl = decide ((N : Int) ≤ 64)) := Lib.hid (by
      have e : m.pl.kind = 130 := hk
      have e2 : isK m.pl.kind = true := by rw [e]; rfl
      unfold okM mayB
      rw [e2, e, hN]
      simp only [Mv.pl, List.length_map, Bool.and_true, if_true]
      exact dec64 _)
    clear hk hN
    go_wp2_with fail
    go_ret
    exact ⟨by rw [HF.out]; rfl, B1.out⟩
  by_cases hk2 : m.kind = 133
  · have hk := hk2
    have c0 : w1.cell? ⟨b1, 0, none⟩ = some (.int .u8 133) := by rw [bk_cell KM.out, mC_0, hk]; rfl
    have c1 := (bk_cell KM.out 41).trans (mC_41 m)
    obtain ⟨N, hN⟩ : ∃ N, N = m.os.length := ⟨_, rfl⟩
    rw [← hN] at c1
    have HF : Hid (okM m.pl = decide ((N : Int) ≤ 64)) := Lib.hid (by
      have e : m.pl.kind = 133 := hk
      have e2 : isK m.pl.kind = true := by rw [e]; rfl
      unfold okM mayB
      rw [e2, e, hN]
      simp only [Mv.pl, List.length_map, Bool.and_true, show ((133 : UInt8) = 130) = False by decide, show ((133 : UInt8) = 143) = False by decide, if_false, true_or, if_true]
      exact dec64 _)
    clear hk hN
    go_wp2_with fail
    go_ret
    exact ⟨by rw [HF.out]; rfl, B1.out⟩
  by_cases hk3 : m.kind = 134
  · have hk := hk3
    have c0 : w1.cell? ⟨b1, 0, none⟩ = some (.int .u8 134) := by rw [bk_cell KM.out, mC_0, hk]; rfl
    have c1 := (bk_cell KM.out 41).trans (mC_41 m)
    obtain ⟨N, hN⟩ : ∃ N, N = m.os.length := ⟨_, rfl⟩
    rw [← hN] at c1
    have HF : Hid (okM m.pl = decide ((N : Int) ≤ 64)) := Lib.hid (by
      have e : m.pl.kind = 134 := hk
      have e2 : isK m.pl.kind = true := by rw [e]; rfl
      unfold okM mayB
      rw [e2, e, hN]
      simp only [Mv.pl, List.length_map, Bool.and_true, show ((134 : UInt8) = 130) = False by decide, show ((134 : UInt8) = 143) = False by decide, if_false, true_or, or_true, if_true]
      exact dec64 _)
    clear hk hN
    go_wp2_with fail
    go_ret
    exact ⟨by rw [HF.out]; rfl, B1.out⟩
  by_cases hk4 : m.kind = 135
  · have hk := hk4
    have c0 : w1.cell? ⟨b1, 0, none⟩ = some (.int .u8 135) := by rw [bk_cell KM.out, mC_0, hk]; rfl
    have c1 := (bk_cell KM.out 41).trans (mC_41 m)
    obtain ⟨N, hN⟩ : ∃ N, N = m.os.length := ⟨_, rfl⟩
    rw [← hN] at c1
    have HF : Hid (okM m.pl = decide ((N : Int) ≤ 64)) := Lib.hid (by
      have e : m.pl.kind = 135 := hk
      have e2 : isK m.pl.kind = true := by rw [e]; rfl
      unfold okM mayB
      rw [e2, e, hN]
      simp only [Mv.pl, List.length_map, Bool.and_true, show ((135 : UInt8) = 130) = False by decide, show ((135 : UInt8) = 143) = False by decide, if_false, true_or, or_true, if_true]
      exact dec64 _)
    clear hk hN
    go_wp2_with fail
    go_ret
    exact ⟨by rw [HF.out]; rfl, B1.out⟩
  by_cases hk5 : m.kind = 136
  · have hk := hk5
    have c0 : w1.cell? ⟨b1, 0, none⟩ = some (.int .u8 136) := by rw [bk_cell KM.out, mC_0, hk]; rfl
    have c1 := (bk_cell KM.out 41).trans (mC_41 m)
    obtain ⟨N, hN⟩ : ∃ N, N = m.os.length := ⟨_, rfl⟩
    rw [← hN] at c1
    have HF : Hid (okM m.pl = decide ((N : Int) ≤ 64)) := Lib.hid (by
      have e : m.pl.kind = 136 := hk
      have e2 : isK m.pl.kind = true := by rw [e]; rfl
      unfold okM mayB
      rw [e2, e, hN]
      simp only [Mv.pl, List.length_map, Bool.and_true, show ((136 : UInt8) = 130) = False by decide, show ((136 : UInt8) = 143) = False by decide, if_false, true_or, or_true, if_true]
      exact dec64 _)
    clear hk hN
    go_wp2_with fail
    go_ret
    exact ⟨by rw [HF.out]; rfl, B1.out⟩
  by_cases hk6 : m.kind = 137
  · have hk := hk6
    have c0 : w1.cell? ⟨b1, 0, none⟩ = some (.int .u8 137) := by rw [bk_cell KM.out, mC_0, hk]; rfl
    have c1 := (bk_cell KM.out 41).trans (mC_41 m)
    obtain ⟨N, hN⟩ : ∃ N, N = m.os.length := ⟨_, rfl⟩
    rw [← hN] at c1
    have HF : Hid (okM m.pl = decide ((N : Int) ≤ 64)) := Lib.hid (by
      have e : m.pl.kind = 137 := hk
      have e2 : isK m.pl.kind = true := by rw [e]; rfl
      unfold okM mayB
      rw [e2, e, hN]
      simp only [Mv.pl, List.length_map, Bool.and_true, show ((137 : UInt8) = 130) = False by decide, show ((137 : UInt8) = 143) = False by decide, if_false, or_true, if_true]
      exact dec64 _)
    clear hk hN
    go_wp2_with fail
    go_ret
    exact ⟨by rw [HF.out]; rfl, B1.out⟩
  by_cases hk7 : m.kind = 143
  · have c0 : w1.cell? ⟨b1, 0, none⟩ = some (.int .u8 143) := by rw [bk_cell KM.out, mC_0, hk7]; rfl
    have c1 := (bk_cell KM.out 62).trans (mC_62 m)
    have HM : Hid (okM m.pl = (decide (m.rs.length ≤ 64) && !m.rs.any longR)) := Lib.hid (by
      have e : m.pl.kind = 143 := hk7
      have e2 : isK m.pl.kind = true := by rw [e]; rfl
      unfold okM mayB
      rw [e2, e]
      rw [if_neg (by decide), if_pos rfl, Bool.and_true]
      show (decide ((m.rs.map Rv.pl).length ≤ 64) && (m.rs.map Rv.pl).all fun r => decide (r.s.length ≤ 64)) = _
      rw [all_long, List.length_map])
    obtain ⟨N, hN⟩ : ∃ N, N = m.rs.length := ⟨_, rfl⟩
    rw [← hN] at c1 HM
    have HN := Lib.hid hN
    have h63' : N < 2 ^ 63 := by rw [hN]; exact h63.2.1
    clear hN hk hk2 hk3 hk4 hk5 hk6 hk7 hk1 hk128 hk129 h63
    go_wp2_with fail
    go_loopw [3] (fun i W => ∃ k : Nat, k ≤ N ∧ i = .int .i64 k ∧ w1 = W ∧ Hid (∀ j (h : j < m.rs.length), j < k → longR m.rs[j] = false)) (fun i _ => N - (intOf i).toNat)
    case atStart => exact ⟨0, by omega, rfl, rfl, Lib.hid fun j h h2 => absurd h2 (by omega)⟩
    case round =>
      obtain ⟨k, hkN, rfl, rfl, HA⟩ := hrel
      by_cases hlt : k < N
      · have d1 : decide ((k : Int) < (N : Int)) = true := by simp; omega
        have d1' : decide (k < N) = true := by simp; omega
        have hks : k < m.rs.length := by rw [← HN.out]; exact hlt
        obtain ⟨g1, o1, cur1, t1, f1, e1, hg1, hb1, hs1, hx1, hx2⟩ := (OK.out.rs.at hks Rv.row_size)
        have p3 := hx2 17 (by decide)
        have hcr : (Rv.row m.rs[k])[17]? = some (.slice m.rs[k].A m.rs[k].s.length m.rs[k].c) := by
          have hg := m.rs[k].hg
          simp only [Rv.row, List.getElem?_toArray]
          rw [List.getElem?_cons_succ, List.getElem?_append_right (by simp [hg])]
          simp [hg]
        rw [hcr] at p3
        rw [e1] at c1
        have l2 := bk_lt hb1
        obtain ⟨r, hr⟩ : ∃ r, r = m.rs[k] := ⟨_, rfl⟩
        obtain ⟨L, hL⟩ : ∃ L, L = m.rs[k].s.length := ⟨_, rfl⟩
        rw [← hL] at p3
        have hlong : longR m.rs[k] = decide (64 < L) := by rw [hL]; rfl
        have HLG := Lib.hid hlong
        clear hx2 hx1 hs1 hcr hL hr hlong hb1
        by_cases h64 : L ≤ 64
        · have d2 : decide ((L : Int) > 64) = false := by simp; omega
          have d2' : decide (64 < L) = false := by simp; omega
          have HA' : Hid (∀ j (h : j < m.rs.length), j < k + 1 → longR m.rs[j] = false) := Lib.hid fun j h h2 => by
            by_cases e : j = k
            · subst e; rw [HLG.out]; exact d2'
            · exact HA.out j h (by omega)
          clear HA HLG
          go_wp2
          go_roundw
          case rel => exact ⟨k + 1, by omega, by go_num, by trivial, HA'⟩
          case measure => simp [intOf]; omega
        · have d2 : decide ((L : Int) > 64) = true := by simp; omega
          have d2' : decide (64 < L) = true := by simp; omega
          have HQ : Hid (okM m.pl = false) := Lib.hid (by
            rw [HM.out]
            have : m.rs.any longR = true := List.any_eq_true.2 ⟨m.rs[k], List.getElem_mem hks, by rw [HLG.out]; exact d2'⟩
            rw [this]; simp)
          clear HM HLG HA
          go_wp2
          go_ret
          exact ⟨by rw [HQ.out]; rfl, B1.out⟩
      · have d1 : decide ((k : Int) < (N : Int)) = false := by simp; omega
        have d1' : decide (k < N) = false := by simp; omega
        obtain rfl : k = N := by omega
        have HQ : Hid (okM m.pl = decide ((k : Int) ≤ 64)) := Lib.hid (by
          rw [HM.out]
          have : m.rs.any longR = false := List.any_eq_false.2 fun x hx => by
            obtain ⟨j, hj, rfl⟩ := List.mem_iff_getElem.1 hx
            rw [HA.out j hj (by rw [HN.out]; exact hj)]
            simp
          rw [this, Bool.not_false, Bool.and_true]
          exact dec64 _)
        clear HM HA hlt
        go_wp2
        go_ret
        exact ⟨by rw [HQ.out]; rfl, B1.out⟩
  · have c0 : w1.cell? ⟨b1, 0, none⟩ = some (.int .u8 (m.kind.toNat : Int)) := (bk_cell KM.out 0).trans (mC_0 m)
    have m1 : ((m.kind.toNat : Int) == 1) = false := u8ne (c := 1) (by decide) hk1; have m2 : ((m.kind.toNat : Int) == 2) = false := u8ne (c := 2) (by decide) (by assumption); have m3 : ((m.kind.toNat : Int) == 3) = false := u8ne (c := 3) (by decide) (by assumption); have m4 : ((m.kind.toNat : Int) == 4) = false := u8ne (c := 4) (by decide) (by assumption); have m5 : ((m.kind.toNat : Int) == 128) = false := u8ne (c := 128) (by decide) hk128; have m6 : ((m.kind.toNat : Int) == 129) = false := u8ne (c := 129) (by decide) hk129
    have n1 : ((m.kind.toNat : Int) == 130) = false := u8ne (c := 130) (by decide) hk; have n2 : ((m.kind.toNat : Int) == 133) = false := u8ne (c := 133) (by decide) (by assumption); have n3 : ((m.kind.toNat : Int) == 134) = false := u8ne (c := 134) (by decide) (by assumption); have n4 : ((m.kind.toNat : Int) == 135) = false := u8ne (c := 135) (by decide) (by assumption); have n5 : ((m.kind.toNat : Int) == 136) = false := u8ne (c := 136) (by decide) (by assumption); have n6 : ((m.kind.toNat : Int) == 137) = false := u8ne (c := 137) (by decide) (by assumption); have n7 : ((m.kind.toNat : Int) == 143) = false := u8ne (c := 143) (by decide) hk7
    have HQ : Hid (okM m.pl = false) := Lib.hid (by
      have e : isK m.pl.kind = false := isK_false (by assumption) (by assumption) (by assumption) (by assumption) (by assumption) (by assumption) (by assumption) (by assumption) (by assumption) (by assumption) (by assumption) (by assumption) (by assumption)
      unfold okM
      rw [e, Bool.and_false])
    clear hk hk2 hk3 hk4 hk5 hk6 hk7 hk1 hk128 hk129
    go_wp2_with fail
    go_ret
    exact ⟨by rw [HQ.out]; rfl, B1.out⟩
end Go.Proofs.Ytjimmfbjhkoekaa
