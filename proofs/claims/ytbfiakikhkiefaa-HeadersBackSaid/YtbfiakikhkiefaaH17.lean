/- Headers: the document's walk: options. -/
import Derived.Test.YtbfiakikhkiefaaMgH
namespace Go.Proofs.Ytbfiakikhkiefaa
open Go.RowKit
set_option maxRecDepth 100000
set_option maxHeartbeats 4000000
theorem walk9_hop (mc : Bool) (N : Nat) (IH0 : WalkOK mc N) (nx : UInt8) (A : Option Addr) (b : List UInt8) (c p told : Nat) (fs al : Bool) (w : World) (h0 : nx = 0) (hN : b.length < N + 1) (hr : Rd w w.heap.size A b) (hA : A = none → b = [] ∧ c = 0) (hc : b.length ≤ c) (h30 : b.length < 2 ^ 30) (hp : p + b.length < 2 ^ 40) (htold : told < 2 ^ 40) :
    Calls Try.prog 36 #[B nx, .slice A b.length c, .int .u64 (p : Int), .int .u64 (told : Int), .bool fs, .bool mc, .bool al] w fun e w' => ∃ A' c', e = .returned (toV (chain mc nx b p told fs al) A' c') ∧
      Gots (chain mc nx b p told fs al).rest w.heap.size A' w' ∧ Below w.heap.size w w' := by
  have IH := Lib.hid IH0
  unfold WalkOK at IH
  clear IH0
  obtain ⟨R, hR⟩ : ∃ R, R = chain mc nx b p told fs al := ⟨_, rfl⟩
  rw [← hR]
  have HE := Lib.hid (hR.trans (chain_eq ..))
  have HRD := Lib.hid hr; have HA := Lib.hid hA
  clear hR hr hA
  go_enter Try.func36, Try.ntmps36
  go_upto_region 1 with fail
  have R0 : Hid (Rw w (w.alloc (.cells (tdC (tlA false) nilV) 51 (0, 0)))) := Lib.hid ⟨(by (repeat (first | exact Below.refl _ _ | assumption | refine Below.drew ?_ | refine bdrewN ?_ _ | refine Below.alloc ?_ (by first | omega | (simp <;> omega) | (simp only [World.size_alloc] <;> omega)) _ | refine below_setRow ?_ (by first | omega | (simp <;> omega)) _ | refine Below.setCell ?_ (by first | omega | (simp <;> omega)) _))), bk_alloc_at _ _ _ rfl⟩
  change Code.wp _ _ _ _ (w.alloc (.cells (tdC (tlA false) nilV) 51 (0, 0)))
  generalize w.alloc (.cells (tdC (tlA false) nilV) 51 (0, 0)) = w1 at *
  have q1 := R0.out.k
  have l1 := R0.out.lt
  have k0 : (nx.toNat : Int) = 0 := by rw [h0]; rfl
  replace HE := Lib.hid (HE.out.trans (if_pos (.inl h0)))
  have HNX : Hid ((nx == 0) = true) := Lib.hid (by rw [h0]; rfl)
  cases fs with
  | false =>
    replace HE := Lib.hid (HE.out.trans (if_pos ⟨h0, rfl⟩))
    clear h0
    have C := Lib.hid (faulty9_any 1 (told) al w1 (by omega))
    go_wp2_with fail
    refine C.out.mono ?_
    rintro e wf ⟨rfl, bf⟩
    have RF := Lib.hid ((R0).out.next bf)
    clear C bf
    have qf := RF.out.k
    have lf := RF.out.lt
    go_wp2_with fail
    refine ret_cell (cs := tdC (tlF 1 (told) al) nilV) rfl rfl rfl ?_ Try.underlying51 rfl (by kernel_rfl) ?_
    rotate_left
    · exact ⟨none, 0, by rw [HE.out]; rfl, by rw [HE.out]; exact Gots.nil, (RF).out.ret (tlF 1 (told) al) nilV |>.1⟩
    · exact ((RF).out.ret (tlF 1 (told) al) nilV).2
  | true =>
    replace HE := Lib.hid (HE.out.trans (if_neg (by simp)))
    clear h0
    by_cases hsh : b.length < 2 ∨ b.length < hsz b
    · have C := header9_any A b c 2 w1 ((HRD.out.below R0.out.f (Nat.le_refl _)).mono R0.out.f.size) hc (by omega) (by omega) (by omega)
      rw [if_pos hsh] at C
      have HC := Lib.hid C
      replace HE := Lib.hid (HE.out.trans (if_pos hsh))
      clear C hsh
      go_wp2_with fail
      refine HC.out.mono ?_
      rintro e w2 ⟨rfl, rfl⟩
      go_wp2_with fail
      refine ret_cell (cs := tdC (tlE 5) nilV) rfl rfl rfl ?_ Try.underlying51 rfl (by kernel_rfl) ?_
      rotate_left
      · exact ⟨none, 0, by rw [HE.out]; rfl, by rw [HE.out]; exact Gots.nil, (R0).out.ret (tlE 5) nilV |>.1⟩
      · exact ((R0).out.ret (tlE 5) nilV).2
    · have C := header9_any A b c 2 w1 ((HRD.out.below R0.out.f (Nat.le_refl _)).mono R0.out.f.size) hc (by omega) (by omega) (by omega)
      rw [if_neg hsh] at C
      replace HE := Lib.hid (HE.out.trans (if_neg hsh))
      obtain ⟨z, hz⟩ : ∃ z, z = hsz b := ⟨_, rfl⟩
      have hz8 : 8 ≤ z := by rw [hz]; exact hsz_ge b
      rw [← hz] at C hsh HE
      have hzl : z ≤ b.length := by omega
      have htl : (b.take z).length = z := by rw [List.length_take]; omega
      have O := options9_any A (b.take z) c p true mc w1 ((HRD.out.below R0.out.f (Nat.le_refl _)).mono R0.out.f.size).take (by omega) (by omega) (by omega)
      have hok := opr_ok nx b mc
      have hro : opt (b.take z) true mc 2 false = opr nx b mc := by unfold opr; rw [hz, HNX.out]
      rw [htl, hro] at O
      obtain ⟨r, hr⟩ : ∃ r, r = opr nx b mc := ⟨_, rfl⟩
      rw [← hr] at O hok HE
      have ho := optT_ok r p hok
      have hbad := fun h => optT_bad r p al h
      have hrest : (optT r p).rest = [] := by unfold optT; split; rfl; split <;> rfl
      obtain ⟨t, ht⟩ : ∃ t, t = optT r p := ⟨_, rfl⟩
      rw [← ht] at O ho hbad hrest
      have HC := Lib.hid C; have HO := Lib.hid O
      have HT := Lib.hid (And.intro ho (And.intro hbad hrest))
      have HZ := Lib.hid hz
      have zi : ¬ (z : Int) = 0 := by omega
      clear C O hro hr ht ho hbad hrest hsh hz htl
      go_wp2_with fail
      refine HC.out.mono ?_
      rintro e w2 ⟨rfl, rfl⟩
      go_wp2_with fail
      refine HO.out.mono ?_
      rintro e w2 ⟨rfl, b2⟩
      have R2 := Lib.hid (R0.out.next b2)
      clear b2 HC HO
      go_upto_region 10 with fail
      have R3 : Hid (Rw w (w2.alloc (.cells (tdC t nilV) 51 (0, 0)))) := Lib.hid (R2.out.next (by (repeat (first | exact Below.refl _ _ | assumption | refine Below.drew ?_ | refine bdrewN ?_ _ | refine Below.alloc ?_ (by first | omega | (simp <;> omega) | (simp only [World.size_alloc] <;> omega)) _ | refine below_setRow ?_ (by first | omega | (simp <;> omega)) _ | refine Below.setCell ?_ (by first | omega | (simp <;> omega)) _))))
      have K3 : Hid (bk (w2.alloc (.cells (tdC t nilV) 51 (0, 0))) w2.heap.size = some (.cells (tdC t nilV) 51 (0, 0))) := Lib.hid (bk_alloc_at _ _ _ rfl)
      have hox0 := R2.out.lt
      obtain ⟨ox, hox⟩ : ∃ x, x = w2.heap.size := ⟨_, rfl⟩
      change Code.wp _ _ _ _ (w2.alloc (.cells (tdC t nilV) 51 (0, 0)))
      rw [← hox] at K3 hox0 ⊢
      generalize w2.alloc (.cells (tdC t nilV) 51 (0, 0)) = w3 at *
      clear R2 hox
      have HOX := Lib.hid hox0
      have c2 := bk_cell K3.out 2; have c9 := bk_cell K3.out 9
      simp [tdC] at c2 c9
      have z2 := bk_frozen K3.out 2
      have hoxlt := bk_lt K3.out
      by_cases hr0 : r.1 = 0
      · have c9' : w3.cell? ⟨ox, 9, none⟩ = some (.int .i64 0) := by rw [c9, HT.out.1.1, hr0]; rfl
        replace HE := Lib.hid (HE.out.trans (if_pos hr0))
        have hal := HT.out.1.2 hr0
        rw [hal] at c2
        obtain ⟨g, hg⟩ : ∃ g, g = r.2.2 := ⟨_, rfl⟩
        rw [← hg] at HE c2
        clear c9 hal hg hok hr0 z2
        have c9 := c9'
        clear c9'
        have HR3 : Hid (Rd w3 (w3).heap.size A b) := Lib.hid ((HRD.out.below (R3).out.f (Nat.le_refl _)).mono (R3).out.f.size)
        obtain ⟨bb, o, rfl, hblt, hcl⟩ := HR3.out (by omega)
        have u0 := hcl 0 (by omega)
        obtain ⟨y, hy⟩ : ∃ y, y = at8 b 0 := ⟨_, rfl⟩
        rw [show b[0]'(by omega) = y by rw [hy]; unfold at8; rw [List.getD_eq_getElem?_getD, List.getElem?_eq_getElem]; rfl] at u0
        simp only [Nat.add_zero] at u0
        have h0i : (0 : Int) < (b.length : Int) := by omega
        have h0n : 0 < b.length := by omega
        have hbl : (b.drop z).length = b.length - z := by rw [List.length_drop]
        have hzI : (z : Int) ≤ (b.length : Int) := by omega
        have hzc : (z : Int) ≤ (c : Int) := by omega
        have hzc' : z ≤ c := by omega
        have dz : decide (z ≤ b.length) = true := by simpa using hzl
        obtain ⟨q, hq⟩ : ∃ q, q = p + z := ⟨_, rfl⟩
        have HQ := Lib.hid hq
        have e0 : IntKind.u64.wrap (z : Int) = (z : Int) := by rw [IntKind.wrap_u64]; omega
        have e1 : IntKind.u64.wrap ((p : Int) + (z : Int)) = (q : Int) := by rw [IntKind.wrap_u64]; omega
        rw [← hy, ← hq] at HE
        clear hy hcl hq
        cases al with
        | true =>
          rw [Bool.or_true] at HE
          by_cases hcs : c - z = 0
          · have hcz : True := trivial
            have IHz := IH.out y (some ⟨bb, o, none⟩) (b.drop z) (0) q p false (true)
            rw [hbl, ← HE.out] at IHz
            have HI := Lib.hid IHz
            have HRD2 : Hid (Rd w3 (w3).heap.size (some ⟨bb, o, none⟩) (b.drop z)) := Lib.hid (by first | exact HR3.out.drop hzl | (rw [List.drop_of_length_le (by omega)]; exact Rd.nil))
            clear IHz
            go_upto_region 13 with fail
            obtain ⟨m, hm⟩ : ∃ m, m = (w3).heap.size := ⟨_, rfl⟩
            have HM0 : Hid (w.heap.size < m) := Lib.hid (by rw [hm]; exact (R3).out.lt)
            obtain ⟨M, hM⟩ : ∃ M : Made m, M = Made.td m R := ⟨_, rfl⟩
            have HM := Lib.hid hM
            clear hM
            rw [← hm] at hblt hoxlt
            refine wp_region_made_tail m (19 + 1) (fun j => (nk19 m (z : Nat) M).lookup j) (Nat.le_of_eq hm) (by kernel_rfl) (by kernel_rfl) ?_
            simp only [List.take_succ_cons, List.take_zero, List.drop_succ_cons, List.drop_zero, Nat.reduceAdd]
            refine walk_segn 5 ([]) facts0 (by kernel_rfl) (by kernel_rfl) ?_
            simp only [List.take_succ_cons, List.take_zero, List.drop_succ_cons, List.drop_zero, Nat.reduceAdd]
            repeat (go_big_quiet_step (fail))
            (first | refine wpQuiet_nil ?_ | (go_big_quiet_want; (try go_big_quiet_op); trace_state; fail))
            refine walk_val (.int .i64 (z : Int)) ([]) facts0 (by kernel_rfl) (by kernel_rfl) (by kernel_rfl) (fun w' hb' hg' => ?_) ?_
            · unfold madeAt
              go_simp
              ((exact ⟨Below.refl _ _, rfl, trivial⟩))
            simp only [Act.put, List.setIfInBounds_toArray, List.set_cons_succ, List.set_cons_zero, Nat.reduceAdd]
            refine walk_segn 3 ([]) facts0 (by kernel_rfl) (by kernel_rfl) ?_
            simp only [List.take_succ_cons, List.take_zero, List.drop_succ_cons, List.drop_zero, Nat.reduceAdd]
            repeat (go_big_quiet_step (fail))
            (first | refine wpQuiet_nil ?_ | (go_big_quiet_want; (try go_big_quiet_op); trace_state; fail))
            refine walk_val (.int .i64 (z : Int)) ([]) facts0 (by kernel_rfl) (by kernel_rfl) (by kernel_rfl) (fun w' hb' hg' => ?_) ?_
            · unfold madeAt
              go_simp
              ((exact ⟨Below.refl _ _, rfl, trivial⟩))
            simp only [Act.put, List.setIfInBounds_toArray, List.set_cons_succ, List.set_cons_zero, Nat.reduceAdd]
            refine walk_segn 9 ([]) facts0 (by kernel_rfl) (by kernel_rfl) ?_
            simp only [List.take_succ_cons, List.take_zero, List.drop_succ_cons, List.drop_zero, Nat.reduceAdd]
            repeat (go_big_quiet_step (fail))
            (first | refine wpQuiet_nil ?_ | (go_big_quiet_want; (try go_big_quiet_op); trace_state; fail))
            refine walk_mkop M [] facts0 (by kernel_rfl) (by kernel_rfl) (by kernel_rfl) (fun w' hb' hg' => ?_) (fun v hT hAt => ?_)
            · unfold madeAt
              go_simp
              have hbw : Below (w3).heap.size w3 w' := by rw [← hm]; exact hb'
              have hq := HQ.out
              refine (HI.out w' (by omega) ((HRD2.out.below hbw (Nat.le_refl _)).mono hbw.size) (fun h => by cases h) (by omega) (by omega) (by omega) (by omega)).mono ?_
              rintro e w9 ⟨A9, c9, rfl, hg9, b9⟩
              exact td_end HM b9 (Gots.turn hg9 (by rw [hm]; exact hbw.size) (Nat.le_refl _) (fun _ _ => rfl))
            obtain ⟨A9, c9, rfl⟩ := td_T HM hT
            clear hT hAt
            simp only [Act.put, List.setIfInBounds_toArray, List.set_cons_succ, List.set_cons_zero, Nat.reduceAdd]
            refine walk_nil ?_
            intro w9 hb9 hf
            have G9 := Lib.hid (td_R HM ((hf 19).1 rfl))
            rw [hm] at hb9
            have R9 := Lib.hid ((R3).out.next hb9)
            have q9 := R9.out.k
            have l9 := R9.out.lt
            clear hb9 hf
            unfold toV
            go_wp2_with fail
            refine ret_cell (cs := tdC R (.slice A9 R.rest.length c9)) rfl rfl rfl ?_ Try.underlying51 rfl (by kernel_rfl) ?_
            rotate_left
            · first | exact ⟨A9, c9, rfl, (R9).out.gots _ (by have := HM0.out; omega) G9.out, ((R9).out.ret R _).1⟩ | exact ⟨A9, ⟨c9, rfl⟩, (R9).out.gots _ (by have := HM0.out; omega) G9.out, ((R9).out.ret R _).1⟩
            · exact ((R9).out.ret R _).2
          · have hcz : True := trivial
            have IHz := IH.out y (some ⟨bb, o + z, none⟩) (b.drop z) (c - z) q p false (true)
            rw [hbl, ← HE.out] at IHz
            have HI := Lib.hid IHz
            have HRD2 : Hid (Rd w3 (w3).heap.size (some ⟨bb, o + z, none⟩) (b.drop z)) := Lib.hid (by first | exact HR3.out.drop hzl | (rw [List.drop_of_length_le (by omega)]; exact Rd.nil))
            clear IHz
            go_upto_region 13 with fail
            obtain ⟨m, hm⟩ : ∃ m, m = (w3).heap.size := ⟨_, rfl⟩
            have HM0 : Hid (w.heap.size < m) := Lib.hid (by rw [hm]; exact (R3).out.lt)
            obtain ⟨M, hM⟩ : ∃ M : Made m, M = Made.td m R := ⟨_, rfl⟩
            have HM := Lib.hid hM
            clear hM
            rw [← hm] at hblt hoxlt
            refine wp_region_made_tail m (19 + 1) (fun j => (nk19 m (z : Nat) M).lookup j) (Nat.le_of_eq hm) (by kernel_rfl) (by kernel_rfl) ?_
            simp only [List.take_succ_cons, List.take_zero, List.drop_succ_cons, List.drop_zero, Nat.reduceAdd]
            refine walk_segn 5 ([]) facts0 (by kernel_rfl) (by kernel_rfl) ?_
            simp only [List.take_succ_cons, List.take_zero, List.drop_succ_cons, List.drop_zero, Nat.reduceAdd]
            repeat (go_big_quiet_step (fail))
            (first | refine wpQuiet_nil ?_ | (go_big_quiet_want; (try go_big_quiet_op); trace_state; fail))
            refine walk_val (.int .i64 (z : Int)) ([]) facts0 (by kernel_rfl) (by kernel_rfl) (by kernel_rfl) (fun w' hb' hg' => ?_) ?_
            · unfold madeAt
              go_simp
              ((exact ⟨Below.refl _ _, rfl, trivial⟩))
            simp only [Act.put, List.setIfInBounds_toArray, List.set_cons_succ, List.set_cons_zero, Nat.reduceAdd]
            refine walk_segn 3 ([]) facts0 (by kernel_rfl) (by kernel_rfl) ?_
            simp only [List.take_succ_cons, List.take_zero, List.drop_succ_cons, List.drop_zero, Nat.reduceAdd]
            repeat (go_big_quiet_step (fail))
            (first | refine wpQuiet_nil ?_ | (go_big_quiet_want; (try go_big_quiet_op); trace_state; fail))
            refine walk_val (.int .i64 (z : Int)) ([]) facts0 (by kernel_rfl) (by kernel_rfl) (by kernel_rfl) (fun w' hb' hg' => ?_) ?_
            · unfold madeAt
              go_simp
              ((exact ⟨Below.refl _ _, rfl, trivial⟩))
            simp only [Act.put, List.setIfInBounds_toArray, List.set_cons_succ, List.set_cons_zero, Nat.reduceAdd]
            refine walk_segn 9 ([]) facts0 (by kernel_rfl) (by kernel_rfl) ?_
            simp only [List.take_succ_cons, List.take_zero, List.drop_succ_cons, List.drop_zero, Nat.reduceAdd]
            repeat (go_big_quiet_step (fail))
            (first | refine wpQuiet_nil ?_ | (go_big_quiet_want; (try go_big_quiet_op); trace_state; fail))
            refine walk_mkop M [] facts0 (by kernel_rfl) (by kernel_rfl) (by kernel_rfl) (fun w' hb' hg' => ?_) (fun v hT hAt => ?_)
            · unfold madeAt
              go_simp
              have hbw : Below (w3).heap.size w3 w' := by rw [← hm]; exact hb'
              have hq := HQ.out
              refine (HI.out w' (by omega) ((HRD2.out.below hbw (Nat.le_refl _)).mono hbw.size) (fun h => by cases h) (by omega) (by omega) (by omega) (by omega)).mono ?_
              rintro e w9 ⟨A9, c9, rfl, hg9, b9⟩
              exact td_end HM b9 (Gots.turn hg9 (by rw [hm]; exact hbw.size) (Nat.le_refl _) (fun _ _ => rfl))
            obtain ⟨A9, c9, rfl⟩ := td_T HM hT
            clear hT hAt
            simp only [Act.put, List.setIfInBounds_toArray, List.set_cons_succ, List.set_cons_zero, Nat.reduceAdd]
            refine walk_nil ?_
            intro w9 hb9 hf
            have G9 := Lib.hid (td_R HM ((hf 19).1 rfl))
            rw [hm] at hb9
            have R9 := Lib.hid ((R3).out.next hb9)
            have q9 := R9.out.k
            have l9 := R9.out.lt
            clear hb9 hf
            unfold toV
            go_wp2_with fail
            refine ret_cell (cs := tdC R (.slice A9 R.rest.length c9)) rfl rfl rfl ?_ Try.underlying51 rfl (by kernel_rfl) ?_
            rotate_left
            · first | exact ⟨A9, c9, rfl, (R9).out.gots _ (by have := HM0.out; omega) G9.out, ((R9).out.ret R _).1⟩ | exact ⟨A9, ⟨c9, rfl⟩, (R9).out.gots _ (by have := HM0.out; omega) G9.out, ((R9).out.ret R _).1⟩
            · exact ((R9).out.ret R _).2
        | false =>
          rw [Bool.or_false] at HE
          by_cases hcs : c - z = 0
          · have hcz : True := trivial
            have IHz := IH.out y (some ⟨bb, o, none⟩) (b.drop z) (0) q p false (g)
            rw [hbl, ← HE.out] at IHz
            have HI := Lib.hid IHz
            have HRD2 : Hid (Rd w3 (w3).heap.size (some ⟨bb, o, none⟩) (b.drop z)) := Lib.hid (by first | exact HR3.out.drop hzl | (rw [List.drop_of_length_le (by omega)]; exact Rd.nil))
            clear IHz
            go_upto_region 13 with fail
            obtain ⟨m, hm⟩ : ∃ m, m = (w3).heap.size := ⟨_, rfl⟩
            have HM0 : Hid (w.heap.size < m) := Lib.hid (by rw [hm]; exact (R3).out.lt)
            obtain ⟨M, hM⟩ : ∃ M : Made m, M = Made.td m R := ⟨_, rfl⟩
            have HM := Lib.hid hM
            clear hM
            rw [← hm] at hblt hoxlt
            refine wp_region_made_tail m (19 + 1) (fun j => (nk19 m (z : Nat) M).lookup j) (Nat.le_of_eq hm) (by kernel_rfl) (by kernel_rfl) ?_
            simp only [List.take_succ_cons, List.take_zero, List.drop_succ_cons, List.drop_zero, Nat.reduceAdd]
            refine walk_segn 5 ([]) facts0 (by kernel_rfl) (by kernel_rfl) ?_
            simp only [List.take_succ_cons, List.take_zero, List.drop_succ_cons, List.drop_zero, Nat.reduceAdd]
            repeat (go_big_quiet_step (fail))
            (first | refine wpQuiet_nil ?_ | (go_big_quiet_want; (try go_big_quiet_op); trace_state; fail))
            refine walk_val (.int .i64 (z : Int)) ([]) facts0 (by kernel_rfl) (by kernel_rfl) (by kernel_rfl) (fun w' hb' hg' => ?_) ?_
            · unfold madeAt
              go_simp
              ((exact ⟨Below.refl _ _, rfl, trivial⟩))
            simp only [Act.put, List.setIfInBounds_toArray, List.set_cons_succ, List.set_cons_zero, Nat.reduceAdd]
            refine walk_segn 3 ([]) facts0 (by kernel_rfl) (by kernel_rfl) ?_
            simp only [List.take_succ_cons, List.take_zero, List.drop_succ_cons, List.drop_zero, Nat.reduceAdd]
            repeat (go_big_quiet_step (fail))
            (first | refine wpQuiet_nil ?_ | (go_big_quiet_want; (try go_big_quiet_op); trace_state; fail))
            refine walk_val (.int .i64 (z : Int)) ([]) facts0 (by kernel_rfl) (by kernel_rfl) (by kernel_rfl) (fun w' hb' hg' => ?_) ?_
            · unfold madeAt
              go_simp
              ((exact ⟨Below.refl _ _, rfl, trivial⟩))
            simp only [Act.put, List.setIfInBounds_toArray, List.set_cons_succ, List.set_cons_zero, Nat.reduceAdd]
            refine walk_segn 9 ([]) facts0 (by kernel_rfl) (by kernel_rfl) ?_
            simp only [List.take_succ_cons, List.take_zero, List.drop_succ_cons, List.drop_zero, Nat.reduceAdd]
            repeat (go_big_quiet_step (fail))
            (first | refine wpQuiet_nil ?_ | (go_big_quiet_want; (try go_big_quiet_op); trace_state; fail))
            refine walk_mkop M [] facts0 (by kernel_rfl) (by kernel_rfl) (by kernel_rfl) (fun w' hb' hg' => ?_) (fun v hT hAt => ?_)
            · unfold madeAt
              go_simp
              have hbw : Below (w3).heap.size w3 w' := by rw [← hm]; exact hb'
              have hq := HQ.out
              refine (HI.out w' (by omega) ((HRD2.out.below hbw (Nat.le_refl _)).mono hbw.size) (fun h => by cases h) (by omega) (by omega) (by omega) (by omega)).mono ?_
              rintro e w9 ⟨A9, c9, rfl, hg9, b9⟩
              exact td_end HM b9 (Gots.turn hg9 (by rw [hm]; exact hbw.size) (Nat.le_refl _) (fun _ _ => rfl))
            obtain ⟨A9, c9, rfl⟩ := td_T HM hT
            clear hT hAt
            simp only [Act.put, List.setIfInBounds_toArray, List.set_cons_succ, List.set_cons_zero, Nat.reduceAdd]
            refine walk_nil ?_
            intro w9 hb9 hf
            have G9 := Lib.hid (td_R HM ((hf 19).1 rfl))
            rw [hm] at hb9
            have R9 := Lib.hid ((R3).out.next hb9)
            have q9 := R9.out.k
            have l9 := R9.out.lt
            clear hb9 hf
            unfold toV
            go_wp2_with fail
            refine ret_cell (cs := tdC R (.slice A9 R.rest.length c9)) rfl rfl rfl ?_ Try.underlying51 rfl (by kernel_rfl) ?_
            rotate_left
            · first | exact ⟨A9, c9, rfl, (R9).out.gots _ (by have := HM0.out; omega) G9.out, ((R9).out.ret R _).1⟩ | exact ⟨A9, ⟨c9, rfl⟩, (R9).out.gots _ (by have := HM0.out; omega) G9.out, ((R9).out.ret R _).1⟩
            · exact ((R9).out.ret R _).2
          · have hcz : True := trivial
            have IHz := IH.out y (some ⟨bb, o + z, none⟩) (b.drop z) (c - z) q p false (g)
            rw [hbl, ← HE.out] at IHz
            have HI := Lib.hid IHz
            have HRD2 : Hid (Rd w3 (w3).heap.size (some ⟨bb, o + z, none⟩) (b.drop z)) := Lib.hid (by first | exact HR3.out.drop hzl | (rw [List.drop_of_length_le (by omega)]; exact Rd.nil))
            clear IHz
            go_upto_region 13 with fail
            obtain ⟨m, hm⟩ : ∃ m, m = (w3).heap.size := ⟨_, rfl⟩
            have HM0 : Hid (w.heap.size < m) := Lib.hid (by rw [hm]; exact (R3).out.lt)
            obtain ⟨M, hM⟩ : ∃ M : Made m, M = Made.td m R := ⟨_, rfl⟩
            have HM := Lib.hid hM
            clear hM
            rw [← hm] at hblt hoxlt
            refine wp_region_made_tail m (19 + 1) (fun j => (nk19 m (z : Nat) M).lookup j) (Nat.le_of_eq hm) (by kernel_rfl) (by kernel_rfl) ?_
            simp only [List.take_succ_cons, List.take_zero, List.drop_succ_cons, List.drop_zero, Nat.reduceAdd]
            refine walk_segn 5 ([]) facts0 (by kernel_rfl) (by kernel_rfl) ?_
            simp only [List.take_succ_cons, List.take_zero, List.drop_succ_cons, List.drop_zero, Nat.reduceAdd]
            repeat (go_big_quiet_step (fail))
            (first | refine wpQuiet_nil ?_ | (go_big_quiet_want; (try go_big_quiet_op); trace_state; fail))
            refine walk_val (.int .i64 (z : Int)) ([]) facts0 (by kernel_rfl) (by kernel_rfl) (by kernel_rfl) (fun w' hb' hg' => ?_) ?_
            · unfold madeAt
              go_simp
              ((exact ⟨Below.refl _ _, rfl, trivial⟩))
            simp only [Act.put, List.setIfInBounds_toArray, List.set_cons_succ, List.set_cons_zero, Nat.reduceAdd]
            refine walk_segn 3 ([]) facts0 (by kernel_rfl) (by kernel_rfl) ?_
            simp only [List.take_succ_cons, List.take_zero, List.drop_succ_cons, List.drop_zero, Nat.reduceAdd]
            repeat (go_big_quiet_step (fail))
            (first | refine wpQuiet_nil ?_ | (go_big_quiet_want; (try go_big_quiet_op); trace_state; fail))
            refine walk_val (.int .i64 (z : Int)) ([]) facts0 (by kernel_rfl) (by kernel_rfl) (by kernel_rfl) (fun w' hb' hg' => ?_) ?_
            · unfold madeAt
              go_simp
              ((exact ⟨Below.refl _ _, rfl, trivial⟩))
            simp only [Act.put, List.setIfInBounds_toArray, List.set_cons_succ, List.set_cons_zero, Nat.reduceAdd]
            refine walk_segn 9 ([]) facts0 (by kernel_rfl) (by kernel_rfl) ?_
            simp only [List.take_succ_cons, List.take_zero, List.drop_succ_cons, List.drop_zero, Nat.reduceAdd]
            repeat (go_big_quiet_step (fail))
            (first | refine wpQuiet_nil ?_ | (go_big_quiet_want; (try go_big_quiet_op); trace_state; fail))
            refine walk_mkop M [] facts0 (by kernel_rfl) (by kernel_rfl) (by kernel_rfl) (fun w' hb' hg' => ?_) (fun v hT hAt => ?_)
            · unfold madeAt
              go_simp
              have hbw : Below (w3).heap.size w3 w' := by rw [← hm]; exact hb'
              have hq := HQ.out
              refine (HI.out w' (by omega) ((HRD2.out.below hbw (Nat.le_refl _)).mono hbw.size) (fun h => by cases h) (by omega) (by omega) (by omega) (by omega)).mono ?_
              rintro e w9 ⟨A9, c9, rfl, hg9, b9⟩
              exact td_end HM b9 (Gots.turn hg9 (by rw [hm]; exact hbw.size) (Nat.le_refl _) (fun _ _ => rfl))
            obtain ⟨A9, c9, rfl⟩ := td_T HM hT
            clear hT hAt
            simp only [Act.put, List.setIfInBounds_toArray, List.set_cons_succ, List.set_cons_zero, Nat.reduceAdd]
            refine walk_nil ?_
            intro w9 hb9 hf
            have G9 := Lib.hid (td_R HM ((hf 19).1 rfl))
            rw [hm] at hb9
            have R9 := Lib.hid ((R3).out.next hb9)
            have q9 := R9.out.k
            have l9 := R9.out.lt
            clear hb9 hf
            unfold toV
            go_wp2_with fail
            refine ret_cell (cs := tdC R (.slice A9 R.rest.length c9)) rfl rfl rfl ?_ Try.underlying51 rfl (by kernel_rfl) ?_
            rotate_left
            · first | exact ⟨A9, c9, rfl, (R9).out.gots _ (by have := HM0.out; omega) G9.out, ((R9).out.ret R _).1⟩ | exact ⟨A9, ⟨c9, rfl⟩, (R9).out.gots _ (by have := HM0.out; omega) G9.out, ((R9).out.ret R _).1⟩
            · exact ((R9).out.ret R _).2
      · replace HE := Lib.hid (HE.out.trans ((if_neg hr0).trans (HT.out.2.1 (by omega))))
        have hE9 : t.e = r.1 := HT.out.1.1
        rw [hE9] at c9
        obtain ⟨r1, hr1⟩ : ∃ x, x = r.1 := ⟨_, rfl⟩
        obtain ⟨ta, hta⟩ : ∃ x, x = t.al := ⟨_, rfl⟩
        rw [← hr1] at c9 HE hr0 hok
        rw [← hta] at c2 HE
        have HRE := Lib.hid HT.out.2.2
        have hr0' : ¬ (r1 : Int) = 0 := by omega
        clear hE9 hr1 hta
        by_cases h7 : r1 = 7
        · have h7' : (r1 : Int) = 7 := by omega
          rw [show (decide (r1 = 7)) = true by simpa using h7] at HE
          clear h7
          cases al with
          | true =>
            go_upto_region 12 with fail
            have R4 : Hid (Rw w (w3.setCell ⟨ox, 2, none⟩ (.bool true))) := Lib.hid ⟨R3.out.f.setCell (p := ⟨ox, 2, none⟩) (show w.heap.size ≤ ox by have := HOX.out; omega) _, (bk_setCell_other _ _ _ _ _ (by have := HOX.out; omega)).trans R3.out.k⟩
            have K4 : Hid (bk (w3.setCell ⟨ox, 2, none⟩ (.bool true)) ox = some (.cells (tdC { t with al := true } nilV) 51 (0, 0))) := Lib.hid (by rw [bk_setCell_same, K3.out]; rfl)
            clear c2 c9 z2 hoxlt K3 R3
            generalize w3.setCell ⟨ox, 2, none⟩ (.bool true) = w4 at *
            have q4 := R4.out.k; have l4 := R4.out.lt; have p4 := K4.out; have o4 := bk_lt K4.out
            go_wp2_with fail
            refine ret_cell (cs := tdC { t with al := true } nilV) rfl rfl rfl ?_ Try.underlying51 rfl (by kernel_rfl) ?_
            rotate_left
            · have hre : R = { t with al := true } := by rw [HE.out]; first | rfl | simp
              have hrr : R.rest = [] := by rw [hre]; exact HRE.out
              exact ⟨none, 0, by rw [toV, hrr, hre]; rfl, by rw [hrr]; exact Gots.nil, (R4.out.ret _ nilV).1⟩
            · exact (R4.out.ret _ nilV).2
          | false =>
            go_upto_region 12 with fail
            have R4 : Hid (Rw w (w3.setCell ⟨ox, 2, none⟩ (.bool ta))) := Lib.hid ⟨R3.out.f.setCell (p := ⟨ox, 2, none⟩) (show w.heap.size ≤ ox by have := HOX.out; omega) _, (bk_setCell_other _ _ _ _ _ (by have := HOX.out; omega)).trans R3.out.k⟩
            have K4 : Hid (bk (w3.setCell ⟨ox, 2, none⟩ (.bool ta)) ox = some (.cells (tdC { t with al := ta } nilV) 51 (0, 0))) := Lib.hid (by rw [bk_setCell_same, K3.out]; rfl)
            clear c2 c9 z2 hoxlt K3 R3
            generalize w3.setCell ⟨ox, 2, none⟩ (.bool ta) = w4 at *
            have q4 := R4.out.k; have l4 := R4.out.lt; have p4 := K4.out; have o4 := bk_lt K4.out
            go_wp2_with fail
            refine ret_cell (cs := tdC { t with al := ta } nilV) rfl rfl rfl ?_ Try.underlying51 rfl (by kernel_rfl) ?_
            rotate_left
            · have hre : R = { t with al := ta } := by rw [HE.out]; first | rfl | simp
              have hrr : R.rest = [] := by rw [hre]; exact HRE.out
              exact ⟨none, 0, by rw [toV, hrr, hre]; rfl, by rw [hrr]; exact Gots.nil, (R4.out.ret _ nilV).1⟩
            · exact (R4.out.ret _ nilV).2
        · have h7' : ¬ (r1 : Int) = 7 := by omega
          rw [show (decide (r1 = 7)) = false by simpa using h7] at HE
          clear h7
          go_upto_region 12 with fail
          have R4 : Hid (Rw w (w3.setCell ⟨ox, 2, none⟩ (.bool false))) := Lib.hid ⟨R3.out.f.setCell (p := ⟨ox, 2, none⟩) (show w.heap.size ≤ ox by have := HOX.out; omega) _, (bk_setCell_other _ _ _ _ _ (by have := HOX.out; omega)).trans R3.out.k⟩
          have K4 : Hid (bk (w3.setCell ⟨ox, 2, none⟩ (.bool false)) ox = some (.cells (tdC { t with al := false } nilV) 51 (0, 0))) := Lib.hid (by rw [bk_setCell_same, K3.out]; rfl)
          clear c2 c9 z2 hoxlt K3 R3
          generalize w3.setCell ⟨ox, 2, none⟩ (.bool false) = w4 at *
          have q4 := R4.out.k; have l4 := R4.out.lt; have p4 := K4.out; have o4 := bk_lt K4.out
          go_wp2_with fail
          refine ret_cell (cs := tdC { t with al := false } nilV) rfl rfl rfl ?_ Try.underlying51 rfl (by kernel_rfl) ?_
          rotate_left
          · have hre : R = { t with al := false } := by rw [HE.out]; first | rfl | simp
            have hrr : R.rest = [] := by rw [hre]; exact HRE.out
            exact ⟨none, 0, by rw [toV, hrr, hre]; rfl, by rw [hrr]; exact Gots.nil, (R4.out.ret _ nilV).1⟩
          · exact (R4.out.ret _ nilV).2
theorem walk9_ends (mc : Bool) (N : Nat) (IH0 : WalkOK mc N) (nx : UInt8) (A : Option Addr) (b : List UInt8) (c p told : Nat) (fs al : Bool) (w : World) (h60 : nx = 60) (hN : b.length < N + 1) (hr : Rd w w.heap.size A b) (hA : A = none → b = [] ∧ c = 0) (hc : b.length ≤ c) (h30 : b.length < 2 ^ 30) (hp : p + b.length < 2 ^ 40) (_ : told < 2 ^ 40) :
    Calls Try.prog 36 #[B nx, .slice A b.length c, .int .u64 (p : Int), .int .u64 (told : Int), .bool fs, .bool mc, .bool al] w fun e w' => ∃ A' c', e = .returned (toV (chain mc nx b p told fs al) A' c') ∧
      Gots (chain mc nx b p told fs al).rest w.heap.size A' w' ∧ Below w.heap.size w w' := by
  have IH := Lib.hid IH0
  unfold WalkOK at IH
  clear IH0
  obtain ⟨R, hR⟩ : ∃ R, R = chain mc nx b p told fs al := ⟨_, rfl⟩
  rw [← hR]
  have HE := Lib.hid (hR.trans (chain_eq ..))
  have HRD := Lib.hid hr; have HA := Lib.hid hA
  clear hR hr hA
  go_enter Try.func36, Try.ntmps36
  go_upto_region 1 with fail
  have R0 : Hid (Rw w (w.alloc (.cells (tdC (tlA false) nilV) 51 (0, 0)))) := Lib.hid ⟨(by (repeat (first | exact Below.refl _ _ | assumption | refine Below.drew ?_ | refine bdrewN ?_ _ | refine Below.alloc ?_ (by first | omega | (simp <;> omega) | (simp only [World.size_alloc] <;> omega)) _ | refine below_setRow ?_ (by first | omega | (simp <;> omega)) _ | refine Below.setCell ?_ (by first | omega | (simp <;> omega)) _))), bk_alloc_at _ _ _ rfl⟩
  change Code.wp _ _ _ _ (w.alloc (.cells (tdC (tlA false) nilV) 51 (0, 0)))
  generalize w.alloc (.cells (tdC (tlA false) nilV) 51 (0, 0)) = w1 at *
  have q1 := R0.out.k
  have l1 := R0.out.lt
  have h0 : ¬ nx = 0 := by rw [h60]; decide
  have k0 : ¬ (nx.toNat : Int) = 0 := fun e => h0 (UInt8.toNat_inj.1 (by show nx.toNat = 0; omega))
  have k60 : (nx.toNat : Int) = 60 := by rw [h60]; rfl
  replace HE := Lib.hid (HE.out.trans ((if_pos (.inr h60)).trans (if_neg (by simp [h0]))))
  have HNX : Hid ((nx == 0) = false) := Lib.hid (by rw [h60]; rfl)
  clear h0 h60
  by_cases hsh : b.length < 2 ∨ b.length < hsz b
  · have C := header9_any A b c 2 w1 ((HRD.out.below R0.out.f (Nat.le_refl _)).mono R0.out.f.size) hc (by omega) (by omega) (by omega)
    rw [if_pos hsh] at C
    have HC := Lib.hid C
    replace HE := Lib.hid (HE.out.trans (if_pos hsh))
    clear C hsh
    go_wp2_with fail
    refine HC.out.mono ?_
    rintro e w2 ⟨rfl, rfl⟩
    go_wp2_with fail
    refine ret_cell (cs := tdC (tlE 5) nilV) rfl rfl rfl ?_ Try.underlying51 rfl (by kernel_rfl) ?_
    rotate_left
    · exact ⟨none, 0, by rw [HE.out]; rfl, by rw [HE.out]; exact Gots.nil, (R0).out.ret (tlE 5) nilV |>.1⟩
    · exact ((R0).out.ret (tlE 5) nilV).2
  · have C := header9_any A b c 2 w1 ((HRD.out.below R0.out.f (Nat.le_refl _)).mono R0.out.f.size) hc (by omega) (by omega) (by omega)
    rw [if_neg hsh] at C
    replace HE := Lib.hid (HE.out.trans (if_neg hsh))
    obtain ⟨z, hz⟩ : ∃ z, z = hsz b := ⟨_, rfl⟩
    have hz8 : 8 ≤ z := by rw [hz]; exact hsz_ge b
    rw [← hz] at C hsh HE
    have hzl : z ≤ b.length := by omega
    have htl : (b.take z).length = z := by rw [List.length_take]; omega
    have O := options9_any A (b.take z) c p false mc w1 ((HRD.out.below R0.out.f (Nat.le_refl _)).mono R0.out.f.size).take (by omega) (by omega) (by omega)
    have hok := opr_ok nx b mc
    have hro : opt (b.take z) false mc 2 false = opr nx b mc := by unfold opr; rw [hz, HNX.out]
    rw [htl, hro] at O
    obtain ⟨r, hr⟩ : ∃ r, r = opr nx b mc := ⟨_, rfl⟩
    rw [← hr] at O hok HE
    have ho := optT_ok r p hok
    have hbad := fun h => optT_bad r p al h
    have hrest : (optT r p).rest = [] := by unfold optT; split; rfl; split <;> rfl
    obtain ⟨t, ht⟩ : ∃ t, t = optT r p := ⟨_, rfl⟩
    rw [← ht] at O ho hbad hrest
    have HC := Lib.hid C; have HO := Lib.hid O
    have HT := Lib.hid (And.intro ho (And.intro hbad hrest))
    have HZ := Lib.hid hz
    have zi : ¬ (z : Int) = 0 := by omega
    clear C O hro hr ht ho hbad hrest hsh hz htl
    go_wp2_with fail
    refine HC.out.mono ?_
    rintro e w2 ⟨rfl, rfl⟩
    go_wp2_with fail
    refine HO.out.mono ?_
    rintro e w2 ⟨rfl, b2⟩
    have R2 := Lib.hid (R0.out.next b2)
    clear b2 HC HO
    go_upto_region 10 with fail
    have R3 : Hid (Rw w (w2.alloc (.cells (tdC t nilV) 51 (0, 0)))) := Lib.hid (R2.out.next (by (repeat (first | exact Below.refl _ _ | assumption | refine Below.drew ?_ | refine bdrewN ?_ _ | refine Below.alloc ?_ (by first | omega | (simp <;> omega) | (simp only [World.size_alloc] <;> omega)) _ | refine below_setRow ?_ (by first | omega | (simp <;> omega)) _ | refine Below.setCell ?_ (by first | omega | (simp <;> omega)) _))))
    have K3 : Hid (bk (w2.alloc (.cells (tdC t nilV) 51 (0, 0))) w2.heap.size = some (.cells (tdC t nilV) 51 (0, 0))) := Lib.hid (bk_alloc_at _ _ _ rfl)
    have hox0 := R2.out.lt
    obtain ⟨ox, hox⟩ : ∃ x, x = w2.heap.size := ⟨_, rfl⟩
    change Code.wp _ _ _ _ (w2.alloc (.cells (tdC t nilV) 51 (0, 0)))
    rw [← hox] at K3 hox0 ⊢
    generalize w2.alloc (.cells (tdC t nilV) 51 (0, 0)) = w3 at *
    clear R2 hox
    have HOX := Lib.hid hox0
    have c2 := bk_cell K3.out 2; have c9 := bk_cell K3.out 9
    simp [tdC] at c2 c9
    have z2 := bk_frozen K3.out 2
    have hoxlt := bk_lt K3.out
    by_cases hr0 : r.1 = 0
    · have c9' : w3.cell? ⟨ox, 9, none⟩ = some (.int .i64 0) := by rw [c9, HT.out.1.1, hr0]; rfl
      replace HE := Lib.hid (HE.out.trans (if_pos hr0))
      have hal := HT.out.1.2 hr0
      rw [hal] at c2
      obtain ⟨g, hg⟩ : ∃ g, g = r.2.2 := ⟨_, rfl⟩
      rw [← hg] at HE c2
      clear c9 hal hg hok hr0 z2
      have c9 := c9'
      clear c9'
      have HR3 : Hid (Rd w3 (w3).heap.size A b) := Lib.hid ((HRD.out.below (R3).out.f (Nat.le_refl _)).mono (R3).out.f.size)
      obtain ⟨bb, o, rfl, hblt, hcl⟩ := HR3.out (by omega)
      have u0 := hcl 0 (by omega)
      obtain ⟨y, hy⟩ : ∃ y, y = at8 b 0 := ⟨_, rfl⟩
      rw [show b[0]'(by omega) = y by rw [hy]; unfold at8; rw [List.getD_eq_getElem?_getD, List.getElem?_eq_getElem]; rfl] at u0
      simp only [Nat.add_zero] at u0
      have h0i : (0 : Int) < (b.length : Int) := by omega
      have h0n : 0 < b.length := by omega
      have hbl : (b.drop z).length = b.length - z := by rw [List.length_drop]
      have hzI : (z : Int) ≤ (b.length : Int) := by omega
      have hzc : (z : Int) ≤ (c : Int) := by omega
      have hzc' : z ≤ c := by omega
      have dz : decide (z ≤ b.length) = true := by simpa using hzl
      obtain ⟨q, hq⟩ : ∃ q, q = p + z := ⟨_, rfl⟩
      have HQ := Lib.hid hq
      have e0 : IntKind.u64.wrap (z : Int) = (z : Int) := by rw [IntKind.wrap_u64]; omega
      have e1 : IntKind.u64.wrap ((p : Int) + (z : Int)) = (q : Int) := by rw [IntKind.wrap_u64]; omega
      rw [← hy, ← hq] at HE
      clear hy hcl hq
      cases al with
      | true =>
        rw [Bool.or_true] at HE
        by_cases hcs : c - z = 0
        · have hcz : True := trivial
          have IHz := IH.out y (some ⟨bb, o, none⟩) (b.drop z) (0) q p false (true)
          rw [hbl, ← HE.out] at IHz
          have HI := Lib.hid IHz
          have HRD2 : Hid (Rd w3 (w3).heap.size (some ⟨bb, o, none⟩) (b.drop z)) := Lib.hid (by first | exact HR3.out.drop hzl | (rw [List.drop_of_length_le (by omega)]; exact Rd.nil))
          clear IHz
          go_upto_region 13 with fail
          obtain ⟨m, hm⟩ : ∃ m, m = (w3).heap.size := ⟨_, rfl⟩
          have HM0 : Hid (w.heap.size < m) := Lib.hid (by rw [hm]; exact (R3).out.lt)
          obtain ⟨M, hM⟩ : ∃ M : Made m, M = Made.td m R := ⟨_, rfl⟩
          have HM := Lib.hid hM
          clear hM
          rw [← hm] at hblt hoxlt
          refine wp_region_made_tail m (19 + 1) (fun j => (nk19 m (z : Nat) M).lookup j) (Nat.le_of_eq hm) (by kernel_rfl) (by kernel_rfl) ?_
          simp only [List.take_succ_cons, List.take_zero, List.drop_succ_cons, List.drop_zero, Nat.reduceAdd]
          refine walk_segn 5 ([]) facts0 (by kernel_rfl) (by kernel_rfl) ?_
          simp only [List.take_succ_cons, List.take_zero, List.drop_succ_cons, List.drop_zero, Nat.reduceAdd]
          repeat (go_big_quiet_step (fail))
          (first | refine wpQuiet_nil ?_ | (go_big_quiet_want; (try go_big_quiet_op); trace_state; fail))
          refine walk_val (.int .i64 (z : Int)) ([]) facts0 (by kernel_rfl) (by kernel_rfl) (by kernel_rfl) (fun w' hb' hg' => ?_) ?_
          · unfold madeAt
            go_simp
            ((exact ⟨Below.refl _ _, rfl, trivial⟩))
          simp only [Act.put, List.setIfInBounds_toArray, List.set_cons_succ, List.set_cons_zero, Nat.reduceAdd]
          refine walk_segn 3 ([]) facts0 (by kernel_rfl) (by kernel_rfl) ?_
          simp only [List.take_succ_cons, List.take_zero, List.drop_succ_cons, List.drop_zero, Nat.reduceAdd]
          repeat (go_big_quiet_step (fail))
          (first | refine wpQuiet_nil ?_ | (go_big_quiet_want; (try go_big_quiet_op); trace_state; fail))
          refine walk_val (.int .i64 (z : Int)) ([]) facts0 (by kernel_rfl) (by kernel_rfl) (by kernel_rfl) (fun w' hb' hg' => ?_) ?_
          · unfold madeAt
            go_simp
            ((exact ⟨Below.refl _ _, rfl, trivial⟩))
          simp only [Act.put, List.setIfInBounds_toArray, List.set_cons_succ, List.set_cons_zero, Nat.reduceAdd]
          refine walk_segn 9 ([]) facts0 (by kernel_rfl) (by kernel_rfl) ?_
          simp only [List.take_succ_cons, List.take_zero, List.drop_succ_cons, List.drop_zero, Nat.reduceAdd]
          repeat (go_big_quiet_step (fail))
          (first | refine wpQuiet_nil ?_ | (go_big_quiet_want; (try go_big_quiet_op); trace_state; fail))
          refine walk_mkop M [] facts0 (by kernel_rfl) (by kernel_rfl) (by kernel_rfl) (fun w' hb' hg' => ?_) (fun v hT hAt => ?_)
          · unfold madeAt
            go_simp
            have hbw : Below (w3).heap.size w3 w' := by rw [← hm]; exact hb'
            have hq := HQ.out
            refine (HI.out w' (by omega) ((HRD2.out.below hbw (Nat.le_refl _)).mono hbw.size) (fun h => by cases h) (by omega) (by omega) (by omega) (by omega)).mono ?_
            rintro e w9 ⟨A9, c9, rfl, hg9, b9⟩
            exact td_end HM b9 (Gots.turn hg9 (by rw [hm]; exact hbw.size) (Nat.le_refl _) (fun _ _ => rfl))
          obtain ⟨A9, c9, rfl⟩ := td_T HM hT
          clear hT hAt
          simp only [Act.put, List.setIfInBounds_toArray, List.set_cons_succ, List.set_cons_zero, Nat.reduceAdd]
          refine walk_nil ?_
          intro w9 hb9 hf
          have G9 := Lib.hid (td_R HM ((hf 19).1 rfl))
          rw [hm] at hb9
          have R9 := Lib.hid ((R3).out.next hb9)
          have q9 := R9.out.k
          have l9 := R9.out.lt
          clear hb9 hf
          unfold toV
          go_wp2_with fail
          refine ret_cell (cs := tdC R (.slice A9 R.rest.length c9)) rfl rfl rfl ?_ Try.underlying51 rfl (by kernel_rfl) ?_
          rotate_left
          · first | exact ⟨A9, c9, rfl, (R9).out.gots _ (by have := HM0.out; omega) G9.out, ((R9).out.ret R _).1⟩ | exact ⟨A9, ⟨c9, rfl⟩, (R9).out.gots _ (by have := HM0.out; omega) G9.out, ((R9).out.ret R _).1⟩
          · exact ((R9).out.ret R _).2
        · have hcz : True := trivial
          have IHz := IH.out y (some ⟨bb, o + z, none⟩) (b.drop z) (c - z) q p false (true)
          rw [hbl, ← HE.out] at IHz
          have HI := Lib.hid IHz
          have HRD2 : Hid (Rd w3 (w3).heap.size (some ⟨bb, o + z, none⟩) (b.drop z)) := Lib.hid (by first | exact HR3.out.drop hzl | (rw [List.drop_of_length_le (by omega)]; exact Rd.nil))
          clear IHz
          go_upto_region 13 with fail
          obtain ⟨m, hm⟩ : ∃ m, m = (w3).heap.size := ⟨_, rfl⟩
          have HM0 : Hid (w.heap.size < m) := Lib.hid (by rw [hm]; exact (R3).out.lt)
          obtain ⟨M, hM⟩ : ∃ M : Made m, M = Made.td m R := ⟨_, rfl⟩
          have HM := Lib.hid hM
          clear hM
          rw [← hm] at hblt hoxlt
          refine wp_region_made_tail m (19 + 1) (fun j => (nk19 m (z : Nat) M).lookup j) (Nat.le_of_eq hm) (by kernel_rfl) (by kernel_rfl) ?_
          simp only [List.take_succ_cons, List.take_zero, List.drop_succ_cons, List.drop_zero, Nat.reduceAdd]
          refine walk_segn 5 ([]) facts0 (by kernel_rfl) (by kernel_rfl) ?_
          simp only [List.take_succ_cons, List.take_zero, List.drop_succ_cons, List.drop_zero, Nat.reduceAdd]
          repeat (go_big_quiet_step (fail))
          (first | refine wpQuiet_nil ?_ | (go_big_quiet_want; (try go_big_quiet_op); trace_state; fail))
          refine walk_val (.int .i64 (z : Int)) ([]) facts0 (by kernel_rfl) (by kernel_rfl) (by kernel_rfl) (fun w' hb' hg' => ?_) ?_
          · unfold madeAt
            go_simp
            ((exact ⟨Below.refl _ _, rfl, trivial⟩))
          simp only [Act.put, List.setIfInBounds_toArray, List.set_cons_succ, List.set_cons_zero, Nat.reduceAdd]
          refine walk_segn 3 ([]) facts0 (by kernel_rfl) (by kernel_rfl) ?_
          simp only [List.take_succ_cons, List.take_zero, List.drop_succ_cons, List.drop_zero, Nat.reduceAdd]
          repeat (go_big_quiet_step (fail))
          (first | refine wpQuiet_nil ?_ | (go_big_quiet_want; (try go_big_quiet_op); trace_state; fail))
          refine walk_val (.int .i64 (z : Int)) ([]) facts0 (by kernel_rfl) (by kernel_rfl) (by kernel_rfl) (fun w' hb' hg' => ?_) ?_
          · unfold madeAt
            go_simp
            ((exact ⟨Below.refl _ _, rfl, trivial⟩))
          simp only [Act.put, List.setIfInBounds_toArray, List.set_cons_succ, List.set_cons_zero, Nat.reduceAdd]
          refine walk_segn 9 ([]) facts0 (by kernel_rfl) (by kernel_rfl) ?_
          simp only [List.take_succ_cons, List.take_zero, List.drop_succ_cons, List.drop_zero, Nat.reduceAdd]
          repeat (go_big_quiet_step (fail))
          (first | refine wpQuiet_nil ?_ | (go_big_quiet_want; (try go_big_quiet_op); trace_state; fail))
          refine walk_mkop M [] facts0 (by kernel_rfl) (by kernel_rfl) (by kernel_rfl) (fun w' hb' hg' => ?_) (fun v hT hAt => ?_)
          · unfold madeAt
            go_simp
            have hbw : Below (w3).heap.size w3 w' := by rw [← hm]; exact hb'
            have hq := HQ.out
            refine (HI.out w' (by omega) ((HRD2.out.below hbw (Nat.le_refl _)).mono hbw.size) (fun h => by cases h) (by omega) (by omega) (by omega) (by omega)).mono ?_
            rintro e w9 ⟨A9, c9, rfl, hg9, b9⟩
            exact td_end HM b9 (Gots.turn hg9 (by rw [hm]; exact hbw.size) (Nat.le_refl _) (fun _ _ => rfl))
          obtain ⟨A9, c9, rfl⟩ := td_T HM hT
          clear hT hAt
          simp only [Act.put, List.setIfInBounds_toArray, List.set_cons_succ, List.set_cons_zero, Nat.reduceAdd]
          refine walk_nil ?_
          intro w9 hb9 hf
          have G9 := Lib.hid (td_R HM ((hf 19).1 rfl))
          rw [hm] at hb9
          have R9 := Lib.hid ((R3).out.next hb9)
          have q9 := R9.out.k
          have l9 := R9.out.lt
          clear hb9 hf
          unfold toV
          go_wp2_with fail
          refine ret_cell (cs := tdC R (.slice A9 R.rest.length c9)) rfl rfl rfl ?_ Try.underlying51 rfl (by kernel_rfl) ?_
          rotate_left
          · first | exact ⟨A9, c9, rfl, (R9).out.gots _ (by have := HM0.out; omega) G9.out, ((R9).out.ret R _).1⟩ | exact ⟨A9, ⟨c9, rfl⟩, (R9).out.gots _ (by have := HM0.out; omega) G9.out, ((R9).out.ret R _).1⟩
          · exact ((R9).out.ret R _).2
      | false =>
        rw [Bool.or_false] at HE
        by_cases hcs : c - z = 0
        · have hcz : True := trivial
          have IHz := IH.out y (some ⟨bb, o, none⟩) (b.drop z) (0) q p false (g)
          rw [hbl, ← HE.out] at IHz
          have HI := Lib.hid IHz
          have HRD2 : Hid (Rd w3 (w3).heap.size (some ⟨bb, o, none⟩) (b.drop z)) := Lib.hid (by first | exact HR3.out.drop hzl | (rw [List.drop_of_length_le (by omega)]; exact Rd.nil))
          clear IHz
          go_upto_region 13 with fail
          obtain ⟨m, hm⟩ : ∃ m, m = (w3).heap.size := ⟨_, rfl⟩
          have HM0 : Hid (w.heap.size < m) := Lib.hid (by rw [hm]; exact (R3).out.lt)
          obtain ⟨M, hM⟩ : ∃ M : Made m, M = Made.td m R := ⟨_, rfl⟩
          have HM := Lib.hid hM
          clear hM
          rw [← hm] at hblt hoxlt
          refine wp_region_made_tail m (19 + 1) (fun j => (nk19 m (z : Nat) M).lookup j) (Nat.le_of_eq hm) (by kernel_rfl) (by kernel_rfl) ?_
          simp only [List.take_succ_cons, List.take_zero, List.drop_succ_cons, List.drop_zero, Nat.reduceAdd]
          refine walk_segn 5 ([]) facts0 (by kernel_rfl) (by kernel_rfl) ?_
          simp only [List.take_succ_cons, List.take_zero, List.drop_succ_cons, List.drop_zero, Nat.reduceAdd]
          repeat (go_big_quiet_step (fail))
          (first | refine wpQuiet_nil ?_ | (go_big_quiet_want; (try go_big_quiet_op); trace_state; fail))
          refine walk_val (.int .i64 (z : Int)) ([]) facts0 (by kernel_rfl) (by kernel_rfl) (by kernel_rfl) (fun w' hb' hg' => ?_) ?_
          · unfold madeAt
            go_simp
            ((exact ⟨Below.refl _ _, rfl, trivial⟩))
          simp only [Act.put, List.setIfInBounds_toArray, List.set_cons_succ, List.set_cons_zero, Nat.reduceAdd]
          refine walk_segn 3 ([]) facts0 (by kernel_rfl) (by kernel_rfl) ?_
          simp only [List.take_succ_cons, List.take_zero, List.drop_succ_cons, List.drop_zero, Nat.reduceAdd]
          repeat (go_big_quiet_step (fail))
          (first | refine wpQuiet_nil ?_ | (go_big_quiet_want; (try go_big_quiet_op); trace_state; fail))
          refine walk_val (.int .i64 (z : Int)) ([]) facts0 (by kernel_rfl) (by kernel_rfl) (by kernel_rfl) (fun w' hb' hg' => ?_) ?_
          · unfold madeAt
            go_simp
            ((exact ⟨Below.refl _ _, rfl, trivial⟩))
          simp only [Act.put, List.setIfInBounds_toArray, List.set_cons_succ, List.set_cons_zero, Nat.reduceAdd]
          refine walk_segn 9 ([]) facts0 (by kernel_rfl) (by kernel_rfl) ?_
          simp only [List.take_succ_cons, List.take_zero, List.drop_succ_cons, List.drop_zero, Nat.reduceAdd]
          repeat (go_big_quiet_step (fail))
          (first | refine wpQuiet_nil ?_ | (go_big_quiet_want; (try go_big_quiet_op); trace_state; fail))
          refine walk_mkop M [] facts0 (by kernel_rfl) (by kernel_rfl) (by kernel_rfl) (fun w' hb' hg' => ?_) (fun v hT hAt => ?_)
          · unfold madeAt
            go_simp
            have hbw : Below (w3).heap.size w3 w' := by rw [← hm]; exact hb'
            have hq := HQ.out
            refine (HI.out w' (by omega) ((HRD2.out.below hbw (Nat.le_refl _)).mono hbw.size) (fun h => by cases h) (by omega) (by omega) (by omega) (by omega)).mono ?_
            rintro e w9 ⟨A9, c9, rfl, hg9, b9⟩
            exact td_end HM b9 (Gots.turn hg9 (by rw [hm]; exact hbw.size) (Nat.le_refl _) (fun _ _ => rfl))
          obtain ⟨A9, c9, rfl⟩ := td_T HM hT
          clear hT hAt
          simp only [Act.put, List.setIfInBounds_toArray, List.set_cons_succ, List.set_cons_zero, Nat.reduceAdd]
          refine walk_nil ?_
          intro w9 hb9 hf
          have G9 := Lib.hid (td_R HM ((hf 19).1 rfl))
          rw [hm] at hb9
          have R9 := Lib.hid ((R3).out.next hb9)
          have q9 := R9.out.k
          have l9 := R9.out.lt
          clear hb9 hf
          unfold toV
          go_wp2_with fail
          refine ret_cell (cs := tdC R (.slice A9 R.rest.length c9)) rfl rfl rfl ?_ Try.underlying51 rfl (by kernel_rfl) ?_
          rotate_left
          · first | exact ⟨A9, c9, rfl, (R9).out.gots _ (by have := HM0.out; omega) G9.out, ((R9).out.ret R _).1⟩ | exact ⟨A9, ⟨c9, rfl⟩, (R9).out.gots _ (by have := HM0.out; omega) G9.out, ((R9).out.ret R _).1⟩
          · exact ((R9).out.ret R _).2
        · have hcz : True := trivial
          have IHz := IH.out y (some ⟨bb, o + z, none⟩) (b.drop z) (c - z) q p false (g)
          rw [hbl, ← HE.out] at IHz
          have HI := Lib.hid IHz
          have HRD2 : Hid (Rd w3 (w3).heap.size (some ⟨bb, o + z, none⟩) (b.drop z)) := Lib.hid (by first | exact HR3.out.drop hzl | (rw [List.drop_of_length_le (by omega)]; exact Rd.nil))
          clear IHz
          go_upto_region 13 with fail
          obtain ⟨m, hm⟩ : ∃ m, m = (w3).heap.size := ⟨_, rfl⟩
          have HM0 : Hid (w.heap.size < m) := Lib.hid (by rw [hm]; exact (R3).out.lt)
          obtain ⟨M, hM⟩ : ∃ M : Made m, M = Made.td m R := ⟨_, rfl⟩
          have HM := Lib.hid hM
          clear hM
          rw [← hm] at hblt hoxlt
          refine wp_region_made_tail m (19 + 1) (fun j => (nk19 m (z : Nat) M).lookup j) (Nat.le_of_eq hm) (by kernel_rfl) (by kernel_rfl) ?_
          simp only [List.take_succ_cons, List.take_zero, List.drop_succ_cons, List.drop_zero, Nat.reduceAdd]
          refine walk_segn 5 ([]) facts0 (by kernel_rfl) (by kernel_rfl) ?_
          simp only [List.take_succ_cons, List.take_zero, List.drop_succ_cons, List.drop_zero, Nat.reduceAdd]
          repeat (go_big_quiet_step (fail))
          (first | refine wpQuiet_nil ?_ | (go_big_quiet_want; (try go_big_quiet_op); trace_state; fail))
          refine walk_val (.int .i64 (z : Int)) ([]) facts0 (by kernel_rfl) (by kernel_rfl) (by kernel_rfl) (fun w' hb' hg' => ?_) ?_
          · unfold madeAt
            go_simp
            ((exact ⟨Below.refl _ _, rfl, trivial⟩))
          simp only [Act.put, List.setIfInBounds_toArray, List.set_cons_succ, List.set_cons_zero, Nat.reduceAdd]
          refine walk_segn 3 ([]) facts0 (by kernel_rfl) (by kernel_rfl) ?_
          simp only [List.take_succ_cons, List.take_zero, List.drop_succ_cons, List.drop_zero, Nat.reduceAdd]
          repeat (go_big_quiet_step (fail))
          (first | refine wpQuiet_nil ?_ | (go_big_quiet_want; (try go_big_quiet_op); trace_state; fail))
          refine walk_val (.int .i64 (z : Int)) ([]) facts0 (by kernel_rfl) (by kernel_rfl) (by kernel_rfl) (fun w' hb' hg' => ?_) ?_
          · unfold madeAt
            go_simp
            ((exact ⟨Below.refl _ _, rfl, trivial⟩))
          simp only [Act.put, List.setIfInBounds_toArray, List.set_cons_succ, List.set_cons_zero, Nat.reduceAdd]
          refine walk_segn 9 ([]) facts0 (by kernel_rfl) (by kernel_rfl) ?_
          simp only [List.take_succ_cons, List.take_zero, List.drop_succ_cons, List.drop_zero, Nat.reduceAdd]
          repeat (go_big_quiet_step (fail))
          (first | refine wpQuiet_nil ?_ | (go_big_quiet_want; (try go_big_quiet_op); trace_state; fail))
          refine walk_mkop M [] facts0 (by kernel_rfl) (by kernel_rfl) (by kernel_rfl) (fun w' hb' hg' => ?_) (fun v hT hAt => ?_)
          · unfold madeAt
            go_simp
            have hbw : Below (w3).heap.size w3 w' := by rw [← hm]; exact hb'
            have hq := HQ.out
            refine (HI.out w' (by omega) ((HRD2.out.below hbw (Nat.le_refl _)).mono hbw.size) (fun h => by cases h) (by omega) (by omega) (by omega) (by omega)).mono ?_
            rintro e w9 ⟨A9, c9, rfl, hg9, b9⟩
            exact td_end HM b9 (Gots.turn hg9 (by rw [hm]; exact hbw.size) (Nat.le_refl _) (fun _ _ => rfl))
          obtain ⟨A9, c9, rfl⟩ := td_T HM hT
          clear hT hAt
          simp only [Act.put, List.setIfInBounds_toArray, List.set_cons_succ, List.set_cons_zero, Nat.reduceAdd]
          refine walk_nil ?_
          intro w9 hb9 hf
          have G9 := Lib.hid (td_R HM ((hf 19).1 rfl))
          rw [hm] at hb9
          have R9 := Lib.hid ((R3).out.next hb9)
          have q9 := R9.out.k
          have l9 := R9.out.lt
          clear hb9 hf
          unfold toV
          go_wp2_with fail
          refine ret_cell (cs := tdC R (.slice A9 R.rest.length c9)) rfl rfl rfl ?_ Try.underlying51 rfl (by kernel_rfl) ?_
          rotate_left
          · first | exact ⟨A9, c9, rfl, (R9).out.gots _ (by have := HM0.out; omega) G9.out, ((R9).out.ret R _).1⟩ | exact ⟨A9, ⟨c9, rfl⟩, (R9).out.gots _ (by have := HM0.out; omega) G9.out, ((R9).out.ret R _).1⟩
          · exact ((R9).out.ret R _).2
    · replace HE := Lib.hid (HE.out.trans ((if_neg hr0).trans (HT.out.2.1 (by omega))))
      have hE9 : t.e = r.1 := HT.out.1.1
      rw [hE9] at c9
      obtain ⟨r1, hr1⟩ : ∃ x, x = r.1 := ⟨_, rfl⟩
      obtain ⟨ta, hta⟩ : ∃ x, x = t.al := ⟨_, rfl⟩
      rw [← hr1] at c9 HE hr0 hok
      rw [← hta] at c2 HE
      have HRE := Lib.hid HT.out.2.2
      have hr0' : ¬ (r1 : Int) = 0 := by omega
      clear hE9 hr1 hta
      by_cases h7 : r1 = 7
      · have h7' : (r1 : Int) = 7 := by omega
        rw [show (decide (r1 = 7)) = true by simpa using h7] at HE
        clear h7
        cases al with
        | true =>
          go_upto_region 12 with fail
          have R4 : Hid (Rw w (w3.setCell ⟨ox, 2, none⟩ (.bool true))) := Lib.hid ⟨R3.out.f.setCell (p := ⟨ox, 2, none⟩) (show w.heap.size ≤ ox by have := HOX.out; omega) _, (bk_setCell_other _ _ _ _ _ (by have := HOX.out; omega)).trans R3.out.k⟩
          have K4 : Hid (bk (w3.setCell ⟨ox, 2, none⟩ (.bool true)) ox = some (.cells (tdC { t with al := true } nilV) 51 (0, 0))) := Lib.hid (by rw [bk_setCell_same, K3.out]; rfl)
          clear c2 c9 z2 hoxlt K3 R3
          generalize w3.setCell ⟨ox, 2, none⟩ (.bool true) = w4 at *
          have q4 := R4.out.k; have l4 := R4.out.lt; have p4 := K4.out; have o4 := bk_lt K4.out
          go_wp2_with fail
          refine ret_cell (cs := tdC { t with al := true } nilV) rfl rfl rfl ?_ Try.underlying51 rfl (by kernel_rfl) ?_
          rotate_left
          · have hre : R = { t with al := true } := by rw [HE.out]; first | rfl | simp
            have hrr : R.rest = [] := by rw [hre]; exact HRE.out
            exact ⟨none, 0, by rw [toV, hrr, hre]; rfl, by rw [hrr]; exact Gots.nil, (R4.out.ret _ nilV).1⟩
          · exact (R4.out.ret _ nilV).2
        | false =>
          go_upto_region 12 with fail
          have R4 : Hid (Rw w (w3.setCell ⟨ox, 2, none⟩ (.bool ta))) := Lib.hid ⟨R3.out.f.setCell (p := ⟨ox, 2, none⟩) (show w.heap.size ≤ ox by have := HOX.out; omega) _, (bk_setCell_other _ _ _ _ _ (by have := HOX.out; omega)).trans R3.out.k⟩
          have K4 : Hid (bk (w3.setCell ⟨ox, 2, none⟩ (.bool ta)) ox = some (.cells (tdC { t with al := ta } nilV) 51 (0, 0))) := Lib.hid (by rw [bk_setCell_same, K3.out]; rfl)
          clear c2 c9 z2 hoxlt K3 R3
          generalize w3.setCell ⟨ox, 2, none⟩ (.bool ta) = w4 at *
          have q4 := R4.out.k; have l4 := R4.out.lt; have p4 := K4.out; have o4 := bk_lt K4.out
          go_wp2_with fail
          refine ret_cell (cs := tdC { t with al := ta } nilV) rfl rfl rfl ?_ Try.underlying51 rfl (by kernel_rfl) ?_
          rotate_left
          · have hre : R = { t with al := ta } := by rw [HE.out]; first | rfl | simp
            have hrr : R.rest = [] := by rw [hre]; exact HRE.out
            exact ⟨none, 0, by rw [toV, hrr, hre]; rfl, by rw [hrr]; exact Gots.nil, (R4.out.ret _ nilV).1⟩
          · exact (R4.out.ret _ nilV).2
      · have h7' : ¬ (r1 : Int) = 7 := by omega
        rw [show (decide (r1 = 7)) = false by simpa using h7] at HE
        clear h7
        go_upto_region 12 with fail
        have R4 : Hid (Rw w (w3.setCell ⟨ox, 2, none⟩ (.bool false))) := Lib.hid ⟨R3.out.f.setCell (p := ⟨ox, 2, none⟩) (show w.heap.size ≤ ox by have := HOX.out; omega) _, (bk_setCell_other _ _ _ _ _ (by have := HOX.out; omega)).trans R3.out.k⟩
        have K4 : Hid (bk (w3.setCell ⟨ox, 2, none⟩ (.bool false)) ox = some (.cells (tdC { t with al := false } nilV) 51 (0, 0))) := Lib.hid (by rw [bk_setCell_same, K3.out]; rfl)
        clear c2 c9 z2 hoxlt K3 R3
        generalize w3.setCell ⟨ox, 2, none⟩ (.bool false) = w4 at *
        have q4 := R4.out.k; have l4 := R4.out.lt; have p4 := K4.out; have o4 := bk_lt K4.out
        go_wp2_with fail
        refine ret_cell (cs := tdC { t with al := false } nilV) rfl rfl rfl ?_ Try.underlying51 rfl (by kernel_rfl) ?_
        rotate_left
        · have hre : R = { t with al := false } := by rw [HE.out]; first | rfl | simp
          have hrr : R.rest = [] := by rw [hre]; exact HRE.out
          exact ⟨none, 0, by rw [toV, hrr, hre]; rfl, by rw [hrr]; exact Gots.nil, (R4.out.ret _ nilV).1⟩
        · exact (R4.out.ret _ nilV).2

end Go.Proofs.Ytbfiakikhkiefaa
