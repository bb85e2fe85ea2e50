/- Headers: the document's walk: a route. -/
import Derived.Test.YtbfiakikhkiefaaMgH
namespace Go.Proofs.Ytbfiakikhkiefaa
open Go.RowKit
set_option maxRecDepth 100000
set_option maxHeartbeats 4000000
theorem walk9_route (mc : Bool) (N : Nat) (IH0 : WalkOK mc N) (nx : UInt8) (A : Option Addr) (b : List UInt8) (c p told : Nat) (fs al : Bool) (w : World) (h43 : nx = 43) (h0 : ¬ nx = 0) (h60 : ¬ nx = 60) (hN : b.length < N + 1) (hr : Rd w w.heap.size A b) (hA : A = none → b = [] ∧ c = 0) (hc : b.length ≤ c) (h30 : b.length < 2 ^ 30) (hp : p + b.length < 2 ^ 40) (_ : told < 2 ^ 40) :
    Calls Try.prog 36 #[B nx, .slice A b.length c, .int .u64 (p : Int), .int .u64 (told : Int), .bool fs, .bool mc, .bool al] w fun e w' => ∃ A' c', e = .returned (toV (chain mc nx b p told fs al) A' c') ∧
      Gots (chain mc nx b p told fs al).rest w.heap.size A' w' ∧ Below w.heap.size w w' := by
  have IH := Lib.hid IH0
  unfold WalkOK at IH
  clear IH0
  obtain ⟨R, hR⟩ : ∃ R, R = chain mc nx b p told fs al := ⟨_, rfl⟩
  rw [← hR]
  have HE := Lib.hid (hR.trans (chain_eq ..))
  have HRD := Lib.hid hr; have HA := Lib.hid hA
  clear hR hr hA
  go_enter Try.func36, Try.ntmps36
  go_upto_region 1 with fail
  have R0 : Hid (Rw w (w.alloc (.cells (tdC (tlA false) nilV) 51 (0, 0)))) := Lib.hid ⟨(by (repeat (first | exact Below.refl _ _ | assumption | refine Below.drew ?_ | refine bdrewN ?_ _ | refine Below.alloc ?_ (by first | omega | (simp <;> omega) | (simp only [World.size_alloc] <;> omega)) _ | refine below_setRow ?_ (by first | omega | (simp <;> omega)) _ | refine Below.setCell ?_ (by first | omega | (simp <;> omega)) _))), bk_alloc_at _ _ _ rfl⟩
  change Code.wp _ _ _ _ (w.alloc (.cells (tdC (tlA false) nilV) 51 (0, 0)))
  generalize w.alloc (.cells (tdC (tlA false) nilV) 51 (0, 0)) = w1 at *
  have q1 := R0.out.k
  have l1 := R0.out.lt
  have k0 : ¬ (nx.toNat : Int) = 0 := fun e => h0 (UInt8.toNat_inj.1 (by show nx.toNat = 0; omega))
  have k60 : ¬ (nx.toNat : Int) = 60 := fun e => h60 (UInt8.toNat_inj.1 (by show nx.toNat = 60; omega))
  replace HE := Lib.hid (HE.out.trans (if_neg (by rintro (e | e) <;> contradiction)))
  have k43 : (nx.toNat : Int) = 43 := by rw [h43]; rfl
  replace HE := Lib.hid (HE.out.trans (if_pos h43))
  clear h0 h60 h43
  by_cases hsh : b.length < 4 ∨ b.length < hsz b
  · have C := header9_any A b c 4 w1 ((HRD.out.below R0.out.f (Nat.le_refl _)).mono R0.out.f.size) hc (by omega) (by omega) (by omega)
    rw [if_pos hsh] at C
    have HC := Lib.hid C
    replace HE := Lib.hid (HE.out.trans (if_pos hsh))
    clear C hsh
    go_wp2_with fail
    refine HC.out.mono ?_
    rintro e w2 ⟨rfl, rfl⟩
    go_wp2_with fail
    refine ret_cell (cs := tdC (tlE 5) nilV) rfl rfl rfl ?_ Try.underlying51 rfl (by kernel_rfl) ?_
    rotate_left
    · exact ⟨none, 0, by rw [HE.out]; rfl, by rw [HE.out]; exact Gots.nil, (R0).out.ret (tlE 5) nilV |>.1⟩
    · exact ((R0).out.ret (tlE 5) nilV).2
  · have C := header9_any A b c 4 w1 ((HRD.out.below R0.out.f (Nat.le_refl _)).mono R0.out.f.size) hc (by omega) (by omega) (by omega)
    rw [if_neg hsh] at C
    replace HE := Lib.hid (HE.out.trans (if_neg hsh))
    obtain ⟨z, hz⟩ : ∃ z, z = hsz b := ⟨_, rfl⟩
    have hz8 : 8 ≤ z := by rw [hz]; exact hsz_ge b
    rw [← hz] at C hsh HE
    have hzl : z ≤ b.length := by omega
    have HC := Lib.hid C
    have zi : ¬ (z : Int) = 0 := by omega
    clear C hz hsh
    have HR3 : Hid (Rd w1 (w1).heap.size A b) := Lib.hid ((HRD.out.below (R0).out.f (Nat.le_refl _)).mono (R0).out.f.size)
    obtain ⟨bb, o, rfl, hblt, hcl⟩ := HR3.out (by omega)
    have u0 := hcl 0 (by omega)
    obtain ⟨y, hy⟩ : ∃ y, y = at8 b 0 := ⟨_, rfl⟩
    rw [show b[0]'(by omega) = y by rw [hy]; unfold at8; rw [List.getD_eq_getElem?_getD, List.getElem?_eq_getElem]; rfl] at u0
    simp only [Nat.add_zero] at u0
    have h0i : (0 : Int) < (b.length : Int) := by omega
    have h0n : 0 < b.length := by omega
    have hbl : (b.drop z).length = b.length - z := by rw [List.length_drop]
    have hzI : (z : Int) ≤ (b.length : Int) := by omega
    have hzc : (z : Int) ≤ (c : Int) := by omega
    have hzc' : z ≤ c := by omega
    have dz : decide (z ≤ b.length) = true := by simpa using hzl
    obtain ⟨q, hq⟩ : ∃ q, q = p + z := ⟨_, rfl⟩
    have HQ := Lib.hid hq
    have e0 : IntKind.u64.wrap (z : Int) = (z : Int) := by rw [IntKind.wrap_u64]; omega
    have e1 : IntKind.u64.wrap ((p : Int) + (z : Int)) = (q : Int) := by rw [IntKind.wrap_u64]; omega
    have u3 := hcl 3 (by omega)
    obtain ⟨x3, hx3⟩ : ∃ y, y = at8 b 3 := ⟨_, rfl⟩
    rw [show b[3]'(by omega) = x3 by rw [hx3]; unfold at8; rw [List.getD_eq_getElem?_getD, List.getElem?_eq_getElem]; rfl] at u3
    rw [← hx3, ← hy, ← hq] at HE
    have h3z : (3 : Int) < (z : Int) := by omega
    have h3n : 3 < z := by omega
    have hoxlt := R0.out.lt
    have hx8 := x3.toNat_lt
    clear hx3 hy hcl hq
    by_cases hx : x3 = 0
    · have kx : (x3.toNat : Int) = 0 := by rw [hx]; rfl
      replace HE := Lib.hid (HE.out.trans (if_neg (by simp [hx])))
      clear hx
      go_upto_region 16 with fail
      refine HC.out.mono ?_
      rintro e w2 ⟨rfl, rfl⟩
      clear HC
      by_cases hcs : c - z = 0
      · have hcz : True := trivial
        have IHz := IH.out y (some ⟨bb, o, none⟩) (b.drop z) (0) q p false (al)
        rw [hbl, ← HE.out] at IHz
        have HI := Lib.hid IHz
        have HRD2 : Hid (Rd w1 (w1).heap.size (some ⟨bb, o, none⟩) (b.drop z)) := Lib.hid (by first | exact HR3.out.drop hzl | (rw [List.drop_of_length_le (by omega)]; exact Rd.nil))
        clear IHz
        go_upto_region 20 with fail
        obtain ⟨m, hm⟩ : ∃ m, m = (w1).heap.size := ⟨_, rfl⟩
        have HM0 : Hid (w.heap.size < m) := Lib.hid (by rw [hm]; exact (R0).out.lt)
        obtain ⟨M, hM⟩ : ∃ M : Made m, M = Made.td m R := ⟨_, rfl⟩
        have HM := Lib.hid hM
        clear hM
        rw [← hm] at hblt hoxlt
        refine wp_region_made_tail m (15 + 1) (fun j => (nk15 m (z : Nat) M).lookup j) (Nat.le_of_eq hm) (by kernel_rfl) (by kernel_rfl) ?_
        simp only [List.take_succ_cons, List.take_zero, List.drop_succ_cons, List.drop_zero, Nat.reduceAdd]
        refine walk_segn 5 ([]) facts0 (by kernel_rfl) (by kernel_rfl) ?_
        simp only [List.take_succ_cons, List.take_zero, List.drop_succ_cons, List.drop_zero, Nat.reduceAdd]
        repeat (go_big_quiet_step (fail))
        (first | refine wpQuiet_nil ?_ | (go_big_quiet_want; (try go_big_quiet_op); trace_state; fail))
        refine walk_val (.int .i64 (z : Int)) ([]) facts0 (by kernel_rfl) (by kernel_rfl) (by kernel_rfl) (fun w' hb' hg' => ?_) ?_
        · unfold madeAt
          go_simp
          ((exact ⟨Below.refl _ _, rfl, trivial⟩))
        simp only [Act.put, List.setIfInBounds_toArray, List.set_cons_succ, List.set_cons_zero, Nat.reduceAdd]
        refine walk_segn 3 ([]) facts0 (by kernel_rfl) (by kernel_rfl) ?_
        simp only [List.take_succ_cons, List.take_zero, List.drop_succ_cons, List.drop_zero, Nat.reduceAdd]
        repeat (go_big_quiet_step (fail))
        (first | refine wpQuiet_nil ?_ | (go_big_quiet_want; (try go_big_quiet_op); trace_state; fail))
        refine walk_val (.int .i64 (z : Int)) ([]) facts0 (by kernel_rfl) (by kernel_rfl) (by kernel_rfl) (fun w' hb' hg' => ?_) ?_
        · unfold madeAt
          go_simp
          ((exact ⟨Below.refl _ _, rfl, trivial⟩))
        simp only [Act.put, List.setIfInBounds_toArray, List.set_cons_succ, List.set_cons_zero, Nat.reduceAdd]
        refine walk_segn 5 ([]) facts0 (by kernel_rfl) (by kernel_rfl) ?_
        simp only [List.take_succ_cons, List.take_zero, List.drop_succ_cons, List.drop_zero, Nat.reduceAdd]
        repeat (go_big_quiet_step (fail))
        (first | refine wpQuiet_nil ?_ | (go_big_quiet_want; (try go_big_quiet_op); trace_state; fail))
        refine walk_mkop M [] facts0 (by kernel_rfl) (by kernel_rfl) (by kernel_rfl) (fun w' hb' hg' => ?_) (fun v hT hAt => ?_)
        · unfold madeAt
          go_simp
          have hbw : Below (w1).heap.size w1 w' := by rw [← hm]; exact hb'
          have hq := HQ.out
          refine (HI.out w' (by omega) ((HRD2.out.below hbw (Nat.le_refl _)).mono hbw.size) (fun h => by cases h) (by omega) (by omega) (by omega) (by omega)).mono ?_
          rintro e w9 ⟨A9, c9, rfl, hg9, b9⟩
          exact td_end HM b9 (Gots.turn hg9 (by rw [hm]; exact hbw.size) (Nat.le_refl _) (fun _ _ => rfl))
        obtain ⟨A9, c9, rfl⟩ := td_T HM hT
        clear hT hAt
        simp only [Act.put, List.setIfInBounds_toArray, List.set_cons_succ, List.set_cons_zero, Nat.reduceAdd]
        refine walk_nil ?_
        intro w9 hb9 hf
        have G9 := Lib.hid (td_R HM ((hf 15).1 rfl))
        rw [hm] at hb9
        have R9 := Lib.hid ((R0).out.next hb9)
        have q9 := R9.out.k
        have l9 := R9.out.lt
        clear hb9 hf
        unfold toV
        go_wp2_with fail
        refine ret_cell (cs := tdC R (.slice A9 R.rest.length c9)) rfl rfl rfl ?_ Try.underlying51 rfl (by kernel_rfl) ?_
        rotate_left
        · first | exact ⟨A9, c9, rfl, (R9).out.gots _ (by have := HM0.out; omega) G9.out, ((R9).out.ret R _).1⟩ | exact ⟨A9, ⟨c9, rfl⟩, (R9).out.gots _ (by have := HM0.out; omega) G9.out, ((R9).out.ret R _).1⟩
        · exact ((R9).out.ret R _).2
      · have hcz : True := trivial
        have IHz := IH.out y (some ⟨bb, o + z, none⟩) (b.drop z) (c - z) q p false (al)
        rw [hbl, ← HE.out] at IHz
        have HI := Lib.hid IHz
        have HRD2 : Hid (Rd w1 (w1).heap.size (some ⟨bb, o + z, none⟩) (b.drop z)) := Lib.hid (by first | exact HR3.out.drop hzl | (rw [List.drop_of_length_le (by omega)]; exact Rd.nil))
        clear IHz
        go_upto_region 20 with fail
        obtain ⟨m, hm⟩ : ∃ m, m = (w1).heap.size := ⟨_, rfl⟩
        have HM0 : Hid (w.heap.size < m) := Lib.hid (by rw [hm]; exact (R0).out.lt)
        obtain ⟨M, hM⟩ : ∃ M : Made m, M = Made.td m R := ⟨_, rfl⟩
        have HM := Lib.hid hM
        clear hM
        rw [← hm] at hblt hoxlt
        refine wp_region_made_tail m (15 + 1) (fun j => (nk15 m (z : Nat) M).lookup j) (Nat.le_of_eq hm) (by kernel_rfl) (by kernel_rfl) ?_
        simp only [List.take_succ_cons, List.take_zero, List.drop_succ_cons, List.drop_zero, Nat.reduceAdd]
        refine walk_segn 5 ([]) facts0 (by kernel_rfl) (by kernel_rfl) ?_
        simp only [List.take_succ_cons, List.take_zero, List.drop_succ_cons, List.drop_zero, Nat.reduceAdd]
        repeat (go_big_quiet_step (fail))
        (first | refine wpQuiet_nil ?_ | (go_big_quiet_want; (try go_big_quiet_op); trace_state; fail))
        refine walk_val (.int .i64 (z : Int)) ([]) facts0 (by kernel_rfl) (by kernel_rfl) (by kernel_rfl) (fun w' hb' hg' => ?_) ?_
        · unfold madeAt
          go_simp
          ((exact ⟨Below.refl _ _, rfl, trivial⟩))
        simp only [Act.put, List.setIfInBounds_toArray, List.set_cons_succ, List.set_cons_zero, Nat.reduceAdd]
        refine walk_segn 3 ([]) facts0 (by kernel_rfl) (by kernel_rfl) ?_
        simp only [List.take_succ_cons, List.take_zero, List.drop_succ_cons, List.drop_zero, Nat.reduceAdd]
        repeat (go_big_quiet_step (fail))
        (first | refine wpQuiet_nil ?_ | (go_big_quiet_want; (try go_big_quiet_op); trace_state; fail))
        refine walk_val (.int .i64 (z : Int)) ([]) facts0 (by kernel_rfl) (by kernel_rfl) (by kernel_rfl) (fun w' hb' hg' => ?_) ?_
        · unfold madeAt
          go_simp
          ((exact ⟨Below.refl _ _, rfl, trivial⟩))
        simp only [Act.put, List.setIfInBounds_toArray, List.set_cons_succ, List.set_cons_zero, Nat.reduceAdd]
        refine walk_segn 5 ([]) facts0 (by kernel_rfl) (by kernel_rfl) ?_
        simp only [List.take_succ_cons, List.take_zero, List.drop_succ_cons, List.drop_zero, Nat.reduceAdd]
        repeat (go_big_quiet_step (fail))
        (first | refine wpQuiet_nil ?_ | (go_big_quiet_want; (try go_big_quiet_op); trace_state; fail))
        refine walk_mkop M [] facts0 (by kernel_rfl) (by kernel_rfl) (by kernel_rfl) (fun w' hb' hg' => ?_) (fun v hT hAt => ?_)
        · unfold madeAt
          go_simp
          have hbw : Below (w1).heap.size w1 w' := by rw [← hm]; exact hb'
          have hq := HQ.out
          refine (HI.out w' (by omega) ((HRD2.out.below hbw (Nat.le_refl _)).mono hbw.size) (fun h => by cases h) (by omega) (by omega) (by omega) (by omega)).mono ?_
          rintro e w9 ⟨A9, c9, rfl, hg9, b9⟩
          exact td_end HM b9 (Gots.turn hg9 (by rw [hm]; exact hbw.size) (Nat.le_refl _) (fun _ _ => rfl))
        obtain ⟨A9, c9, rfl⟩ := td_T HM hT
        clear hT hAt
        simp only [Act.put, List.setIfInBounds_toArray, List.set_cons_succ, List.set_cons_zero, Nat.reduceAdd]
        refine walk_nil ?_
        intro w9 hb9 hf
        have G9 := Lib.hid (td_R HM ((hf 15).1 rfl))
        rw [hm] at hb9
        have R9 := Lib.hid ((R0).out.next hb9)
        have q9 := R9.out.k
        have l9 := R9.out.lt
        clear hb9 hf
        unfold toV
        go_wp2_with fail
        refine ret_cell (cs := tdC R (.slice A9 R.rest.length c9)) rfl rfl rfl ?_ Try.underlying51 rfl (by kernel_rfl) ?_
        rotate_left
        · first | exact ⟨A9, c9, rfl, (R9).out.gots _ (by have := HM0.out; omega) G9.out, ((R9).out.ret R _).1⟩ | exact ⟨A9, ⟨c9, rfl⟩, (R9).out.gots _ (by have := HM0.out; omega) G9.out, ((R9).out.ret R _).1⟩
        · exact ((R9).out.ret R _).2
    · have kx : ¬ (x3.toNat : Int) = 0 := fun e => hx (UInt8.toNat_inj.1 (by show x3.toNat = 0; omega))
      replace HE := Lib.hid (HE.out.trans (if_pos hx))
      obtain ⟨q3, hq3⟩ : ∃ q, q = p + 3 := ⟨_, rfl⟩
      have e3 : IntKind.u64.wrap ((p : Int) + 3) = (q3 : Int) := by rw [IntKind.wrap_u64]; omega
      rw [← hq3] at HE
      have hq3b : q3 < 2 ^ 64 := by omega
      clear hx hq3
      go_wp2_with fail
      refine HC.out.mono ?_
      rintro e w2 ⟨rfl, rfl⟩
      clear HC
      have C := Lib.hid (faulty9_any 0 (q3) al w1 (by omega))
      go_wp2_with fail
      refine C.out.mono ?_
      rintro e wf ⟨rfl, bf⟩
      have RF := Lib.hid ((R0).out.next bf)
      clear C bf
      have qf := RF.out.k
      have lf := RF.out.lt
      go_wp2_with fail
      refine ret_cell (cs := tdC (tlF 0 (q3) al) nilV) rfl rfl rfl ?_ Try.underlying51 rfl (by kernel_rfl) ?_
      rotate_left
      · exact ⟨none, 0, by rw [HE.out]; rfl, by rw [HE.out]; exact Gots.nil, (RF).out.ret (tlF 0 (q3) al) nilV |>.1⟩
      · exact ((RF).out.ret (tlF 0 (q3) al) nilV).2

end Go.Proofs.Ytbfiakikhkiefaa
