/- Selects, the document's: who is chosen. -/
import Derived.Test.YtcoonncedlbbkaaDoorX11
namespace Go.Proofs.YtcoonncedlbbkaaDoor
open Go.RowKit Ad
set_option maxRecDepth 100000
set_option maxHeartbeats 2000000
theorem xt_sub {c : Array Value} {o : Nat} {d : Cd} (h : xt c o 18 = d.row) (hs : o + 18 ≤ c.size) : xt c o 16 = (List.map B d.a).toArray ∧ c[o + 16]? = some (.bool d.d) ∧ c[o + 17]? = some (.bool d.t) := by
  refine ⟨?_, ?_, ?_⟩
  · rw [← d.row_adr, ← h]
    unfold xt
    rw [Array.extract_extract]
    congr 1
    omega
  · rw [← d.row_d, ← h]
    unfold xt
    rw [Array.getElem?_extract_of_lt (by omega), Array.getElem?_eq_getElem (by omega)]
  · rw [← d.row_t, ← h]
    unfold xt
    rw [Array.getElem?_extract_of_lt (by omega), Array.getElem?_eq_getElem (by omega)]
def nob (dst : List UInt8) (l : List Cd) (c : Cd) : Bool := l.all fun x => !better2 dst x c
def choose2 (dst : List UInt8) (l : List Cd) : List UInt8 × Bool :=
  match l.find? (nob dst l) with
  | some c => (c.a, true)
  | none => (zadr, false)
theorem choose2_at (dst : List UInt8) (l : List Cd) (i : Nat) (hi : i < l.length) (h : ∀ j (hj : j < l.length), j < i → nob dst l l[j] = false) (hn : nob dst l l[i] = true) : choose2 dst l = (l[i].a, true) := by
  have e : l.find? (nob dst l) = some l[i] := by
    rw [List.find?_eq_some_iff_getElem]
    exact ⟨hn, i, hi, rfl, fun j hj => by rw [h j (by omega) hj]; rfl⟩
  unfold choose2
  rw [e]
theorem choose2_none (dst : List UInt8) (l : List Cd) (h : ∀ j (hj : j < l.length), nob dst l l[j] = false) : choose2 dst l = (zadr, false) := by
  have e : l.find? (nob dst l) = none := by
    rw [List.find?_eq_none]
    intro x hx
    obtain ⟨j, hj, rfl⟩ := List.getElem_of_mem hx
    rw [h j hj]
    decide
  unfold choose2
  rw [e]
theorem choose23_any (dst : List UInt8) (hd : dst.length = 16) (A : Option Addr) (l : List Cd) (c : Nat) (w : World) (hc : Cs w w.heap.size A l) (hl : l.length ≤ c) (hl2 : l.length < 2 ^ 62) :
    Calls Tryd.prog 9 #[av dst, .slice A l.length c] w fun e w' => e = .returned (.tuple #[av (choose2 dst l).1, .bool (choose2 dst l).2]) ∧ Below w.heap.size w w' := by
  have hz : zadr.length = 16 := rfl
  have ba : Below w.heap.size w ((w.alloc (.cells (List.map B dst).toArray 23)).alloc (.cells (List.map B zadr).toArray 23)) := (by (repeat (first | exact Below.refl _ _ | assumption | refine Below.drew ?_ | refine bdrewN ?_ _ | refine Below.alloc ?_ (by first | omega | (simp <;> omega) | (simp only [World.size_alloc] <;> omega)) _ | refine below_setRow ?_ (by first | omega | (simp <;> omega)) _ | refine Below.setCell ?_ (by first | omega | (simp <;> omega)) _)))
  have k0 : bk ((w.alloc (.cells (List.map B dst).toArray 23)).alloc (.cells (List.map B zadr).toArray 23)) w.heap.size = some (.cells (List.map B dst).toArray 23 (0, 0)) := (bk_alloc_past _ _ _ (by simp)).trans (bk_alloc_at _ _ _ rfl)
  have k4 : bk ((w.alloc (.cells (List.map B dst).toArray 23)).alloc (.cells (List.map B zadr).toArray 23)) (w.heap.size + 1) = some (.cells (List.map B zadr).toArray 23 (0, 0)) := bk_alloc_at _ _ _ (by simp)
  have K0 := Lib.hid k0; have K4 := Lib.hid k4; have BA := Lib.hid ba
  have HC : Hid (∀ w', Below w.heap.size w w' → Cs w' w.heap.size A l) := Lib.hid fun w' h => hc.below h (Nat.le_refl _)
  obtain ⟨n, hn⟩ : ∃ n, n = l.length := ⟨_, rfl⟩
  rw [← hn] at hl hl2 ⊢
  have HN := Lib.hid hn
  obtain ⟨res, hres⟩ : ∃ r, r = choose2 dst l := ⟨_, rfl⟩
  rw [← hres]
  have HR := Lib.hid hres
  clear k0 k4 ba hc hn hres
  go_enter Tryd.func9, Tryd.ntmps9
  go_wp2_with fail
  change Code.wp _ _ _ _ ((w.alloc (.cells (List.map B dst).toArray 23)).alloc (.cells (List.map B zadr).toArray 23))
  generalize (w.alloc (.cells (List.map B dst).toArray 23)).alloc (.cells (List.map B zadr).toArray 23) = w1 at *
  go_loopw [6, 7, 8] (fun i _ _ wr => ∃ k : Nat, k ≤ n ∧ i = .int .i64 k ∧ Hid (Below w.heap.size w wr) ∧ Hid (bk wr w.heap.size = some (.cells (List.map B dst).toArray 23 (0, 0))) ∧ Hid (bk wr (w.heap.size + 1) = some (.cells (List.map B zadr).toArray 23 (0, 0))) ∧ Hid (∀ j (hj : j < l.length), j < k → nob dst l l[j] = false)) (fun i _ _ _ => n - (intOf i).toNat)
  case atStart => exact ⟨0, by omega, rfl, BA, K0, K4, Lib.hid fun j _ h => by omega⟩
  case round =>
    clear K0 K4 BA
    obtain ⟨i, hi, rfl, BR, K0, K4, HJ⟩ := hrel
    by_cases hin : i < n
    · have d1 : decide ((i : Int) < (n : Int)) = true := by simp; omega
      have hil : i < l.length := by rw [← HN.out]; exact hin
      obtain ⟨ci, hci⟩ : ∃ x, x = l[i] := ⟨_, rfl⟩
      have HCI := Lib.hid hci
      clear hci
      go_wp2_with fail
      go_loopw [7, 8] (fun b k wr => ∃ (j : Nat) (q : Bool), j ≤ n ∧ k = .int .i64 j ∧ b = .bool q ∧ Hid (q = (l.take j).all fun x => !better2 dst x ci) ∧ Hid (Below w.heap.size w wr) ∧ Hid (bk wr w.heap.size = some (.cells (List.map B dst).toArray 23 (0, 0))) ∧ Hid (bk wr (w.heap.size + 1) = some (.cells (List.map B zadr).toArray 23 (0, 0)))) (fun _ k _ => n - (intOf k).toNat)
      case atStart => exact ⟨0, true, by omega, rfl, rfl, Lib.hid (by simp), BR, K0, K4⟩
      case round =>
        clear BR K0 K4 d1
        obtain ⟨j, q, hj, rfl, rfl, HQ, BR, K0, K4⟩ := hrel
        obtain ⟨g, o, cc, t, fr, rfl, hg, kc, hcs⟩ := HC.out wr BR.out (by intro e; rw [e] at hil; simp at hil)
        obtain ⟨h1, h2⟩ := hcs i hil
        rw [← HCI.out] at h2
        have l0 := bk_lt K0.out; have l4 := bk_lt K4.out; have lc := bk_lt kc
        have v0 := K0.out
        by_cases hjn : j < n
        · have d1 : decide ((j : Int) < (n : Int)) = true := by simp; omega
          have hjl : j < l.length := by rw [← HN.out]; exact hjn
          obtain ⟨h3, h4⟩ := hcs j hjl
          obtain ⟨cj, hcj⟩ : ∃ x, x = l[j] := ⟨_, rfl⟩
          rw [← hcj] at h4
          have HCJ := Lib.hid hcj
          have HQ' : Hid (((l.take (j + 1)).all fun x => !better2 dst x ci) = (q && !better2 dst cj ci)) := Lib.hid (by
            rw [List.take_succ_eq_append_getElem hjl, List.all_append, ← HQ.out, ← hcj]; simp)
          have CB := Lib.hid (better23_any dst hd cj ci)
          generalize better2 dst cj ci = p at *
          clear hcs hcj
          cases q
          case false =>
            go_upto_region 8 with fail
            refine wp_region_later (wr.heap.size) (by kernel_rfl) (by kernel_rfl) ?_
            repeat (go_big_quiet_step ((fail)))
            (first | refine wpQuiet_nil ?_ | (go_big_quiet_want; (try go_big_quiet_op); trace_state; fail))
            intro w2 hw'
            have q2 := later_elim hw'
            clear hw'
            have K0' := Lib.hid (bk_keep q2 l0 K0.out); have K4' := Lib.hid (bk_keep q2 l4 K4.out)
            have B2 := Lib.hid (BR.out.trans (q2.mono BR.out.size))
            clear q2 v0 kc h1 h2 h3 h4
            go_wp2_with fail
            refine ⟨⟨j + 1, false, by omega, by go_num, rfl, Lib.hid (by rw [HQ'.out]; rfl), B2, K0', K4'⟩, by simp [intOf]; omega⟩
          case true =>
            go_upto_region 8 with fail
            refine wp_region_later (wr.heap.size) (by kernel_rfl) (by kernel_rfl) ?_
            repeat (go_big_quiet_step (((rename_i xq; with_reducible exact later_call xq (Nat.le_refl _) (CB.out xq.w)))))
            (first | refine wpQuiet_nil ?_ | (go_big_quiet_want; (try go_big_quiet_op); trace_state; fail))
            intro w2 hw'
            have q2 := later_elim hw'
            clear hw'
            have K0' := Lib.hid (bk_keep q2 l0 K0.out); have K4' := Lib.hid (bk_keep q2 l4 K4.out)
            have B2 := Lib.hid (BR.out.trans (q2.mono BR.out.size))
            clear q2 v0 kc h1 h2 h3 h4
            go_wp2_with fail
            refine ⟨⟨j + 1, !p, by omega, by go_num, rfl, Lib.hid (by rw [HQ'.out]; simp), B2, K0', K4'⟩, by simp [intOf]; omega⟩
        · obtain rfl : j = n := by omega
          have d1 : decide ((j : Int) < (j : Int)) = false := by simp
          have HNB : Hid (q = nob dst l ci) := Lib.hid (by rw [HQ.out, HN.out, List.take_length]; rfl)
          obtain ⟨x1, _, _⟩ := xt_sub h2 h1
          have h1' : o + i * 18 + 16 ≤ cc.size := by omega
          have v4 := K4.out
          have hcl := ci.h
          cases q
          case false =>
            clear v0 v4 kc h1 h2 x1 h1' hcs
            go_wp2_with fail
            refine ⟨⟨i + 1, by omega, by go_num, BR, K0, K4, Lib.hid fun jj hjj h => ?_⟩, by simp [intOf]; omega⟩
            by_cases e : jj = i
            · subst e
              rw [← HCI.out]
              exact HNB.out.symm
            · exact HJ.out jj hjj (by omega)
          case true =>
            have HRR : Hid (res = (ci.a, true)) := Lib.hid (by
              rw [HR.out, HCI.out]
              exact choose2_at dst l i hil HJ.out (by rw [← HCI.out]; exact HNB.out.symm))
            have d2 : decide (i < j) = true := by simp; omega
            clear hcs h1 h2
            go_wp2_with fail
            refine ret_two (cs := (List.map B ci.a).toArray) rfl rfl rfl rfl ?_ Tryd.underlying23 rfl (by rw [map_size, hcl]; kernel_rfl) ?_
            rotate_left
            · refine ⟨by rw [HRR.out]; rfl, below_setRow BR.out (by omega) _⟩
            · rw [bk_setRow_same, v4]; rfl
    · obtain rfl : i = n := by omega
      have d1 : decide ((i : Int) < (i : Int)) = false := by simp
      have HRR : Hid (res = (zadr, false)) := Lib.hid (by
        rw [HR.out]
        exact choose2_none dst l fun j hj => HJ.out j hj (by rw [HN.out]; exact hj))
      have v4 := K4.out
      have l4 := bk_lt v4
      go_wp2_with fail
      refine ret_two (cs := (List.map B zadr).toArray) rfl rfl rfl rfl ?_ Tryd.underlying23 rfl (by rw [map_size, hz]; kernel_rfl) ?_
      rotate_left
      · refine ⟨by rw [HRR.out]; rfl, below_setRow BR.out (by omega) _⟩
      · rw [bk_setRow_same, v4]; rfl
end Go.Proofs.YtcoonncedlbbkaaDoor
