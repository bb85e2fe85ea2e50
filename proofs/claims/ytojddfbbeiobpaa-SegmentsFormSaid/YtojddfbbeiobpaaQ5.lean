/- Segments' options: what they tell, the document's. -/
import Derived.Test.YtojddfbbeiobpaaQ4
import Derived.Test.YtojddfbbeiobpaaQ2
import Derived.BigQuiet
namespace Go.Proofs.Ytojddfbbeiobpaa
open Go.RowKit
set_option maxRecDepth 100000
theorem ob_lt16 (L : List UInt8) (i : Nat) : 256 * ob L i + ob L (i + 1) < 65536 := by have := ob_lt L i; have := ob_lt L (i + 1); omega
set_option maxHeartbeats 2000000 in
theorem rmss_any (A : Option Addr) (L : List UInt8) (c : Nat) (w : World) (h : Rd w w.heap.size A L) (hl : L.length < 2 ^ 40) :
    Calls Try.prog 36 #[.slice A L.length c] w fun e w' => e = .returned (.tuple #[.int .u16 ((omss L).getD 0 : Nat), .bool (omss L).isSome]) ∧ Below w.heap.size w w' := by
  have H := Lib.hid h
  clear h
  go_enter Try.func36, Try.ntmps36
  go_wp2_with fail
  go_loopw [4, 5, 6] (fun n f i wr => ∃ (k : Nat) (pre : List (Option Nat)), k ≤ L.length ∧ none ∉ pre ∧ Hid (pre ++ osq L k = osq L 0) ∧ n = .int .u16 ((og L pre).getD 0 : Nat) ∧ f = .bool (og L pre).isSome ∧ i = .int .i64 k ∧ Hid (Below w.heap.size w wr)) (fun _ _ i _ => L.length - (intOf i).toNat)
  case atStart => exact ⟨0, [], Nat.zero_le _, by simp, Lib.hid rfl, rfl, rfl, rfl, Lib.hid (Below.refl _ _)⟩
  case round =>
    obtain ⟨k, pre, hk, hpre, hP, rfl, rfl, rfl, hB⟩ := hrel
    by_cases hlt : k < L.length
    · have d1 : decide ((k : Int) < (L.length : Int)) = true := by simp; omega
      obtain ⟨b, o, rfl, hbl, hc⟩ := H.out (by omega)
      have cc : ∀ j, k + j < L.length → wr.cell? ⟨b, o + (k + j), none⟩ = some (.int .u8 (ob L (k + j) : Nat)) := fun j hj => by
        rw [hB.out.cell (p := ⟨b, o + (k + j), none⟩) hbl, hc _ hj]
        simp [ob, List.getElem?_eq_getElem hj]
      have c0 := cc 0 (by omega)
      rw [Nat.add_zero] at c0
      have CC := Lib.hid cc
      clear cc hc
      obtain ⟨x, hx⟩ : ∃ x, x = ob L k := ⟨_, rfl⟩
      obtain ⟨y, hy⟩ : ∃ y, y = ob L (k + 1) := ⟨_, rfl⟩
      have x1 : x < 256 := by rw [hx]; exact ob_lt _ _
      have y1 : y < 256 := by rw [hy]; exact ob_lt _ _
      rw [← hx] at c0
      have HX := Lib.hid hx; have HY := Lib.hid hy
      clear hx hy
      by_cases b0 : x = 0
      · have d2 : ((x : Int) != 0) = false := by simp; omega
        have hx0 := HX.out
        have hn : none ∉ osq L 0 := by rw [← hP.out, osq_zero (by omega), List.append_nil]; exact hpre
        have he : omss L = some ((og L pre).getD 0) := by unfold omss; rw [if_neg hn, ← hP.out, osq_zero (by omega), List.append_nil]
        have HE := Lib.hid he
        clear hn he hx0
        go_wp2_with fail
        refine bodyPost_ret (results_tmp2 rfl _ _ _) rfl ?_
        exact ⟨by rw [HE.out]; rfl, hB.out⟩
      have d2 : ((x : Int) != 0) = true := by simp; omega
      by_cases b1 : x = 1
      · have d3 : ((x : Int) == 1) = true := by simp; omega
        have hx0 := HX.out
        have hP' := hP.out
        rw [osq_one hlt (by omega)] at hP'
        have HP := Lib.hid hP'
        clear hx0 hP'
        go_wp2_with fail
        exact ⟨⟨k + 1, pre, by omega, hpre, HP, rfl, rfl, by simp, hB⟩, by simp [intOf]; omega⟩
      have d3 : ((x : Int) == 1) = false := by simp; omega
      by_cases hk1 : L.length ≤ k + 1
      · have d4 : decide ((L.length : Int) ≤ (k : Int) + 1) = true := by simp; omega
        have hb : obad L k = true := by simp [obad]; omega
        have hx0 := HX.out
        have he : omss L = none := by
          unfold omss
          rw [if_pos (by rw [← hP.out, osq_bad hlt (by omega) (by omega) hb]; simp)]
        have HE := Lib.hid he
        clear hx0 he hb
        go_wp2_with fail
        refine bodyPost_ret (results_tmp2 rfl _ _ _) rfl ?_
        exact ⟨by rw [HE.out]; rfl, hB.out⟩
      have d4 : decide ((L.length : Int) ≤ (k : Int) + 1) = false := by simp; omega
      have c1 := CC.out 1 (by omega)
      rw [← HY.out] at c1
      have t1 : ((k : Int) + 1).toNat = k + 1 := by omega
      have n1 : (k : Int) + 1 < (L.length : Int) := by omega
      by_cases hy2 : y < 2
      · have d5 : decide ((y : Int) < 2) = true := by simp; omega
        have hb : obad L k = true := by have := HY.out; simp [obad]; omega
        have hx0 := HX.out
        have he : omss L = none := by
          unfold omss
          rw [if_pos (by rw [← hP.out, osq_bad hlt (by omega) (by omega) hb]; simp)]
        have HE := Lib.hid he
        clear hx0 he hb
        go_wp2_with fail
        refine bodyPost_ret (results_tmp2 rfl _ _ _) rfl ?_
        exact ⟨by rw [HE.out]; rfl, hB.out⟩
      have d5 : decide ((y : Int) < 2) = false := by simp; omega
      by_cases hyl : L.length < k + y
      · have d6 : decide ((L.length : Int) < (k : Int) + (y : Int)) = true := by simp; omega
        have hb : obad L k = true := by have := HY.out; simp [obad]; omega
        have hx0 := HX.out
        have he : omss L = none := by
          unfold omss
          rw [if_pos (by rw [← hP.out, osq_bad hlt (by omega) (by omega) hb]; simp)]
        have HE := Lib.hid he
        clear hx0 he hb
        go_wp2_with fail
        refine bodyPost_ret (results_tmp2 rfl _ _ _) rfl ?_
        exact ⟨by rw [HE.out]; rfl, hB.out⟩
      have d6 : decide ((L.length : Int) < (k : Int) + (y : Int)) = false := by simp; omega
      have hb : obad L k = false := by have := HY.out; simp [obad]; omega
      have hx0 := HX.out
      have hP' := hP.out
      rw [osq_good hlt (by omega) (by omega) hb, ← HY.out] at hP'
      have HP : Hid ((pre ++ [some k]) ++ osq L (k + y) = osq L 0) := Lib.hid (by rw [List.append_assoc]; exact hP')
      have hg1 : none ∉ pre ++ [some k] := by simp [hpre]
      have hog := og_snoc L pre k
      rw [← HX.out, ← HY.out] at hog
      have HOG := Lib.hid hog
      clear hx0 hP' hog hb
      by_cases hx2 : x = 2
      · by_cases hy4 : y = 4
        · have n4 : (k : Int) + 4 ≤ (L.length : Int) := by omega
          by_cases hf : (og L pre).isSome = true
          · have d7 : ((x : Int) == 2) = true := by simp; omega
            have d8 : ((y : Int) == 4) = true := by simp; omega
            have hog' : og L (pre ++ [some k]) = og L pre := by
              obtain ⟨z, hz⟩ := Option.isSome_iff_exists.1 hf
              rw [HOG.out, hz]; simp
            have HO := Lib.hid hog'
            have d9 : (og L pre).isSome = true := hf
            clear hog' hf
            go_wp2_with fail
            exact ⟨⟨k + y, pre ++ [some k], by omega, hg1, HP, by rw [HO.out], by rw [HO.out], by simp <;> omega, hB⟩, by simp [intOf]; omega⟩
          · have d7 : ((x : Int) == 2) = true := by simp; omega
            have d8 : ((y : Int) == 4) = true := by simp; omega
            have d9 : (og L pre).isSome = false := by simpa using hf
            obtain ⟨p, hp⟩ : ∃ p, p = ob L (k + 2) := ⟨_, rfl⟩
            obtain ⟨q, hq⟩ : ∃ q, q = ob L (k + 3) := ⟨_, rfl⟩
            have hog' : og L (pre ++ [some k]) = some (256 * p + q) := by
              rw [HOG.out, Option.isSome_eq_false_iff.1 d9 |> Option.isNone_iff_eq_none.1, if_pos ⟨hx2, hy4⟩, hp, hq]; rfl
            have HO := Lib.hid hog'
            have c2 := CC.out 2 (by omega)
            have c3 := CC.out 3 (by omega)
            rw [← hp] at c2
            rw [← hq] at c3
            have p1 : p < 256 := by rw [hp]; exact ob_lt _ _
            have q1 : q < 256 := by rw [hq]; exact ob_lt _ _
            have t2 : ((k : Int) + 2).toNat = k + 2 := by omega
            have t3 : ((k : Int) + 3).toNat = k + 3 := by omega
            have n2 : (k : Int) + 2 < (L.length : Int) := by omega
            have n3 : (k : Int) + 3 < (L.length : Int) := by omega
            have p2 : IntKind.u16.wrap (256 * (p : Int)) = 256 * (p : Int) := by rw [IntKind.wrap_u16]; omega
            have p3 : IntKind.u16.wrap (256 * (p : Int) + (q : Int)) = 256 * (p : Int) + (q : Int) := by rw [IntKind.wrap_u16]; omega
            clear hog' hf hp hq
            go_wp2_with fail
            go_quiet (fail)
            go_wp2_with fail
            exact ⟨⟨k + y, pre ++ [some k], by omega, hg1, HP, by rw [HO.out]; simp, by rw [HO.out]; rfl, by simp <;> omega, Lib.hid (bdrewN hB.out _)⟩, by simp [intOf]; omega⟩
        · have d7 : ((x : Int) == 2) = true := by simp; omega
          have d8 : ((y : Int) == 4) = false := by simp; omega
          have hog' : og L (pre ++ [some k]) = og L pre := by rw [HOG.out, if_neg (by omega)]; simp
          have HO := Lib.hid hog'
          clear hog'
          go_wp2_with fail
          exact ⟨⟨k + y, pre ++ [some k], by omega, hg1, HP, by rw [HO.out], by rw [HO.out], by simp <;> omega, hB⟩, by simp [intOf]; omega⟩
      · have d7 : ((x : Int) == 2) = false := by simp; omega
        have hog' : og L (pre ++ [some k]) = og L pre := by rw [HOG.out, if_neg (by omega)]; simp
        have HO := Lib.hid hog'
        clear hog'
        go_wp2_with fail
        exact ⟨⟨k + y, pre ++ [some k], by omega, hg1, HP, by rw [HO.out], by rw [HO.out], by simp <;> omega, hB⟩, by simp [intOf]; omega⟩
    · obtain rfl : k = L.length := by omega
      have d1 : decide ((L.length : Int) < (L.length : Int)) = false := by simp
      have he : omss L = some ((og L pre).getD 0) := by
        have e := hP.out
        rw [osq_end (Nat.le_refl _), List.append_nil] at e
        unfold omss; rw [← e, if_neg hpre]
      have HE := Lib.hid he
      clear he
      go_wp2_with fail
      refine bodyPost_ret (results_tmp2 rfl _ _ _) rfl ?_
      exact ⟨by rw [HE.out]; rfl, hB.out⟩
end Go.Proofs.Ytojddfbbeiobpaa
