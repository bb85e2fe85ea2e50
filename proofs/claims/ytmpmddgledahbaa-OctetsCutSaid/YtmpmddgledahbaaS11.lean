/- lives. -/
import Derived.Test.YtmpmddgledahbaaS10
namespace Go.Proofs.Ytmpmddgledahbaa
open Go.RowKit
set_option maxRecDepth 100000
theorem Rd.lit (w : World) (l : List UInt8) (t : TypeId) : Rd (w.alloc (.cells (l.map B).toArray t (0, 0))) (w.alloc (.cells (l.map B).toArray t (0, 0))).heap.size (some ⟨w.heap.size, 0, none⟩) l :=
  Rd.of_bk (bk_alloc_at _ _ _ rfl) (by simp [World.size_alloc]) fun j hj => by rw [Nat.zero_add, List.getElem?_eq_getElem hj]
theorem Rd.of_take {w : World} {g n m : Nat} {cur : Array Value} {l : List UInt8} {t : TypeId} {fr : Nat × Nat} (h : bk w g = some (.cells cur t fr)) (ht : cur.toList.take m = l.map B) (hg : g < n) : Rd w n (some ⟨g, 0, none⟩) l := fun _ => ⟨g, 0, rfl, hg, fun j hj => by
  rw [bk_cell h, Nat.zero_add]
  have e : (cur.toList.take m)[j]? = (l.map B)[j]? := by rw [ht]
  have hm : j < m := by
    rcases Nat.lt_or_ge j m with h' | h'
    · exact h'
    · rw [List.getElem?_eq_none (by rw [List.length_take]; omega), List.getElem?_map, List.getElem?_eq_getElem hj] at e; cases e
  rw [List.getElem?_take_of_lt hm, List.getElem?_map, List.getElem?_eq_getElem hj] at e
  rw [← Array.getElem?_toList]
  exact e⟩
theorem KC.keep {w w' : World} {g n : Nat} {l : List UInt8} (h : KC w g l) (hb : Below n w w') (hn : g < n) : KC w' g l := by
  obtain ⟨A, c, h1, h2, h3⟩ := h
  exact ⟨A, c, bk_keep hb hn h1, h2.below hb (by omega), h3⟩
theorem KB.keep {w w' : World} {g n : Nat} (h : KB w g) (hb : Below n w w') (hn : g < n) : KB w' g := by
  obtain ⟨A, N, c, h1⟩ := h
  exact ⟨A, N, c, bk_keep hb hn h1⟩
theorem KC.lt {w : World} {g : Nat} {l : List UInt8} (h : KC w g l) : g < w.heap.size := by
  obtain ⟨A, c, h1, _⟩ := h
  exact bk_lt h1
set_option maxHeartbeats 2000000 in
theorem lives_any (w : World) : Calls Try.prog 9 #[] w fun e w' => e = .returned (.bool true) ∧ Below w.heap.size w w' := by
  go_enter Try.func9, Try.ntmps9
  go_wp2_with fail
  refine (of_K (some ⟨w.heap.size, 0, none⟩) [1, 2, 3, 4] 4 _ (Rd.lit w [1, 2, 3, 4] 5) (by simp) (by simp)).mono ?_
  rintro e w1 ⟨g, rfl, hg, hK, hb1⟩
  have hg' : w.heap.size + 1 ≤ g := by simpa using hg
  have f1 : Below w.heap.size w w1 := ((Below.refl _ _).alloc (Nat.le_refl _) _).trans (hb1.mono (by simp))
  clear hg hb1
  go_wp2_with fail
  refine (num_K g [1, 2, 3, 4] 2 w1 hK (by omega) (by omega) (by simp)).mono ?_
  rintro e w2 ⟨rfl, hK2, o2⟩
  have f2 := f1.trans (o2.below (by omega))
  clear f1 hK o2
  have e1 : (val (List.take 2 [1, 2, 3, 4]) : Int) = 258 := by rfl
  have e2 : List.drop 2 [(1 : UInt8), 2, 3, 4] = [3, 4] := rfl
  rw [e2] at hK2
  simp only [e1]
  clear e1 e2
  go_wp2_with fail
  refine (left_K g [3, 4] w2 hK2).mono ?_
  rintro e w3 ⟨rfl, rfl⟩
  have e1 : (([3, 4] : List UInt8).length : Int) = 2 := rfl
  simp only [e1]
  clear e1
  go_wp2_with fail
  refine (bytes_K g [3, 4] 1 w2 hK2 (by simp)).mono ?_
  rintro e w4 ⟨A, rfl, hr4, hK4, o4⟩
  have f4 := f2.trans (o4.below (by omega))
  have g4 := hK4.lt
  have e2 : List.drop 1 [(3 : UInt8), 4] = [4] := rfl
  have e3 : List.take 1 [(3 : UInt8), 4] = [3] := rfl
  rw [e2] at hK4
  rw [e3] at hr4
  clear f2 hK2 o4 e2 e3
  go_wp2_with fail
  have a5 := (Below.refl w4.heap.size w4).alloc (Nat.le_refl _) (.cells (List.map B [3]).toArray 5 (0, 0))
  refine (sameBytes_any A (some ⟨w4.heap.size, 0, none⟩) [3] [3] 1 1 _ ((hr4.below a5 (by omega)).mono (by simp; omega)) (Rd.lit w4 [3] 5) (by simp) (by simp)).mono ?_
  rintro e w5 ⟨rfl, b5⟩
  have a6 := a5.trans (b5.mono (by simp))
  have f5 := f4.trans (a6.mono f4.size)
  have K5 := hK4.keep a6 g4
  clear f4 hr4 a5 b5 a6 hK4 g4
  simp only [beq_self_eq_true]
  go_wp2_with fail
  refine (bad_K g [4] w5 K5).mono ?_
  rintro e w6 ⟨rfl, rfl⟩
  go_wp2_with fail
  refine (num_KS g [4] 2 w5 K5 (by simp)).mono ?_
  rintro e w7 ⟨rfl, K7, o7⟩
  have f7 := f5.trans (o7.below (by omega))
  clear f5 K5 o7
  go_wp2_with fail
  refine (bad_KB g w7 K7).mono ?_
  rintro e w8 ⟨rfl, rfl⟩
  go_wp2_with fail
  refine (left_KB g w7 K7).mono ?_
  rintro e w8 ⟨rfl, rfl⟩
  go_wp2_with fail
  refine (rest_KB g w7 K7).mono ?_
  rintro e w8 ⟨rfl, rfl⟩
  clear K7
  go_wp2_with fail
  have wk : wid 3 = 3 := by rfl
  have wk1 : wid 1 = 1 := by rfl
  have a8 := (Below.refl w7.heap.size w7).alloc (Nat.le_refl _) (.cells (List.map B [9]).toArray 5 (0, 0))
  refine (put_any (some ⟨w7.heap.size, 0, none⟩) [9] 1 258 3 _ (Rd.lit w7 [9] 5) (by simp) (by simp) (by omega) (by omega)).mono ?_
  rintro e w8 ⟨h, cur, rfl, hh, hb8, hs8, ht8, b8⟩
  have f8 := f7.trans ((a8.trans (b8.mono (by simp))).mono f7.size)
  have hn : [9] ++ nb (wid 3) 258 = ([9, 0, 1, 2] : List UInt8) := by rfl
  rw [hn, wk] at ht8
  have R8 : Rd w8 w8.heap.size (some ⟨h, 0, none⟩) [9, 0, 1, 2] := Rd.of_take hb8 ht8 (bk_lt hb8)
  have HR8 := Lib.hid R8
  clear R8 hn ht8 hs8 hb8 hh b8 a8 f7 wk
  go_wp2_with fail
  have a9 := (Below.refl w8.heap.size w8).alloc (Nat.le_refl _) (.cells (List.map B [9, 0, 1, 2]).toArray 5 (0, 0))
  refine (sameBytes_any (some ⟨h, 0, none⟩) (some ⟨w8.heap.size, 0, none⟩) [9, 0, 1, 2] [9, 0, 1, 2] 4 4 _ ((HR8.out.below a9 (by omega)).mono (by simp)) (Rd.lit w8 [9, 0, 1, 2] 5) (by simp) (by simp)).mono ?_
  rintro e w9 ⟨rfl, b9⟩
  have f9 := f8.trans ((a9.trans (b9.mono (by simp))).mono f8.size)
  clear HR8 f8 a9 b9
  simp only [beq_self_eq_true]
  go_wp2_with fail
  refine (put_any none [] 0 258 1 w9 Rd.nil (by simp) (by simp) (by omega) (by omega)).mono ?_
  rintro e w10 ⟨h', cur', rfl, hh, hb8, hs8, ht8, b8⟩
  have f10 := f9.trans (b8.mono f9.size)
  have hn : [] ++ nb (wid 1) 258 = ([2] : List UInt8) := by rfl
  rw [hn, wk1] at ht8
  have R8 : Rd w10 w10.heap.size (some ⟨h', 0, none⟩) [2] := Rd.of_take hb8 ht8 (bk_lt hb8)
  have HR8 := Lib.hid R8
  clear R8 hn ht8 hs8 hb8 hh b8 f9 wk1
  go_wp2_with fail
  have a9 := (Below.refl w10.heap.size w10).alloc (Nat.le_refl _) (.cells (List.map B [2]).toArray 5 (0, 0))
  refine (sameBytes_any (some ⟨h', 0, none⟩) (some ⟨w10.heap.size, 0, none⟩) [2] [2] 1 1 _ ((HR8.out.below a9 (by omega)).mono (by simp)) (Rd.lit w10 [2] 5) (by simp) (by simp)).mono ?_
  rintro e w11 ⟨rfl, b9⟩
  have f11 := f10.trans ((a9.trans (b9.mono (by simp))).mono f10.size)
  clear HR8 f10 a9 b9
  simp only [beq_self_eq_true]
  go_wp2_with fail
  go_ret
  exact ⟨rfl, f11⟩
end Go.Proofs.Ytmpmddgledahbaa
