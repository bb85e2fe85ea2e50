/- A frame that came in, opened. -/
import Derived.Test.YtdmmfffoikelgaaL5
import Derived.Test.YtdmmfffoikelgaaE0
namespace Go.Proofs.Ytdmmfffoikelgaa
open Go.ChangeShapes Go.WideShapes Go.ChangeAt Go.RowKit Go.Deep
theorem trod_u16 {H : Type} {enc : TypeId × Value → H} {P : Program} {w : World} {base fuel : Nat} {sp : Nat → Bool} {held : Bool} {t : TypeId} {cs : List Value} {x : DataW H × List MemPlace} (ht : P.underlying t = some (.int .u16)) (h : DataW.trod enc P w base sp held fuel t cs = some x) : ∃ n : Nat, cs = [.int .u16 n] ∧ n < 65536 := by
  obtain ⟨n, hn, _, hw⟩ := DataW.trod_int ht h
  have hb : 0 ≤ n ∧ n ≤ 65535 := by simpa [Lit.wf, IntKind.min, IntKind.max, IntKind.signed, IntKind.bits] using hw
  obtain ⟨m, rfl⟩ := Int.eq_ofNat_of_zero_le hb.1
  exact ⟨m, hn, by omega⟩
theorem open_frame {H : Type} {enc : TypeId × Value → H} {w : World} {base b0 : Nat} {r : Reach} {held : Bool} {v : Value} {d : DataW H} {ps : List MemPlace}
    (hval : Value.okWide Try.prog w r b0 27 v) (hd : DataW.Trod enc Try.prog w base (fun _ => true) held 27 v d ps) :
    ∃ (ds ss : List UInt8) (k : Nat) (A : Option Addr) (l : List UInt8) (c : Nat), v = .agg (frc ds ss k A l.length c) ∧ ds.length = 6 ∧ ss.length = 6 ∧ k < 65536 ∧ Rd w w.heap.size A l ∧ (A = none → l = [] ∧ c = 0) ∧ l.length ≤ c ∧ l.length < 2 ^ 63 := by
  obtain ⟨fuel, hf⟩ := hd
  unfold Value.okWide at hval
  rw [Try.underlying27] at hval
  obtain ⟨cs, rfl, _⟩ := hval
  simp only [Value.cells] at hf
  obtain ⟨xs, m, rfl, hx, hlen, hxl, hff⟩ := DataW.trod_struct Try.underlying27 hf
  have c0 : Try.prog.cellsOf 27 = 14 := by kernel_rfl
  have c1 : Try.prog.cellsOf 23 = 6 := by kernel_rfl
  have c2 : Try.prog.cellsOf 24 = 1 := by kernel_rfl
  have c3 : Try.prog.cellsOf 25 = 1 := by kernel_rfl
  have g0 : DataW.trod enc Try.prog w base (fun _ => true) held m 23 ((cs.toList.drop 0).take (Try.prog.cellsOf 23)) = xs[0]? := hff 0 _ rfl
  have g1 : DataW.trod enc Try.prog w base (fun _ => true) held m 23 ((cs.toList.drop 6).take (Try.prog.cellsOf 23)) = xs[1]? := hff 1 _ rfl
  have g2 : DataW.trod enc Try.prog w base (fun _ => true) held m 24 ((cs.toList.drop 12).take (Try.prog.cellsOf 24)) = xs[2]? := hff 2 _ rfl
  have g3 : DataW.trod enc Try.prog w base (fun _ => true) held m 25 ((cs.toList.drop 13).take (Try.prog.cellsOf 25)) = xs[3]? := hff 3 _ rfl
  have hx4 : xs.length = 4 := hxl
  rw [c0] at hlen
  rw [c1] at g0 g1
  rw [c2] at g2
  rw [c3] at g3
  obtain ⟨y0, hy0⟩ : ∃ y, xs[0]? = some y := ⟨xs[0]'(by omega), List.getElem?_eq_getElem (by omega)⟩
  obtain ⟨y1, hy1⟩ : ∃ y, xs[1]? = some y := ⟨xs[1]'(by omega), List.getElem?_eq_getElem (by omega)⟩
  obtain ⟨y2, hy2⟩ : ∃ y, xs[2]? = some y := ⟨xs[2]'(by omega), List.getElem?_eq_getElem (by omega)⟩
  obtain ⟨y3, hy3⟩ : ∃ y, xs[3]? = some y := ⟨xs[3]'(by omega), List.getElem?_eq_getElem (by omega)⟩
  rw [hy0] at g0; rw [hy1] at g1; rw [hy2] at g2; rw [hy3] at g3
  obtain ⟨ds, hds, e0, _⟩ := open_bytes_in Try.underlying23 Try.underlying5 (by kernel_rfl) c1 g0
  obtain ⟨ss, hss, e1, _⟩ := open_bytes_in Try.underlying23 Try.underlying5 (by kernel_rfl) c1 g1
  obtain ⟨k, e2, hk⟩ := trod_u16 Try.underlying24 g2
  obtain ⟨A, l, c, e3, hR, hN, hC, hL⟩ := open_bsl_in Try.underlying25 Try.underlying5 (by kernel_rfl) g3
  refine ⟨ds, ss, k, A, l, c, ?_, hds, hss, hk, hR, hN, hC, hL⟩
  have e : cs.toList = cs.toList.take 6 ++ ((cs.toList.drop 6).take 6 ++ ((cs.toList.drop 12).take 1 ++ (cs.toList.drop 13).take 1)) := by
    have h1 : cs.toList = cs.toList.take 6 ++ cs.toList.drop 6 := (List.take_append_drop 6 _).symm
    have h2 : cs.toList.drop 6 = (cs.toList.drop 6).take 6 ++ cs.toList.drop 12 := by
      conv => lhs; rw [← List.take_append_drop 6 (cs.toList.drop 6)]
      rw [List.drop_drop]
    have h3 : cs.toList.drop 12 = (cs.toList.drop 12).take 1 ++ cs.toList.drop 13 := by
      conv => lhs; rw [← List.take_append_drop 1 (cs.toList.drop 12)]
      rw [List.drop_drop]
    have h4 : cs.toList.drop 13 = (cs.toList.drop 13).take 1 := (List.take_of_length_le (by rw [List.length_drop]; omega)).symm
    conv => lhs; rw [h1, h2, h3, h4]
  have f0 : cs.toList.take 6 = ds.map B := by simpa using e0
  have f1 : (cs.toList.drop 6).take 6 = ss.map B := by simpa using e1
  have f2 : (cs.toList.drop 12).take 1 = [.int .u16 k] := by simpa using e2
  have f3 : (cs.toList.drop 13).take 1 = [.slice A l.length c] := by simpa using e3
  rw [f0, f1, f2, f3] at e
  congr 1
  unfold frc
  rw [← Array.toArray_toList (xs := cs), e]
  rfl
end Go.Proofs.Ytdmmfffoikelgaa
