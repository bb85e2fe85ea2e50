/- Segments and their ends, opened. -/
import Derived.Test.YtojddfbbeiobpaaL8
import Derived.Test.YtojddfbbeiobpaaQ0
namespace Go.Proofs.Ytojddfbbeiobpaa
open Go.ChangeShapes Go.WideShapes Go.ChangeAt Go.RowKit Go.Deep
theorem open_segment {H : Type} {enc : TypeId × Value → H} {w : World} {base b0 : Nat} {r : Reach} {held : Bool} {v : Value} {d : DataW H} {ps : List MemPlace}
    (hval : Value.okWide Try.prog w r b0 30 v) (hd : DataW.Trod enc Try.prog w base (fun _ => true) held 30 v d ps) :
    ∃ (s : Sg) (A : Option Addr) (l : List UInt8) (c : Nat), v = .agg (sgc s A l.length c) ∧ s.Ok ∧ Rd w w.heap.size A l ∧ (A = none → l = [] ∧ c = 0) ∧ l.length ≤ c ∧ l.length < 2 ^ 63 := by
  obtain ⟨m, cs, rfl, p0, q0, y0, rfl, h0, p1, q1, y1, rfl, h1, p2, q2, y2, rfl, h2, p3, q3, y3, rfl, h3, p4, q4, y4, rfl, h4, p5, q5, y5, rfl, h5, p6, q6, y6, rfl, h6, p7, q7, y7, rfl, h7, rfl⟩ := open_parts Try.underlying30 (by kernel_rfl) hval hd
  obtain ⟨f, rfl, hf⟩ := part_u16 Try.underlying26 h0
  obtain ⟨t, rfl, ht⟩ := part_u16 Try.underlying26 h1
  obtain ⟨sq, rfl, hsq⟩ := part_u32 Try.underlying27 h2
  obtain ⟨ak, rfl, hak⟩ := part_u32 Try.underlying27 h3
  obtain ⟨fl, rfl⟩ := part_u8 Try.underlying5 h4
  obtain ⟨wi, rfl, hwi⟩ := part_u16 Try.underlying26 h5
  obtain ⟨ms, rfl, hms⟩ := part_u16 Try.underlying26 h6
  obtain ⟨A, l, c, rfl, hR, hN, hC, hL⟩ := open_bsl_in Try.underlying28 Try.underlying5 (by kernel_rfl) h7
  exact ⟨⟨f, t, sq, ak, fl, wi, ms⟩, A, l, c, rfl, ⟨hf, ht, hsq, hak, hwi, hms⟩, hR, hN, hC, hL⟩
theorem open_ends {H : Type} {enc : TypeId × Value → H} {w : World} {base b0 : Nat} {r : Reach} {held : Bool} {v : Value} {d : DataW H} {ps : List MemPlace}
    (hval : Value.okWide Try.prog w r b0 25 v) (hd : DataW.Trod enc Try.prog w base (fun _ => true) held 25 v d ps) :
    ∃ src dst : List UInt8, v = av (src ++ dst) ∧ src.length = 16 ∧ dst.length = 16 := by
  obtain ⟨m, cs, rfl, p0, q0, y0, rfl, h0, p1, q1, y1, rfl, h1, rfl⟩ := open_parts Try.underlying25 (by kernel_rfl) hval hd
  obtain ⟨s, hs, rfl, _⟩ := open_bytes_in Try.underlying23 Try.underlying5 (by kernel_rfl) (by kernel_rfl) h0
  obtain ⟨e, he, rfl, _⟩ := open_bytes_in Try.underlying23 Try.underlying5 (by kernel_rfl) (by kernel_rfl) h1
  exact ⟨s, e, by simp [av], hs, he⟩
theorem open_other {H : Type} {enc : TypeId × Value → H} {w : World} {base b0 : Nat} {r : Reach} {held : Bool} {v : Value} {d : DataW H} {ps : List MemPlace}
    (hval : Value.okWide Try.prog w r b0 50 v) (hd : DataW.Trod enc Try.prog w base (fun _ => true) held 50 v d ps) :
    ∃ (k l : UInt8) (m : Nat), v = .agg #[B k, B l, .int .u16 m] ∧ m < 65536 := by
  obtain ⟨m, cs, rfl, p0, q0, y0, rfl, h0, p1, q1, y1, rfl, h1, p2, q2, y2, rfl, h2, rfl⟩ := open_parts Try.underlying50 (by kernel_rfl) hval hd
  obtain ⟨k, rfl⟩ := part_u8 Try.underlying5 h0
  obtain ⟨l, rfl⟩ := part_u8 Try.underlying5 h1
  obtain ⟨t, rfl, ht⟩ := part_u16 Try.underlying26 h2
  exact ⟨k, l, t, rfl, ht⟩
end Go.Proofs.Ytojddfbbeiobpaa
