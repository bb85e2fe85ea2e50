/- Datagrams and their ends, opened. -/
import Derived.Test.YteeiihfbnkgcaaaL8
import Derived.Test.YteeiihfbnkgcaaaD0
namespace Go.Proofs.Yteeiihfbnkgcaaa
open Go.ChangeShapes Go.WideShapes Go.ChangeAt Go.RowKit Go.Deep
theorem open_datagram {H : Type} {enc : TypeId × Value → H} {w : World} {base b0 : Nat} {r : Reach} {held : Bool} {v : Value} {d : DataW H} {ps : List MemPlace}
    (hval : Value.okWide Try.prog w r b0 29 v) (hd : DataW.Trod enc Try.prog w base (fun _ => true) held 29 v d ps) :
    ∃ (f t : Nat) (A : Option Addr) (l : List UInt8) (c : Nat), v = .agg (dgc f t A l.length c) ∧ f < 65536 ∧ t < 65536 ∧ Rd w w.heap.size A l ∧ (A = none → l = [] ∧ c = 0) ∧ l.length ≤ c ∧ l.length < 2 ^ 63 := by
  obtain ⟨m, cs, rfl, p0, q0, y0, rfl, h0, p1, q1, y1, rfl, h1, p2, q2, y2, rfl, h2, rfl⟩ := open_parts Try.underlying29 (by kernel_rfl) hval hd
  obtain ⟨f, rfl, hf⟩ := part_u16 Try.underlying26 h0
  obtain ⟨t, rfl, ht⟩ := part_u16 Try.underlying26 h1
  obtain ⟨A, l, c, rfl, hR, hN, hC, hL⟩ := open_bsl_in Try.underlying27 Try.underlying5 (by kernel_rfl) h2
  exact ⟨f, t, A, l, c, rfl, hf, ht, hR, hN, hC, hL⟩
theorem open_ends {H : Type} {enc : TypeId × Value → H} {w : World} {base b0 : Nat} {r : Reach} {held : Bool} {v : Value} {d : DataW H} {ps : List MemPlace}
    (hval : Value.okWide Try.prog w r b0 25 v) (hd : DataW.Trod enc Try.prog w base (fun _ => true) held 25 v d ps) :
    ∃ src dst : List UInt8, v = av (src ++ dst) ∧ src.length = 16 ∧ dst.length = 16 := by
  obtain ⟨m, cs, rfl, p0, q0, y0, rfl, h0, p1, q1, y1, rfl, h1, rfl⟩ := open_parts Try.underlying25 (by kernel_rfl) hval hd
  obtain ⟨s, hs, rfl, _⟩ := open_bytes_in Try.underlying23 Try.underlying5 (by kernel_rfl) (by kernel_rfl) h0
  obtain ⟨e, he, rfl, _⟩ := open_bytes_in Try.underlying23 Try.underlying5 (by kernel_rfl) (by kernel_rfl) h1
  exact ⟨s, e, by simp [av], hs, he⟩
end Go.Proofs.Yteeiihfbnkgcaaa
