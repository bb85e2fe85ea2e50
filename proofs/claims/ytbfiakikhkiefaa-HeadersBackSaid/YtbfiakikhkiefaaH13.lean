/- Packets and places that came in, opened. -/
import Derived.Test.YtbfiakikhkiefaaMgA
import Derived.Test.YtbfiakikhkiefaaH7
namespace Go.Proofs.Ytbfiakikhkiefaa
open Go.ChangeShapes Go.WideShapes Go.ChangeAt Go.RowKit Go.Deep
theorem open_packet {H : Type} {enc : TypeId × Value → H} {w : World} {base b0 : Nat} {r : Reach} {held : Bool} {v : Value} {d : DataW H} {ps : List MemPlace}
    (hval : Value.okWide Try.prog w r b0 30 v) (hd : DataW.Trod enc Try.prog w base (fun _ => true) held 30 v d ps) :
    ∃ (p : Pk) (A : Option Addr) (l : List UInt8) (c : Nat), v = .agg (pkC p A l.length c) ∧ Rd w w.heap.size A l ∧ (A = none → l = [] ∧ c = 0) ∧ l.length ≤ c ∧ l.length < 2 ^ 63 := by
  obtain ⟨m, cs, rfl, p0, q0, y0, rfl, h0, p1, q1, y1, rfl, h1, p2, q2, y2, rfl, h2, p3, q3, y3, rfl, h3, p4, q4, y4, rfl, h4, p5, q5, y5, rfl, h5, p6, q6, y6, rfl, h6, rfl⟩ := open_parts Try.underlying30 (by kernel_rfl) hval hd
  obtain ⟨s, hs, rfl, _⟩ := open_bytes_in Try.underlying23 Try.underlying5 (by kernel_rfl) (by kernel_rfl) h0
  obtain ⟨e, he, rfl, _⟩ := open_bytes_in Try.underlying23 Try.underlying5 (by kernel_rfl) (by kernel_rfl) h1
  obtain ⟨hp, rfl⟩ := part_u8 Try.underlying5 h2
  obtain ⟨al, rfl, _⟩ := DataW.trod_bool Try.underlying4 h3
  obtain ⟨m4, p40, q40, y40, rfl, h40, p41, q41, y41, rfl, h41, p42, q42, y42, rfl, h42, p43, q43, y43, rfl, h43, rfl⟩ := parts_in Try.underlying27 (by kernel_rfl) h4
  obtain ⟨fi, rfl, _⟩ := DataW.trod_bool Try.underlying4 h40
  obtain ⟨fid, rfl, hfid⟩ := part_u32 Try.underlying24 h41
  obtain ⟨fo, rfl, hfo⟩ := part_u16 Try.underlying25 h42
  obtain ⟨fm, rfl, _⟩ := DataW.trod_bool Try.underlying4 h43
  obtain ⟨nx, rfl⟩ := part_u8 Try.underlying5 h5
  obtain ⟨A, l, c, rfl, hR, hN, hC, hL⟩ := open_bsl_in Try.underlying28 Try.underlying5 (by kernel_rfl) h6
  refine ⟨⟨s, e, hp, al, fi, fid, fo, fm, nx, hs, he, hfid, hfo⟩, A, l, c, ?_, hR, hN, hC, hL⟩
  unfold pkC
  simp
theorem open_place {H : Type} {enc : TypeId × Value → H} {w : World} {base b0 : Nat} {r : Reach} {held : Bool} {v : Value} {d : DataW H} {ps : List MemPlace}
    (hval : Value.okWide Try.prog w r b0 44 v) (hd : DataW.Trod enc Try.prog w base (fun _ => true) held 44 v d ps) :
    ∃ (nx : UInt8) (at' : Nat) (mc : Bool), v = .agg #[B nx, .int .u32 at', .bool mc] ∧ at' < 4294967296 := by
  obtain ⟨m, cs, rfl, p0, q0, y0, rfl, h0, p1, q1, y1, rfl, h1, p2, q2, y2, rfl, h2, rfl⟩ := open_parts Try.underlying44 (by kernel_rfl) hval hd
  obtain ⟨nx, rfl⟩ := part_u8 Try.underlying5 h0
  obtain ⟨n, rfl, hn⟩ := part_u32 Try.underlying24 h1
  obtain ⟨mc, rfl, _⟩ := DataW.trod_bool Try.underlying4 h2
  exact ⟨nx, n, mc, rfl, hn⟩
end Go.Proofs.Ytbfiakikhkiefaa
