/- Infos: what is due, done by the document. -/
import Derived.Test.YtfldoihindbdmaaG3
namespace Go.Proofs.Ytfldoihindbdmaa
open Go.RowKit
set_option maxRecDepth 100000
set_option maxHeartbeats 2000000
theorem own_neG {w : World} {n1 n2 s1 s2 m1 m2 : Nat} {e1 e2 : TypeId} {v1 v2 : Value} {x1 x2 : List Value} (h1 : w.ownsRow n1 e1 s1 v1 m1 x1) (h2 : w.ownsRow n2 e2 s2 v2 m2 x2) (he : e1 ≠ e2) (k : Nat) (hk : v1.ownBlock = some k) : v2.ownBlock ≠ some k := fun hk2 => by
  rcases h1.2 with ⟨q, _⟩ | ⟨g, cap, cur, q, _, hb, _⟩
  · rw [q] at hk; cases hk
  · rw [q] at hk; cases hk
    rcases h2.2 with ⟨q2, _⟩ | ⟨g2, cap2, cur2, q2, _, hb2, _⟩
    · rw [q2] at hk2; cases hk2
    · rw [q2] at hk2; cases hk2
      rw [hb] at hb2
      cases hb2
      exact he rfl
theorem Tn.grownG {w w' : World} {v : Value} (hg : w.grownBy w' v.ownBlock) : Tn (fun k => v.ownBlock = some k) w w' := ⟨hg.os, hg.tape, hg.output, hg.size, fun k hk hn => hg.block k hk (fun e => hn e.symm)⟩
theorem RWd.grow {w w' : World} {m q n1 s1 m1 : Nat} {l : List Nat} {e1 : TypeId} {v1 : Value} {x1 : List Value} (h : RWd w m q l) (h1 : w.ownsRow n1 e1 s1 v1 m1 x1) (he : e1 ≠ 23) (hg : w.grownBy w' v1.ownBlock) (hq : v1.ownBlock ≠ some q) : RWd w' m q l := by
  obtain ⟨A, c, hb, ho, hc⟩ := h.row
  have t := Tn.grownG hg
  exact ⟨⟨A, c, t.keep (fun e => hq e) hb, own_turnS ho fun k hk => t.old k (ho.lt k hk).2 (fun e => own_neG h1 ho he k e hk), hc⟩, h.lt, h.u32, h.few, Nat.le_trans h.hm t.size⟩
/-- How much of it is left at most. -/
def rTick (now y : Nat) (w : World) : Nat :=
  match w.cell? ⟨y, 8, none⟩, w.cell? ⟨y, 7, none⟩ with
  | some (.int _ n), some (.bool f) => 2 * (now + 1 - n.toNat) + f.toNat
  | _, _ => 0
theorem rTick_eq {now y : Nat} {w : World} {c : Cl} (h : RClB w y c) : rTick now y w = 2 * (now + 1 - c.next) + c.fresh.toNat := by
  unfold rTick
  rw [bk_cell h.box, bk_cell h.box]
  rfl
/-- Numbers of the time that it waits. -/
theorem rlat_facts (W : Nat) (R : Int) (hW : W ≤ 3960000) (hr : -100 ≤ R ∧ R ≤ 100) :
    (wrap64 (1000 + ((1000 : Nat) * R : Int).tdiv 1000) = (partT 1000 R : Int)) ∧ (wrap64 (2 * (W : Int)) = 2 * (W : Int)) ∧ (wrap64 (2 * (W : Int) + ((W : Int) * R).tdiv 1000) = ((W + partT W R : Nat) : Int)) ∧ (wrap64 (3600000 + ((3600000 : Nat) * R : Int).tdiv 1000) = (partT 3600000 R : Int)) ∧ partT 1000 R ≤ 1100 ∧ W + partT W R ≤ 9000000 ∧ partT 3600000 R ≤ 3960000 := by
  have h1 := partT_eq 1000 R hr
  have h2 := partT_eq W R hr
  have h3 := partT_eq 3600000 R hr
  refine ⟨?_, by unfold wrap64; omega, ?_, ?_, by omega, by omega, by omega⟩
  · have e := h1.1
    rw [show ((1000 : Nat) : Int) = 1000 from rfl] at e ⊢
    rw [e]; unfold wrap64; omega
  · have e : 2 * (W : Int) + ((W : Int) * R).tdiv 1000 = ((W + partT W R : Nat) : Int) := by have := h2.1; omega
    rw [e]; unfold wrap64; omega
  · have e := h3.1
    rw [show ((3600000 : Nat) : Int) = 3600000 from rfl] at e ⊢
    rw [e]; unfold wrap64; omega
end Go.Proofs.Ytfldoihindbdmaa
