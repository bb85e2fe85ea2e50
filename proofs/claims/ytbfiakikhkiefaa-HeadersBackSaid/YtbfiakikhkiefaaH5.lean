/- Headers: chains of headers. -/
import Derived.Test.YtbfiakikhkiefaaH4
namespace Go.Proofs.Ytbfiakikhkiefaa
open Go.RowKit
set_option maxRecDepth 100000
set_option maxHeartbeats 2000000
def fragC (fi : Bool) (fid fo : Nat) (fm : Bool) : Array Value := #[.bool fi, .int .u32 (fid : Int), .int .u16 (fo : Int), .bool fm]
def faultC (code p : Nat) : Array Value := #[.int .u8 (code : Int), .int .u32 (p : Int)]
theorem Gots.of_own {w : World} {base c : Nat} {A : Option Addr} {l : List UInt8} (h : w.ownsRow base 5 1 (.slice A l.length c) l.length (l.map B)) : Gots l base A w := by
  have hr := Rd.of_own h rfl
  obtain ⟨A', c', e, hrd, hN, _⟩ := hr
  cases e
  refine ⟨hrd, fun h0 => ?_, ?_, fun h => ⟨(hN h).1, by rw [(hN h).1]; rfl⟩⟩
  · obtain ⟨b, o, cur, e1, e2, e3⟩ := (Room.of_own h).1 (by have := (Room.of_own h).2.1; omega)
    exact ⟨b, o, cur, e1, e2, by have := (Room.of_own h).2.1; omega⟩
  rintro b j ⟨o, e, _, h0⟩
  obtain ⟨_, ⟨h1, h2⟩ | ⟨g, cap, cur, h1, hg, _⟩⟩ := h
  · omega
  · cases h1
    cases e
    exact hg
def lenAt (w : World) (x : Nat) : Nat := match w.cell? ⟨x, 1, none⟩ with
  | some (.slice _ n _) => n
  | _ => 0
theorem lenAt_WB {w : World} {n x : Nat} {s : Wk} {AA : Option Addr} {cc : Nat} (h : WB w n x s AA cc) : lenAt w x = s.b.length := by
  unfold lenAt
  rw [h.cell 1]
  rfl
/-- What a chain tells, in a program's values. -/
def tlV (R : Tl) (A : Option Addr) (c : Nat) : Value := .tuple #[B R.last, .slice A R.rest.length c, .bool R.al, .agg (fragC R.fi R.fid R.fo R.fm), .agg (faultC R.code R.fat), .int .i64 (R.e : Int)]
def wk0 (nx : UInt8) (b : List UInt8) (p told : Nat) (fs mc al : Bool) : Wk := ⟨nx, b, p, told, fs, mc, al, false, 0, 0, false, 0, 0⟩
/-- What comes of a step: the chain goes on, or is wrong. -/
def Stepped (R : Tl) (mc : Bool) (s : Wk) (E : Nat) (S : Wk) : Prop :=
  (E = 0 → ∃ nx2 b2 p2 al2, S = wk0 nx2 b2 p2 s.p false mc al2 ∧ b2.length < s.b.length ∧ p2 + b2.length = s.p + s.b.length ∧ R = chain mc nx2 b2 p2 s.p false al2) ∧
  (E ≠ 0 → E < 256 ∧ R = ⟨0, [], S.al && E == 7, false, 0, 0, false, S.code, S.fat, E⟩ ∧ S.code < 256 ∧ S.fat < 4294967296)
theorem stepped_end (R : Tl) (mc : Bool) (nx : UInt8) (b : List UInt8) (p told : Nat) (fs al fs' : Bool) (hnx : nx = 0 ∨ nx = 60) (hfs : nx = 0 → fs' = true) (hR : R = chain mc nx b p told fs' al) :
    Stepped R mc (wk0 nx b p told fs mc al) (wk0 nx b p told fs mc al).endE (wk0 nx b p told fs mc al).endS := by
  rw [chain_eq, if_pos hnx, if_neg (fun h => by rw [hfs h.1] at h; cases h.2)] at hR
  have hz := hsz_ge b
  unfold Wk.endE Wk.endS shortB
  simp only [wk0]
  by_cases hs : b.length < 2 ∨ b.length < hsz b
  · rw [if_pos hs] at hR
    simp only [hs, decide_true, if_true]
    refine ⟨fun h => absurd h (by decide), fun _ => ⟨by decide, ?_⟩⟩
    rw [hR]
    exact ⟨by simp [tlE], by simp, by simp⟩
  · rw [if_neg hs] at hR
    simp only [hs, decide_false, Bool.false_eq_true, if_false]
    obtain ⟨r, hr⟩ : ∃ r, r = opr nx b mc := ⟨_, rfl⟩
    have hok := opt_ok (b.take (hsz b)) (nx == 0) mc (b.take (hsz b)).length 2 false (by omega)
    rw [show optS (b.take (hsz b)) (nx == 0) mc (b.take (hsz b)).length 2 false = r from hr.symm] at hok
    rw [← hr] at hR ⊢
    obtain ⟨r1, r2, r3⟩ := r
    simp only at hR hok ⊢
    unfold Wk.opts Wk.pass
    rcases hok with rfl | rfl | rfl | rfl
    · rw [if_pos rfl] at hR
      exact ⟨fun _ => ⟨_, _, _, _, rfl, by simp only [List.length_drop]; omega, by simp only [List.length_drop]; omega, hR⟩, fun h => absurd rfl h⟩
    · rw [if_neg (by decide), if_neg (by decide)] at hR
      exact ⟨fun h => absurd h (by decide), fun _ => ⟨by decide, by rw [hR]; simp [tlE], by simp, by simp⟩⟩
    · rw [if_neg (by decide), if_pos rfl] at hR
      exact ⟨fun h => absurd h (by decide), fun _ => ⟨by decide, by rw [hR]; simp [tlF], by simp, by simp; omega⟩⟩
    · rw [if_neg (by decide), if_neg (by decide)] at hR
      exact ⟨fun h => absurd h (by decide), fun _ => ⟨by decide, by rw [hR]; simp [tlE], by simp, by simp⟩⟩
theorem stepped_each (R : Tl) (mc : Bool) (b : List UInt8) (p told : Nat) (fs al : Bool) (hR : R = chain mc 0 b p told (fs && p == 40) al) :
    Stepped R mc (wk0 0 b p told fs mc al) (wk0 0 b p told fs mc al).eachE (wk0 0 b p told fs mc al).eachS := by
  unfold Wk.eachE Wk.eachS
  have e1 : (wk0 0 b p told fs mc al).fs = fs := rfl
  have e2 : (wk0 0 b p told fs mc al).p = p := rfl
  rw [e1, e2]
  cases hf : (fs && p == 40) with
  | true =>
    rw [hf] at hR
    exact stepped_end R mc 0 b p told fs al true (.inl rfl) (fun _ => rfl) hR
  | false =>
    rw [hf, chain_eq, if_pos (.inl rfl), if_pos ⟨rfl, rfl⟩] at hR
    simp only [Bool.false_eq_true, if_false]
    exact ⟨fun h => absurd h (by decide), fun _ => ⟨by decide, by rw [hR]; simp [tlF, Wk.fault, wk0], by simp [Wk.fault], by simp [Wk.fault]; omega⟩⟩
theorem stepped_route (R : Tl) (mc : Bool) (b : List UInt8) (p told : Nat) (fs al fs' : Bool) (hR : R = chain mc 43 b p told fs' al) :
    Stepped R mc (wk0 43 b p told fs mc al) (wk0 43 b p told fs mc al).routeE (wk0 43 b p told fs mc al).routeS := by
  rw [chain_eq, if_neg (by decide), if_pos rfl] at hR
  have hz := hsz_ge b
  unfold Wk.routeE Wk.routeS shortB
  simp only [wk0]
  by_cases hs : b.length < 4 ∨ b.length < hsz b
  · rw [if_pos hs] at hR
    simp only [hs, decide_true, if_true]
    refine ⟨fun h => absurd h (by decide), fun _ => ⟨by decide, ?_⟩⟩
    rw [hR]
    exact ⟨by simp [tlE], by simp, by simp⟩
  · rw [if_neg hs] at hR
    simp only [hs, decide_false, Bool.false_eq_true, if_false]
    by_cases h3 : at8 b 3 = 0
    · rw [if_neg (fun h => h h3)] at hR
      simp only [h3, if_true]
      exact ⟨fun _ => ⟨_, _, _, _, rfl, by simp only [List.length_drop]; omega, by simp only [List.length_drop]; omega, hR⟩, fun h => absurd rfl h⟩
    · rw [if_pos h3] at hR
      simp only [h3, if_false]
      exact ⟨fun h => absurd h (by decide), fun _ => ⟨by decide, by rw [hR]; simp [tlF, Wk.fault], by simp [Wk.fault], by simp [Wk.fault]; omega⟩⟩
theorem stepped_part (R : Tl) (mc : Bool) (b : List UInt8) (p told : Nat) (fs al fs' : Bool) (h8 : 8 ≤ b.length) (hw : wholeB b = true) (hR : R = chain mc 44 b p told fs' al) :
    Stepped R mc (wk0 44 b p told fs mc al) 0 (wk0 44 b p told fs mc al).partS := by
  rw [chain_eq, if_neg (by decide), if_neg (by decide), if_pos rfl, if_neg (by omega)] at hR
  have hw' : wd b / 8 = 0 ∧ wd b % 2 = 0 := by
    unfold wholeB at hw
    simp at hw
    omega
  rw [if_pos hw'] at hR
  unfold Wk.partS
  simp only [wk0, hw, if_true]
  exact ⟨fun _ => ⟨_, _, _, _, rfl, by simp only [List.length_drop]; omega, by simp only [List.length_drop]; omega, hR⟩, fun h => absurd rfl h⟩
theorem part_last (R : Tl) (mc : Bool) (b : List UInt8) (p told : Nat) (al fs' : Bool) (h8 : 8 ≤ b.length) (hw : wholeB b = false) (hR : R = chain mc 44 b p told fs' al) :
    R = ⟨at8 b 0, b.drop 8, al, true, pid b, wd b / 8, wd b % 2 == 1, 0, 0, 0⟩ := by
  rw [chain_eq, if_neg (by decide), if_neg (by decide), if_pos rfl, if_neg (by omega)] at hR
  have hw' : ¬ (wd b / 8 = 0 ∧ wd b % 2 = 0) := fun h => by
    unfold wholeB at hw
    simp [h.1, h.2] at hw
  rw [if_neg hw'] at hR
  exact hR
end Go.Proofs.Ytbfiakikhkiefaa
