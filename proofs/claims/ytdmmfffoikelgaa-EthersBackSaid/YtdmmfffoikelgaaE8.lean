/- Frames got: both, for every input; EthersGet, walked. -/
import Derived.Test.YtdmmfffoikelgaaE7
import Derived.Test.YtdmmfffoikelgaaE3
import Derived.Test.YtdmmfffoikelgaaS18
namespace Go.Proofs.Ytdmmfffoikelgaa
open Go.RowKit
set_option maxRecDepth 100000
/-- Whether there is a frame; its parts. -/
def gB (l : List UInt8) : Bool := decide (14 ≤ l.length) && decide (l.length ≤ 1514)
def gE (l : List UInt8) : Int := if l.length < 14 then 5 else if 1514 < l.length then 3 else 0
def gD (l : List UInt8) : List UInt8 := if gB l then l.take 6 else List.replicate 6 0
def gS (l : List UInt8) : List UInt8 := if gB l then (l.drop 6).take 6 else List.replicate 6 0
def gK (l : List UInt8) : Nat := if gB l then val ((l.drop 12).take 2) else 0
def gR (l : List UInt8) : List UInt8 := if gB l then l.drop 14 else []
theorem gB_good {l : List UInt8} (h1 : 14 ≤ l.length) (h2 : l.length ≤ 1514) : gB l = true := by simp [gB, h1, h2]
theorem gB_short {l : List UInt8} (h : l.length < 14) : gB l = false := by simp [gB]; omega
theorem gB_limit {l : List UInt8} (h : 1514 < l.length) : gB l = false := by simp [gB]; omega
theorem gB_len {l : List UInt8} (h : gB l = true) : 14 ≤ l.length ∧ l.length ≤ 1514 := by simpa [gB] using h
theorem gD_len (l : List UInt8) : (gD l).length = 6 := by
  unfold gD; split
  · have := gB_len (by assumption); rw [List.length_take]; omega
  · rfl
theorem gS_len (l : List UInt8) : (gS l).length = 6 := by
  unfold gS; split
  · have := gB_len (by assumption); rw [List.length_take, List.length_drop]; omega
  · rfl
theorem gR_len (l : List UInt8) : (gR l).length ≤ 1500 := by
  unfold gR; split
  · have := gB_len (by assumption); rw [List.length_drop]; omega
  · simp
theorem gK_lt (l : List UInt8) : gK l < 65536 := by
  unfold gK; split
  · have := gB_len (by assumption)
    have := val_lt ((l.drop 12).take 2)
    rw [List.length_take, List.length_drop, show min 2 (l.length - 12) = 2 by omega] at this
    omega
  · omega
/-- What is got, whatever there is. -/
structure GotBody (l : List UInt8) (n : Nat) (A' : Option Addr) (w' : World) : Prop where
  rd : Rd w' w'.heap.size A' (gR l)
  room : Room w' A' (gR l).length 5
  lo : ∀ b j, rg A' 0 (gR l).length b j → n ≤ b
  nn : A' = none → gR l = [] ∧ (gR l).length = 0
theorem GotBody.nil {l : List UInt8} {n : Nat} {w' : World} (h : gB l = false) : GotBody l n none w' := by
  have e : gR l = [] := by simp [gR, h]
  exact ⟨by rw [e]; exact Rd.nil, fun h0 => by simp [e] at h0, fun b j ⟨o, e, _⟩ => (by cases e), fun _ => ⟨e, by simp [e]⟩⟩
theorem GotBody.below {l : List UInt8} {n : Nat} {A' : Option Addr} {w w' : World} (h : GotBody l n A' w) (hb : Below w.heap.size w w') : GotBody l n A' w' :=
  ⟨(h.rd.below hb (Nat.le_refl _)).mono hb.size, h.room.below hb, h.lo, h.nn⟩
theorem eget_any (A : Option Addr) (l : List UInt8) (c : Nat) (w : World) (h : Rd w w.heap.size A l) (hA : A = none → l = [] ∧ c = 0) :
    Calls Try.prog 19 #[.slice A l.length c] w fun e w' => ∃ A', e = .returned (.tuple #[.agg (frc (gD l) (gS l) (gK l) A' (gR l).length (gR l).length), .int .i64 (gE l)]) ∧ GotBody l w.heap.size A' w' ∧ Below w.heap.size w w' := by
  by_cases h1 : l.length < 14
  · refine (eget_short A l.length c w h1).mono ?_
    rintro e w' ⟨rfl, hb⟩
    have hg := gB_short h1
    exact ⟨none, by simp [gD, gS, gK, gR, gE, hg, h1, zfr], GotBody.nil hg, hb⟩
  by_cases h2 : 1514 < l.length
  · refine (eget_limit A l.length c w h2).mono ?_
    rintro e w' ⟨rfl, hb⟩
    have hg := gB_limit h2
    exact ⟨none, by simp [gD, gS, gK, gR, gE, hg, h1, h2, zfr], GotBody.nil hg, hb⟩
  · refine (eget_good A l c w h hA (by omega) (by omega)).mono ?_
    rintro e w' ⟨A', gb, rfl, hgb, hB, hA', hb⟩
    have hg := gB_good (l := l) (by omega) (by omega)
    have eR : gR l = l.drop 14 := by simp [gR, hg]
    have hgl : gb < w'.heap.size := by obtain ⟨cur, hc, _⟩ := hB (by omega); exact bk_lt hc
    refine ⟨A', by simp [gD, gS, gK, gR, gE, hg, h1, h2], ⟨?_, ?_, ?_, ?_⟩, hb⟩
    · rw [eR]
      intro h0
      rw [hA' h0] at *
      have := hB.rd (q := 14) (m := (l.drop 14).length) hgl
      rw [List.take_of_length_le (Nat.le_refl _)] at this
      exact this h0
    · rw [eR]
      intro h0
      obtain ⟨cur, hc, hl, _⟩ := hB (by omega)
      exact ⟨gb, 14, cur, hA' h0, hc, by rw [List.length_drop]; omega⟩
    · rw [eR]
      rintro b j ⟨o, e, _, h0⟩
      have hp : 0 < (l.drop 14).length := by omega
      rw [hA' hp] at e
      cases e
      exact hgb
    · rintro rfl
      rw [eR]
      rcases Nat.eq_zero_or_pos (l.drop 14).length with h0 | h0
      · exact ⟨List.eq_nil_of_length_eq_zero h0, h0⟩
      · cases hA' h0
theorem rfget_any (A : Option Addr) (l : List UInt8) (c : Nat) (w : World) (h : Rd w w.heap.size A l) (hA : A = none → l = [] ∧ c = 0) (hc : l.length ≤ c) :
    Calls Try.prog 20 #[.slice A l.length c] w fun e w' => ∃ A' c', e = .returned (.tuple #[.agg (frc (gD l) (gS l) (gK l) A' (gR l).length c'), .int .i64 (gE l)]) ∧ Rd w' w'.heap.size A' (gR l) ∧ Below w.heap.size w w' := by
  by_cases h1 : l.length < 14
  · refine (rfget_short A l.length c w h1).mono ?_
    rintro e w' ⟨rfl, hb⟩
    have hg := gB_short h1
    exact ⟨none, 0, by simp [gD, gS, gK, gR, gE, hg, h1, zfr], (GotBody.nil (n := 0) hg).rd, hb⟩
  by_cases h2 : 1514 < l.length
  · refine (rfget_limit A l.length c w h2).mono ?_
    rintro e w' ⟨rfl, hb⟩
    have hg := gB_limit h2
    exact ⟨none, 0, by simp [gD, gS, gK, gR, gE, hg, h1, h2, zfr], (GotBody.nil (n := 0) hg).rd, hb⟩
  · refine (rfget_good A l c w h hA hc (by omega) (by omega)).mono ?_
    rintro e w' ⟨A', c', rfl, hR, hb⟩
    have hg := gB_good (l := l) (by omega) (by omega)
    exact ⟨A', c', by simp [gD, gS, gK, gR, gE, hg, h1, h2], by simpa [gR, hg] using hR, hb⟩
end Go.Proofs.Ytdmmfffoikelgaa
