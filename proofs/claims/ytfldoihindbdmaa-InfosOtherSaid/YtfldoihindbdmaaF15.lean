/- InfosAgain, walked. -/
import Derived.Test.YtfldoihindbdmaaF14
import Derived.Deep.DeepCutAuto
namespace Go.Proofs.Ytfldoihindbdmaa
open Go.RowKit
set_option maxRecDepth 100000
set_option maxHeartbeats 2000000
theorem nb2 (k : Nat) : nb 2 k = [UInt8.ofNat (k / 256), UInt8.ofNat k] := by simp [nb, List.range_succ]
def elN (c : Cl) (t : Nat) : Nat := min ((t - c.since) / 10) 65535
theorem reqA_eq (c : Cl) (t : Nat) : reqA c t = [11, UInt8.ofNat (c.id / 65536), UInt8.ofNat (c.id / 256), UInt8.ofNat c.id, 0, 8, 0, 2, UInt8.ofNat (elN c t / 256), UInt8.ofNat (elN c t)] := by
  unfold reqA opB elB elN
  rw [nb_length, nb3, nb2 8, nb2 2, nb2 (min _ _)]
  rfl
theorem req_at (c : Cl) (t : Nat) : ∃ X, reqB c t = reqA c t ++ X := by
  unfold reqB reqM opB
  simp only [List.append_assoc]
  exact ⟨_, rfl⟩
theorem req_get (c : Cl) (t : Nat) (j : Nat) (hj : j < 10) (h : j < (reqB c t).length) : (reqB c t)[j] = (reqA c t)[j]'(by rw [(reqB_len c t).1]; exact hj) := by
  obtain ⟨X, hX⟩ := req_at c t
  have e : (reqB c t)[j]? = (reqA c t)[j]? := by
    rw [hX, List.getElem?_append_left (by rw [(reqB_len c t).1]; exact hj)]
  rw [List.getElem?_eq_getElem h, List.getElem?_eq_getElem (by rw [(reqB_len c t).1]; exact hj)] at e
  exact Option.some.inj e
/-- A client of InfosAgain ahead of its j-th request. -/
structure Ag (c : Cl) (j : Nat) (last idv : Int) : Prop where
  asks : c.asks = true
  fresh : c.fresh = false
  tn : c.tm ≤ c.next
  far' : c.next ≤ 1000 + 3960000 * j
  st : c.since ≤ c.tm
  first : j = 0 → c.wait = 0 ∧ last = -1 ∧ idv = -1
  later : 0 < j → 0 < c.wait ∧ last = (elN c c.tm : Int) ∧ idv = (c.id : Int)
theorem Ag.due {c : Cl} {j : Nat} {last idv : Int} (h : Ag c j last idv) : c.due = c.next := by unfold Cl.due; rw [h.asks]; rfl
theorem elN_mono (c : Cl) {s t : Nat} (h : s ≤ t) : elN c s ≤ elN c t := by unfold elN; omega
/-- What one request does. -/
theorem Ag.step {c : Cl} {j : Nat} {last idv : Int} (h : Ag c j last idv) (hj : j < 41) {a : Nat} (ha : a < 4294967296) (l : List Nat) (hl : l.headD 0 = a) :
    Run (max c.next c.tm) c l (c.ask2 a) l.tail [reqB c.ask1 c.ask1.tm] ∧ Ag ((c.ask2 a).goes (max c.next c.tm)) (j + 1) (elN c.ask1 c.ask1.tm : Int) (c.id : Int) ∧ c.next < ((c.ask2 a).goes (max c.next c.tm)).next ∧ ((c.ask2 a).goes (max c.next c.tm)).next ≤ c.next + 3960000 ∧
      last ≤ (elN c.ask1 c.ask1.tm : Int) ∧ (j = 0 → elN c.ask1 c.ask1.tm = 0) ∧ (0 < j → idv = (c.id : Int)) := by
  have h1 := h.tn; have h2 := h.far'; have h3 := h.st
  have hT : c.ask1.tm = c.next := by show max c.tm c.next = c.next; omega
  have hlt := Cl.lat_pos c.ask1 ha
  have hn : (c.ask2 a).next = c.next + c.ask1.lat a := by
    show addT c.ask1.tm (c.ask1.lat a) = _
    rw [hT, addT_eq (by unfold far; omega)]
  have hfar : c.next ≠ far := by unfold far; omega
  have hmx : max c.next c.tm = c.next := by omega
  have hsi : c.ask1.since ≤ c.next := by show (if c.wait = 0 then max c.tm c.next else c.since) ≤ c.next; split <;> omega
  have hg : ((c.ask2 a).goes (max c.next c.tm)).tm = c.next := by
    show max c.ask1.tm (max c.next c.tm) = c.next
    rw [hT]; omega
  refine ⟨?_, ⟨h.asks, h.fresh, ?_, ?_, ?_, fun e => by omega, fun _ => ⟨hlt.1, ?_, rfl⟩⟩, ?_, ?_, ?_, ?_, fun hj0 => (h.later hj0).2.2⟩
  · refine .ask _ _ _ _ _ (by rw [h.due]; exact hfar) (by omega) h.fresh h3 ?_
    rw [hl]
    exact .done _ _ (.inr (by rw [hn, hmx]; omega))
  · rw [hg]; show c.next ≤ (c.ask2 a).next; rw [hn]; omega
  · show (c.ask2 a).next ≤ _; rw [hn]; omega
  · rw [hg]; exact hsi
  · rw [hg, hT]; rfl
  · show c.next < (c.ask2 a).next; rw [hn]; omega
  · show (c.ask2 a).next ≤ _; rw [hn]; omega
  · rcases Nat.eq_zero_or_pos j with h0 | h0
    · rw [(h.first h0).2.1]; omega
    · obtain ⟨w1, w2, _⟩ := h.later h0
      rw [w2, hT]
      have e : elN c.ask1 c.next = elN c c.next := by
        unfold elN
        have : c.ask1.since = c.since := by show (if c.wait = 0 then _ else c.since) = c.since; rw [if_neg (by omega)]
        rw [this]
      rw [e]
      have := elN_mono c h1
      omega
  · intro h0
    obtain ⟨w1, _⟩ := h.first h0
    rw [hT]
    unfold elN
    have : c.ask1.since = c.next := by show (if c.wait = 0 then max c.tm c.next else c.since) = c.next; rw [if_pos w1]; omega
    rw [this]; omega
end Go.Proofs.Ytfldoihindbdmaa
