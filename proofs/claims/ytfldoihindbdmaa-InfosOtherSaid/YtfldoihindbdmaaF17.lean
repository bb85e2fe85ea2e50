/- InfosOther, plain. -/
import Derived.Test.YtfldoihindbdmaaF16
namespace Go.Proofs.Ytfldoihindbdmaa
open Go.RowKit
set_option maxRecDepth 100000
def oc (id nx tm since wait : Nat) (asks fresh : Bool) : Cl := ⟨9, 0, 0, 0, 0, 0, asks, fresh, nx, tm, id, since, wait⟩
theorem oc_start (word : Nat) : (newCl 9 0 0 0 0 0).start 0 [word] = oc (word / 256) 0 0 0 0 true false := by
  have hn : addT (max 0 0) (belT 0 1000) = 0 := by decide
  show (⟨9, 0, 0, 0, 0, 0, true, false, addT (max 0 0) (belT 0 1000), max 0 0, word / 256, 0, 0⟩ : Cl) = _
  rw [hn]; rfl
theorem oc_ask1 (id : Nat) : (oc id 0 0 0 0 true false).ask2 0 = oc id 900 0 0 900 true false := by
  have h1 : laterT 0 ((belT 0 201 : Nat) - 100) = 900 := by decide
  have h2 : addT (max 0 0) (laterT 0 ((belT 0 201 : Nat) - 100)) = 900 := by decide
  show (⟨9, 0, 0, 0, 0, 0, true, false, addT (max 0 0) (laterT 0 ((belT 0 201 : Nat) - 100)), max 0 0, id, max 0 0, laterT 0 ((belT 0 201 : Nat) - 100)⟩ : Cl) = _
  rw [h2, h1]; rfl
theorem oc_ask2 (id : Nat) : (oc id 900 0 0 900 true false).ask2 0 = oc id 2610 900 0 1710 true false := by
  have h1 : laterT 900 ((belT 0 201 : Nat) - 100) = 1710 := by decide
  have h2 : addT (max 0 900) (laterT 900 ((belT 0 201 : Nat) - 100)) = 2610 := by decide
  show (⟨9, 0, 0, 0, 0, 0, true, false, addT (max 0 900) (laterT 900 ((belT 0 201 : Nat) - 100)), max 0 900, id, 0, laterT 900 ((belT 0 201 : Nat) - 100)⟩ : Cl) = _
  rw [h2, h1]; rfl
theorem oc_due {id nx tm since wait : Nat} {asks fresh : Bool} (h : (asks || fresh) = true) : (oc id nx tm since wait asks fresh).due = nx := by
  unfold Cl.due
  rw [if_pos (show ((oc id nx tm since wait asks fresh).asks || (oc id nx tm since wait asks fresh).fresh) = true from h)]
  rfl
theorem oc_run (id : Nat) : ∃ os, Run 1000 (oc id 0 0 0 0 true false) [] (oc id 2610 900 0 1710 true false) [] os ∧ os.length = 2 := by
  have h3 : Run 1000 (oc id 2610 900 0 1710 true false) [] (oc id 2610 900 0 1710 true false) [] [] := .done _ _ (.inr (by show 1000 < 2610; decide))
  have h2 : Run 1000 (oc id 900 0 0 900 true false) [] (oc id 2610 900 0 1710 true false) [] [reqB (oc id 900 0 0 900 true false).ask1 (oc id 900 0 0 900 true false).ask1.tm] :=
    .ask _ _ _ _ _ (by rw [oc_due rfl]; decide) (by show 900 ≤ 1000; decide) rfl (Nat.le_refl _) (by show Run 1000 ((oc id 900 0 0 900 true false).ask2 0) [] _ [] []; rw [oc_ask2]; exact h3)
  have h1 : Run 1000 (oc id 0 0 0 0 true false) [] (oc id 2610 900 0 1710 true false) [] [reqB (oc id 0 0 0 0 true false).ask1 (oc id 0 0 0 0 true false).ask1.tm, reqB (oc id 900 0 0 900 true false).ask1 (oc id 900 0 0 900 true false).ask1.tm] :=
    .ask _ _ _ _ _ (by rw [oc_due rfl]; decide) (Nat.zero_le _) rfl (Nat.le_refl _) (by show Run 1000 ((oc id 0 0 0 0 true false).ask2 0) [] _ [] _; rw [oc_ask1]; exact h2)
  exact ⟨_, h1, rfl⟩
/-- A refresh that is due: it starts, and asks. -/
theorem oc_again (id nx tm : Nat) (htm : tm ≤ nx) (hnx : nx + 900 ≤ far) :
    ∃ d os, Run nx (oc id nx tm 0 1710 false true) [] d [] os ∧ os.length = 1 ∧ (d.goes nx).asks = true := by
  have hb : belT 0 1000 = 0 := by decide
  have hl : laterT 0 ((belT 0 201 : Nat) - 100) = 900 := by decide
  have hs : ((oc id nx tm 0 1710 false true).goes nx).start (max tm nx) [] = oc 0 nx nx 0 0 true false := by
    have h1 : max tm nx = nx := by omega
    have h2 : addT nx (belT 0 1000) = nx := by rw [hb, addT_eq (by omega)]; omega
    have h3 : max nx nx = nx := by omega
    show (⟨9, 0, 0, 0, 0, 0, true, false, addT (max (max tm nx) (max tm nx)) (belT 0 1000), max (max tm nx) (max tm nx), 0 / 256, 0, 0⟩ : Cl) = _
    rw [h1, h3, h2]; rfl
  have ha : (oc 0 nx nx 0 0 true false).ask2 0 = oc 0 (nx + 900) nx nx 900 true false := by
    have h3 : max nx nx = nx := by omega
    show (⟨9, 0, 0, 0, 0, 0, true, false, addT (max nx nx) (laterT 0 ((belT 0 201 : Nat) - 100)), max nx nx, 0, max nx nx, laterT 0 ((belT 0 201 : Nat) - 100)⟩ : Cl) = _
    rw [h3, hl, addT_eq (by omega)]; rfl
  refine ⟨oc 0 (nx + 900) nx nx 900 true false, [reqB (oc 0 nx nx 0 0 true false).ask1 (oc 0 nx nx 0 0 true false).ask1.tm], .again _ _ _ _ _ ?_ (Nat.le_refl _) rfl rfl ?_, rfl, rfl⟩
  · rw [oc_due rfl]; omega
  · show Run nx (((oc id nx tm 0 1710 false true).goes nx).start (max tm nx) []) [] _ _ _
    rw [hs]
    refine .ask _ _ _ _ _ ?_ (Nat.le_refl _) rfl (Nat.zero_le _) ?_
    · rw [oc_due rfl]; omega
    · show Run nx ((oc 0 nx nx 0 0 true false).ask2 0) [] _ _ _
      rw [ha]
      exact .done _ _ (.inr (by show nx < nx + 900; omega))
theorem nb3_inj {i j : Nat} (hi : i < 16777216) (hj : j < 16777216) (h : nb 3 i = nb 3 j) : i = j := by
  rw [nb3, nb3] at h
  have h1 := u8three i hi
  have h2 := u8three j hj
  simp only [List.cons.injEq, and_true] at h
  rw [h.1, h.2.1, h.2.2] at h1
  omega
theorem other_prefix {c : Cl} {i : Nat} {l : List UInt8} (hc : c.id < 16777216) (hi : i < 16777216) (hne : i ≠ c.id) : (headB c).isPrefixOf (repB i l) = false := by
  cases h : (headB c).isPrefixOf (repB i l) with
  | false => rfl
  | true =>
    exfalso
    obtain ⟨t, ht⟩ := List.isPrefixOf_iff_prefix.1 h
    have e1 : (repB i l).take 4 = [7] ++ nb 3 i := List.take_left' (by simp [nb_length])
    have e2 : (repB i l).take 4 = headB c := by rw [← ht]; exact List.take_left' (headB_len c)
    rw [e1] at e2
    unfold headB at e2
    have e3 : nb 3 i = nb 3 c.id := List.append_cancel_left e2
    exact hne (nb3_inj hi hc e3)
theorem kind_prefix {c : Cl} {L : List UInt8} : (headB c).isPrefixOf (2 :: L) = false := by
  unfold headB
  rfl
def srv : List UInt8 := [0, 2, 0, 1, 5]
def rfB (y1 y2 y3 y4 : UInt8) : List UInt8 := srv ++ [0, 32, 0, 4, y1, y2, y3, y4]
def rfO (y1 y2 y3 y4 : UInt8) : List (Nat × List UInt8) := [(2, [5]), (32, [y1, y2, y3, y4])]
theorem rfOpts (y1 y2 y3 y4 : UInt8) : Opts (rfB y1 y2 y3 y4) (rfO y1 y2 y3 y4) :=
  .cons (rfB y1 y2 y3 y4) 1 _ (by simp [rfB, srv]) rfl (by simp [rfB, srv]) (.cons [0, 32, 0, 4, y1, y2, y3, y4] 4 _ (by simp) rfl (by simp) .nil)
theorem u8four (d : Nat) (h : d < 4294967296) : val [UInt8.ofNat (d / 16777216), UInt8.ofNat (d / 65536), UInt8.ofNat (d / 256), UInt8.ofNat d] = d := by
  simp only [val, List.foldl, UInt8.toNat_ofNat']
  omega
theorem rf_frsh (d : Nat) (h : d < 4294967296) : frsh ((rfO (UInt8.ofNat (d / 16777216)) (UInt8.ofNat (d / 65536)) (UInt8.ofNat (d / 256)) (UInt8.ofNat d)).lookup 32) = max 600 d := by
  have e := u8four d h
  show (if 4 = 4 then max 600 (val [_, _, _, _]) else 86400) = _
  rw [if_pos rfl, e]
end Go.Proofs.Ytfldoihindbdmaa
