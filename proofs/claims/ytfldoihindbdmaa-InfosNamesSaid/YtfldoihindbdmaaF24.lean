/- InfosNames, plain. -/
import Derived.Test.YtfldoihindbdmaaF23
namespace Go.Proofs.Ytfldoihindbdmaa
open Go.RowKit
set_option maxRecDepth 100000
def nmk (x : UInt8) : Nat := x.toNat % 63 + 1
def alph (n : Nat) : List UInt8 := (List.range n).map fun k => UInt8.ofNat (97 + k % 26)
def ent (x : UInt8) : List UInt8 := UInt8.ofNat (nmk x) :: (alph (nmk x) ++ [2, 99, 111, 0])
def wnt (x : UInt8) : List UInt8 := alph (nmk x) ++ [46, 99, 111]
def ents (l : List UInt8) : List UInt8 := l.flatMap ent
theorem nmk_lt (x : UInt8) : 1 ≤ nmk x ∧ nmk x ≤ 63 := by unfold nmk; omega
theorem nmk_nat (x : UInt8) : (UInt8.ofNat (nmk x)).toNat = nmk x := by
  have := nmk_lt x
  rw [UInt8.toNat_ofNat']; omega
theorem alph_len (n : Nat) : (alph n).length = n := by simp [alph]
theorem alph_succ (n : Nat) : alph (n + 1) = alph n ++ [UInt8.ofNat (97 + n % 26)] := by simp [alph, List.range_succ]
theorem ent_len (x : UInt8) : (ent x).length = nmk x + 5 := by simp [ent, alph_len]
theorem ents_snoc (l : List UInt8) (x : UInt8) : ents (l ++ [x]) = ents l ++ ent x := by simp [ents]
theorem ents_len : ∀ l : List UInt8, (ents l).length ≤ 68 * l.length
  | [] => Nat.le_refl _
  | x :: l => by
    have h1 := ents_len l
    have h2 := nmk_lt x
    show (ent x ++ ents l).length ≤ _
    rw [List.length_append, ent_len, List.length_cons]
    omega
theorem labs_co (r : List UInt8) : labs (2 :: 99 :: 111 :: 0 :: r) = some ([[99, 111]], r) := by
  rw [labs_more (by decide) (by simp only [List.length_cons]; show 2 ≤ _; omega) (by decide)]
  show (labs (0 :: r)).map _ = _
  rw [labs_end (by decide)]
  rfl
theorem labs_ent (x : UInt8) (r : List UInt8) : labs (ent x ++ r) = some ([alph (nmk x), [99, 111]], r) := by
  have h := nmk_lt x
  have e : ent x ++ r = UInt8.ofNat (nmk x) :: (alph (nmk x) ++ (2 :: 99 :: 111 :: 0 :: r)) := by simp [ent]
  have hl := alph_len (nmk x)
  rw [e, labs_more (by rw [nmk_nat]; omega) (by rw [nmk_nat, List.length_append]; omega) (by rw [nmk_nat]; omega), nmk_nat, List.drop_left' hl, List.take_left' hl, labs_co]
  rfl
theorem jn_ent (x : UInt8) : jn [alph (nmk x), [99, 111]] = wnt x := by
  rw [show [alph (nmk x), ([99, 111] : List UInt8)] = [alph (nmk x)] ++ [[99, 111]] from rfl, jn_snoc (by simp), jn_one]
  simp [wnt]
theorem wnt_len (x : UInt8) : (wnt x).length = nmk x + 3 := by simp [wnt, alph_len]
theorem nms_ent (x : UInt8) (r : List UInt8) : nms (ent x ++ r) = wnt x :: nms r := by
  have h := nmk_lt x
  have hl := wnt_len x
  rw [nms_some (labs_ent x r), jn_ent, if_neg]
  rintro (h1 | h1)
  · rw [h1] at hl; simp at hl
  · omega
theorem nms_ents : ∀ (l : List UInt8) (r : List UInt8), nms (ents l ++ r) = l.map wnt ++ nms r
  | [], r => rfl
  | x :: l, r => by
    show nms ((ent x ++ ents l) ++ r) = _
    rw [List.append_assoc, nms_ent, nms_ents l r]
    rfl
theorem nms_all (l : List UInt8) : nms (ents l) = l.map wnt := by
  have := nms_ents l []
  rw [List.append_nil, nms_nil, List.append_nil] at this
  exact this
theorem labs_part (x : UInt8) : labs (UInt8.ofNat (nmk x) :: (alph (nmk x) ++ [2, 99, 111])) = none := by
  have h := nmk_lt x
  have hl := alph_len (nmk x)
  rw [labs_more (by rw [nmk_nat]; omega) (by rw [nmk_nat, List.length_append]; omega) (by rw [nmk_nat]; omega), nmk_nat, List.drop_left' hl, labs_more (by decide) (by decide) (by decide)]
  show Option.map _ (Option.map _ (labs [])) = _
  rw [labs_nil]
  rfl
theorem ent_part (x : UInt8) : (ent x).take (nmk x + 4) = UInt8.ofNat (nmk x) :: (alph (nmk x) ++ [2, 99, 111]) := by
  have hl := alph_len (nmk x)
  unfold ent
  rw [show nmk x + 4 = (nmk x + 3) + 1 by omega, List.take_succ_cons, List.take_append, hl, List.take_of_length_le (by omega), show nmk x + 3 - nmk x = 3 by omega]
  rfl
theorem nms_cut (l : List UInt8) (x : UInt8) : nms ((ents (l ++ [x])).take ((ents (l ++ [x])).length - 1)) = l.map wnt := by
  rw [ents_snoc, List.length_append, ent_len, show (ents l).length + (nmk x + 5) - 1 = (ents l).length + (nmk x + 4) by omega, List.take_append, List.take_of_length_le (by omega), show (ents l).length + (nmk x + 4) - (ents l).length = nmk x + 4 by omega, ent_part, nms_ents, nms_none (labs_part x), List.append_nil]
/-- The reply's options. -/
def nmB (b : List UInt8) : List UInt8 := [0, 2, 0, 0, 0, 24, UInt8.ofNat (b.length / 256), UInt8.ofNat b.length] ++ b
theorem nmOpts (b : List UInt8) (h : b.length < 65536) : Opts (nmB b) [(2, []), (24, b)] := by
  have hv : val [UInt8.ofNat (b.length / 256), UInt8.ofNat b.length] = b.length := by
    simp [val]
    omega
  refine .cons (nmB b) 0 _ (by simp [nmB]) rfl (by simp [nmB]) ?_
  have e := Opts.cons ([0, 24, UInt8.ofNat (b.length / 256), UInt8.ofNat b.length] ++ b) b.length [] (by simp) hv (by simp <;> omega) (by
    rw [List.drop_of_length_le (by simp <;> omega)]
    exact .nil)
  have e2 : ((([0, 24, UInt8.ofNat (b.length / 256), UInt8.ofNat b.length] : List UInt8) ++ b).drop 4).take b.length = b := by simp
  rw [e2] at e
  exact e
end Go.Proofs.Ytfldoihindbdmaa
