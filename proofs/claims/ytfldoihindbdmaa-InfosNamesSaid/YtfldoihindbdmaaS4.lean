/- slices.Clone, slices.Clip of bytes. -/
import Derived.Test.YtfldoihindbdmaaS3
import Derived.WalkKit
import Derived.Lib.SliceRun
namespace Go.Proofs.Ytfldoihindbdmaa
open Go.RowKit
set_option maxRecDepth 100000
@[go_sem] theorem eqlNilB (w : World) (a : Option Addr) (n c : Nat) : (binOp .eql 22 (.slice a n c) (.slice none 0 0)).run Try.prog w = .ok (.bool a.isNone) w := Lib.run_eql_slice_nil w 22 5 a n c 0 0 Try.underlying22
theorem infoB : (Try.prog.info? 5).map (fun i => (i.zero, i.size, i.bytes)) = some (some (.int .u8 0), 1, 1) := by kernel_rfl
theorem Rd.news {w : World} {n : Nat} {ad : Addr} {l : List UInt8} (h : Rd w n (some ad) l) : ∀ j u, (l.map B)[j]? = some u → w.cell? (ad.add j) = some u := fun j u hu => by
  rw [List.getElem?_map] at hu
  have hj : j < l.length := by
    rcases Nat.lt_or_ge j l.length with h' | h'
    · exact h'
    · rw [List.getElem?_eq_none h'] at hu; cases hu
  obtain ⟨b, o, e, _, hc⟩ := h (by omega)
  cases e
  rw [List.getElem?_eq_getElem hj] at hu
  have hu' : B l[j] = u := Option.some.inj hu
  rw [← hu']
  have := hc j hj
  unfold Addr.add
  split
  · rename_i h0; subst h0; exact this
  · exact this
theorem B_one (l : List UInt8) : ∀ u ∈ l.map B, u.oneCell' = true := fun u hu => by
  obtain ⟨b, _, rfl⟩ := List.mem_map.1 hu
  rfl
theorem clone_nil (w : World) : Calls Try.prog 50 #[.slice none 0 0] w fun e w' => e = .returned (.slice none 0 0) ∧ Below w.heap.size w w' := by
  go_enter Try.func50, Try.ntmps50
  go_wp2
  go_ret
  exact ⟨rfl, Below.refl _ _⟩
theorem clone_any (ad : Addr) (l : List UInt8) (c : Nat) (w : World) (h : Rd w w.heap.size (some ad) l) (hl : l.length < 2 ^ 46) :
    Calls Try.prog 50 #[.slice (some ad) l.length c] w fun e w' => ∃ v, e = .returned v ∧ w'.ownsRow w.heap.size 5 1 v l.length (l.map B) ∧ v ≠ .slice none 0 0 ∧ Below w.heap.size w w' := by
  obtain ⟨i0, hi, hz0, hz1, hz2⟩ := info_parts infoB
  have hown := World.ownsRow_made (base := w.heap.size) (e := 5) (size := 1) w #[] 0 (Nat.le_refl _) (by unfold maxLen; omega) (by simp)
  have hrd := (h.below ((Below.refl _ _).alloc (Nat.le_refl _) (.cells #[] 5 (0, 0))) (Nat.le_refl _)).news
  have HO := Lib.hid hown; have HN := Lib.hid hrd
  clear hown hrd h
  go_enter Try.func50, Try.ntmps50
  go_wp2_with (at_builtin; refine wpList_append_own _ rfl _ _ 22 rfl w.heap.size 5 i0 (.int .u8 0) 1 1 Try.underlying22 hi hz0 hz1 hz2 rfl (by decide) _ _ _ rfl HO.out ad l.length c (l.map B) rfl (by simp) HN.out (B_one l) (by unfold maxLen; omega) (by omega) (by simp) ?_)
  intro v' w1 hown' hgrow hnil
  have hb : Below w.heap.size w w1 := ((Below.refl w.heap.size w).alloc (Nat.le_refl _) (.cells #[] 5 (0, 0))).grown hgrow (by simp) (fun k hk => by simp [Value.ownBlock] at hk; omega)
  have hne : v' ≠ .slice none 0 0 := hnil
  have HO' := Lib.hid hown'
  clear hnil hgrow hown'
  go_wp2
  go_ret
  exact ⟨v', rfl, HO'.out, hne, hb⟩
theorem clip_any (A : Option Addr) (n c : Nat) (h : n ≤ c) (w : World) : Calls Try.prog 51 #[.slice A n c] w fun e w' => e = .returned (.slice A n n) ∧ Below w.heap.size w w' := by
  go_enter Try.func51, Try.ntmps51
  go_wp2
  go_ret
  exact ⟨rfl, Below.refl _ _⟩
end Go.Proofs.Ytfldoihindbdmaa
