/- HeadersBack, plain: what is put is got, whatever stands behind; cut anywhere it is too short. -/
import Derived.Test.YtbfiakikhkiefaaH26
import Derived.Test.YtbfiakikhkiefaaMgJ
namespace Go.Proofs.Ytbfiakikhkiefaa
open Go.RowKit
set_option maxRecDepth 100000
theorem nb2h (k : Nat) : nb 2 k = [UInt8.ofNat (k / 256), UInt8.ofNat k] := by simp [nb, List.range_succ]
theorem nb4h (k : Nat) : nb 4 k = [UInt8.ofNat (k / 16777216), UInt8.ofNat (k / 65536), UInt8.ofNat (k / 256), UInt8.ofNat k] := by simp [nb, List.range_succ]
/-- Marked as a part, and all of the datagram. -/
def whole (p : Pk) : Bool := p.fi && p.fo == 0 && !p.fm
def clr (p : Pk) : Pk := if whole p then { p with fi := false, fid := 0, fo := 0, fm := false, hid := by decide, ho := by decide } else p
def norm (p : Pk) : Prop := p.fi = false → p.fid = 0 ∧ p.fo = 0 ∧ p.fm = false
theorem pk_ext {p q : Pk} (h1 : p.src = q.src) (h2 : p.dst = q.dst) (h3 : p.hops = q.hops) (h4 : p.al = q.al) (h5 : p.fi = q.fi) (h6 : p.fid = q.fid) (h7 : p.fo = q.fo) (h8 : p.fm = q.fm) (h9 : p.nx = q.nx) : p = q := by
  cases p; cases q; simp_all
def tlB (p : Pk) (l : List UInt8) (al : Bool) : Tl := if p.fi && !whole p then ⟨p.nx, l, al, true, p.fid, p.fo, p.fm, 0, 0, 0⟩ else tlO p.nx l al
theorem frag_step {mc : Bool} {p : Pk} {l : List UInt8} (h : numO p.nx = false) (hfo : p.fo ≤ 8191) (a told : Nat) (fs al : Bool) : chain mc (first0 p) (fragB p ++ l) a told fs al = tlB p l al := by
  unfold first0 fragB tlB
  cases hfi : p.fi with
  | false => exact chain_end h _ _ _ _
  | true =>
    have hid := p.hid
    have hw : pword p < 65536 := by unfold pword; have : p.fm.toNat ≤ 1 := by cases p.fm <;> decide
                                    omega
    rw [if_pos rfl, if_pos rfl, nb2h, nb4h]
    have e1 : wd (([p.nx, 0] ++ [UInt8.ofNat (pword p / 256), UInt8.ofNat (pword p)] ++ [UInt8.ofNat (p.fid / 16777216), UInt8.ofNat (p.fid / 65536), UInt8.ofNat (p.fid / 256), UInt8.ofNat p.fid]) ++ l) = pword p := by
      show 256 * (UInt8.ofNat (pword p / 256)).toNat + (UInt8.ofNat (pword p)).toNat = _
      rw [UInt8.toNat_ofNat', UInt8.toNat_ofNat']; omega
    have e2 : pid (([p.nx, 0] ++ [UInt8.ofNat (pword p / 256), UInt8.ofNat (pword p)] ++ [UInt8.ofNat (p.fid / 16777216), UInt8.ofNat (p.fid / 65536), UInt8.ofNat (p.fid / 256), UInt8.ofNat p.fid]) ++ l) = p.fid := by
      show 16777216 * (UInt8.ofNat (p.fid / 16777216)).toNat + 65536 * (UInt8.ofNat (p.fid / 65536)).toNat + 256 * (UInt8.ofNat (p.fid / 256)).toNat + (UInt8.ofNat p.fid).toNat = _
      rw [UInt8.toNat_ofNat', UInt8.toNat_ofNat', UInt8.toNat_ofNat', UInt8.toNat_ofNat']; omega
    rw [chain_eq, if_neg (by decide), if_neg (by decide), if_pos rfl, if_neg (by simp), e1, e2]
    have ew : whole p = (p.fo == 0 && !p.fm) := by unfold whole; rw [hfi]; rfl
    have e8 : pword p / 8 = p.fo := by unfold pword; have : p.fm.toNat ≤ 1 := by cases p.fm <;> decide
                                       omega
    have e9 : pword p % 2 = p.fm.toNat := by unfold pword; have : p.fm.toNat ≤ 1 := by cases p.fm <;> decide
                                             omega
    rw [e8, e9, ew]
    by_cases h0 : p.fo = 0 ∧ p.fm.toNat = 0
    · rw [if_pos h0]
      have hm : p.fm = false := by cases hh : p.fm; rfl; rw [hh] at h0; exact absurd h0.2 (by decide)
      rw [h0.1, hm]
      exact chain_end h _ _ _ _
    · rw [if_neg h0]
      have hn : (p.fo == 0 && !p.fm) = false := by
        cases hh : p.fm
        · rw [hh] at h0; simp at h0 ⊢; exact h0
        · simp
      rw [hn]
      have hb : (p.fm.toNat == 1) = p.fm := by cases p.fm <;> rfl
      rw [hb]
      rfl
theorem opt_alert (f : UInt8) (mc : Bool) : opt [f, 0, 5, 2, 0, 0, 1, 0] true mc 2 false = (0, 8, true) := rfl
theorem more_step {mc : Bool} {p : Pk} {l : List UInt8} (h : numO p.nx = false) (hfo : p.fo ≤ 8191) : chain mc (firstB p) (moreB p ++ l) 40 6 true false = tlB p l p.al := by
  unfold firstB moreB alertB
  cases hal : p.al with
  | false => exact frag_step h hfo _ _ _ _
  | true =>
    rw [if_pos rfl, if_pos rfl, List.append_assoc]
    have hs : hsz ([first0 p, 0, 5, 2, 0, 0, 1, 0] ++ (fragB p ++ l)) = 8 := rfl
    have ho : opr 0 ([first0 p, 0, 5, 2, 0, 0, 1, 0] ++ (fragB p ++ l)) mc = (0, 8, true) := opt_alert (first0 p) mc
    rw [chain_eq, if_pos (.inl rfl), if_neg (by rintro ⟨_, h⟩; cases h), if_neg (by rw [hs]; simp), ho, if_pos rfl, hs]
    exact frag_step h hfo _ _ _ _
section
variable (p : Pk) (l behind : List UInt8)
def pln : Nat := (moreB p).length + l.length
theorem pkB_cons : pkB p l ++ behind = [96, 0, 0, 0, UInt8.ofNat (pln p l / 256), UInt8.ofNat (pln p l), firstB p, p.hops] ++ (p.src ++ (p.dst ++ (moreB p ++ (l ++ behind)))) := by
  unfold pkB pln; rw [nb2h]; simp
theorem more_len : (moreB p).length ≤ 16 := by
  unfold moreB alertB fragB
  cases p.al <;> cases p.fi <;> simp [nb_length]
theorem pkB_len : (pkB p l).length = 40 + pln p l := by
  have := p.hs; have := p.hd
  unfold pkB pln; simp [nb_length]; omega
theorem pkBad_fi (hl : l.length ≤ 2000) (h : pkBad p l = true) : p.fi = true ∧ 8191 < p.fo := by
  have := more_len p
  unfold pkBad at h
  simp only [Bool.or_eq_true, decide_eq_true_eq, Bool.and_eq_true] at h
  rcases h with h | h
  · omega
  · exact h
theorem gsz_pkB (hl : l.length ≤ 2000) : gsz (pkB p l ++ behind) = pln p l := by
  have := more_len p
  rw [pkB_cons]
  show 256 * (UInt8.ofNat (pln p l / 256)).toNat + (UInt8.ofNat (pln p l)).toNat = _
  rw [UInt8.toNat_ofNat', UInt8.toNat_ofNat']; unfold pln; omega
theorem gB_pkB (hl : l.length ≤ 2000) : gB (pkB p l ++ behind) = moreB p ++ l := by
  unfold gB
  rw [gsz_pkB p l behind hl, pkB_cons]
  have e : ([96, 0, 0, 0, UInt8.ofNat (pln p l / 256), UInt8.ofNat (pln p l), firstB p, p.hops] ++ (p.src ++ (p.dst ++ (moreB p ++ (l ++ behind))))).drop 40 = moreB p ++ (l ++ behind) := by
    rw [← List.append_assoc, ← List.append_assoc]
    exact List.drop_left' (by simp [p.hs, p.hd])
  rw [e, ← List.append_assoc]
  exact List.take_left' (by unfold pln; simp)
theorem src_pkB : p16 ((pkB p l ++ behind).drop 8) = p.src := by
  rw [pkB_cons, show ([96, 0, 0, 0, UInt8.ofNat (pln p l / 256), UInt8.ofNat (pln p l), firstB p, p.hops] ++ (p.src ++ (p.dst ++ (moreB p ++ (l ++ behind))))).drop 8 = p.src ++ (p.dst ++ (moreB p ++ (l ++ behind))) from rfl, p16_eq (by simp [p.hs])]
  exact List.take_left' p.hs
theorem dst_pkB : p16 ((pkB p l ++ behind).drop 24) = p.dst := by
  have e : (pkB p l ++ behind).drop 24 = p.dst ++ (moreB p ++ (l ++ behind)) := by
    rw [pkB_cons, ← List.append_assoc]
    exact List.drop_left' (by simp [p.hs])
  rw [e, p16_eq (by simp [p.hd])]
  exact List.take_left' p.hd
theorem gT_back (hl : l.length ≤ 2000) (h : numO p.nx = false) (hb : pkBad p l = false) : gT (pkB p l ++ behind) = tlB p l p.al := by
  have hL := pkB_len p l
  unfold gT
  rw [if_neg (by rw [List.length_append]; omega), if_neg (by rw [pkB_cons]; show ¬ (96 : UInt8).toNat / 16 ≠ 6; decide), gsz_pkB p l behind hl, if_neg (by rw [List.length_append]; omega)]
  unfold gR
  rw [gB_pkB p l behind hl, show at8 (pkB p l ++ behind) 6 = firstB p by rw [pkB_cons]; rfl]
  cases hfi : p.fi with
  | true =>
    refine more_step h ?_
    unfold pkBad at hb
    rw [hfi] at hb
    simp at hb
    omega
  | false =>
    -- no part: the offset is not looked at
    unfold firstB moreB alertB
    have hf : fragB p = [] := by unfold fragB; rw [hfi]; rfl
    have h0 : first0 p = p.nx := by unfold first0; rw [hfi]; rfl
    have ht : ∀ al, tlB p l al = tlO p.nx l al := fun al => by unfold tlB; rw [hfi]; rfl
    rw [hf, h0, ht]
    cases hal : p.al with
    | false => exact chain_end h _ _ _ _
    | true =>
      rw [if_pos rfl, if_pos rfl, List.append_nil]
      have hs : hsz ([p.nx, 0, 5, 2, 0, 0, 1, 0] ++ l) = 8 := rfl
      have ho : ∀ mc, opr 0 ([p.nx, 0, 5, 2, 0, 0, 1, 0] ++ l) mc = (0, 8, true) := fun mc => opt_alert p.nx mc
      rw [chain_eq, if_pos (.inl rfl), if_neg (by rintro ⟨_, h⟩; cases h), if_neg (by rw [hs]; simp), ho, if_pos rfl, hs]
      exact chain_end h _ _ _ _
theorem tlB_e : (tlB p l p.al).e = 0 ∧ (tlB p l p.al).code = 0 ∧ (tlB p l p.al).fat = 0 ∧ (tlB p l p.al).rest = l := by
  unfold tlB
  split
  · exact ⟨rfl, rfl, rfl, rfl⟩
  · exact ⟨rfl, rfl, rfl, rfl⟩
theorem gP_back (hl : l.length ≤ 2000) (h : numO p.nx = false) (hb : pkBad p l = false) (hn : norm p) : gP (pkB p l ++ behind) = clr p := by
  have e := gT_back p l behind hl h hb
  have e0 := tlB_e p l
  have h6 := p.hid; have h7 := p.ho
  unfold gP
  rw [e, if_pos (.inl e0.1)]
  have e7 : at8 (pkB p l ++ behind) 7 = p.hops := by rw [pkB_cons]; rfl
  unfold norm at hn
  have hw : whole p = true → p.fi = true := fun hh => by unfold whole at hh; simp at hh; exact hh.1.1
  unfold tlB clr
  cases hfi : p.fi <;> cases hwh : whole p
  · obtain ⟨n1, n2, n3⟩ := hn hfi
    refine pk_ext (src_pkB p l behind) (dst_pkB p l behind) e7 rfl hfi.symm ?_ ?_ n3.symm rfl
    · exact n1.symm
    · exact n2.symm
  · rw [hw hwh] at hfi; cases hfi
  · exact pk_ext (src_pkB p l behind) (dst_pkB p l behind) e7 rfl hfi.symm (Nat.mod_eq_of_lt h6) (Nat.mod_eq_of_lt h7) rfl rfl
  · exact pk_ext (src_pkB p l behind) (dst_pkB p l behind) e7 rfl rfl rfl rfl rfl rfl
theorem gT_cut (hl : l.length ≤ 2000) (k : Nat) (hk : k < (pkB p l).length) : gT ((pkB p l).take k) = tlE 5 := by
  have hL := pkB_len p l
  have hkl : ((pkB p l).take k).length = k := by rw [List.length_take]; omega
  unfold gT
  by_cases h4 : k < 40
  · rw [if_pos (by omega)]
  · have a (i : Nat) (hi : i < 8) : at8 ((pkB p l).take k) i = at8 (pkB p l) i := at8_take _ _ _ (by omega)
    have hg : gsz ((pkB p l).take k) = pln p l := by
      have h := gsz_pkB p l [] hl
      rw [List.append_nil] at h
      unfold gsz at h ⊢
      rw [a 4 (by omega), a 5 (by omega)]; exact h
    have h0 : at8 (pkB p l) 0 = 96 := rfl
    rw [if_neg (by omega), if_neg (by rw [a 0 (by omega), h0]; decide), hg, if_pos (by omega)]
end
end Go.Proofs.Ytbfiakikhkiefaa
