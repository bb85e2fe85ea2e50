/- The document's hash: the first primes. -/
import Derived.Test.YtmdalmegogfanaaDoorJ0
import Derived.Test.YtmdalmegogfanaaDoorS6
namespace Go.Proofs.YtmdalmegogfanaaDoor
open Go.RowKit
set_option maxRecDepth 100000
abbrev U (n : Nat) : Value := .int .u64 (n : Int)
/-- The primes below n. -/
def pl : Nat → List Nat
  | 0 => []
  | n + 1 => if 2 ≤ n ∧ (pl n).all (fun q => n % q != 0) = true then pl n ++ [n] else pl n
theorem pl_two : pl 2 = [] := rfl
theorem pl_short : ∀ n : Fin 312, (pl n.val).length < 64 := by decide +kernel
theorem pl_end : (pl 312).length = 64 := by decide +kernel
theorem pl_pos : ∀ n, ∀ q ∈ pl n, 2 ≤ q ∧ q < n
  | 0, q, h => by cases h
  | n + 1, q, h => by
    unfold pl at h
    split at h
    · rename_i hc
      rcases List.mem_append.1 h with h | h
      · have := pl_pos n q h; omega
      · have : q = n := by simpa using h
        omega
    · have := pl_pos n q h; omega
theorem infoU : ∃ i : TypeInfo, Tryd.prog.info? 23 = some i ∧ i.zero = some (.int .u64 0) ∧ i.size = 1 ∧ i.bytes = 8 := by
  refine ⟨(Tryd.prog.info? 23).get!, by kernel_rfl, by kernel_rfl, by kernel_rfl, by kernel_rfl⟩
theorem own_words {w : World} {base n : Nat} {v : Value} {l : List Nat} (h : w.ownsRow base 23 1 v n (l.map U)) (hn : n = l.length) : ∃ A c, v = .slice A n c ∧ (∀ (j : Nat) (hj : j < l.length), ∃ g, A = some ⟨g, 0, none⟩ ∧ base ≤ g ∧ g < w.heap.size ∧ w.cell? ⟨g, j, none⟩ = some (U l[j])) := by
  subst hn
  obtain ⟨_, ⟨rfl, h0⟩ | ⟨g, cap, cur, rfl, hg, hbk, hle, _, hcs, htk⟩⟩ := h
  · exact ⟨none, 0, by rw [h0], fun j hj => by omega⟩
  · refine ⟨_, cap, rfl, fun j hj => ⟨g, rfl, hg, bk_lt hbk, ?_⟩⟩
    rw [bk_cell hbk]
    have : (cur.toList.take (l.length * 1))[j]? = (l.map U)[j]? := by rw [htk]
    rw [List.getElem?_take_of_lt (by omega)] at this
    rw [← Array.getElem?_toList, this, List.getElem?_map, List.getElem?_eq_getElem hj]
    rfl
set_option maxHeartbeats 1000000 in
theorem primes_any (w : World) : Calls Tryd.prog 27 #[.int .i64 64] w fun e w' => ∃ v, e = .returned v ∧ w'.ownsRow w.heap.size 23 1 v 64 ((pl 312).map U) ∧ Below w.heap.size w w' := by
  obtain ⟨i0, hi, hz0, hz1, hz2⟩ := infoU
  obtain ⟨Z, hZ⟩ : ∃ Z, pl 312 = Z := ⟨_, rfl⟩
  have hZl : Z.length = 64 := by rw [← hZ]; exact pl_end
  rw [hZ]
  have HZ := Lib.hid hZ
  clear hZ
  go_enter Tryd.func27, Tryd.ntmps27
  go_wp2_with fail
  go_loopw [3, 4] (fun v i wr => ∃ n : Nat, 2 ≤ n ∧ n ≤ 312 ∧ i = U n ∧ Hid (wr.ownsRow w.heap.size 23 1 v (pl n).length ((pl n).map U)) ∧ Hid (Below w.heap.size w wr)) (fun _ i _ => 312 - (intOf i).toNat)
  case atStart => exact ⟨2, by decide, by decide, rfl, Lib.hid ⟨by simp [pl_two], .inl ⟨rfl, rfl⟩⟩, Lib.hid (Below.refl _ _)⟩
  case round =>
    obtain ⟨n, hn, hn2, rfl, HO, HB⟩ := hrel
    obtain ⟨A, c, rfl, hA⟩ := own_words HO.out rfl
    have HA := Lib.hid hA
    clear hA
    obtain ⟨L, hL⟩ : ∃ L, L = pl n := ⟨_, rfl⟩
    rw [← hL] at HO HA ⊢
    have HL := Lib.hid hL
    by_cases hlt : n < 312
    · have hll : L.length < 64 := by rw [hL]; exact pl_short ⟨n, hlt⟩
      have d1 : decide ((L.length : Int) < 64) = true := by simp; omega
      clear hL
      go_wp2_with fail
      go_loopw [5, 6] (fun b j wx => ∃ k : Nat, k ≤ L.length ∧ b = .bool ((L.take k).all fun q => n % q != 0) ∧ j = .int .i64 k ∧ wx = wr) (fun _ j _ => L.length - (intOf j).toNat)
      case atStart => exact ⟨0, Nat.zero_le _, rfl, rfl, rfl⟩
      case round =>
        obtain ⟨k, hk, rfl, rfl, rfl⟩ := hrel
        by_cases hkl : k < L.length
        · have d2 : decide ((k : Int) < (L.length : Int)) = true := by simp; omega
          obtain ⟨g, hg, _, _, hc⟩ := HA.out k hkl
          obtain ⟨q, hq⟩ : ∃ q, q = L[k] := ⟨_, rfl⟩
          rw [← hq] at hc
          subst hg
          have hq2 := pl_pos n q (by rw [← HL.out, hq]; exact List.getElem_mem _)
          have e1 : (n : Int).tmod (q : Int) = ((n % q : Nat) : Int) := by rw [Int.tmod_eq_emod_of_nonneg (by omega)]; exact (Int.natCast_emod n q).symm
          have e1' : (n : Int) % (q : Int) = ((n % q : Nat) : Int) := (Int.natCast_emod n q).symm
          obtain ⟨m, hm⟩ : ∃ m, m = n % q := ⟨_, rfl⟩
          rw [← hm] at e1 e1'
          have e2 : IntKind.u64.wrap (m : Int) = (m : Int) := by rw [IntKind.wrap_u64, hm]; have := Nat.mod_lt n (show 0 < q by omega); omega
          have hs : ((L.take (k + 1)).all fun q => n % q != 0) = (((L.take k).all fun q => n % q != 0) && m != 0) := by
            rw [List.take_succ_eq_append_getElem hkl, List.all_append, ← hq, hm]
            simp
          have q0 : ¬ q = 0 := by omega
          have HS := Lib.hid hs
          have HM := Lib.hid hm; have HQ := Lib.hid hq
          clear hs hm hq hq2
          by_cases hm0 : m = 0
          · have e3 : ((m : Int) == 0) = true := by simp [hm0]
            have H0 := Lib.hid hm0
            clear hm0
            go_wp2_with fail
            go_roundw
            case rel => exact ⟨k + 1, by omega, by rw [HS.out, H0.out]; simp, by go_num, by trivial⟩
            case measure => simp [intOf]; omega
          · have e3 : ((m : Int) == 0) = false := by simp; omega
            have H0 := Lib.hid hm0
            clear hm0
            go_wp2_with fail
            go_roundw
            case rel =>
              refine ⟨k + 1, by omega, ?_, by go_num, by trivial⟩
              rw [HS.out, show (m != 0) = true by simp; exact H0.out, Bool.and_true]
            case measure => simp [intOf]; omega
        · obtain rfl : k = L.length := by omega
          have d2 : decide ((L.length : Int) < (L.length : Int)) = false := by simp
          rw [List.take_length]
          obtain ⟨b, hb⟩ : ∃ b, b = L.all fun q => n % q != 0 := ⟨_, rfl⟩
          rw [← hb]
          have hp : pl (n + 1) = if b = true then L ++ [n] else L := by
            rw [hb]
            show (if 2 ≤ n ∧ _ then _ else _) = _
            rw [HL.out]
            simp only [hn, true_and]
          have HP := Lib.hid hp
          have e4 : IntKind.u64.wrap ((n : Int) + 1) = ((n + 1 : Nat) : Int) := by rw [IntKind.wrap_u64]; omega
          clear hp hb hkl hk
          cases b
          · go_wp2_with fail
            have hp := HP.out
            simp only [Bool.false_eq_true, if_false] at hp
            exact ⟨⟨n + 1, by omega, by omega, by go_num, by rw [hp]; exact HO, HB⟩, by simp [intOf]; omega⟩
          · go_wp2_with (at_builtin; refine wpList_append_own _ rfl _ _ 24 rfl w.heap.size 23 i0 (.int .u64 0) 1 8 Tryd.underlying24 hi hz0 hz1 hz2 rfl (by decide) _ _ _ rfl (HO.out.alloc _) ⟨wr.heap.size, 0, none⟩ 1 1 [U n] rfl rfl (by intro j u hj; match j, hj with | 0, hj => (simp at hj; subst hj; simp [Addr.add])) (by intro u hu; simp at hu; subst hu; rfl) (by unfold maxLen; omega) (by omega) (by have := HB.out.size; simp; omega) ?_)
            intro v' w' hown hgrow _
            have hp := HP.out
            simp only [if_true] at hp
            have ho2 : Hid (w'.ownsRow w.heap.size 23 1 v' (pl (n + 1)).length ((pl (n + 1)).map U)) := Lib.hid (by rw [hp, List.length_append, List.map_append]; exact hown)
            have hb2 : Hid (Below w.heap.size w w') := Lib.hid ((HB.out.alloc HB.out.size _).grown hgrow (by have := HB.out.size; simp; omega) (fun k hk => (HO.out.lt k hk).1))
            clear hown hgrow hp
            go_wp2_with fail
            exact ⟨⟨n + 1, by omega, by omega, by go_num, ho2, hb2⟩, by simp [intOf]; omega⟩
    · obtain rfl : n = 312 := by omega
      have hl64 : L.length = 64 := by rw [HL.out, HZ.out]; exact hZl
      have d1 : decide ((L.length : Int) < 64) = false := by simp; omega
      clear hL hlt
      go_wp2_with fail
      go_ret
      exact ⟨_, rfl, by have h := HO.out; rw [hl64, HL.out, HZ.out] at h; rw [hl64]; exact h, HB.out⟩
end Go.Proofs.YtmdalmegogfanaaDoor
