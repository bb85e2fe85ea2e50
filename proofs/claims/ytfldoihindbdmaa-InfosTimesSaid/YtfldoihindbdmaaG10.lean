/- Infos: the document finds an option, and a name. -/
import Derived.Test.YtfldoihindbdmaaG9
import Derived.Lib.AppendStr
namespace Go.Proofs.Ytfldoihindbdmaa
open Go.RowKit
set_option maxRecDepth 100000
set_option maxHeartbeats 2000000
theorem lookup_at : ∀ (ol : List (Nat × List UInt8)) (j code : Nat) (hj : j < ol.length), (∀ k (h : k < ol.length), k < j → ol[k].1 ≠ code) → ol[j].1 = code → ol.lookup code = some ol[j].2
  | [], j, _, hj, _, _ => absurd hj (by simp)
  | (a, d) :: t, 0, code, _, _, he => by
    have : a = code := he
    subst this
    simp [List.lookup]
  | (a, d) :: t, j + 1, code, hj, hn, he => by
    have h0 : a ≠ code := hn 0 (by simp) (by omega)
    have hb : (code == a) = false := beq_eq_false_iff_ne.2 (fun e => h0 e.symm)
    simp only [List.lookup, hb]
    exact lookup_at t j code (by simpa using hj) (fun k h hk => hn (k + 1) (by simp; omega) (by omega)) he
theorem lookup_no : ∀ (ol : List (Nat × List UInt8)) (code : Nat), (∀ k (h : k < ol.length), ol[k].1 ≠ code) → ol.lookup code = none
  | [], _, _ => rfl
  | (a, d) :: t, code, hn => by
    have h0 : a ≠ code := hn 0 (by simp)
    have hb : (code == a) = false := beq_eq_false_iff_ne.2 (fun e => h0 e.symm)
    simp only [List.lookup, hb]
    exact lookup_no t code fun k h => hn (k + 1) (by simp; omega)
/-- What is found. -/
def FRes (m : Nat) (w : World) (e : Ending) : Option (List UInt8) → Prop
  | some d => ∃ A c, e = .returned (.tuple #[.slice A d.length c, .bool true]) ∧ Rd w m A d ∧ d.length ≤ c ∧ c < 2 ^ 63
  | none => e = .returned (.tuple #[.slice none 0 0, .bool false])
theorem ro_cells {w : World} {m n c : Nat} {A : Option Addr} {vs : List Value} {e : TypeId} (h : w.ownsRow m e 2 (.slice A n c) n vs) (i : Nat) (hi : i < n) : ∃ g, A = some ⟨g, 0, none⟩ ∧ g < w.heap.size ∧ w.cell? ⟨g, 2 * i, none⟩ = vs[2 * i]? ∧ w.cell? ⟨g, 2 * i + 1, none⟩ = vs[2 * i + 1]? := by
  have hl := h.1
  rcases h.2 with ⟨_, q⟩ | ⟨g, cap, cur, q, hg, hb, _, _, hs, ht⟩
  · omega
  · cases q
    refine ⟨g, rfl, bk_lt hb, ?_, ?_⟩
    all_goals
      rw [bk_cell hb, ← ht, List.getElem?_take, if_pos (by omega), Array.getElem?_toList]
theorem rfind_any (m code : Nat) (LA : Option Addr) (lc : Nat) (ol : List (Nat × List UInt8)) (w : World) (h : RO w m (.slice LA ol.length lc) ol) (hc : code < 65536) (hl : ol.length < 2 ^ 30) :
    Calls Try.prog 69 #[.slice LA ol.length lc, .int .i64 (code : Int)] w fun e w' => FRes m w e (ol.lookup code) ∧ w = w' := by
  have HRO := Lib.hid h
  obtain ⟨N, hN⟩ : ∃ N, N = ol.length := ⟨_, rfl⟩
  have HN := Lib.hid hN
  rw [← hN]
  rw [← hN] at hl
  clear h hN
  go_enter Try.func69, Try.ntmps69
  go_wp2_with fail
  go_loopw [6] (fun iv wr => ∃ j : Nat, j ≤ N ∧ iv = .int .i64 j ∧ w = wr ∧ Hid (∀ k (h : k < ol.length), k < j → ol[k].1 ≠ code)) (fun iv _ => N - (intOf iv).toNat)
  case atStart => exact ⟨0, Nat.zero_le _, rfl, rfl, Lib.hid fun k _ hk => absurd hk (by omega)⟩
  case round =>
    obtain ⟨j, hj, rfl, rfl, HS⟩ := hrel
    by_cases hjN : j < N
    · have d1 : decide ((j : Int) < (N : Int)) = true := by simp; omega
      have d1' : decide (j < N) = true := by simp; omega
      have hjl : j < ol.length := by rw [← HN.out]; exact hjN
      obtain ⟨vs, how, hall⟩ := HRO.out
      obtain ⟨A, c, e1, e2, hr, hc2⟩ := hall j hjl
      rw [← HN.out] at how
      obtain ⟨g, rfl, hg, k1, k2⟩ := ro_cells how j hjN
      rw [e1] at k1
      rw [e2] at k2
      obtain ⟨K, hK⟩ : ∃ K, K = ol[j].1 := ⟨_, rfl⟩
      obtain ⟨d, hd⟩ : ∃ d, d = ol[j].2 := ⟨_, rfl⟩
      rw [← hK] at k1
      rw [← hd] at k2 hr hc2
      have k1' : w.cell? ⟨g, j * 2, none⟩ = some (.int .i64 (K : Int)) := by rw [Nat.mul_comm]; exact k1
      have k2' : w.cell? ⟨g, j * 2 + 1, none⟩ = some (.slice A d.length c) := by rw [Nat.mul_comm]; exact k2
      have HD := Lib.hid (And.intro hK (And.intro hd (And.intro hr hc2)))
      have HJ := Lib.hid hjl
      obtain ⟨D, hD⟩ : ∃ D, D = d.length := ⟨_, rfl⟩
      rw [← hD] at k2 k2'
      have HDD := Lib.hid hD
      clear hK hd hr hc2 how hall e1 e2 hD
      by_cases hcK : K = code
      · have n1 : ((K : Int) == (code : Int)) = true := by rw [hcK]; simp
        have HF := Lib.hid (lookup_at ol j code HJ.out HS.out (by rw [← HD.out.1]; exact hcK))
        clear hcK
        go_wp2_with fail
        go_ret2
        rw [HF.out, ← HD.out.2.1]
        exact ⟨⟨A, c, by rw [HDD.out]; rfl, HD.out.2.2.1, HD.out.2.2.2⟩, rfl⟩
      · have n1 : ((K : Int) == (code : Int)) = false := beq_eq_false_iff_ne.2 (by omega)
        have HS2 : Hid (∀ k (h : k < ol.length), k < j + 1 → ol[k].1 ≠ code) := Lib.hid fun k h hk => by
          by_cases hkj : k = j
          · subst hkj; rw [← HD.out.1]; exact hcK
          · exact HS.out k h (by omega)
        clear hcK
        go_wp2_with fail
        exact ⟨⟨j + 1, by omega, rfl, trivial, HS2⟩, by simp [intOf]; omega⟩
    · obtain rfl : j = N := by omega
      have d1 : decide ((j : Int) < (j : Int)) = false := by simp
      have d1' : decide (j < j) = false := by simp
      have HF := Lib.hid (lookup_no ol code fun k hk => HS.out k hk (by rw [HN.out]; exact hk))
      go_wp2_with fail
      go_ret2
      rw [HF.out]
      first | exact ⟨rfl, rfl⟩ | exact ⟨trivial, rfl⟩ | exact ⟨rfl, trivial⟩ | trivial | simp [FRes]
theorem jn_ne : ∀ ls : List (List UInt8), ls ≠ [] → (∀ l ∈ ls, l ≠ []) → jn ls ≠ []
  | [], h, _ => absurd rfl h
  | x :: r, _, hl => by
    rw [jn_cons]
    have := hl x (by simp)
    cases x with
    | nil => exact absurd rfl this
    | cons a t => simp
/-- One name, and how many bytes it takes. -/
def oneR (b : List UInt8) : Option (List UInt8 × Nat) :=
  match labs b with
  | none => none
  | some p => if jn p.1 = [] ∨ 255 < (jn p.1).length then none else some (jn p.1, b.length - p.2.length)
def OneRes (e : Ending) : Option (List UInt8 × Nat) → Prop
  | some p => e = .returned (.tuple #[St p.1, .int .i64 (p.2 : Int)])
  | none => e = .returned (.tuple #[St [], .int .i64 0])
theorem rone_any (A : Option Addr) (b : List UInt8) (c : Nat) (w : World) (h : Rd w w.heap.size A b) (hc : b.length ≤ c) (hl : b.length < 2 ^ 30) :
    Calls Try.prog 70 #[.slice A b.length c] w fun e w' => OneRes e (oneR b) ∧ w = w' := by
  have HR := Lib.hid h
  obtain ⟨N, hN⟩ : ∃ N, N = b.length := ⟨_, rfl⟩
  have HN := Lib.hid hN
  have HCN : Hid (N ≤ c ∧ N < 2 ^ 30) := Lib.hid (by omega)
  rw [← hN]
  clear h hN hc hl
  go_enter Try.func70, Try.ntmps70
  go_wp2_with fail
  go_loopw [4, 5, 6] (fun sv av _ wr => ∃ (p : Nat) (done : List (List UInt8)), sv = .string ⟨(jn done).toArray⟩ ∧ av = .int .i64 p ∧ p ≤ N ∧ w = wr ∧ Hid (labs b = (labs (b.drop p)).map fun q => (done ++ q.1, q.2)) ∧ Hid (p = 0 ↔ done = []) ∧ Hid (∀ l ∈ done, l ≠ []) ∧ Hid ((jn done).length ≤ p)) (fun _ av _ _ => N - (intOf av).toNat)
  case atStart => exact ⟨0, [], rfl, rfl, Nat.zero_le _, rfl, Lib.hid (by rw [List.drop_zero]; cases labs b <;> rfl), Lib.hid ⟨fun _ => rfl, fun _ => rfl⟩, Lib.hid (by simp), Lib.hid (Nat.le_refl _)⟩
  case round =>
    obtain ⟨p, done, rfl, rfl, hp, rfl, HLB, HZ, HNE, HJL⟩ := hrel
    obtain ⟨S, hS⟩ : ∃ S, S = jn done := ⟨_, rfl⟩
    rw [← hS]
    have HS := Lib.hid hS
    have hN30 := HCN.out.2
    clear hS
    by_cases hpN : N ≤ p
    · have d1 : decide ((N : Int) ≤ (p : Int)) = true := by simp; omega
      have d1' : decide (N ≤ p) = true := by simp; omega
      have HE : Hid (oneR b = none) := Lib.hid (by
        have h1 : b.drop p = [] := List.drop_of_length_le (by rw [← HN.out]; exact hpN)
        unfold oneR
        rw [HLB.out, h1, labs_nil]; rfl)
      clear hpN
      go_wp2_with fail
      go_ret2
      rw [HE.out]
      exact ⟨rfl, rfl⟩
    · have d1 : decide ((N : Int) ≤ (p : Int)) = false := by simp; omega
      have d1' : decide (N ≤ p) = false := by simp; omega
      have hpl : p < b.length := by rw [← HN.out]; omega
      obtain ⟨bb, oo, rfl, hbb, hcl⟩ := HR.out (by omega)
      obtain ⟨x, hx⟩ : ∃ x, x = b[p] := ⟨_, rfl⟩
      have u0 := hcl p hpl
      rw [← hx] at u0
      obtain ⟨r, hr⟩ : ∃ r, r = b.drop (p + 1) := ⟨_, rfl⟩
      have hdr : b.drop p = x :: r := by rw [hr, hx]; exact List.drop_eq_getElem_cons hpl
      have hrl : r.length = N - (p + 1) := by rw [hr, List.length_drop, HN.out]
      rw [hdr] at HLB
      have HX := Lib.hid (And.intro hr hrl)
      have hxl := x.toNat_lt
      have hpi : (p : Int) < (N : Int) := by omega
      have hp2 : p < N := by omega
      clear hx hr hdr hpl hcl
      by_cases h63 : 63 < x.toNat
      · have d2 : decide ((63 : Int) < (x.toNat : Int)) = true := by simp; omega
        have d2' : decide (63 < x.toNat) = true := by simp; omega
        have HE : Hid (oneR b = none) := Lib.hid (by
          unfold oneR
          rw [HLB.out, labs_bad (by omega)]; rfl)
        clear h63 hpN
        go_wp2_with fail
        go_ret2
        rw [HE.out]
        exact ⟨rfl, rfl⟩
      · have d2 : decide ((63 : Int) < (x.toNat : Int)) = false := by simp; omega
        have d2' : decide (63 < x.toNat) = false := by simp; omega
        obtain ⟨k, hk⟩ : ∃ k, k = x.toNat := ⟨_, rfl⟩
        have hk63 : k ≤ 63 := by omega
        rw [show B x = .int .u8 (k : Int) by rw [hk]] at u0
        rw [← hk] at d2 d2'
        have HK := Lib.hid hk
        by_cases hlong : N < p + 1 + k
        · have d3 : decide ((N : Int) < (p : Int) + 1 + (k : Int)) = true := by simp; omega
          have d3' : decide (N < p + 1 + k) = true := by simp; omega
          have HE : Hid (oneR b = none) := Lib.hid (by
            unfold oneR
            rw [HLB.out, labs_bad (by omega)]; rfl)
          clear h63 hpN hk hlong hrl hxl
          go_wp2_with fail
          go_ret2
          rw [HE.out]
          exact ⟨rfl, rfl⟩
        · have d3 : decide ((N : Int) < (p : Int) + 1 + (k : Int)) = false := by simp; omega
          have d3' : decide (N < p + 1 + k) = false := by simp; omega
          by_cases hk0 : k = 0
          · have HLA : Hid (labs b = some (done, r)) := Lib.hid (by
              rw [HLB.out, labs_end (by omega)]; simp)
            have n1 : ((k : Int) == 0) = true := by rw [hk0]; rfl
            by_cases hp0 : p = 0
            · have HE : Hid (oneR b = none) := Lib.hid (by
                have hd : done = [] := HZ.out.1 hp0
                unfold oneR
                rw [HLA.out]
                simp only
                rw [if_pos (.inl (by rw [hd]; rfl))])
              have n2 : ((p : Int) == 0) = true := by rw [hp0]; rfl
              clear h63 hpN hk hlong hrl hxl hk0 hp0 HLB
              go_wp2_with fail
              go_ret2
              rw [HE.out]
              exact ⟨rfl, rfl⟩
            · have n2 : ((p : Int) == 0) = false := beq_eq_false_iff_ne.2 (by omega)
              have HNN : Hid (jn done ≠ []) := Lib.hid (jn_ne done (fun e => hp0 (HZ.out.2 e)) HNE.out)
              by_cases h255 : 255 < S.length
              · have HE : Hid (oneR b = none) := Lib.hid (by
                  unfold oneR
                  rw [HLA.out]
                  simp only
                  rw [if_pos (.inr (by rw [← HS.out]; exact h255))])
                have n3 : decide ((255 : Int) < (S.length : Int)) = true := by simp; omega
                have n3' : decide (255 < S.length) = true := by simp; omega
                clear h63 hpN hk hlong hrl hxl hk0 hp0 HLB h255
                go_wp2_with fail
                go_ret2
                rw [HE.out]
                exact ⟨rfl, rfl⟩
              · have HE : Hid (oneR b = some (S, p + 1)) := Lib.hid (by
                  unfold oneR
                  rw [HLA.out]
                  simp only
                  rw [if_neg (by rw [← HS.out]; intro h; rcases h with h | h; exact HNN.out (by rw [← HS.out]; exact h); exact h255 h), ← HS.out]
                  have h1 := HX.out.2
                  have h2 := HN.out
                  rw [show b.length - r.length = p + 1 by omega])
                have n3 : decide ((255 : Int) < (S.length : Int)) = false := by simp; omega
                have n3' : decide (255 < S.length) = false := by simp; omega
                clear h63 hpN hk hlong hrl hxl hk0 hp0 HLB h255
                go_wp2_with fail
                go_ret2
                rw [HE.out]
                exact ⟨rfl, rfl⟩
          · have n1 : ((k : Int) == 0) = false := beq_eq_false_iff_ne.2 (by omega)
            have hkr : k ≤ r.length := by omega
            have HLB2 : Hid (labs b = (labs (b.drop (p + 1 + k))).map fun q => ((done ++ [r.take k]) ++ q.1, q.2)) := Lib.hid (by
              have h9 := labs_more (x := x) (r := r) (by omega) (by omega) (by omega)
              rw [HLB.out, h9, ← hk, HX.out.1, List.drop_drop]
              cases labs (b.drop (p + 1 + k)) with
              | none => rfl
              | some p => simp)
            have HTK : Hid ((r.take k).length = k ∧ k ≠ 0) := Lib.hid ⟨by rw [List.length_take]; omega, hk0⟩
            obtain ⟨lb, hlb⟩ : ∃ lb, lb = r.take k := ⟨_, rfl⟩
            rw [← hlb] at HLB2 HTK
            have hrd : Rd w w.heap.size (some ⟨bb, oo + (p + 1), none⟩) lb := by rw [hlb, HX.out.1]; exact rd_sub HR.out (p + 1) k
            have cv := conv_rd hrd (c - (p + 1)) k HTK.out.1.symm (fun h => by cases h)
            have HPK : Hid (p + 1 + k ≤ N) := Lib.hid (by omega)
            have hcp : ¬ c = p + 1 := by have := HCN.out.1; omega
            have h7 : (p : Int) + 1 + (k : Int) ≤ (c : Int) := by have := HCN.out.1; omega
            have h8 : (p : Int) + 1 ≤ (p : Int) + 1 + (k : Int) := by omega
            have HJ30 := HJL.out
            have HSL : Hid (S.length ≤ p) := Lib.hid (by rw [HS.out]; exact HJL.out)
            have hSl := HSL.out
            have g1 : ¬ 9223372036854775807 < S.length + 1 := by omega
            have g2 : ¬ 9223372036854775807 < S.length + lb.length := by rw [HTK.out.1]; omega
            have g3 : ¬ 9223372036854775807 < S.length + 1 + lb.length := by rw [HTK.out.1]; omega
            clear h63 hpN hk hlong hrl hxl hk0 HLB hlb hrd hkr
            by_cases hp0 : p = 0
            · have n2 : decide ((0 : Int) < (p : Int)) = false := by simp; omega
              have n2' : decide (0 < p) = false := by simp; omega
              have hd : done = [] := HZ.out.1 hp0
              have e1 : jn (done ++ [lb]) = S ++ lb := by rw [HS.out, hd]; exact jn_one lb
              have HE1 := Lib.hid e1
              clear hp0 hd e1
              go_upto_region 10 with fail
              clear cv u0 d1 d1' d2 d2' d3 d3' n1 n2 n2' h7 h8 hcp g1 g2 g3
              go_wp2_with fail
              refine ⟨⟨p + 1 + k, done ++ [lb], by rw [HE1.out]; simp [← ByteArray.append_eq, ByteArray.append], by simp, HPK.out, trivial, HLB2, Lib.hid ⟨fun e => absurd e (by omega), fun e => absurd e (by simp)⟩, Lib.hid (fun l hl => ?_), Lib.hid ?_⟩, ?_⟩
              · rcases List.mem_append.1 hl with hl | hl
                · exact HNE.out l hl
                · rw [List.mem_singleton.1 hl]
                  exact fun e => HTK.out.2 (by rw [← HTK.out.1, e]; rfl)
              · rw [HE1.out, List.length_append, HTK.out.1]; have := HSL.out; omega
              · have := HPK.out; simp [intOf]; omega
            · have n2 : decide ((0 : Int) < (p : Int)) = true := by simp; omega
              have n2' : decide (0 < p) = true := by simp; omega
              have HP0 := Lib.hid hp0
              clear hp0
              go_upto_region 10 with fail
              have hdn : done ≠ [] := fun e => HP0.out (HZ.out.2 e)
              have e1 : jn (done ++ [lb]) = S ++ [46] ++ lb := by rw [jn_snoc hdn, ← HS.out]
              have HE1 := Lib.hid (And.intro e1 hdn)
              clear cv u0 d1 d1' d2 d2' d3 d3' n1 n2 n2' h7 h8 hcp hdn e1 g1 g2 g3
              go_wp2_with fail
              refine ⟨⟨p + 1 + k, done ++ [lb], by rw [HE1.out.1]; simp [← ByteArray.append_eq, ByteArray.append], by simp, HPK.out, trivial, HLB2, Lib.hid ⟨fun e => absurd e (by omega), fun e => absurd e (by simp)⟩, Lib.hid (fun l hl => ?_), Lib.hid ?_⟩, ?_⟩
              · rcases List.mem_append.1 hl with hl | hl
                · exact HNE.out l hl
                · rw [List.mem_singleton.1 hl]
                  exact fun e => HTK.out.2 (by rw [← HTK.out.1, e]; rfl)
              · rw [HE1.out.1, List.length_append, List.length_append, HTK.out.1]; have := HSL.out; simp; omega
              · have := HPK.out; simp [intOf]; omega
end Go.Proofs.Ytfldoihindbdmaa
