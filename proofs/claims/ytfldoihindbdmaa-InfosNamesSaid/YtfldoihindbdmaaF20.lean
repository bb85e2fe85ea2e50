/- Infos: names, walked. -/
import Derived.Test.YtfldoihindbdmaaF19
import Derived.Laws.IdiomStrings
import Derived.Laws.BytesArg
namespace Go.Proofs.Ytfldoihindbdmaa
open Go.RowKit
set_option maxRecDepth 100000
set_option maxHeartbeats 1000000
def lenV (v : Value) : Nat := match v with | .slice _ n _ => n | _ => 0
theorem conv_rd {w : World} {n : Nat} {A : Option Addr} {l : List UInt8} (h : Rd w n A l) (c k : Nat) (hk : k = l.length) (hl : A = none → l = []) :
    (convert 22 9 (.slice A k c)).run Try.prog w = .ok (.string ⟨l.toArray⟩) w := by
  subst hk
  cases A with
  | none =>
    obtain rfl := hl rfl
    exact run_convert_bytes_nil w 22 5 Try.underlying22 Try.underlying5 _ _ 9 Try.underlying9
  | some ad =>
    refine run_convert_bytes_back w 22 9 5 ad c l Try.underlying22 Try.underlying5 Try.underlying9 fun j hj => ?_
    exact h.news j _ (by rw [List.getElem?_map, List.getElem?_eq_getElem hj]; rfl)
theorem Rd.drop {w : World} {n b o size : Nat} {l : List UInt8} (h : Rd w n (some ⟨b, o, none⟩) l) (hs : size ≤ l.length) : Rd w n (some ⟨b, o + size, none⟩) (l.drop size) := fun h0 => by
  obtain ⟨b', o', e, hlt, hc⟩ := h (by rw [List.length_drop] at h0; omega)
  cases e
  refine ⟨b, o + size, rfl, hlt, fun j hj => ?_⟩
  have h1 := hc (size + j) (by rw [List.length_drop] at hj; omega)
  rw [Nat.add_assoc, h1, List.getElem_drop]
theorem join_any (A : Option Addr) (c n : Nat) (ls : List (List UInt8)) (w : World) (h : OutT w n (.slice A ls.length c) ls) (hl : ls.length < 2 ^ 40) (hj : (jn ls).length < 2 ^ 40) :
    Calls Try.prog 80 #[.slice A ls.length c, .string ⟨#[46]⟩] w fun e w' => e = .returned (.string ⟨(jn ls).toArray⟩) ∧ Below w.heap.size w w' := by
  cases ls with
  | nil =>
    refine (Try.strings_Join_none A c ⟨#[46]⟩ w).mono ?_
    rintro e w' ⟨rfl, rfl⟩
    exact ⟨rfl, Below.refl _ _⟩
  | cons x r =>
    rcases h.2 with ⟨q, _⟩ | ⟨g, cap, cur, q, hg, hk, hcap, hmax, hsz, htk⟩
    · cases q
    · cases q
      have e : ((x :: r).map fun l => (⟨l.toArray⟩ : ByteArray)).length = (x :: r).length := List.length_map _
      have e2 : List.map (fun b : ByteArray => b.data.toList) ((x :: r).map fun l => (⟨l.toArray⟩ : ByteArray)) = x :: r := by
        rw [List.map_map]
        refine (List.map_congr_left fun a _ => ?_).trans (List.map_id _)
        simp
      have C := Try.strings_Join g 0 c ((x :: r).map fun l => (⟨l.toArray⟩ : ByteArray)) ⟨#[46]⟩ w (fun j y hj => by
        have hjl : j < (x :: r).length := by rw [← e]; exact (List.getElem?_eq_some_iff.1 hj).1
        rw [List.getElem?_map, List.getElem?_eq_getElem hjl] at hj
        cases hj
        rw [bk_cell (show bk w g = _ from hk), Nat.zero_add]
        have h1 : (cur.toList.take ((x :: r).length * 1))[j]? = some (St (x :: r)[j]) := by
          rw [htk, List.getElem?_map, List.getElem?_eq_getElem hjl]; rfl
        rw [List.getElem?_take, if_pos (by omega), Array.getElem?_toList] at h1
        exact h1) (bk_lt (show bk w g = _ from hk)) (by rw [e]; omega) (by rw [e]; exact hcap) (by rw [e2]; have h3 := hj; unfold jn at h3; exact Nat.le_of_lt (Nat.lt_of_lt_of_le h3 (by decide)))
      rw [e, e2] at C
      exact C
theorem names_any (A : Option Addr) (b : List UInt8) (c : Nat) (w : World) (h : Rd w w.heap.size A b) (hc : b.length ≤ c) (hl : b.length < 2 ^ 30) (hcc : c < 2 ^ 63) :
    Calls Try.prog 61 #[.slice A b.length c] w fun e w' => ∃ v, e = .returned v ∧ OutT w' w.heap.size v (nms b) ∧ Below w.heap.size w w' := by
  have HR := Lib.hid h
  have HL := Lib.hid (And.intro hl (And.intro hc hcc))
  clear h hc hl hcc
  go_enter Try.func61, Try.ntmps61
  go_wp2
  go_step3
  go_wp2
  go_step3
  go_wp2
  go_loopw [0, 2] (fun bv ov wr => ∃ (rest : List UInt8) (A1 : Option Addr) (c1 : Nat) (done : List (List UInt8)) (A2 : Option Addr) (c2 : Nat), bv = .slice A1 rest.length c1 ∧ ov = .slice A2 done.length c2 ∧ Hid (Rd w w.heap.size A1 rest ∧ rest.length ≤ c1 ∧ c1 < 2 ^ 63) ∧ Hid (OutT wr w.heap.size (.slice A2 done.length c2) done) ∧ Hid (nms b = done ++ nms rest) ∧ Hid (done.length + rest.length ≤ b.length) ∧ Hid (Below w.heap.size w wr)) (fun bv _ _ => lenV bv)
  case atStart => exact ⟨b, A, c, [], none, 0, rfl, rfl, Lib.hid ⟨HR.out, HL.out.2⟩, Lib.hid OutT.nil, Lib.hid rfl, Lib.hid (by simp), Lib.hid (Below.refl _ _)⟩
  case round =>
    obtain ⟨rest, A1, c1, done, A2, c2, rfl, rfl, HR1, HO, HN, HS, HB⟩ := hrel
    clear HR
    by_cases h0 : rest.length = 0
    · have d1 : decide (0 < (rest.length : Int)) = false := decide_eq_false (by omega)
      have d1' : decide (0 < rest.length) = false := decide_eq_false (by omega)
      have HE : Hid (nms b = done) := Lib.hid (by rw [HN.out, List.eq_nil_of_length_eq_zero h0, nms_nil, List.append_nil])
      clear h0
      go_wp2
      rw [Exit.noGoto_ret]
      go_ret
      exact ⟨_, rfl, HE.out ▸ HO.out, HB.out⟩
    · have d1 : decide (0 < (rest.length : Int)) = true := decide_eq_true (by omega)
      have d1' : decide (0 < rest.length) = true := decide_eq_true (by omega)
      obtain ⟨gu, hgu⟩ : ∃ g, g = wr.heap.size := ⟨_, rfl⟩
      have HG := Lib.hid hgu
      have HOB : Hid (∀ k, (Value.slice A2 done.length c2).ownBlock = some k → k < gu) := Lib.hid fun k hk => by rw [hgu]; exact (HO.out.lt k hk).2
      have HGW : Hid (w.heap.size ≤ gu) := Lib.hid (by rw [hgu]; exact HB.out.size)
      clear h0 hgu
      go_wp2
      go_loopw [0, 3] (fun bv lv ws => ∃ (r2 : List UInt8) (A3 : Option Addr) (c3 : Nat) (ls : List (List UInt8)) (A4 : Option Addr) (c4 : Nat), bv = .slice A3 r2.length c3 ∧ lv = .slice A4 ls.length c4 ∧ Hid (Rd w w.heap.size A3 r2 ∧ r2.length ≤ c3 ∧ c3 < 2 ^ 63) ∧ Hid (OutT ws gu (.slice A4 ls.length c4) ls) ∧ Hid (labs rest = (labs r2).map fun p => (ls ++ p.1, p.2)) ∧ Hid (ls.length + r2.length ≤ rest.length) ∧ Hid (OutT ws w.heap.size (.slice A2 done.length c2) done) ∧ Hid (Below w.heap.size w ws ∧ gu ≤ ws.heap.size)) (fun bv _ _ => lenV bv)
      case atStart => exact ⟨rest, A1, c1, [], none, 0, rfl, rfl, HR1, Lib.hid OutT.nil, Lib.hid (by cases labs rest <;> rfl), Lib.hid (by simp), HO, Lib.hid ⟨HB.out, by rw [HG.out]; exact Nat.le_refl _⟩⟩
      case round =>
        clear HO HB HG
        obtain ⟨r2, A3, c3, ls, A4, c4, rfl, rfl, HR2, HO4, HLB, HS2, HO, HB⟩ := hrel
        cases r2 with
        | nil =>
          have HE : Hid (nms b = done) := Lib.hid (by rw [HN.out, nms_none (by rw [HLB.out, labs_nil]; rfl), List.append_nil])
          go_wp2_with fail
          rw [Exit.noGoto_ret]
          go_ret
          exact ⟨_, rfl, HE.out ▸ HO.out, HB.out.1⟩
        | cons x r =>
          obtain ⟨bb, o, rfl, hbb, hcl⟩ := HR2.out.1 (by simp)
          have u0 := hcl 0 (by simp)
          rw [List.getElem_cons_zero, Nat.add_zero, ← HB.out.1.cell (p := ⟨bb, o, none⟩) hbb] at u0
          have HRD : Hid (Rd wr w.heap.size (some ⟨bb, o, none⟩) (x :: r)) := Lib.hid (HR2.out.1.below HB.out.1 (Nat.le_refl _))
          have hc3 := HR2.out.2
          simp only [List.length_cons] at hc3
          obtain ⟨N, hN⟩ : ∃ N, N = r.length + 1 := ⟨_, rfl⟩
          have e0 : (x :: r).length = N := hN.symm
          rw [e0] at HS2 ⊢
          have hx := x.toNat_lt
          have n0 : ((N : Int) == 0) = false := beq_eq_false_iff_ne.2 (by omega)
          have n1 : (0 : Int) < (N : Int) := by omega
          have HLL := HL.out.1
          have HSS := HS.out
          have HS2' := HS2.out
          have f1 : IntKind.i64.wrap ((N : Int) - 1) = (N : Int) - 1 := by rw [IntKind.wrap_i64]; omega
          have HN1 := Lib.hid hN
          by_cases hbad : x.toNat ≤ 63 ∧ x.toNat ≤ r.length
          · obtain ⟨k, hk⟩ : ∃ k, k = x.toNat := ⟨_, rfl⟩
            have d2 : decide (min 63 ((N : Int) - 1) < (k : Int)) = false := decide_eq_false (by omega)
            rw [show B x = .int .u8 (k : Int) by rw [hk]] at u0
            by_cases hk0 : k = 0
            · subst hk0
              have HLE : Hid (labs rest = some (ls, r)) := Lib.hid (by rw [HLB.out, labs_end hk.symm]; simp)
              by_cases hc1 : c3 = 1
              · subst hc1
                have cv := conv_rd (w := wr) (n := w.heap.size) (A := some ⟨bb, o, none⟩) (l := []) Rd.nil 0 0 rfl (fun h => by cases h)
                clear hbad hN HLL HSS HS2' hcl hk hx
                go_wp2_with fail
                have HRN : Hid (Rd w w.heap.size (some ⟨bb, o, none⟩) r ∧ r.length ≤ 0 ∧ 0 < 2 ^ 63) := Lib.hid ⟨(by have : r = [] := List.eq_nil_of_length_eq_zero (by omega); rw [this]; exact Rd.nil), by omega, by omega⟩
                have CJ := Lib.hid (join_any A4 c4 gu ls wr HO4.out (by have := HS2.out; have := HS.out; have := HL.out.1; omega) (by have := (labs_len HLE.out).2; have := HS.out; have := HL.out.1; omega))
                have HRL := Lib.hid ((labs_len HLE.out).1)
                have HNR : Hid (N - 1 = r.length) := Lib.hid (by rw [HN1.out]; rfl)
                obtain ⟨M, hM⟩ : ∃ M, M = N - 1 := ⟨_, rfl⟩
                rw [← hM] at HNR ⊢
                obtain ⟨nm, hnm⟩ : ∃ nm, nm = jn ls := ⟨_, rfl⟩
                rw [← hnm] at CJ
                have HNM := Lib.hid hnm
                have HON := Lib.hid (nms_some HLE.out)
                rw [← hnm] at HON
                clear hM hnm cv hc3 n0 n1 f1 d1 d1' d2 u0 HR2 HRD
                refine CJ.out.mono ?_
                rintro e w2 ⟨rfl, b2⟩
                have HB2 := Lib.hid (And.intro (HB.out.1.trans (b2.mono HB.out.1.size)) b2.size)
                have HO2 := Lib.hid (HO.out.below b2)
                clear CJ b2 HO HB HO4
                by_cases hne : nm = []
                · have HE : Hid (nms b = done) := Lib.hid (by rw [HN.out, HON.out, if_pos (.inl hne), List.append_nil])
                  subst hne
                  go_wp2_with fail
                  rw [Exit.noGoto_ret]
                  go_ret
                  exact ⟨_, rfl, HE.out ▸ HO2.out, HB2.out.1⟩
                · have t1 : nm.isEmpty = false := by
                    cases nm with
                    | nil => exact absurd rfl hne
                    | cons y z => rfl
                  by_cases hlong : 255 < nm.length
                  · have t2 : decide ((255 : Int) < (nm.length : Int)) = true := decide_eq_true (by omega)
                    have HE : Hid (nms b = done) := Lib.hid (by rw [HN.out, HON.out, if_pos (.inr hlong), List.append_nil])
                    clear hlong
                    go_wp2_with fail
                    rw [Exit.noGoto_ret]
                    go_ret
                    exact ⟨_, rfl, HE.out ▸ HO2.out, HB2.out.1⟩
                  · have t2 : decide ((255 : Int) < (nm.length : Int)) = false := decide_eq_false (by omega)
                    have HE : Hid (nms b = (done ++ [nm]) ++ nms r) := Lib.hid (by rw [HN.out, HON.out, if_neg (by rintro (h | h); exact hne h; exact hlong h), List.append_assoc]; rfl)
                    clear hlong
                    go_wp2_with (at_builtin; refine wpList_snocT rfl _ _ rfl w.heap.size (.slice A2 done.length c2) done rfl ((HO2.out.below (w' := w2.alloc (.cells #[St nm] 9 (0, 0))) ((by (repeat (first | exact Below.refl _ _ | assumption | refine Below.drew ?_ | refine bdrewN ?_ _ | refine Below.alloc ?_ (by first | omega | (simp <;> omega) | (simp only [World.size_alloc] <;> omega)) _ | refine below_setRow ?_ (by first | omega | (simp <;> omega)) _ | refine Below.setCell ?_ (by first | omega | (simp <;> omega)) _)))))) ⟨w2.heap.size, 0, none⟩ nm rfl (bk_cell (bk_alloc_at w2 (.cells #[St nm] 9 (0, 0)) _ rfl) 0) (by have := HB2.out.1.size; simp; omega) (by have := HS.out; have := HL.out.1; omega) ?_)
                    intro A6 c6 w6 ho6 hg6 _
                    have HO6 := Lib.hid ho6
                    have HB6 : Hid (Below w.heap.size w w6) := Lib.hid (by
                      have h1 : Below w.heap.size w (w2.alloc (.cells #[St nm] 9 (0, 0))) := HB2.out.1.alloc HB2.out.1.size _
                      exact h1.grown hg6 h1.size fun k hk => (HO2.out.lt k hk).1)
                    clear ho6 hg6 HO2 HB2
                    go_wp2_with fail
                    have hnr := HNR.out
                    refine ⟨⟨r, _, _, done ++ [nm], A6, c6, by rw [hnr], by simp, HRN, by simpa using HO6, HE, Lib.hid (by have := HS.out; have := HRL.out; simp; omega), HB6⟩, by simp [lenV]; have := HRL.out; omega⟩
              · have cv := conv_rd (w := wr) (n := w.heap.size) (A := some ⟨bb, o + 1, none⟩) (l := []) Rd.nil (c3 - 1) 0 rfl (fun h => by cases h)
                clear hbad hN HLL HSS HS2' hcl hk hx
                go_wp2_with fail
                have HRN : Hid (Rd w w.heap.size (some ⟨bb, o + 1, none⟩) r ∧ r.length ≤ (c3 - 1) ∧ (c3 - 1) < 2 ^ 63) := Lib.hid ⟨(Rd.drop (size := 1) HR2.out.1 (by simp)), by omega, by omega⟩
                have CJ := Lib.hid (join_any A4 c4 gu ls wr HO4.out (by have := HS2.out; have := HS.out; have := HL.out.1; omega) (by have := (labs_len HLE.out).2; have := HS.out; have := HL.out.1; omega))
                have HRL := Lib.hid ((labs_len HLE.out).1)
                have HNR : Hid (N - 1 = r.length) := Lib.hid (by rw [HN1.out]; rfl)
                obtain ⟨M, hM⟩ : ∃ M, M = N - 1 := ⟨_, rfl⟩
                rw [← hM] at HNR ⊢
                obtain ⟨nm, hnm⟩ : ∃ nm, nm = jn ls := ⟨_, rfl⟩
                rw [← hnm] at CJ
                have HNM := Lib.hid hnm
                have HON := Lib.hid (nms_some HLE.out)
                rw [← hnm] at HON
                clear hM hnm cv hc3 n0 n1 f1 d1 d1' d2 u0 HR2 HRD
                refine CJ.out.mono ?_
                rintro e w2 ⟨rfl, b2⟩
                have HB2 := Lib.hid (And.intro (HB.out.1.trans (b2.mono HB.out.1.size)) b2.size)
                have HO2 := Lib.hid (HO.out.below b2)
                clear CJ b2 HO HB HO4
                by_cases hne : nm = []
                · have HE : Hid (nms b = done) := Lib.hid (by rw [HN.out, HON.out, if_pos (.inl hne), List.append_nil])
                  subst hne
                  go_wp2_with fail
                  rw [Exit.noGoto_ret]
                  go_ret
                  exact ⟨_, rfl, HE.out ▸ HO2.out, HB2.out.1⟩
                · have t1 : nm.isEmpty = false := by
                    cases nm with
                    | nil => exact absurd rfl hne
                    | cons y z => rfl
                  by_cases hlong : 255 < nm.length
                  · have t2 : decide ((255 : Int) < (nm.length : Int)) = true := decide_eq_true (by omega)
                    have HE : Hid (nms b = done) := Lib.hid (by rw [HN.out, HON.out, if_pos (.inr hlong), List.append_nil])
                    clear hlong
                    go_wp2_with fail
                    rw [Exit.noGoto_ret]
                    go_ret
                    exact ⟨_, rfl, HE.out ▸ HO2.out, HB2.out.1⟩
                  · have t2 : decide ((255 : Int) < (nm.length : Int)) = false := decide_eq_false (by omega)
                    have HE : Hid (nms b = (done ++ [nm]) ++ nms r) := Lib.hid (by rw [HN.out, HON.out, if_neg (by rintro (h | h); exact hne h; exact hlong h), List.append_assoc]; rfl)
                    clear hlong
                    go_wp2_with (at_builtin; refine wpList_snocT rfl _ _ rfl w.heap.size (.slice A2 done.length c2) done rfl ((HO2.out.below (w' := w2.alloc (.cells #[St nm] 9 (0, 0))) ((by (repeat (first | exact Below.refl _ _ | assumption | refine Below.drew ?_ | refine bdrewN ?_ _ | refine Below.alloc ?_ (by first | omega | (simp <;> omega) | (simp only [World.size_alloc] <;> omega)) _ | refine below_setRow ?_ (by first | omega | (simp <;> omega)) _ | refine Below.setCell ?_ (by first | omega | (simp <;> omega)) _)))))) ⟨w2.heap.size, 0, none⟩ nm rfl (bk_cell (bk_alloc_at w2 (.cells #[St nm] 9 (0, 0)) _ rfl) 0) (by have := HB2.out.1.size; simp; omega) (by have := HS.out; have := HL.out.1; omega) ?_)
                    intro A6 c6 w6 ho6 hg6 _
                    have HO6 := Lib.hid ho6
                    have HB6 : Hid (Below w.heap.size w w6) := Lib.hid (by
                      have h1 : Below w.heap.size w (w2.alloc (.cells #[St nm] 9 (0, 0))) := HB2.out.1.alloc HB2.out.1.size _
                      exact h1.grown hg6 h1.size fun k hk => (HO2.out.lt k hk).1)
                    clear ho6 hg6 HO2 HB2
                    go_wp2_with fail
                    have hnr := HNR.out
                    refine ⟨⟨r, _, _, done ++ [nm], A6, c6, by rw [hnr], by simp, HRN, by simpa using HO6, HE, Lib.hid (by have := HS.out; have := HRL.out; simp; omega), HB6⟩, by simp [lenV]; have := HRL.out; omega⟩
            · by_cases hc1 : c3 = 1 + k
              · skip
                have hdl : (r.drop k).length = N - (1 + k) := by rw [List.length_drop]; omega
                have HRN : Hid (Rd w w.heap.size (some ⟨bb, o, none⟩) (r.drop k) ∧ (r.drop k).length ≤ (c3 - (1 + k)) ∧ (c3 - (1 + k)) < 2 ^ 63) := Lib.hid ⟨(by have : r.drop k = [] := List.eq_nil_of_length_eq_zero (by rw [List.length_drop]; omega); rw [this]; exact Rd.nil), by rw [hdl]; omega, by omega⟩
                have htl : k = (r.take k).length := by rw [List.length_take]; omega
                have cv := conv_rd (Rd.take (m := k) (Rd.drop (size := 1) HRD.out (by simp))) (c3 - 1) k htl (fun h => by cases h)
                rw [show List.drop 1 (x :: r) = r from rfl] at cv
                have i1 : (1 : Int) ≤ 1 + (k : Int) := by omega
                have kb : k < 64 := by omega
                have f0 : IntKind.i64.wrap (k : Int) = (k : Int) := by rw [IntKind.wrap_i64]; omega
                have i2 : (1 : Int) + (k : Int) ≤ (c3 : Int) := by omega
                have i3 : (1 : Int) + (k : Int) ≤ (N : Int) := by omega
                obtain ⟨q, hq⟩ : ∃ q, q = 1 + k := ⟨_, rfl⟩
                have f2 : IntKind.i64.wrap (1 + (k : Int)) = (q : Int) := by rw [IntKind.wrap_i64]; omega
                have f3 : IntKind.i64.wrap (q : Int) = (q : Int) := by rw [IntKind.wrap_i64]; omega
                have qb : q ≤ 64 := by omega
                have j0 : (1 : Int) + (k : Int) = (q : Int) := by omega
                have j1 : (1 : Int) ≤ (q : Int) := by omega
                have j2 : (q : Int) ≤ (c3 : Int) := by omega
                have j3 : (q : Int) ≤ (N : Int) := by omega
                have j4 : q - 1 = k := by omega
                have j5 : 1 ≤ q := by omega
                have j6 : q ≤ c3 := by omega
                have j7 : q ≤ N := by omega
                have k0 : ((k : Int) == 0) = false := beq_eq_false_iff_ne.2 (by omega)
                have HKN : Hid (k ≠ 0 ∧ k ≤ r.length ∧ (r.drop k).length = N - q ∧ (r.take k).length = k) := Lib.hid ⟨hk0, by omega, by rw [hdl, hq], htl.symm⟩
                have HLB2 : Hid (labs rest = (labs (r.drop k)).map fun p => (ls ++ [r.take k] ++ p.1, p.2)) := Lib.hid (by
                  have h9 := labs_more (x := x) (r := r) (by omega) (by omega) (by omega)
                  rw [HLB.out, h9, ← hk]
                  cases labs (r.drop k) with
                  | none => rfl
                  | some p => simp)
                obtain ⟨lb, hlb⟩ : ∃ lb, lb = r.take k := ⟨_, rfl⟩
                rw [← hlb] at cv HLB2
                have hcq : ¬ c3 = 1 := by omega
                clear hbad hN HLL HSS HS2' hcl hk hx hk0 hdl htl hlb i1 i2 i3 HLB d1 d1' HR2 HRD
                rw [← hq] at hc1
                have HQ := Lib.hid hq
                clear hq
                subst hc1
                rw [j4] at cv
                clear hc3
                go_upto_region 8 with fail
                have b1 : Below w.heap.size w (wr.alloc (.cells #[St lb] 9 (0, 0))) := HB.out.1.alloc HB.out.1.size _
                have b2 : Below wr.heap.size wr (wr.alloc (.cells #[St lb] 9 (0, 0))) := (by (repeat (first | exact Below.refl _ _ | assumption | refine Below.drew ?_ | refine bdrewN ?_ _ | refine Below.alloc ?_ (by first | omega | (simp <;> omega) | (simp only [World.size_alloc] <;> omega)) _ | refine below_setRow ?_ (by first | omega | (simp <;> omega)) _ | refine Below.setCell ?_ (by first | omega | (simp <;> omega)) _)))
                have HB1 := Lib.hid b1
                have HO1 := Lib.hid (HO4.out.below b2)
                have HP1 := Lib.hid (HO.out.below b2)
                have HK1 := Lib.hid (bk_cell (bk_alloc_at wr (.cells #[St lb] 9 (0, 0)) _ rfl) 0)
                clear b1 b2 cv u0 n0 n1 f1 d2 f0 f2 f3
                go_wp2_with (at_builtin; refine wpList_snocT rfl _ _ rfl gu (.slice A4 ls.length c4) ls rfl HO1.out ⟨wr.heap.size, 0, none⟩ lb rfl HK1.out (by have := HB.out.2; simp; omega) (by have := HS2.out; have := HS.out; have := HL.out.1; omega) ?_)
                intro A6 c6 w6 ho6 hg6 _
                have HB6 : Hid (Below w.heap.size w w6 ∧ gu ≤ w6.heap.size) := Lib.hid ⟨HB1.out.grown hg6 HB1.out.size fun k hk => Nat.le_trans HGW.out (HO1.out.lt k hk).1, Nat.le_trans HB.out.2 (Nat.le_trans (by simp) hg6.size)⟩
                have t6 : Tn (fun k => (Value.slice A4 ls.length c4).ownBlock = some k) (wr.alloc (.cells #[St lb] 9 (0, 0))) w6 := ⟨hg6.os, hg6.tape, hg6.output, hg6.size, fun k hk hn => hg6.block k hk (fun e => hn e.symm)⟩
                have HP6 : Hid (OutT w6 w.heap.size (.slice A2 done.length c2) done) := Lib.hid (HP1.out.turn t6 fun k hk hf => by have h1 := HOB.out k hk; have h2 := (HO1.out.lt k hf).1; omega)
                have HO6 := Lib.hid ho6
                clear ho6 hg6 t6 HP1 HO1 HB1 HK1 HO HO4 HB
                go_wp2_with fail
                have hd1 := HKN.out
                have hr1 : (List.drop k r).length = r.length - k := List.length_drop
                refine ⟨⟨r.drop k, _, _, ls ++ [lb], A6, c6, by rw [hd1.2.2.1], by simp, ?_, by simpa using HO6, HLB2, Lib.hid (by have := HS2.out; simp; omega), HP6, HB6⟩, by simp [lenV]; omega⟩
                exact Lib.hid ⟨HRN.out.1, by have h1 := HRN.out.2; have h2 := HQ.out; omega, by decide⟩
              · skip
                have hdl : (r.drop k).length = N - (1 + k) := by rw [List.length_drop]; omega
                have HRN : Hid (Rd w w.heap.size (some ⟨bb, o + (1 + k), none⟩) (r.drop k) ∧ (r.drop k).length ≤ (c3 - (1 + k)) ∧ (c3 - (1 + k)) < 2 ^ 63) := Lib.hid ⟨(by have h9 := Rd.drop (size := 1 + k) HR2.out.1 (by simp; omega); rw [Nat.add_comm 1 k, List.drop_succ_cons] at h9; rw [Nat.add_comm 1 k]; exact h9), by rw [hdl]; omega, by omega⟩
                have htl : k = (r.take k).length := by rw [List.length_take]; omega
                have cv := conv_rd (Rd.take (m := k) (Rd.drop (size := 1) HRD.out (by simp))) (c3 - 1) k htl (fun h => by cases h)
                rw [show List.drop 1 (x :: r) = r from rfl] at cv
                have i1 : (1 : Int) ≤ 1 + (k : Int) := by omega
                have kb : k < 64 := by omega
                have f0 : IntKind.i64.wrap (k : Int) = (k : Int) := by rw [IntKind.wrap_i64]; omega
                have i2 : (1 : Int) + (k : Int) ≤ (c3 : Int) := by omega
                have i3 : (1 : Int) + (k : Int) ≤ (N : Int) := by omega
                obtain ⟨q, hq⟩ : ∃ q, q = 1 + k := ⟨_, rfl⟩
                have f2 : IntKind.i64.wrap (1 + (k : Int)) = (q : Int) := by rw [IntKind.wrap_i64]; omega
                have f3 : IntKind.i64.wrap (q : Int) = (q : Int) := by rw [IntKind.wrap_i64]; omega
                have qb : q ≤ 64 := by omega
                have j0 : (1 : Int) + (k : Int) = (q : Int) := by omega
                have j1 : (1 : Int) ≤ (q : Int) := by omega
                have j2 : (q : Int) ≤ (c3 : Int) := by omega
                have j3 : (q : Int) ≤ (N : Int) := by omega
                have j4 : q - 1 = k := by omega
                have j5 : 1 ≤ q := by omega
                have j6 : q ≤ c3 := by omega
                have j7 : q ≤ N := by omega
                have k0 : ((k : Int) == 0) = false := beq_eq_false_iff_ne.2 (by omega)
                have HKN : Hid (k ≠ 0 ∧ k ≤ r.length ∧ (r.drop k).length = N - q ∧ (r.take k).length = k) := Lib.hid ⟨hk0, by omega, by rw [hdl, hq], htl.symm⟩
                have HLB2 : Hid (labs rest = (labs (r.drop k)).map fun p => (ls ++ [r.take k] ++ p.1, p.2)) := Lib.hid (by
                  have h9 := labs_more (x := x) (r := r) (by omega) (by omega) (by omega)
                  rw [HLB.out, h9, ← hk]
                  cases labs (r.drop k) with
                  | none => rfl
                  | some p => simp)
                obtain ⟨lb, hlb⟩ : ∃ lb, lb = r.take k := ⟨_, rfl⟩
                rw [← hlb] at cv HLB2
                have hcq : ¬ c3 = 1 := by omega
                clear hbad hN HLL HSS HS2' hcl hk hx hk0 hdl htl hlb i1 i2 i3 HLB d1 d1' HR2 HRD
                rw [← hq] at hc1
                have HQ := Lib.hid hq
                clear hq
                go_upto_region 8 with fail
                have b1 : Below w.heap.size w (wr.alloc (.cells #[St lb] 9 (0, 0))) := HB.out.1.alloc HB.out.1.size _
                have b2 : Below wr.heap.size wr (wr.alloc (.cells #[St lb] 9 (0, 0))) := (by (repeat (first | exact Below.refl _ _ | assumption | refine Below.drew ?_ | refine bdrewN ?_ _ | refine Below.alloc ?_ (by first | omega | (simp <;> omega) | (simp only [World.size_alloc] <;> omega)) _ | refine below_setRow ?_ (by first | omega | (simp <;> omega)) _ | refine Below.setCell ?_ (by first | omega | (simp <;> omega)) _)))
                have HB1 := Lib.hid b1
                have HO1 := Lib.hid (HO4.out.below b2)
                have HP1 := Lib.hid (HO.out.below b2)
                have HK1 := Lib.hid (bk_cell (bk_alloc_at wr (.cells #[St lb] 9 (0, 0)) _ rfl) 0)
                clear b1 b2 cv u0 n0 n1 f1 d2 f0 f2 f3
                go_wp2_with (at_builtin; refine wpList_snocT rfl _ _ rfl gu (.slice A4 ls.length c4) ls rfl HO1.out ⟨wr.heap.size, 0, none⟩ lb rfl HK1.out (by have := HB.out.2; simp; omega) (by have := HS2.out; have := HS.out; have := HL.out.1; omega) ?_)
                intro A6 c6 w6 ho6 hg6 _
                have HB6 : Hid (Below w.heap.size w w6 ∧ gu ≤ w6.heap.size) := Lib.hid ⟨HB1.out.grown hg6 HB1.out.size fun k hk => Nat.le_trans HGW.out (HO1.out.lt k hk).1, Nat.le_trans HB.out.2 (Nat.le_trans (by simp) hg6.size)⟩
                have t6 : Tn (fun k => (Value.slice A4 ls.length c4).ownBlock = some k) (wr.alloc (.cells #[St lb] 9 (0, 0))) w6 := ⟨hg6.os, hg6.tape, hg6.output, hg6.size, fun k hk hn => hg6.block k hk (fun e => hn e.symm)⟩
                have HP6 : Hid (OutT w6 w.heap.size (.slice A2 done.length c2) done) := Lib.hid (HP1.out.turn t6 fun k hk hf => by have h1 := HOB.out k hk; have h2 := (HO1.out.lt k hf).1; omega)
                have HO6 := Lib.hid ho6
                clear ho6 hg6 t6 HP1 HO1 HB1 HK1 HO HO4 HB
                go_wp2_with fail
                have hd1 := HKN.out
                have hr1 : (List.drop k r).length = r.length - k := List.length_drop
                refine ⟨⟨r.drop k, _, _, ls ++ [lb], A6, c6, by rw [hd1.2.2.1], by simp, ?_, by simpa using HO6, HLB2, Lib.hid (by have := HS2.out; simp; omega), HP6, HB6⟩, by simp [lenV]; omega⟩
                have h1 := HRN.out
                rw [← HQ.out] at h1
                exact Lib.hid h1
          · have d2 : decide (min 63 ((N : Int) - 1) < (x.toNat : Int)) = true := decide_eq_true (by omega)
            have HE : Hid (nms b = done) := Lib.hid (by rw [HN.out, nms_none (by rw [HLB.out, labs_bad hbad]; rfl), List.append_nil])
            clear hbad hN HLL HSS HS2' hcl
            go_wp2_with fail
            rw [Exit.noGoto_ret]
            go_ret
            exact ⟨_, rfl, HE.out ▸ HO.out, HB.out.1⟩
end Go.Proofs.Ytfldoihindbdmaa
