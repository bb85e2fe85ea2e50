import Derived.Test.YtfldoihindbdmaaF12
import Derived.Laws.IdiomStrings
import Derived.Laws.BytesArg
import Derived.Test.YtfldoihindbdmaaMgA
import Derived.OrdersIn
import Derived.TacticsIn
import Derived.RangeFuncCalls
/- Infos: names, in plain words; rows of strings. -/
namespace Go.Proofs.Ytfldoihindbdmaa
open Go.RowKit
set_option maxRecDepth 100000
set_option maxHeartbeats 1000000
/-- A string of bytes. -/
def St (l : List UInt8) : Value := .string ⟨l.toArray⟩
def jn (ls : List (List UInt8)) : List UInt8 := Lib.join ls [46]
theorem jn_cons (x : List UInt8) (r : List (List UInt8)) : jn (x :: r) = x ++ Lib.joinTail [46] r := Lib.join_cons x r [46]
theorem tail_snoc (r : List (List UInt8)) (x : List UInt8) : Lib.joinTail [46] (r ++ [x]) = Lib.joinTail [46] r ++ ([46] ++ x) := by simp [Lib.joinTail]
theorem jn_snoc {ls : List (List UInt8)} (h : ls ≠ []) (x : List UInt8) : jn (ls ++ [x]) = jn ls ++ [46] ++ x := by
  cases ls with
  | nil => exact absurd rfl h
  | cons y r => rw [List.cons_append, jn_cons, jn_cons, tail_snoc, List.append_assoc, List.append_assoc]
theorem jn_one (x : List UInt8) : jn [x] = x := Lib.join_one x [46]
theorem jn_len : ∀ ls : List (List UInt8), (jn ls).length ≤ (ls.map fun l => l.length + 1).sum := by
  intro ls
  cases ls with
  | nil => exact Nat.zero_le _
  | cons x r =>
    rw [jn_cons, List.length_append, Lib.joinTail_length]
    have h : ∀ r : List (List UInt8), [46].length * r.length + Lib.lens r = (r.map fun l => l.length + 1).sum := by
      intro r
      induction r with
      | nil => rfl
      | cons y r ih =>
        simp only [Lib.lens, List.map_cons, List.sum_cons, List.length_cons, List.length_nil] at ih ⊢
        omega
    have := h r
    have e : ([46] : List UInt8).length = 1 := rfl
    simp only [List.map_cons, List.sum_cons, List.length_cons, List.length_nil] at this ⊢
    omega
/-- The labels of a name, and what stands behind it. -/
def labs : List UInt8 → Option (List (List UInt8) × List UInt8)
  | [] => none
  | x :: r => if x.toNat ≤ 63 ∧ x.toNat ≤ r.length then (if x.toNat = 0 then some ([], r) else (labs (r.drop x.toNat)).map fun p => (r.take x.toNat :: p.1, p.2)) else none
  termination_by b => b.length
  decreasing_by simp only [List.length_drop, List.length_cons]; omega
theorem labs_nil : labs [] = none := by rw [labs]
theorem labs_bad {x : UInt8} {r : List UInt8} (h : ¬ (x.toNat ≤ 63 ∧ x.toNat ≤ r.length)) : labs (x :: r) = none := by rw [labs, if_neg h]
theorem labs_end {x : UInt8} {r : List UInt8} (h : x.toNat = 0) : labs (x :: r) = some ([], r) := by rw [labs, if_pos (by omega), if_pos h]
theorem labs_more {x : UInt8} {r : List UInt8} (h : x.toNat ≤ 63) (h1 : x.toNat ≤ r.length) (h0 : x.toNat ≠ 0) : labs (x :: r) = (labs (r.drop x.toNat)).map fun p => (r.take x.toNat :: p.1, p.2) := by rw [labs, if_pos ⟨h, h1⟩, if_neg h0]
theorem labs_sum : ∀ (n : Nat) (b : List UInt8) (ls : List (List UInt8)) (t : List UInt8), b.length ≤ n → labs b = some (ls, t) → (ls.map fun l => l.length + 1).sum + t.length + 1 = b.length ∧ ∀ l ∈ ls, l ≠ [] := by
  intro n
  induction n with
  | zero =>
    intro b ls t hb h
    have : b = [] := List.eq_nil_of_length_eq_zero (by omega)
    rw [this, labs_nil] at h
    cases h
  | succ n ih =>
    intro b ls t hb h
    cases b with
    | nil => rw [labs_nil] at h; cases h
    | cons x r =>
      by_cases h1 : x.toNat ≤ 63 ∧ x.toNat ≤ r.length
      · by_cases h0 : x.toNat = 0
        · rw [labs_end h0] at h
          cases h
          refine ⟨by simp, fun l hl => ?_⟩
          cases hl
        · rw [labs_more h1.1 h1.2 h0] at h
          cases e : labs (r.drop x.toNat) with
          | none => rw [e] at h; cases h
          | some p =>
            rw [e] at h
            cases h
            have hb' : r.length + 1 ≤ n + 1 := hb
            obtain ⟨i1, i2⟩ := ih (r.drop x.toNat) p.1 p.2 (by rw [List.length_drop]; omega) e
            rw [List.length_drop] at i1
            refine ⟨?_, fun l hl => ?_⟩
            · simp only [List.map_cons, List.sum_cons, List.length_take, List.length_cons]
              omega
            · rcases List.mem_cons.1 hl with rfl | hl
              · intro q
                have := congrArg List.length q
                rw [List.length_take, List.length_nil] at this
                omega
              · exact i2 l hl
      · rw [labs_bad h1] at h; cases h
theorem labs_len {b : List UInt8} {ls : List (List UInt8)} {t : List UInt8} (h : labs b = some (ls, t)) : t.length < b.length ∧ (jn ls).length ≤ b.length := by
  obtain ⟨h1, _⟩ := labs_sum b.length b ls t (Nat.le_refl _) h
  have := jn_len ls
  omega
/-- The names, up to the first that is none. -/
def nms (b : List UInt8) : List (List UInt8) :=
  match h : labs b with
  | none => []
  | some p => if jn p.1 = [] ∨ 255 < (jn p.1).length then [] else jn p.1 :: nms p.2
  termination_by b.length
  decreasing_by exact (labs_len (show labs b = some (p.1, p.2) from h)).1
theorem nms_none {b : List UInt8} (h : labs b = none) : nms b = [] := by
  rw [nms]
  split
  · rfl
  · rename_i p e; rw [h] at e; cases e
theorem nms_some {b t : List UInt8} {ls : List (List UInt8)} (h : labs b = some (ls, t)) : nms b = if jn ls = [] ∨ 255 < (jn ls).length then [] else jn ls :: nms t := by
  rw [nms]
  split
  · rename_i e; rw [h] at e; cases e
  · rename_i p e; rw [h] at e; cases e; rfl
theorem nms_nil : nms [] = [] := nms_none labs_nil
theorem nms_len : ∀ (n : Nat) (b : List UInt8), b.length ≤ n → (nms b).length ≤ b.length ∧ ∀ s ∈ nms b, s.length ≤ 255 := by
  intro n
  induction n with
  | zero =>
    intro b hb
    have : b = [] := List.eq_nil_of_length_eq_zero (by omega)
    rw [this, nms_nil]
    exact ⟨Nat.le_refl _, fun s hs => by cases hs⟩
  | succ n ih =>
    intro b hb
    cases h : labs b with
    | none => rw [nms_none h]; exact ⟨Nat.zero_le _, fun s hs => by cases hs⟩
    | some p =>
      have hl := (labs_len (show labs b = some (p.1, p.2) from h)).1
      rw [nms_some (show labs b = some (p.1, p.2) from h)]
      split
      · exact ⟨Nat.zero_le _, fun s hs => by cases hs⟩
      · rename_i hc
        obtain ⟨i1, i2⟩ := ih p.2 (by omega)
        refine ⟨by rw [List.length_cons]; omega, fun s hs => ?_⟩
        rcases List.mem_cons.1 hs with rfl | hs
        · omega
        · exact i2 s hs
theorem infoT : (Try.prog.info? 9).map (fun i => (i.zero, i.size, i.bytes)) = some (some (.string ByteArray.empty), 1, 16) := by kernel_rfl
/-- A row of strings of one's own. -/
def OutT (w : World) (n : Nat) (v : Value) (ss : List (List UInt8)) : Prop := w.ownsRow n 9 1 v ss.length (ss.map St)
theorem OutT.nil {w : World} {n : Nat} : OutT w n (.slice none 0 0) [] := World.ownsRow_nil _ _ _ _
theorem OutT.turn {F : Nat → Prop} {w w' : World} {n : Nat} {v : Value} {ss : List (List UInt8)} (h : OutT w n v ss) (ht : Tn F w w') (hF : ∀ k, v.ownBlock = some k → ¬ F k) : OutT w' n v ss :=
  own_turnS h fun k hk => ht.old k (h.lt k hk).2 (hF k hk)
theorem OutT.below {w w' : World} {n : Nat} {v : Value} {ss : List (List UInt8)} (h : OutT w n v ss) (hb : Below w.heap.size w w') : OutT w' n v ss := h.turn (Tn.of hb) (F := fun _ => False) (fun _ _ e => e)
theorem OutT.sl {w : World} {n : Nat} {v : Value} {ss : List (List UInt8)} (h : OutT w n v ss) : ∃ A c, v = .slice A ss.length c ∧ ss.length ≤ c := own_slS h
theorem OutT.mono {w : World} {n m : Nat} {v : Value} {ss : List (List UInt8)} (h : OutT w n v ss) (hm : m ≤ n) : OutT w m v ss := by
  refine ⟨h.1, ?_⟩
  rcases h.2 with h2 | ⟨g, cap, cur, h3, h4, h5⟩
  · exact .inl h2
  · exact .inr ⟨g, cap, cur, h3, Nat.le_trans hm h4, h5⟩
/-- One more string behind a row of one's own. -/
theorem wpList_snocT {w : World} {ops : Array Oper} {rest : List Oper} {o : Oper} {a : Act} {Q : Exit → Act → World → Prop} (hgd : o.guard = none) (s x : Operand)
    (ho : o.op = .call { callee := .builtin .append, args := #[s, x], argTypes := #[34, 34] })
    (n : Nat) (v : Value) (ss : List (List UInt8)) (hs : a.eval s = v) (hown : OutT w n v ss) (ad : Addr) (u : List UInt8) (hx : a.eval x = .slice (some ad) 1 1) (hc : w.cell? ad = some (St u)) (hn : n ≤ w.heap.size) (hl : ss.length < 2 ^ 30)
    (h : ∀ A' c' w', OutT w' n (.slice A' (ss.length + 1) c') (ss ++ [u]) → w.grownBy w' v.ownBlock → ((Value.slice A' (ss.length + 1) c').ownBlock = v.ownBlock ∨ (Value.slice A' (ss.length + 1) c').ownBlock = some w.heap.size) → wpList Try.prog ops Q rest (a.put o.dst (.slice A' (ss.length + 1) c')) w') :
    wpList Try.prog ops Q (o :: rest) a w := by
  obtain ⟨i0, hi, hz0, hz1, hz2⟩ := info_parts infoT
  obtain ⟨v', w', hr, h2, h3, _, h5⟩ := run_append_own_at (P := Try.prog) w n 34 o.type 9 i0 (.string ByteArray.empty) 1 16 Try.underlying34 hi hz0 hz1 hz2 rfl (by decide) v ss.length (ss.map St) hown ad 1 1 [St u] (by simp) (fun j y hy => by
    cases j with
    | zero =>
      simp at hy
      subst hy
      have : ad.add 0 = ad := by cases ad; simp [Addr.add]
      rw [this]; exact hc
    | succ j => simp at hy) (fun y hy => by simp at hy; subst hy; rfl) (by unfold maxLen; omega) (by omega) hn
  refine wpList_plain hgd fun K hK => ?_
  unfold Oper.wp execOp
  simp only [ho, resolve, invoke, builtin, Sem.run_bind, Sem.run_pure, Result.andThen_ok, List.map_toArray, List.map_cons, List.map_nil, hs, hx, hr]
  obtain ⟨A', c', rfl, _⟩ := own_slS h2
  refine hK _ _ (h _ _ w' ?_ h3 h5)
  unfold OutT
  rw [List.map_append, List.length_append]
  exact h2
end Go.Proofs.Ytfldoihindbdmaa
/- Infos: names, walked. -/
namespace Go.Proofs.Ytfldoihindbdmaa
open Go.RowKit
set_option maxRecDepth 100000
set_option maxHeartbeats 1000000
def lenV (v : Value) : Nat := match v with | .slice _ n _ => n | _ => 0
theorem conv_rd {w : World} {n : Nat} {A : Option Addr} {l : List UInt8} (h : Rd w n A l) (c k : Nat) (hk : k = l.length) (hl : A = none → l = []) :
    (convert 22 9 (.slice A k c)).run Try.prog w = .ok (.string ⟨l.toArray⟩) w := by
  subst hk
  cases A with
  | none =>
    obtain rfl := hl rfl
    exact run_convert_bytes_nil w 22 5 Try.underlying22 Try.underlying5 _ _ 9 Try.underlying9
  | some ad =>
    refine run_convert_bytes_back w 22 9 5 ad c l Try.underlying22 Try.underlying5 Try.underlying9 fun j hj => ?_
    exact h.news j _ (by rw [List.getElem?_map, List.getElem?_eq_getElem hj]; rfl)
theorem Rd.drop {w : World} {n b o size : Nat} {l : List UInt8} (h : Rd w n (some ⟨b, o, none⟩) l) (hs : size ≤ l.length) : Rd w n (some ⟨b, o + size, none⟩) (l.drop size) := fun h0 => by
  obtain ⟨b', o', e, hlt, hc⟩ := h (by rw [List.length_drop] at h0; omega)
  cases e
  refine ⟨b, o + size, rfl, hlt, fun j hj => ?_⟩
  have h1 := hc (size + j) (by rw [List.length_drop] at hj; omega)
  rw [Nat.add_assoc, h1, List.getElem_drop]
theorem join_any (A : Option Addr) (c n : Nat) (ls : List (List UInt8)) (w : World) (h : OutT w n (.slice A ls.length c) ls) (hl : ls.length < 2 ^ 40) (hj : (jn ls).length < 2 ^ 40) :
    Calls Try.prog 80 #[.slice A ls.length c, .string ⟨#[46]⟩] w fun e w' => e = .returned (.string ⟨(jn ls).toArray⟩) ∧ Below w.heap.size w w' := by
  cases ls with
  | nil =>
    refine (Try.strings_Join_none A c ⟨#[46]⟩ w).mono ?_
    rintro e w' ⟨rfl, rfl⟩
    exact ⟨rfl, Below.refl _ _⟩
  | cons x r =>
    rcases h.2 with ⟨q, _⟩ | ⟨g, cap, cur, q, hg, hk, hcap, hmax, hsz, htk⟩
    · cases q
    · cases q
      have e : ((x :: r).map fun l => (⟨l.toArray⟩ : ByteArray)).length = (x :: r).length := List.length_map _
      have e2 : List.map (fun b : ByteArray => b.data.toList) ((x :: r).map fun l => (⟨l.toArray⟩ : ByteArray)) = x :: r := by
        rw [List.map_map]
        refine (List.map_congr_left fun a _ => ?_).trans (List.map_id _)
        simp
      have C := Try.strings_Join g 0 c ((x :: r).map fun l => (⟨l.toArray⟩ : ByteArray)) ⟨#[46]⟩ w (fun j y hj => by
        have hjl : j < (x :: r).length := by rw [← e]; exact (List.getElem?_eq_some_iff.1 hj).1
        rw [List.getElem?_map, List.getElem?_eq_getElem hjl] at hj
        cases hj
        rw [bk_cell (show bk w g = _ from hk), Nat.zero_add]
        have h1 : (cur.toList.take ((x :: r).length * 1))[j]? = some (St (x :: r)[j]) := by
          rw [htk, List.getElem?_map, List.getElem?_eq_getElem hjl]; rfl
        rw [List.getElem?_take, if_pos (by omega), Array.getElem?_toList] at h1
        exact h1) (bk_lt (show bk w g = _ from hk)) (by rw [e]; omega) (by rw [e]; exact hcap) (by rw [e2]; have h3 := hj; unfold jn at h3; exact Nat.le_of_lt (Nat.lt_of_lt_of_le h3 (by decide)))
      rw [e, e2] at C
      exact C
theorem names_any (A : Option Addr) (b : List UInt8) (c : Nat) (w : World) (h : Rd w w.heap.size A b) (hc : b.length ≤ c) (hl : b.length < 2 ^ 30) (hcc : c < 2 ^ 63) :
    Calls Try.prog 61 #[.slice A b.length c] w fun e w' => ∃ v, e = .returned v ∧ OutT w' w.heap.size v (nms b) ∧ Below w.heap.size w w' := by
  have HR := Lib.hid h
  have HL := Lib.hid (And.intro hl (And.intro hc hcc))
  clear h hc hl hcc
  go_enter Try.func61, Try.ntmps61
  go_wp2
  go_step3
  go_wp2
  go_step3
  go_wp2
  go_loopw [0, 2] (fun bv ov wr => ∃ (rest : List UInt8) (A1 : Option Addr) (c1 : Nat) (done : List (List UInt8)) (A2 : Option Addr) (c2 : Nat), bv = .slice A1 rest.length c1 ∧ ov = .slice A2 done.length c2 ∧ Hid (Rd w w.heap.size A1 rest ∧ rest.length ≤ c1 ∧ c1 < 2 ^ 63) ∧ Hid (OutT wr w.heap.size (.slice A2 done.length c2) done) ∧ Hid (nms b = done ++ nms rest) ∧ Hid (done.length + rest.length ≤ b.length) ∧ Hid (Below w.heap.size w wr)) (fun bv _ _ => lenV bv)
  case atStart => exact ⟨b, A, c, [], none, 0, rfl, rfl, Lib.hid ⟨HR.out, HL.out.2⟩, Lib.hid OutT.nil, Lib.hid rfl, Lib.hid (by simp), Lib.hid (Below.refl _ _)⟩
  case round =>
    obtain ⟨rest, A1, c1, done, A2, c2, rfl, rfl, HR1, HO, HN, HS, HB⟩ := hrel
    clear HR
    by_cases h0 : rest.length = 0
    · have d1 : decide (0 < (rest.length : Int)) = false := decide_eq_false (by omega)
      have d1' : decide (0 < rest.length) = false := decide_eq_false (by omega)
      have HE : Hid (nms b = done) := Lib.hid (by rw [HN.out, List.eq_nil_of_length_eq_zero h0, nms_nil, List.append_nil])
      clear h0
      go_wp2
      rw [Exit.noGoto_ret]
      go_ret
      exact ⟨_, rfl, HE.out ▸ HO.out, HB.out⟩
    · have d1 : decide (0 < (rest.length : Int)) = true := decide_eq_true (by omega)
      have d1' : decide (0 < rest.length) = true := decide_eq_true (by omega)
      obtain ⟨gu, hgu⟩ : ∃ g, g = wr.heap.size := ⟨_, rfl⟩
      have HG := Lib.hid hgu
      have HOB : Hid (∀ k, (Value.slice A2 done.length c2).ownBlock = some k → k < gu) := Lib.hid fun k hk => by rw [hgu]; exact (HO.out.lt k hk).2
      have HGW : Hid (w.heap.size ≤ gu) := Lib.hid (by rw [hgu]; exact HB.out.size)
      clear h0 hgu
      go_wp2
      go_loopw [0, 3] (fun bv lv ws => ∃ (r2 : List UInt8) (A3 : Option Addr) (c3 : Nat) (ls : List (List UInt8)) (A4 : Option Addr) (c4 : Nat), bv = .slice A3 r2.length c3 ∧ lv = .slice A4 ls.length c4 ∧ Hid (Rd w w.heap.size A3 r2 ∧ r2.length ≤ c3 ∧ c3 < 2 ^ 63) ∧ Hid (OutT ws gu (.slice A4 ls.length c4) ls) ∧ Hid (labs rest = (labs r2).map fun p => (ls ++ p.1, p.2)) ∧ Hid (ls.length + r2.length ≤ rest.length) ∧ Hid (OutT ws w.heap.size (.slice A2 done.length c2) done) ∧ Hid (Below w.heap.size w ws ∧ gu ≤ ws.heap.size)) (fun bv _ _ => lenV bv)
      case atStart => exact ⟨rest, A1, c1, [], none, 0, rfl, rfl, HR1, Lib.hid OutT.nil, Lib.hid (by cases labs rest <;> rfl), Lib.hid (by simp), HO, Lib.hid ⟨HB.out, by rw [HG.out]; exact Nat.le_refl _⟩⟩
      case round =>
        clear HO HB HG
        obtain ⟨r2, A3, c3, ls, A4, c4, rfl, rfl, HR2, HO4, HLB, HS2, HO, HB⟩ := hrel
        cases r2 with
        | nil =>
          have HE : Hid (nms b = done) := Lib.hid (by rw [HN.out, nms_none (by rw [HLB.out, labs_nil]; rfl), List.append_nil])
          go_wp2_with fail
          rw [Exit.noGoto_ret]
          go_ret
          exact ⟨_, rfl, HE.out ▸ HO.out, HB.out.1⟩
        | cons x r =>
          obtain ⟨bb, o, rfl, hbb, hcl⟩ := HR2.out.1 (by simp)
          have u0 := hcl 0 (by simp)
          rw [List.getElem_cons_zero, Nat.add_zero, ← HB.out.1.cell (p := ⟨bb, o, none⟩) hbb] at u0
          have HRD : Hid (Rd wr w.heap.size (some ⟨bb, o, none⟩) (x :: r)) := Lib.hid (HR2.out.1.below HB.out.1 (Nat.le_refl _))
          have hc3 := HR2.out.2
          simp only [List.length_cons] at hc3
          obtain ⟨N, hN⟩ : ∃ N, N = r.length + 1 := ⟨_, rfl⟩
          have e0 : (x :: r).length = N := hN.symm
          rw [e0] at HS2 ⊢
          have hx := x.toNat_lt
          have n0 : ((N : Int) == 0) = false := beq_eq_false_iff_ne.2 (by omega)
          have n1 : (0 : Int) < (N : Int) := by omega
          have HLL := HL.out.1
          have HSS := HS.out
          have HS2' := HS2.out
          have f1 : IntKind.i64.wrap ((N : Int) - 1) = (N : Int) - 1 := by rw [IntKind.wrap_i64]; omega
          have HN1 := Lib.hid hN
          by_cases hbad : x.toNat ≤ 63 ∧ x.toNat ≤ r.length
          · obtain ⟨k, hk⟩ : ∃ k, k = x.toNat := ⟨_, rfl⟩
            have d2 : decide (min 63 ((N : Int) - 1) < (k : Int)) = false := decide_eq_false (by omega)
            rw [show B x = .int .u8 (k : Int) by rw [hk]] at u0
            by_cases hk0 : k = 0
            · subst hk0
              have HLE : Hid (labs rest = some (ls, r)) := Lib.hid (by rw [HLB.out, labs_end hk.symm]; simp)
              by_cases hc1 : c3 = 1
              · subst hc1
                have cv := conv_rd (w := wr) (n := w.heap.size) (A := some ⟨bb, o, none⟩) (l := []) Rd.nil 0 0 rfl (fun h => by cases h)
                clear hbad hN HLL HSS HS2' hcl hk hx
                go_wp2_with fail
                have HRN : Hid (Rd w w.heap.size (some ⟨bb, o, none⟩) r ∧ r.length ≤ 0 ∧ 0 < 2 ^ 63) := Lib.hid ⟨(by have : r = [] := List.eq_nil_of_length_eq_zero (by omega); rw [this]; exact Rd.nil), by omega, by omega⟩
                have CJ := Lib.hid (join_any A4 c4 gu ls wr HO4.out (by have := HS2.out; have := HS.out; have := HL.out.1; omega) (by have := (labs_len HLE.out).2; have := HS.out; have := HL.out.1; omega))
                have HRL := Lib.hid ((labs_len HLE.out).1)
                have HNR : Hid (N - 1 = r.length) := Lib.hid (by rw [HN1.out]; rfl)
                obtain ⟨M, hM⟩ : ∃ M, M = N - 1 := ⟨_, rfl⟩
                rw [← hM] at HNR ⊢
                obtain ⟨nm, hnm⟩ : ∃ nm, nm = jn ls := ⟨_, rfl⟩
                rw [← hnm] at CJ
                have HNM := Lib.hid hnm
                have HON := Lib.hid (nms_some HLE.out)
                rw [← hnm] at HON
                clear hM hnm cv hc3 n0 n1 f1 d1 d1' d2 u0 HR2 HRD
                refine CJ.out.mono ?_
                rintro e w2 ⟨rfl, b2⟩
                have HB2 := Lib.hid (And.intro (HB.out.1.trans (b2.mono HB.out.1.size)) b2.size)
                have HO2 := Lib.hid (HO.out.below b2)
                clear CJ b2 HO HB HO4
                by_cases hne : nm = []
                · have HE : Hid (nms b = done) := Lib.hid (by rw [HN.out, HON.out, if_pos (.inl hne), List.append_nil])
                  subst hne
                  go_wp2_with fail
                  rw [Exit.noGoto_ret]
                  go_ret
                  exact ⟨_, rfl, HE.out ▸ HO2.out, HB2.out.1⟩
                · have t1 : nm.isEmpty = false := by
                    cases nm with
                    | nil => exact absurd rfl hne
                    | cons y z => rfl
                  by_cases hlong : 255 < nm.length
                  · have t2 : decide ((255 : Int) < (nm.length : Int)) = true := decide_eq_true (by omega)
                    have HE : Hid (nms b = done) := Lib.hid (by rw [HN.out, HON.out, if_pos (.inr hlong), List.append_nil])
                    clear hlong
                    go_wp2_with fail
                    rw [Exit.noGoto_ret]
                    go_ret
                    exact ⟨_, rfl, HE.out ▸ HO2.out, HB2.out.1⟩
                  · have t2 : decide ((255 : Int) < (nm.length : Int)) = false := decide_eq_false (by omega)
                    have HE : Hid (nms b = (done ++ [nm]) ++ nms r) := Lib.hid (by rw [HN.out, HON.out, if_neg (by rintro (h | h); exact hne h; exact hlong h), List.append_assoc]; rfl)
                    clear hlong
                    go_wp2_with (at_builtin; refine wpList_snocT rfl _ _ rfl w.heap.size (.slice A2 done.length c2) done rfl ((HO2.out.below (w' := w2.alloc (.cells #[St nm] 9 (0, 0))) ((by (repeat (first | exact Below.refl _ _ | assumption | refine Below.drew ?_ | refine bdrewN ?_ _ | refine Below.alloc ?_ (by first | omega | (simp <;> omega) | (simp only [World.size_alloc] <;> omega)) _ | refine below_setRow ?_ (by first | omega | (simp <;> omega)) _ | refine Below.setCell ?_ (by first | omega | (simp <;> omega)) _)))))) ⟨w2.heap.size, 0, none⟩ nm rfl (bk_cell (bk_alloc_at w2 (.cells #[St nm] 9 (0, 0)) _ rfl) 0) (by have := HB2.out.1.size; simp; omega) (by have := HS.out; have := HL.out.1; omega) ?_)
                    intro A6 c6 w6 ho6 hg6 _
                    have HO6 := Lib.hid ho6
                    have HB6 : Hid (Below w.heap.size w w6) := Lib.hid (by
                      have h1 : Below w.heap.size w (w2.alloc (.cells #[St nm] 9 (0, 0))) := HB2.out.1.alloc HB2.out.1.size _
                      exact h1.grown hg6 h1.size fun k hk => (HO2.out.lt k hk).1)
                    clear ho6 hg6 HO2 HB2
                    go_wp2_with fail
                    have hnr := HNR.out
                    refine ⟨⟨r, _, _, done ++ [nm], A6, c6, by rw [hnr], by simp, HRN, by simpa using HO6, HE, Lib.hid (by have := HS.out; have := HRL.out; simp; omega), HB6⟩, by simp [lenV]; have := HRL.out; omega⟩
              · have cv := conv_rd (w := wr) (n := w.heap.size) (A := some ⟨bb, o + 1, none⟩) (l := []) Rd.nil (c3 - 1) 0 rfl (fun h => by cases h)
                clear hbad hN HLL HSS HS2' hcl hk hx
                go_wp2_with fail
                have HRN : Hid (Rd w w.heap.size (some ⟨bb, o + 1, none⟩) r ∧ r.length ≤ (c3 - 1) ∧ (c3 - 1) < 2 ^ 63) := Lib.hid ⟨(Rd.drop (size := 1) HR2.out.1 (by simp)), by omega, by omega⟩
                have CJ := Lib.hid (join_any A4 c4 gu ls wr HO4.out (by have := HS2.out; have := HS.out; have := HL.out.1; omega) (by have := (labs_len HLE.out).2; have := HS.out; have := HL.out.1; omega))
                have HRL := Lib.hid ((labs_len HLE.out).1)
                have HNR : Hid (N - 1 = r.length) := Lib.hid (by rw [HN1.out]; rfl)
                obtain ⟨M, hM⟩ : ∃ M, M = N - 1 := ⟨_, rfl⟩
                rw [← hM] at HNR ⊢
                obtain ⟨nm, hnm⟩ : ∃ nm, nm = jn ls := ⟨_, rfl⟩
                rw [← hnm] at CJ
                have HNM := Lib.hid hnm
                have HON := Lib.hid (nms_some HLE.out)
                rw [← hnm] at HON
                clear hM hnm cv hc3 n0 n1 f1 d1 d1' d2 u0 HR2 HRD
                refine CJ.out.mono ?_
                rintro e w2 ⟨rfl, b2⟩
                have HB2 := Lib.hid (And.intro (HB.out.1.trans (b2.mono HB.out.1.size)) b2.size)
                have HO2 := Lib.hid (HO.out.below b2)
                clear CJ b2 HO HB HO4
                by_cases hne : nm = []
                · have HE : Hid (nms b = done) := Lib.hid (by rw [HN.out, HON.out, if_pos (.inl hne), List.append_nil])
                  subst hne
                  go_wp2_with fail
                  rw [Exit.noGoto_ret]
                  go_ret
                  exact ⟨_, rfl, HE.out ▸ HO2.out, HB2.out.1⟩
                · have t1 : nm.isEmpty = false := by
                    cases nm with
                    | nil => exact absurd rfl hne
                    | cons y z => rfl
                  by_cases hlong : 255 < nm.length
                  · have t2 : decide ((255 : Int) < (nm.length : Int)) = true := decide_eq_true (by omega)
                    have HE : Hid (nms b = done) := Lib.hid (by rw [HN.out, HON.out, if_pos (.inr hlong), List.append_nil])
                    clear hlong
                    go_wp2_with fail
                    rw [Exit.noGoto_ret]
                    go_ret
                    exact ⟨_, rfl, HE.out ▸ HO2.out, HB2.out.1⟩
                  · have t2 : decide ((255 : Int) < (nm.length : Int)) = false := decide_eq_false (by omega)
                    have HE : Hid (nms b = (done ++ [nm]) ++ nms r) := Lib.hid (by rw [HN.out, HON.out, if_neg (by rintro (h | h); exact hne h; exact hlong h), List.append_assoc]; rfl)
                    clear hlong
                    go_wp2_with (at_builtin; refine wpList_snocT rfl _ _ rfl w.heap.size (.slice A2 done.length c2) done rfl ((HO2.out.below (w' := w2.alloc (.cells #[St nm] 9 (0, 0))) ((by (repeat (first | exact Below.refl _ _ | assumption | refine Below.drew ?_ | refine bdrewN ?_ _ | refine Below.alloc ?_ (by first | omega | (simp <;> omega) | (simp only [World.size_alloc] <;> omega)) _ | refine below_setRow ?_ (by first | omega | (simp <;> omega)) _ | refine Below.setCell ?_ (by first | omega | (simp <;> omega)) _)))))) ⟨w2.heap.size, 0, none⟩ nm rfl (bk_cell (bk_alloc_at w2 (.cells #[St nm] 9 (0, 0)) _ rfl) 0) (by have := HB2.out.1.size; simp; omega) (by have := HS.out; have := HL.out.1; omega) ?_)
                    intro A6 c6 w6 ho6 hg6 _
                    have HO6 := Lib.hid ho6
                    have HB6 : Hid (Below w.heap.size w w6) := Lib.hid (by
                      have h1 : Below w.heap.size w (w2.alloc (.cells #[St nm] 9 (0, 0))) := HB2.out.1.alloc HB2.out.1.size _
                      exact h1.grown hg6 h1.size fun k hk => (HO2.out.lt k hk).1)
                    clear ho6 hg6 HO2 HB2
                    go_wp2_with fail
                    have hnr := HNR.out
                    refine ⟨⟨r, _, _, done ++ [nm], A6, c6, by rw [hnr], by simp, HRN, by simpa using HO6, HE, Lib.hid (by have := HS.out; have := HRL.out; simp; omega), HB6⟩, by simp [lenV]; have := HRL.out; omega⟩
            · by_cases hc1 : c3 = 1 + k
              · skip
                have hdl : (r.drop k).length = N - (1 + k) := by rw [List.length_drop]; omega
                have HRN : Hid (Rd w w.heap.size (some ⟨bb, o, none⟩) (r.drop k) ∧ (r.drop k).length ≤ (c3 - (1 + k)) ∧ (c3 - (1 + k)) < 2 ^ 63) := Lib.hid ⟨(by have : r.drop k = [] := List.eq_nil_of_length_eq_zero (by rw [List.length_drop]; omega); rw [this]; exact Rd.nil), by rw [hdl]; omega, by omega⟩
                have htl : k = (r.take k).length := by rw [List.length_take]; omega
                have cv := conv_rd (Rd.take (m := k) (Rd.drop (size := 1) HRD.out (by simp))) (c3 - 1) k htl (fun h => by cases h)
                rw [show List.drop 1 (x :: r) = r from rfl] at cv
                have i1 : (1 : Int) ≤ 1 + (k : Int) := by omega
                have kb : k < 64 := by omega
                have f0 : IntKind.i64.wrap (k : Int) = (k : Int) := by rw [IntKind.wrap_i64]; omega
                have i2 : (1 : Int) + (k : Int) ≤ (c3 : Int) := by omega
                have i3 : (1 : Int) + (k : Int) ≤ (N : Int) := by omega
                obtain ⟨q, hq⟩ : ∃ q, q = 1 + k := ⟨_, rfl⟩
                have f2 : IntKind.i64.wrap (1 + (k : Int)) = (q : Int) := by rw [IntKind.wrap_i64]; omega
                have f3 : IntKind.i64.wrap (q : Int) = (q : Int) := by rw [IntKind.wrap_i64]; omega
                have qb : q ≤ 64 := by omega
                have j0 : (1 : Int) + (k : Int) = (q : Int) := by omega
                have j1 : (1 : Int) ≤ (q : Int) := by omega
                have j2 : (q : Int) ≤ (c3 : Int) := by omega
                have j3 : (q : Int) ≤ (N : Int) := by omega
                have j4 : q - 1 = k := by omega
                have j5 : 1 ≤ q := by omega
                have j6 : q ≤ c3 := by omega
                have j7 : q ≤ N := by omega
                have k0 : ((k : Int) == 0) = false := beq_eq_false_iff_ne.2 (by omega)
                have HKN : Hid (k ≠ 0 ∧ k ≤ r.length ∧ (r.drop k).length = N - q ∧ (r.take k).length = k) := Lib.hid ⟨hk0, by omega, by rw [hdl, hq], htl.symm⟩
                have HLB2 : Hid (labs rest = (labs (r.drop k)).map fun p => (ls ++ [r.take k] ++ p.1, p.2)) := Lib.hid (by
                  have h9 := labs_more (x := x) (r := r) (by omega) (by omega) (by omega)
                  rw [HLB.out, h9, ← hk]
                  cases labs (r.drop k) with
                  | none => rfl
                  | some p => simp)
                obtain ⟨lb, hlb⟩ : ∃ lb, lb = r.take k := ⟨_, rfl⟩
                rw [← hlb] at cv HLB2
                have hcq : ¬ c3 = 1 := by omega
                clear hbad hN HLL HSS HS2' hcl hk hx hk0 hdl htl hlb i1 i2 i3 HLB d1 d1' HR2 HRD
                rw [← hq] at hc1
                have HQ := Lib.hid hq
                clear hq
                subst hc1
                rw [j4] at cv
                clear hc3
                go_upto_region 8 with fail
                have b1 : Below w.heap.size w (wr.alloc (.cells #[St lb] 9 (0, 0))) := HB.out.1.alloc HB.out.1.size _
                have b2 : Below wr.heap.size wr (wr.alloc (.cells #[St lb] 9 (0, 0))) := (by (repeat (first | exact Below.refl _ _ | assumption | refine Below.drew ?_ | refine bdrewN ?_ _ | refine Below.alloc ?_ (by first | omega | (simp <;> omega) | (simp only [World.size_alloc] <;> omega)) _ | refine below_setRow ?_ (by first | omega | (simp <;> omega)) _ | refine Below.setCell ?_ (by first | omega | (simp <;> omega)) _)))
                have HB1 := Lib.hid b1
                have HO1 := Lib.hid (HO4.out.below b2)
                have HP1 := Lib.hid (HO.out.below b2)
                have HK1 := Lib.hid (bk_cell (bk_alloc_at wr (.cells #[St lb] 9 (0, 0)) _ rfl) 0)
                clear b1 b2 cv u0 n0 n1 f1 d2 f0 f2 f3
                go_wp2_with (at_builtin; refine wpList_snocT rfl _ _ rfl gu (.slice A4 ls.length c4) ls rfl HO1.out ⟨wr.heap.size, 0, none⟩ lb rfl HK1.out (by have := HB.out.2; simp; omega) (by have := HS2.out; have := HS.out; have := HL.out.1; omega) ?_)
                intro A6 c6 w6 ho6 hg6 _
                have HB6 : Hid (Below w.heap.size w w6 ∧ gu ≤ w6.heap.size) := Lib.hid ⟨HB1.out.grown hg6 HB1.out.size fun k hk => Nat.le_trans HGW.out (HO1.out.lt k hk).1, Nat.le_trans HB.out.2 (Nat.le_trans (by simp) hg6.size)⟩
                have t6 : Tn (fun k => (Value.slice A4 ls.length c4).ownBlock = some k) (wr.alloc (.cells #[St lb] 9 (0, 0))) w6 := ⟨hg6.os, hg6.tape, hg6.output, hg6.size, fun k hk hn => hg6.block k hk (fun e => hn e.symm)⟩
                have HP6 : Hid (OutT w6 w.heap.size (.slice A2 done.length c2) done) := Lib.hid (HP1.out.turn t6 fun k hk hf => by have h1 := HOB.out k hk; have h2 := (HO1.out.lt k hf).1; omega)
                have HO6 := Lib.hid ho6
                clear ho6 hg6 t6 HP1 HO1 HB1 HK1 HO HO4 HB
                go_wp2_with fail
                have hd1 := HKN.out
                have hr1 : (List.drop k r).length = r.length - k := List.length_drop
                refine ⟨⟨r.drop k, _, _, ls ++ [lb], A6, c6, by rw [hd1.2.2.1], by simp, ?_, by simpa using HO6, HLB2, Lib.hid (by have := HS2.out; simp; omega), HP6, HB6⟩, by simp [lenV]; omega⟩
                exact Lib.hid ⟨HRN.out.1, by have h1 := HRN.out.2; have h2 := HQ.out; omega, by decide⟩
              · skip
                have hdl : (r.drop k).length = N - (1 + k) := by rw [List.length_drop]; omega
                have HRN : Hid (Rd w w.heap.size (some ⟨bb, o + (1 + k), none⟩) (r.drop k) ∧ (r.drop k).length ≤ (c3 - (1 + k)) ∧ (c3 - (1 + k)) < 2 ^ 63) := Lib.hid ⟨(by have h9 := Rd.drop (size := 1 + k) HR2.out.1 (by simp; omega); rw [Nat.add_comm 1 k, List.drop_succ_cons] at h9; rw [Nat.add_comm 1 k]; exact h9), by rw [hdl]; omega, by omega⟩
                have htl : k = (r.take k).length := by rw [List.length_take]; omega
                have cv := conv_rd (Rd.take (m := k) (Rd.drop (size := 1) HRD.out (by simp))) (c3 - 1) k htl (fun h => by cases h)
                rw [show List.drop 1 (x :: r) = r from rfl] at cv
                have i1 : (1 : Int) ≤ 1 + (k : Int) := by omega
                have kb : k < 64 := by omega
                have f0 : IntKind.i64.wrap (k : Int) = (k : Int) := by rw [IntKind.wrap_i64]; omega
                have i2 : (1 : Int) + (k : Int) ≤ (c3 : Int) := by omega
                have i3 : (1 : Int) + (k : Int) ≤ (N : Int) := by omega
                obtain ⟨q, hq⟩ : ∃ q, q = 1 + k := ⟨_, rfl⟩
                have f2 : IntKind.i64.wrap (1 + (k : Int)) = (q : Int) := by rw [IntKind.wrap_i64]; omega
                have f3 : IntKind.i64.wrap (q : Int) = (q : Int) := by rw [IntKind.wrap_i64]; omega
                have qb : q ≤ 64 := by omega
                have j0 : (1 : Int) + (k : Int) = (q : Int) := by omega
                have j1 : (1 : Int) ≤ (q : Int) := by omega
                have j2 : (q : Int) ≤ (c3 : Int) := by omega
                have j3 : (q : Int) ≤ (N : Int) := by omega
                have j4 : q - 1 = k := by omega
                have j5 : 1 ≤ q := by omega
                have j6 : q ≤ c3 := by omega
                have j7 : q ≤ N := by omega
                have k0 : ((k : Int) == 0) = false := beq_eq_false_iff_ne.2 (by omega)
                have HKN : Hid (k ≠ 0 ∧ k ≤ r.length ∧ (r.drop k).length = N - q ∧ (r.take k).length = k) := Lib.hid ⟨hk0, by omega, by rw [hdl, hq], htl.symm⟩
                have HLB2 : Hid (labs rest = (labs (r.drop k)).map fun p => (ls ++ [r.take k] ++ p.1, p.2)) := Lib.hid (by
                  have h9 := labs_more (x := x) (r := r) (by omega) (by omega) (by omega)
                  rw [HLB.out, h9, ← hk]
                  cases labs (r.drop k) with
                  | none => rfl
                  | some p => simp)
                obtain ⟨lb, hlb⟩ : ∃ lb, lb = r.take k := ⟨_, rfl⟩
                rw [← hlb] at cv HLB2
                have hcq : ¬ c3 = 1 := by omega
                clear hbad hN HLL HSS HS2' hcl hk hx hk0 hdl htl hlb i1 i2 i3 HLB d1 d1' HR2 HRD
                rw [← hq] at hc1
                have HQ := Lib.hid hq
                clear hq
                go_upto_region 8 with fail
                have b1 : Below w.heap.size w (wr.alloc (.cells #[St lb] 9 (0, 0))) := HB.out.1.alloc HB.out.1.size _
                have b2 : Below wr.heap.size wr (wr.alloc (.cells #[St lb] 9 (0, 0))) := (by (repeat (first | exact Below.refl _ _ | assumption | refine Below.drew ?_ | refine bdrewN ?_ _ | refine Below.alloc ?_ (by first | omega | (simp <;> omega) | (simp only [World.size_alloc] <;> omega)) _ | refine below_setRow ?_ (by first | omega | (simp <;> omega)) _ | refine Below.setCell ?_ (by first | omega | (simp <;> omega)) _)))
                have HB1 := Lib.hid b1
                have HO1 := Lib.hid (HO4.out.below b2)
                have HP1 := Lib.hid (HO.out.below b2)
                have HK1 := Lib.hid (bk_cell (bk_alloc_at wr (.cells #[St lb] 9 (0, 0)) _ rfl) 0)
                clear b1 b2 cv u0 n0 n1 f1 d2 f0 f2 f3
                go_wp2_with (at_builtin; refine wpList_snocT rfl _ _ rfl gu (.slice A4 ls.length c4) ls rfl HO1.out ⟨wr.heap.size, 0, none⟩ lb rfl HK1.out (by have := HB.out.2; simp; omega) (by have := HS2.out; have := HS.out; have := HL.out.1; omega) ?_)
                intro A6 c6 w6 ho6 hg6 _
                have HB6 : Hid (Below w.heap.size w w6 ∧ gu ≤ w6.heap.size) := Lib.hid ⟨HB1.out.grown hg6 HB1.out.size fun k hk => Nat.le_trans HGW.out (HO1.out.lt k hk).1, Nat.le_trans HB.out.2 (Nat.le_trans (by simp) hg6.size)⟩
                have t6 : Tn (fun k => (Value.slice A4 ls.length c4).ownBlock = some k) (wr.alloc (.cells #[St lb] 9 (0, 0))) w6 := ⟨hg6.os, hg6.tape, hg6.output, hg6.size, fun k hk hn => hg6.block k hk (fun e => hn e.symm)⟩
                have HP6 : Hid (OutT w6 w.heap.size (.slice A2 done.length c2) done) := Lib.hid (HP1.out.turn t6 fun k hk hf => by have h1 := HOB.out k hk; have h2 := (HO1.out.lt k hf).1; omega)
                have HO6 := Lib.hid ho6
                clear ho6 hg6 t6 HP1 HO1 HB1 HK1 HO HO4 HB
                go_wp2_with fail
                have hd1 := HKN.out
                have hr1 : (List.drop k r).length = r.length - k := List.length_drop
                refine ⟨⟨r.drop k, _, _, ls ++ [lb], A6, c6, by rw [hd1.2.2.1], by simp, ?_, by simpa using HO6, HLB2, Lib.hid (by have := HS2.out; simp; omega), HP6, HB6⟩, by simp [lenV]; omega⟩
                have h1 := HRN.out
                rw [← HQ.out] at h1
                exact Lib.hid h1
          · have d2 : decide (min 63 ((N : Int) - 1) < (x.toNat : Int)) = true := decide_eq_true (by omega)
            have HE : Hid (nms b = done) := Lib.hid (by rw [HN.out, nms_none (by rw [HLB.out, labs_bad hbad]; rfl), List.append_nil])
            clear hbad hN HLL HSS HS2' hcl
            go_wp2_with fail
            rw [Exit.noGoto_ret]
            go_ret
            exact ⟨_, rfl, HE.out ▸ HO.out, HB.out.1⟩
end Go.Proofs.Ytfldoihindbdmaa
/- Infos: the iterator over chunks of sixteen bytes. -/
namespace Go.Proofs.Ytfldoihindbdmaa
open Go.RowKit Go.Shelf
attribute [local go_sem] Oper.semAt_some
set_option maxRecDepth 100000
set_option maxHeartbeats 1000000
def clen (L j : Nat) : Nat := min 16 (L - 16 * j)
def chv (p o L : Nat) (j : Nat) : Array Value := #[.slice (some ⟨p, o + 16 * j, none⟩) (clen L j) (clen L j)]
def KpC (b1 b2 : Nat) (A B : World) : Prop := B.cell? ⟨b1, 0, none⟩ = A.cell? ⟨b1, 0, none⟩ ∧ B.cell? ⟨b2, 0, none⟩ = A.cell? ⟨b2, 0, none⟩
theorem chunk1_in (n : Nat) (hn : 1 ≤ n) (l b1 b2 p o L c : Nat) (A : Option Addr) (J Jx : List Nat → World → Prop) (hA : 0 < L → A = some ⟨p, o, none⟩) (hL : L < 2 ^ 40) (hLc : L ≤ c) (hc : c < 2 ^ 63)
    (hY : ∀ pre x W, J pre W → pre.length < (L + 15) / 16 → YieldAt Fence.wide (n - 1) Try.prog l (chv p o L x) W fun e W' =>
      (e = .returned (.bool true) ∧ J (pre ++ [x]) W' ∧ KpC b1 b2 W W') ∨ (e = .returned (.bool false) ∧ Jx (pre ++ [x]) W'))
    (hJd : ∀ xs W, J xs W → J xs W.drew)
    (W : World) (h1 : W.cell? ⟨b1, 0, none⟩ = some (.slice A L c)) (h2 : W.cell? ⟨b2, 0, none⟩ = some (.int .i64 16)) (h0 : J [] W) :
    CallsIn Fence.wide n Try.prog 79 #[.func (.yield l) #[] #[], .pointer (some ⟨b1, 0, none⟩), .pointer (some ⟨b2, 0, none⟩)] W fun e W' => (∃ v, e = .returned v) ∧
      ((∃ ys, ys = List.range ((L + 15) / 16) ∧ J ys W') ∨ (∃ pre : List Nat, True ∧ Jx pre W')) := by
  have hmo : Try.prog.follows .mixedOrders = true := by kernel_rfl
  have HA := Lib.hid hA
  have HJD := Lib.hid hJd
  have HL := Lib.hid (And.intro hL (And.intro hLc hc))
  have HY := Lib.hid hY
  obtain ⟨N, hN⟩ : ∃ N, N = (L + 15) / 16 := ⟨_, rfl⟩
  have HN := Lib.hid hN
  rw [← hN] at HY ⊢
  clear hA hL hLc hc hY hN hJd
  refine callsIn_of_wp Try.func79 rfl trivial ?_ rfl
  simp only [Try.ntmps79, List.size_toArray, List.length_cons, List.length_nil, Nat.reduceAdd, Nat.reduceSub, Array.replicate_succ, Array.replicate_zero, List.push_toArray, List.append_toArray, List.nil_append, List.cons_append]
  gi_wp2
  gi_loopw [4] (fun i wr => ∃ k : Nat, k ≤ N ∧ i = .int .i64 (16 * k : Nat) ∧ Hid (J (List.range k) wr) ∧ Hid (wr.cell? ⟨b1, 0, none⟩ = some (.slice A L c) ∧ wr.cell? ⟨b2, 0, none⟩ = some (.int .i64 16))) (fun i _ => 16 * N - (intOf i).toNat)
  case atStart => exact ⟨0, Nat.zero_le _, rfl, Lib.hid h0, Lib.hid ⟨h1, h2⟩⟩
  case round =>
    clear h0 h1 h2
    obtain ⟨k, hk, rfl, HJ, HC⟩ := hrel
    obtain ⟨q, hq⟩ : ∃ q, q = 16 * k := ⟨_, rfl⟩
    rw [← hq]
    have c1 := HC.out.1
    have c2 := HC.out.2
    by_cases hlt : k < N
    · have hLq : q < L := by have := HN.out; omega
      have hA := HA.out (by omega)
      subst hA
      have d1 : decide ((q : Int) < (L : Int)) = true := decide_eq_true (by omega)
      have d1' : decide (q < L) = true := decide_eq_true (by omega)
      have hL40 := HL.out.1
      have hLc := HL.out.2.1
      have hc := HL.out.2.2
      have hcq : ¬ c = q := by omega
      have hqc : q ≤ c := by omega
      have hqi : (q : Int) ≤ (L : Int) := by omega
      obtain ⟨E, hE⟩ : ∃ E, E = min 16 (L - q) := ⟨_, rfl⟩
      have hE2 : min (16 : Int) ((L - q : Nat) : Int) = (E : Int) := by omega
      obtain ⟨r, hr⟩ : ∃ r, r = q + E := ⟨_, rfl⟩
      have hr2 : (q : Int) + (E : Int) = (r : Int) := by omega
      have hr3 : IntKind.i64.wrap (r : Int) = (r : Int) := by rw [IntKind.wrap_i64]; omega
      have hr4 : (r : Int) ≤ (c : Int) := by omega
      have hr5 : (q : Int) ≤ (r : Int) := by omega
      have hr6 : r - q = E := by omega
      have hr7 : ¬ r = q := by omega
      have hr8 : r ≤ c := by omega
      have hr9 : q ≤ r := by omega
      have hr10 : IntKind.i64.wrap ((q : Int) + 16) = ((16 * (k + 1) : Nat) : Int) := by rw [IntKind.wrap_i64]; omega
      have hch : chv p o L k = #[.slice (some ⟨p, o + q, none⟩) E E] := by unfold chv clen; rw [← hq, ← hE]
      obtain ⟨fn, tmps, assign, body, hy, hR⟩ := HY.out (List.range k) k wr.drew (HJD.out _ _ HJ.out) (by rw [List.length_range]; exact hlt)
      rw [hch] at hy
      rw [← List.range_succ] at hR
      have HR := Lib.hid hR
      have HQ := Lib.hid (And.intro hq (And.intro hE hr))
      clear hR hch hq hE hr hLq hL40 hLc hc HJ
      gi_wp2
      gi_region_with_o (fail)
      all_goals gi_wp2
      all_goals refine HR.out.mono ?_
      all_goals
        rintro e W3 (⟨rfl, hJ3, hk3⟩ | ⟨rfl, hJx3⟩)
        · have e1 : W3.cell? ⟨b1, 0, none⟩ = some (.slice (some ⟨p, o, none⟩) L c) := hk3.1.trans c1
          have e2 : W3.cell? ⟨b2, 0, none⟩ = some (.int .i64 16) := hk3.2.trans c2
          have HJ3 := Lib.hid hJ3
          clear hJ3 hk3 c1 c2 hy HR HC
          gi_wp2
          go_roundw
          case rel => exact ⟨k + 1, by omega, by rfl, HJ3, Lib.hid ⟨e1, e2⟩⟩
          case measure => have HQ2 := HQ.out.1; simp [intOf]; omega
        · gi_wp2
          refine bodyPost_ret (results_none rfl _ _ _) rfl ?_
          exact ⟨⟨_, rfl⟩, .inr ⟨_, trivial, hJx3⟩⟩
    · have d1 : decide ((q : Int) < (L : Int)) = false := decide_eq_false (by have := HN.out; omega)
      have d1' : decide (q < L) = false := decide_eq_false (by have := HN.out; omega)
      have hkN : k = N := by omega
      subst hkN
      clear hq
      gi_wp2
      go_end0
      exact ⟨⟨_, rfl⟩, .inl ⟨_, rfl, HJ.out⟩⟩
end Go.Proofs.Ytfldoihindbdmaa
/-
  A region that draws its order, whose operations make memory and write into memory that they know: one walk of the lexical order serves every order. What an operation writes, and what a fact rests on, is told by the types of the blocks. Over any program.
-/
namespace Go.Proofs.Ytfldoihindbdmaa
open Go.RowKit
/-- Blocks below m stay, and those of the others that are of none of the types D. -/
structure Kept (m : Nat) (D : List TypeId) (w w' : World) : Prop where
  below : Below m w w'
  block : ∀ b, b < w.heap.size → (∀ c t fr, bk w b = some (.cells c t fr) → t ∉ D) → bk w' b = bk w b
section
variable {m : Nat} {D : List TypeId} {w w' w'' : World}
theorem Kept.of_below (h : Below w.heap.size w w') (hm : m ≤ w.heap.size) : Kept m D w w' := ⟨h.mono hm, fun b hb _ => h.block b hb⟩
theorem Kept.refl (m : Nat) (D : List TypeId) (w : World) : Kept m D w w := ⟨Below.refl _ _, fun _ _ _ => rfl⟩
theorem Kept.size (h : Kept m D w w') : w.heap.size ≤ w'.heap.size := h.below.size
theorem Kept.trans (h : Kept m D w w') (k : Kept m D w' w'') : Kept m D w w'' :=
  ⟨h.below.trans k.below, fun b hb ht => by
    have e := h.block b hb ht
    exact (k.block b (Nat.lt_of_lt_of_le hb h.size) fun c t fr hc => ht c t fr (e.symm.trans hc)).trans e⟩
theorem Kept.weak {D' : List TypeId} (h : Kept m D w w') (hs : ∀ t ∈ D, t ∈ D') : Kept m D' w w' := ⟨h.below, fun b hb ht => h.block b hb fun c t fr hc h1 => ht c t fr hc (hs t h1)⟩
theorem Kept.row {b : Nat} {c : Array Value} {t : TypeId} {fr : Nat × Nat} (h : Kept m D w w') (hb : bk w b = some (.cells c t fr)) (ht : t ∉ D) : bk w' b = some (.cells c t fr) :=
  (h.block b (bk_lt hb) fun c' t' fr' hc => by rw [hb] at hc; cases hc; exact ht).trans hb
theorem Kept.setCell {b o : Nat} {c : Array Value} {t : TypeId} {fr : Nat × Nat} (hb : bk w b = some (.cells c t fr)) (hm : m ≤ b) (ht : t ∈ D) (v : Value) : Kept m D w (w.setCell ⟨b, o, none⟩ v) :=
  ⟨(Below.refl _ _).setCell (p := ⟨b, o, none⟩) hm v, fun b' hb' h => bk_setCell_other _ _ _ _ _ (by rintro rfl; exact h _ _ _ hb ht)⟩
theorem Kept.setRow {b : Nat} {c c' : Array Value} {t : TypeId} {fr : Nat × Nat} (hb : bk w b = some (.cells c t fr)) (hm : m ≤ b) (ht : t ∈ D) : Kept m D w (w.setRow b c') :=
  ⟨⟨rfl, rfl, rfl, by simp [World.setRow], fun k hk => bk_setRow_other _ _ _ _ (by omega)⟩, fun b' hb' h => bk_setRow_other _ _ _ _ (by rintro rfl; exact h _ _ _ hb ht)⟩
theorem Kept.grown {row : Option Nat} (h : w.grownBy w' row) (hm : m ≤ w.heap.size) (hr : ∀ g, row = some g → m ≤ g ∧ ∃ c t fr, bk w g = some (.cells c t fr) ∧ t ∈ D) : Kept m D w w' :=
  ⟨(Below.refl _ _).grown h hm fun k hk => (hr k hk).1, fun b hb ht => by
    refine h.block b hb fun e => ?_
    obtain ⟨_, c, t, fr, h1, h2⟩ := hr b e.symm
    exact ht c t fr h1 h2⟩
end
/-- What is told of an operation's value, and of memory behind it; what it writes, and what that fact rests on. -/
structure MadeW (m : Nat) where
  T : Value → Prop
  R : Value → World → Prop
  D : List TypeId
  O : List TypeId
  inh : ∃ v, T v
  mono : ∀ (D : List TypeId) v w w', (∀ t ∈ D, t ∉ O) → Kept m D w w' → R v w → R v w'
def MadeW.val {m : Nat} (c : Value) : MadeW m := ⟨fun v => v = c, fun _ _ => True, [], [], ⟨c, rfl⟩, fun _ _ _ _ _ _ h => h⟩
def madeEndW {m : Nat} (M : MadeW m) (w : World) (e : Ending) (w' : World) : Prop := ∃ v, e = .returned v ∧ Kept m M.D w w' ∧ M.T v ∧ M.R v w'
def madeUponW {m : Nat} (P : Program) (M : MadeW m) (w : World) : Result Next → Prop
  | .ok (.value v) w' => Kept m M.D w w' ∧ M.T v ∧ M.R v w'
  | .ok .skip w' => Kept m M.D w w' ∧ M.T undef ∧ M.R undef w'
  | .ok (.enter f args) w' => w' = w ∧ Calls P f args w (madeEndW M w)
  | _ => False
def madeAtW {m : Nat} (P : Program) (M : MadeW m) (o : Oper) (a : Act) (w : World) : Prop := madeUponW P M w ((execOp a.eval o).run P w)
@[go_sem] theorem madeUponW_enter {P : Program} {m : Nat} {M : MadeW m} {w : World} {f : FuncId} {args : Array Value} : madeUponW P M w (.ok (.enter f args) w) = Calls P f args w (madeEndW M w) := by simp [madeUponW]
@[go_sem] theorem madeUponW_value {P : Program} {m : Nat} {M : MadeW m} {w w' : World} {v : Value} : madeUponW P M w (.ok (.value v) w') = (Kept m M.D w w' ∧ M.T v ∧ M.R v w') := rfl
@[go_sem] theorem madeUponW_skip {P : Program} {m : Nat} {M : MadeW m} {w w' : World} : madeUponW P M w (.ok .skip w') = (Kept m M.D w w' ∧ M.T undef ∧ M.R undef w') := rfl
/-! ### Who waits for whom -/
section
variable (md : Region.Mode) (ops : Array Oper)
def edgesOf (o : Oper) : List Nat := (o.after.toList.filter fun e => Region.binds md e).map (·.on)
def addNew (acc : List Nat) (x : Nat) : List Nat := if acc.contains x then acc else x :: acc
def ancTab : List Oper → List (List Nat) → List (List Nat)
  | [], tab => tab
  | o :: l, tab => ancTab l (tab ++ [((edgesOf md o).flatMap fun j => j :: tab.getD j []).foldl addNew []])
inductive ReachW : Nat → Nat → Prop
  | one {i : Nat} {o : Oper} {e : Edge} : ops[i]? = some o → e ∈ o.after → Region.binds md e = true → ReachW i e.on
  | more {i j : Nat} {o : Oper} {e : Edge} : ops[i]? = some o → e ∈ o.after → Region.binds md e = true → ReachW e.on j → ReachW i j
end
section
variable {md : Region.Mode} {ops : Array Oper}
theorem foldl_addNew {x : Nat} : ∀ (l acc : List Nat), x ∈ l.foldl addNew acc → x ∈ l ∨ x ∈ acc
  | [], acc, h => .inr h
  | y :: l, acc, h => by
    rcases foldl_addNew l _ h with h | h
    · exact .inl (List.mem_cons_of_mem _ h)
    · unfold addNew at h
      split at h
      · exact .inr h
      · rcases List.mem_cons.1 h with rfl | h
        · exact .inl (List.mem_cons_self ..)
        · exact .inr h
theorem ancTab_reach : ∀ (l : List Oper) (tab : List (List Nat)), (∀ j, j < l.length → l[j]? = ops[tab.length + j]?) → (∀ i j, j ∈ tab.getD i [] → ReachW md ops i j) → ∀ i j, j ∈ (ancTab md l tab).getD i [] → ReachW md ops i j
  | [], _, _, h => h
  | o :: l, tab, hl, h => by
    refine ancTab_reach l _ (fun j hj => by have := hl (j + 1) (by simp; omega); simpa [Nat.add_assoc, Nat.add_comm 1 j] using this) fun i j hj => ?_
    rcases Nat.lt_trichotomy i tab.length with hi | hi | hi
    · rw [List.getD_eq_getElem?_getD, List.getElem?_append_left hi, ← List.getD_eq_getElem?_getD] at hj; exact h i j hj
    · subst hi
      rw [List.getD_eq_getElem?_getD, List.getElem?_append_right (Nat.le_refl _), Nat.sub_self, List.getElem?_cons_zero, Option.getD_some] at hj
      have h0 : ops[tab.length]? = some o := by simpa using (hl 0 (by simp)).symm
      rcases foldl_addNew _ _ hj with hj | hj
      · obtain ⟨k, hk, hj⟩ := List.mem_flatMap.1 hj
        unfold edgesOf at hk
        obtain ⟨e, he, rfl⟩ := List.mem_map.1 hk
        obtain ⟨he, hb⟩ := List.mem_filter.1 he
        rcases List.mem_cons.1 hj with rfl | hj
        · exact .one h0 (by simpa using he) hb
        · exact .more h0 (by simpa using he) hb (h _ _ hj)
      · cases hj
    · rw [List.getD_eq_getElem?_getD, List.getElem?_eq_none (by simp; omega)] at hj
      cases hj
/-- What operation i waits for. -/
def ancW (md : Region.Mode) (ops : Array Oper) (j i : Nat) : Bool := ((ancTab md ops.toList []).getD i []).contains j
theorem ancW_reach {j i : Nat} (h : ancW md ops j i = true) : ReachW md ops i j :=
  ancTab_reach ops.toList [] (fun j _ => by simp) (fun i j hj => by simp at hj) i j (by simpa [ancW] using h)
theorem reach_listed {listed : Array Bool} (hc : ∀ j oj, ops[j]? = some oj → listed.getD j false = true → ∀ e ∈ oj.after, Region.binds md e = true → listed.getD e.on false = true) {i j : Nat} (h : ReachW md ops i j)
    (hi : ∀ oi, ops[i]? = some oi → ∀ e ∈ oi.after, Region.binds md e = true → listed.getD e.on false = true) : listed.getD j false = true := by
  induction h with
  | one ho he hb => exact hi _ ho _ he hb
  | more ho he hb _ ih => exact ih fun oi hoi e' he' hb' => hc _ _ hoi (hi _ ho _ he hb) e' he' hb'
theorem reach_lt {i j : Nat} (h : ReachW md ops i j) : i < ops.size := by
  cases h with
  | one ho => exact (Array.getElem?_eq_some_iff.1 ho).1
  | more ho => exact (Array.getElem?_eq_some_iff.1 ho).1
end
/-- Where everything is kept. -/
structure EnvW where
  P : Program
  md : Region.Mode
  ops : Array Oper
  m : Nat
  W : World
  N : Nat → Option (List Value → MadeW m)
  X : Nat → List Tmp
  Dt : Nat → List TypeId
  Ot : Nat → List TypeId
  U : Nat → List Nat
section
variable {P : Program} {ops : Array Oper} {md : Region.Mode} {m : Nat} {W : World}
def EnvW.xs (E : EnvW) (i : Nat) (a : Act) : List Value := (E.X i).map fun t => a.tmps.getD t undef
/-- What an operation is told to yield: it may hang on slots that the operation looks at. -/
def EnvW.pk (E : EnvW) (i : Nat) (want : Bool) (c : Value) (a : Act) : MadeW E.m :=
  if want then match E.N i with
    | some f => f (E.xs i a)
    | none => .val c
  else .val undef
def EnvW.okX (E : EnvW) : Bool := (List.range E.ops.size).all fun i => match E.ops[i]? with
  | none => true
  | some o => (E.X i).all fun t => (o.looksAt E.ops).contains t
def EnvW.want (E : EnvW) (o : Oper) (a : Act) : Bool := Region.wanted o (yielded E.ops a.tmps)
def EnvW.anc (E : EnvW) (j i : Nat) : Bool := ancW E.md E.ops j i
/-- Operation k may write what fact j rests on. -/
def EnvW.conf (E : EnvW) (k j : Nat) : Bool := (E.Dt k).any fun t => (E.Ot j).contains t
def EnvW.safe (E : EnvW) (j i k : Nat) : Bool := !E.conf k j || (E.anc k j || k == j || (E.anc i k || k == i))
/-- Whatever operation i uses is there when it comes, and stays till then. -/
def EnvW.okU (E : EnvW) : Bool := (List.range E.ops.size).all fun i => (E.U i).all fun j => (decide (E.ops.size ≤ j) || E.anc j i) && (List.range E.ops.size).all fun k => E.safe j i k
/-- Fact j stays to the end. -/
def EnvW.fin (E : EnvW) (j : Nat) : Bool := (List.range E.ops.size).all fun k => !E.conf k j || (E.anc k j || k == j)
def EnvW.alive (E : EnvW) (listed : Array Bool) (j : Nat) : Prop := ∀ k, listed.getD k false = true → E.conf k j = true → E.anc k j = true ∨ k = j
structure EnvW.Told (E : EnvW) : Prop where
  dt : ∀ i f, E.N i = some f → ∀ x, (f x).D = E.Dt i
  ot : ∀ i f, E.N i = some f → ∀ x, (f x).O = E.Ot i
def EnvW.Y (E : EnvW) (i : Nat) (o : Oper) (c : Value) (fs : Fs) (a : Act) : Prop :=
  E.want o a = true → ((E.N i).isSome = true ∨ plainOp o.op = true) ∧ (E.N i = none → ∃ w, Below E.m E.W w ∧ ∀ j ∈ E.U i, fs j w) ∧
    ∀ w, Below E.m E.W w → (∀ j ∈ E.U i, fs j w) → madeAtW E.P (E.pk i true c a) o a w
def EnvW.step (E : EnvW) (i : Nat) (o : Oper) (K : Fs → Act → Prop) (fs : Fs) (a : Act) : Prop :=
  ∃ c, E.Y i o c fs a ∧ ∀ v, (E.pk i (E.want o a) c a).T v → K (fs.add i ((E.pk i (E.want o a) c a).R v)) (a.put o.dst v)
def EnvW.op (E : EnvW) (i : Nat) (K : Fs → Act → Prop) (fs : Fs) (a : Act) : Prop :=
  match E.ops[i]? with
  | none => K fs a
  | some o => E.step i o K fs a
def EnvW.head (E : EnvW) (n : Nat) (L : Array Bool → Fs → Act → Prop) : Nat → Array Bool → Fs → Act → Prop
  | 0, listed, fs, a => L listed fs a
  | f + 1, listed, fs, a => Region.ready E.md E.ops listed ≠ [] ∧ ∀ i ∈ Region.ready E.md E.ops listed, i < n ∧ E.op i (E.head n L f (listed.setIfInBounds i true)) fs a
def EnvW.Mono (E : EnvW) (fs : Fs) : Prop := ∀ j (D : List TypeId) w w', (∀ t ∈ D, t ∉ E.Ot j) → Kept E.m D w w' → fs j w → fs j w'
/-- Nothing is told of what has not come. -/
def EnvW.Free (E : EnvW) (listed : Array Bool) (fs : Fs) : Prop := ∀ j, j < E.ops.size → listed.getD j false = false → ∀ w, fs j w
theorem EnvW.pk_spec {E : EnvW} (hE : E.Told) (i : Nat) (want : Bool) (c : Value) (a : Act) : (∀ t ∈ (E.pk i want c a).D, t ∈ E.Dt i) ∧ (∀ (D : List TypeId) v w w', (∀ t ∈ D, t ∉ E.Ot i) → Kept E.m D w w' → (E.pk i want c a).R v w → (E.pk i want c a).R v w') := by
  unfold EnvW.pk
  split
  · split
    · rename_i f hM
      rw [← hE.dt i f hM (E.xs i a), ← hE.ot i f hM (E.xs i a)]
      exact ⟨fun t h => h, (f (E.xs i a)).mono⟩
    · exact ⟨fun t h => (by cases h), fun _ _ _ _ _ _ h => h⟩
  · exact ⟨fun t h => (by cases h), fun _ _ _ _ _ _ h => h⟩
theorem tmps_put {a : Act} {dst : Option Tmp} {v : Value} {t : Tmp} (h : ∀ d, dst = some d → d ≠ t) : (a.put dst v).tmps.getD t undef = a.tmps.getD t undef := by
  cases dst with
  | none => rfl
  | some d =>
    have := h d rfl
    show (a.tmps.setIfInBounds d v).getD t undef = _
    rw [Array.getD_eq_getD_getElem?, Array.getD_eq_getD_getElem?, Array.getElem?_setIfInBounds_ne this]
theorem EnvW.xs_put {E : EnvW} (hX : E.okX = true) {i : Nat} {o : Oper} (ho : E.ops[i]? = some o) {a : Act} {dst : Option Tmp} {v : Value} (h : ∀ d, dst = some d → d ∉ o.looksAt E.ops) : E.xs i (a.put dst v) = E.xs i a := by
  have h1 := List.all_eq_true.1 hX i (List.mem_range.2 (Array.getElem?_eq_some_iff.1 ho).1)
  rw [ho] at h1
  refine List.map_congr_left fun t ht => tmps_put fun d hd e => ?_
  have h2 := List.all_eq_true.1 h1 t ht
  subst e
  exact h d hd (by simpa using h2)
theorem EnvW.pk_put {E : EnvW} (hX : E.okX = true) {i : Nat} {o : Oper} (ho : E.ops[i]? = some o) {a : Act} {dst : Option Tmp} {v : Value} (h : ∀ d, dst = some d → d ∉ o.looksAt E.ops) (want : Bool) (c : Value) : E.pk i want c (a.put dst v) = E.pk i want c a := by
  unfold EnvW.pk
  rw [EnvW.xs_put hX ho h]
theorem EnvW.Mono.add {E : EnvW} (hE : E.Told) {fs : Fs} (h : E.Mono fs) (i : Nat) (want : Bool) (c v : Value) (a : Act) : E.Mono (fs.add i ((E.pk i want c a).R v)) := fun j D w w' hd hk hf =>
  ⟨fun e => by subst e; exact (EnvW.pk_spec hE j want c a).2 D v w w' hd hk (hf.1 rfl), h j D w w' hd hk hf.2⟩
theorem EnvW.Free.add {E : EnvW} {listed : Array Bool} {fs : Fs} (h : E.Free listed fs) {i : Nat} (hi : i < listed.size) (F : World → Prop) : E.Free (listed.setIfInBounds i true) (fs.add i F) := fun j hj hl w => by
  have hne : i ≠ j := by rintro rfl; simp [hi] at hl
  rw [getD_set_ne false hne] at hl
  exact ⟨fun e => absurd e.symm hne, h j hj hl w⟩
theorem EnvW.use_alive {E : EnvW} {n i j : Nat} {listed : Array Bool} (hU : E.okU = true) (inv : HeadInv E.md E.ops n listed) (hi : i ∈ Region.ready E.md E.ops listed) (hj : j ∈ E.U i) : E.alive listed j := fun k hk hc => by
  obtain ⟨hun, oi, hoi, _⟩ := mem_ready.1 hi
  have hi' := (Array.getElem?_eq_some_iff.1 hoi).1
  have hks : k < E.ops.size := by
    rcases Nat.lt_or_ge k listed.size with h | h
    · rw [← inv.size]; exact h
    · simp [Array.getElem?_eq_none h] at hk
  have h1 := List.all_eq_true.1 hU i (List.mem_range.2 hi')
  have h2 := List.all_eq_true.1 h1 j hj
  simp only [Bool.and_eq_true] at h2
  have h3 := List.all_eq_true.1 h2.2 k (List.mem_range.2 hks)
  unfold EnvW.safe at h3
  simp only [hc, Bool.not_true, Bool.false_or, Bool.or_eq_true, beq_iff_eq] at h3
  rcases h3 with (h3 | h3) | h3 | h3
  · exact .inl h3
  · exact .inr h3
  · obtain ⟨ok, hok⟩ : ∃ ok, E.ops[k]? = some ok := ⟨_, Array.getElem?_eq_getElem hks⟩
    have := reach_listed inv.closed (ancW_reach h3) fun o ho => inv.closed k o ho hk
    rw [getD_both hun] at this
    cases this
  · subst h3
    rw [getD_both hun] at hk
    cases hk
/-- It is a wpAny. -/
theorem EnvW.wp_op {E : EnvW} {Q' : Exit → Act → World → Prop} {n i : Nat} {K : Fs → Act → Prop} {K' : Act → World → Prop} {fs : Fs} {a : Act} {w : World} {listed : Array Bool} (hE : E.Told) (hU : E.okU = true) (inv : HeadInv E.md E.ops n listed)
    (hi : i ∈ Region.ready E.md E.ops listed) (_hm : E.m ≤ E.W.heap.size) (hM : E.Mono fs) (hT : E.Free listed fs) (hw : Below E.m E.W w) (hf : ∀ j, E.alive listed j → fs j w)
    (hK : ∀ fs a w, E.Mono fs → E.Free (listed.setIfInBounds i true) fs → Below E.m E.W w → (∀ j, E.alive (listed.setIfInBounds i true) j → fs j w) → K fs a → K' a w) (h : E.op i K fs a) : wpOp E.P E.ops Q' i K' a w := by
  obtain ⟨hun, oi, hoi, hall⟩ := mem_ready.1 hi
  have hi' : i < listed.size := by rw [inv.size]; exact (Array.getElem?_eq_some_iff.1 hoi).1
  have hun' := getD_both hun
  -- what is known behind the operation
  have key : ∀ w', Kept E.m (E.Dt i) w w' → ∀ j, E.alive (listed.setIfInBounds i true) j → fs j w' := fun w' hk j ha => by
    by_cases hc : E.conf i j = true
    · have h1 := ha i (by simp [hi']) hc
      have hlt : j < E.ops.size := by
        rcases h1 with h1 | h1
        · exact reach_lt (ancW_reach h1)
        · rw [← h1, ← inv.size]; exact hi'
      refine hT j hlt ?_ w'
      rcases h1 with h1 | h1
      · by_cases hl : listed.getD j false = true
        · have := reach_listed inv.closed (ancW_reach h1) fun o ho => inv.closed j o ho hl
          rw [hun'] at this
          cases this
        · simpa using hl
      · rw [← h1]; exact hun'
    · refine hM j (E.Dt i) w w' (fun t ht ht' => hc ?_) hk (hf j fun k hk' hc' => ha k (getD_set_true hk') hc')
      exact List.any_eq_true.2 ⟨t, ht, by simpa using ht'⟩
  unfold EnvW.op at h
  unfold wpOp
  rw [hoi] at h ⊢
  simp only at h ⊢
  obtain ⟨c, hy, hn⟩ := h
  have fin : ∀ want v w', Kept E.m (E.pk i want c a).D w w' → (E.pk i want c a).T v → (E.pk i want c a).R v w' → (∀ v, (E.pk i want c a).T v → K (fs.add i ((E.pk i want c a).R v)) (a.put oi.dst v)) → K' (a.put oi.dst v) w' := fun want v w' hb hT' hR hn => by
    have hk := hb.weak (EnvW.pk_spec hE i want c a).1
    refine hK _ _ _ (hM.add hE i want c v a) (hT.add hi' _) (hw.trans hb.below) (fun j hj => ⟨fun _ => hR, key w' hk j hj⟩) (hn v hT')
  split
  · rename_i hwt
    have hwt' : E.want oi a = true := hwt
    refine .inl ?_
    have h1 := (hy hwt').2.2 w hw fun j hj => hf j (use_alive hU inv hi hj)
    simp only [hwt'] at hn
    have fin' := fun v w' hb hT hR => fin true v w' hb hT hR hn
    clear fin hn
    generalize E.pk i true c a = M at h1 fin'
    unfold madeAtW at h1
    unfold Oper.wp
    generalize (execOp a.eval oi).run E.P w = r at *
    cases r with
    | ok nx w' =>
      cases nx <;> simp only [madeUponW] at h1 <;> simp only [Oper.upon]
      case value v => exact fin' _ _ h1.1 h1.2.1 h1.2.2
      case skip => exact fin' _ _ h1.1 h1.2.1 h1.2.2
      case enter f args =>
        obtain ⟨rfl, hc⟩ := h1
        exact hc.mono fun e w'' ⟨v, he, hb, hT, hR⟩ => by subst he; exact fin' _ _ hb hT hR
    | halt x w' => simp only [madeUponW] at h1
  · rename_i hwt
    have hwt' : E.want oi a = false := by simpa [EnvW.want] using hwt
    simp only [hwt'] at hn
    exact fin false undef w (Kept.refl _ _ _) rfl trivial hn
theorem EnvW.head_any {E : EnvW} {Q' : Exit → Act → World → Prop} {n g : Nat} {L : Array Bool → Fs → Act → Prop} (hE : E.Told) (hU : E.okU = true) (hm : E.m ≤ E.W.heap.size)
    (hL : ∀ listed fs a w, HeadInv E.md E.ops n listed → Below E.m E.W w → (∀ j, E.alive listed j → fs j w) → L listed fs a → wpAny E.P E.md E.ops Q' g listed a w) :
    ∀ (f : Nat) (listed : Array Bool) (fs : Fs) (a : Act) (w : World), HeadInv E.md E.ops n listed → E.Mono fs → E.Free listed fs → Below E.m E.W w → (∀ j, E.alive listed j → fs j w) → E.head n L f listed fs a → wpAny E.P E.md E.ops Q' (f + g) listed a w
  | 0, listed, fs, a, w, inv, _, _, hw, hf, h => by rw [Nat.zero_add]; exact hL _ _ _ _ inv hw hf h
  | f + 1, listed, fs, a, w, inv, hM, hT, hw, hf, h => by
    rw [show f + 1 + g = (f + g) + 1 by omega]
    exact ⟨fun h0 => absurd h0 h.1, fun i hi => EnvW.wp_op hE hU inv hi hm hM hT hw hf (fun fs' a' w' hM' hT' hw' hf' h' => EnvW.head_any hE hU hm hL f _ fs' a' w' (inv.set hi (h.2 i hi).1) hM' hT' hw' hf' h') (h.2 i hi).2⟩
theorem madeAtW_put {o : Oper} {M : MadeW m} {a : Act} {dst : Option Tmp} {v : Value} {w : World} (hs : ∀ cs b, o.op ≠ .select cs b) (h : ∀ d, dst = some d → d ∉ o.looksAt ops) : madeAtW P M o (a.put dst v) w = madeAtW P M o a w := by
  unfold madeAtW
  rw [execOp_put o hs a dst v h]
theorem plainW_uniq {o : Oper} {a : Act} {w : World} {c c' : Value} (hp : plainOp o.op = true) (h : madeAtW P (.val (m := m) c) o a w) (h' : madeAtW P (.val (m := m) c') o a w) : c = c' := by
  unfold madeAtW at *
  generalize hr : (execOp a.eval o).run P w = r at h h'
  cases r with
  | ok n w' =>
    cases n <;> simp only [madeUponW, MadeW.val] at h h'
    case value v => exact h.2.1.symm.trans h'.2.1
    case skip => exact h.2.1.symm.trans h'.2.1
    case enter f args => exact absurd hr (plain_enter hp)
  | halt x w' => simp only [madeUponW] at h
theorem EnvW.pk_inh {E : EnvW} (i : Nat) (want : Bool) (c : Value) (a : Act) : ∃ v, (E.pk i want c a).T v := by
  unfold EnvW.pk
  split
  · split
    · rename_i f _; exact (f _).inh
    · exact ⟨c, rfl⟩
  · exact ⟨undef, rfl⟩
theorem EnvW.pk_uniq {E : EnvW} {i : Nat} {c c' : Value} {want : Bool} {a : Act} (h : want = true → E.N i = none → c = c') : E.pk i want c a = E.pk i want c' a := by
  unfold EnvW.pk
  cases want
  · rfl
  · simp only [if_true]
    cases hN : E.N i with
    | some M => rfl
    | none => rw [h rfl hN]
theorem EnvW.head_first {E : EnvW} {n i : Nat} {oi : Oper} {c : Value} {L : Array Bool → Fs → Act → Prop} (hU : E.okU = true) (hX : E.okX = true) (hi : E.ops[i]? = some oi) (hsel : ∀ (j : Nat) (o : Oper) cs b, E.ops[j]? = some o → o.op ≠ .select cs b)
    (hlt : ∀ listed, HeadInv E.md E.ops n listed → listed.getD i true = false → ∀ j ∈ Region.ready E.md E.ops listed, j < n)
    (hdone : ∀ listed fs a, L listed fs a → ∀ j ∈ Region.ready E.md E.ops listed, n ≤ j) :
    ∀ (f : Nat) (listed : Array Bool) (fs : Fs) (a : Act), HeadInv E.md E.ops n listed →
      (∀ j oj, E.ops[j]? = some oj → j ≠ i → listed.getD j true = false → (∀ e ∈ oj.after, Region.binds E.md e = true → e.on ≠ i) → oi.apart E.ops oj = true) →
      i ∈ Region.ready E.md E.ops listed → E.Y i oi c fs a →
      (∀ v, (E.pk i (E.want oi a) c a).T v → E.head n L f (listed.setIfInBounds i true) (fs.add i ((E.pk i (E.want oi a) c a).R v)) (a.put oi.dst v)) →
      E.head n L (f + 1) listed fs a := by
  intro f
  induction f with
  | zero =>
    intro listed fs a inv _ hr hy H
    have hun := (mem_ready.1 hr).1
    refine ⟨fun h => (by rw [h] at hr; cases hr), fun j hj => ?_⟩
    have hjn : j < n := hlt listed inv hun j hj
    refine ⟨hjn, ?_⟩
    by_cases hji : j = i
    · subst hji; unfold EnvW.op; simp only [hi]; exact ⟨c, hy, H⟩
    · obtain ⟨v, hv⟩ := E.pk_inh i (E.want oi a) c a
      have := hdone _ _ _ (H v hv) j (ready_mono hj hji)
      omega
  | succ f ih =>
    intro listed fs a inv hfree hr hy H
    have hun := (mem_ready.1 hr).1
    refine ⟨fun h => (by rw [h] at hr; cases hr), fun j hj => ?_⟩
    have hjn : j < n := hlt listed inv hun j hj
    refine ⟨hjn, ?_⟩
    by_cases hji : j = i
    · subst hji; unfold EnvW.op; simp only [hi]; exact ⟨c, hy, H⟩
    obtain ⟨hjun, oj, hoj, hall⟩ := mem_ready.1 hj
    have hnot : ∀ e ∈ oj.after, Region.binds E.md e = true → e.on ≠ i := fun e he hb heq => by
      have h1 := hall e he hb
      rw [heq, getD_both hun] at h1
      cases h1
    have hisz := (Array.getElem?_eq_some_iff.1 hi).1
    -- what j uses is not i's
    have huse : ∀ k ∈ E.U j, k ≠ i := fun k hk heq => by
      have h1 := List.all_eq_true.1 hU j (List.mem_range.2 (Array.getElem?_eq_some_iff.1 hoj).1)
      have h2 := List.all_eq_true.1 h1 k hk
      simp only [Bool.and_eq_true, Bool.or_eq_true, decide_eq_true_eq] at h2
      rcases h2.1 with h2 | h2
      · omega
      · have := reach_listed inv.closed (ancW_reach h2) fun o ho e he hb => by
          have : o = oj := Option.some.inj (ho.symm.trans hoj)
          subst this
          exact hall e he hb
        rw [heq, getD_both hun] at this
        cases this
    have hap := hfree j oj hoj hji hjun hnot
    obtain ⟨h1, h2, h3⟩ := Oper.apart_spec hap
    have hsi := fun cs b => hsel i oi cs b hi
    have hsj := fun cs b => hsel j oj cs b hoj
    have hwj : ∀ v, E.want oj (a.put oi.dst v) = E.want oj a := fun v => wanted_put oj a oi.dst v h1
    have hwi : ∀ u, E.want oi (a.put oj.dst u) = E.want oi a := fun u => wanted_put oi a oj.dst u h3
    have hstep : ∀ v, (E.pk i (E.want oi a) c a).T v → ∃ cj, E.Y j oj cj fs a ∧ ∀ u, (E.pk j (E.want oj a) cj a).T u →
        E.head n L f ((listed.setIfInBounds i true).setIfInBounds j true) ((fs.add i ((E.pk i (E.want oi a) c a).R v)).add j ((E.pk j (E.want oj a) cj a).R u)) ((a.put oi.dst v).put oj.dst u) := fun v hv => by
      have h4 := ((H v hv).2 j (ready_mono hj hji)).2
      unfold EnvW.op at h4
      simp only [hoj] at h4
      obtain ⟨cj, hyj, hnj⟩ := h4
      rw [hwj v] at hnj
      simp only [EnvW.pk_put hX hoj h1] at hnj
      refine ⟨cj, fun hwt => ?_, hnj⟩
      obtain ⟨h5, h6, h7⟩ := hyj (by rw [hwj]; exact hwt)
      refine ⟨h5, fun hN => ?_, fun w hw hf => ?_⟩
      · obtain ⟨w, hw, hf⟩ := h6 hN
        exact ⟨w, hw, fun k hk => (hf k hk).2⟩
      · have h8 := h7 w hw fun k hk => ⟨fun e => absurd e (huse k hk), hf k hk⟩
        rwa [madeAtW_put hsj h1, EnvW.pk_put hX hoj h1] at h8
    obtain ⟨v0, hv0⟩ := E.pk_inh i (E.want oi a) c a
    obtain ⟨cj, hyj, _⟩ := hstep v0 hv0
    have huniq : ∀ cj', E.Y j oj cj' fs a → E.pk j (E.want oj a) cj' a = E.pk j (E.want oj a) cj a := fun cj' hyj' => EnvW.pk_uniq fun hwt hN => by
      obtain ⟨g1, g2, g3⟩ := hyj hwt
      obtain ⟨_, _, g4⟩ := hyj' hwt
      obtain ⟨w, hw, hf⟩ := g2 hN
      have g5 := g3 w hw hf
      have g6 := g4 w hw hf
      simp only [EnvW.pk, hN, if_true] at g5 g6
      rcases g1 with g1 | g1
      · rw [hN] at g1; cases g1
      · exact plainW_uniq g1 g6 g5
    unfold EnvW.op
    simp only [hoj]
    refine ⟨cj, hyj, fun u hu => ?_⟩
    refine ih (listed.setIfInBounds j true) (fs.add j _) (a.put oj.dst u) (inv.set hj hjn) (fun k ok hk hki hun hno => ?_) (ready_mono hr (Ne.symm hji)) (fun hwt => ?_) (fun v hv => ?_)
    · refine hfree k ok hk hki ?_ hno
      by_cases hjk : j = k
      · subst hjk; exact hjun
      · rw [getD_set_ne true hjk] at hun; exact hun
    · rw [hwi] at hwt
      obtain ⟨g1, g2, g3⟩ := hy hwt
      have huse' : ∀ k ∈ E.U i, k ≠ j := fun k hk heq => by
        have h1 := List.all_eq_true.1 hU i (List.mem_range.2 hisz)
        have h2 := List.all_eq_true.1 h1 k hk
        simp only [Bool.and_eq_true, Bool.or_eq_true, decide_eq_true_eq] at h2
        rcases h2.1 with h2 | h2
        · have := (Array.getElem?_eq_some_iff.1 hoj).1; omega
        · have := reach_listed inv.closed (ancW_reach h2) fun o ho e he hb => by
            obtain ⟨_, o', ho', hall'⟩ := mem_ready.1 hr
            have : o = o' := Option.some.inj (ho.symm.trans ho')
            subst this
            exact hall' e he hb
          rw [heq, getD_both hjun] at this
          cases this
      refine ⟨g1, fun hN => ?_, fun w hw hf => ?_⟩
      · obtain ⟨w, hw, hf⟩ := g2 hN
        exact ⟨w, hw, fun k hk => ⟨fun e => absurd e (huse' k hk), hf k hk⟩⟩
      · rw [madeAtW_put hsi h3, EnvW.pk_put hX hi h3]
        exact g3 w hw fun k hk => (hf k hk).2
    · rw [hwi, EnvW.pk_put hX hi h3] at hv ⊢
      obtain ⟨cj', hyj', H'⟩ := hstep v hv
      rw [huniq cj' hyj'] at H'
      have := H' u hu
      rw [Array.setIfInBounds_comm _ _ hji, Fs.add_comm, ← Act.put_comm a v u h2]
      exact this
/-- The lexical walk. -/
def EnvW.walk (E : EnvW) (Q : Fs → Act → Prop) : Nat → List Oper → Fs → Act → Prop
  | _, [], fs, a => Q fs a
  | k, o :: l, fs, a => E.step k o (E.walk Q (k + 1) l) fs a
theorem EnvW.head_lex {E : EnvW} {n g : Nat} {Lq : Fs → Act → Prop} (hU : E.okU = true) (hX : E.okX = true) (hsel : Region.noSelect E.ops = true) (hlt : ∀ listed, HeadInv E.md E.ops n listed → ∀ i, i < n → listed.getD i true = false → ∀ j ∈ Region.ready E.md E.ops listed, j < n) :
    ∀ (l : List Oper) (k : Nat) (listed : Array Bool) (fs : Fs) (a : Act), (∀ j, j < l.length → l[j]? = E.ops[k + j]?) → k + l.length = n → HeadInv E.md E.ops n listed →
    Region.lexHead E.md E.ops g l.length k listed = true → E.walk Lq k l fs a →
    E.head n (fun listed' fs' a' => Region.seqB E.md E.ops g n listed' = true ∧ Lq fs' a') l.length listed fs a
  | [], k, listed, fs, a, _, hk, _, hB, h => by
    have : k = n := by simpa using hk
    subst this
    exact ⟨by simpa [Region.lexHead] using hB, h⟩
  | o :: l, k, listed, fs, a, hl, hk, inv, hB, h => by
    have h0 : E.ops[k]? = some o := by simpa using (hl 0 (by simp)).symm
    simp only [List.length_cons, Region.lexHead, Bool.and_eq_true] at hB
    obtain ⟨⟨hr, hf⟩, hB'⟩ := hB
    have hkn : k < n := by simp only [List.length_cons] at hk; omega
    have hr' : k ∈ Region.ready E.md E.ops listed := by simpa using hr
    obtain ⟨c, hy, hK⟩ := h
    exact EnvW.head_first hU hX h0 (Region.noSelect_spec hsel) (fun listed inv h => hlt listed inv k hkn h) (fun listed' fs' a' hL => seqB_ready hL.1) l.length listed fs a inv (Region.free_spec h0 hf) hr' hy
      fun v hv => EnvW.head_lex hU hX hsel hlt l (k + 1) _ _ _ (fun j hj => by have := hl (j + 1) (by simp; omega); simpa [Nat.add_assoc, Nat.add_comm 1 j] using this) (by simp only [List.length_cons] at hk; omega) (inv.set hr' hkn) hB' (hK v hv)
/-- What is known ahead of the region, beyond the blocks below m: facts with numbers behind the operations'. -/
structure EnvW.Ini (E : EnvW) (fs : Fs) : Prop where
  mono : E.Mono fs
  free : ∀ j, j < E.ops.size → ∀ w, fs j w
  now : ∀ j, fs j E.W
theorem EnvW.Ini.nil {E : EnvW} : E.Ini Fs.nil := ⟨fun _ _ _ _ _ _ h => h, fun _ _ _ => trivial, fun _ => trivial⟩
theorem EnvW.fin_alive {E : EnvW} {listed : Array Bool} {j : Nat} (hs : listed.size = E.ops.size) (h : E.fin j = true) : E.alive listed j := fun k hk hc => by
  have hks : k < E.ops.size := by
    rcases Nat.lt_or_ge k listed.size with h | h
    · rw [← hs]; exact h
    · simp [Array.getElem?_eq_none h] at hk
  have := List.all_eq_true.1 h k (List.mem_range.2 hks)
  simpa [hc] using this
end
section
variable {P : Program}
/-- A region that draws its order: walked once. -/
theorem wp_region_w {id : Nat} {Q : Exit → Act → World → Prop} {a : Act} {w : World} {l : List Oper} (m : Nat) (N : Nat → Option (List Value → MadeW m)) (X : Nat → List Tmp) (Dt Ot : Nat → List TypeId) (U : Nat → List Nat) (fs : Fs) (hmw : m ≤ w.heap.size) (hm : P.follows .mixedOrders = true)
    (hB : lexMadeB l.toArray = true) (hU : (EnvW.mk P .any l.toArray m w (fun _ => none) X Dt Ot U).okU = true) (hX : (EnvW.mk P .any l.toArray m w (fun _ => none) X Dt Ot U).okX = true) (hE : (EnvW.mk P .any l.toArray m w N X Dt Ot U).Told) (hI : (EnvW.mk P .any l.toArray m w N X Dt Ot U).Ini fs)
    (h : (EnvW.mk P .any l.toArray m w N X Dt Ot U).walk (fun fs a' => ∀ w', Below m w w' → (∀ j, (EnvW.mk P .any l.toArray m w (fun _ => none) X Dt Ot U).fin j = true → fs j w') → Q .normal a' w') 0 l fs a) : (Code.region id l.toArray true).wp P Q a w := by
  simp only [lexMadeB, Bool.and_eq_true] at hB
  have hU' : (EnvW.mk P .any l.toArray m w N X Dt Ot U).okU = true := hU
  have hX' : (EnvW.mk P .any l.toArray m w N X Dt Ot U).okX = true := hX
  have H := EnvW.head_lex (E := ⟨P, .any, l.toArray, m, w, N, X, Dt, Ot, U⟩) (n := l.toArray.size) (g := 0) hU' hX' hB.1 (fun listed _ i _ _ j hj => by
    obtain ⟨_, o, ho, _⟩ := mem_ready.1 hj
    exact (Array.getElem?_eq_some_iff.1 ho).1) l 0 _ fs a (fun j hj => by simp) (by simp) (inv0 _) (by simpa using hB.2) h
  refine wp_region_any hm ?_
  have hd : Kept m [] w w.drew := Kept.of_below (Below.refl _ _).drew hmw
  have := EnvW.head_any (E := ⟨P, .any, l.toArray, m, w, N, X, Dt, Ot, U⟩) (Q' := Q) (g := 0) (n := l.toArray.size) hE hU' hmw
    (fun listed fs a' w' inv hw' hf hL => ⟨by simpa [Region.seqB] using hL.1, hL.2 w' hw' fun j hj => hf j (EnvW.fin_alive inv.size hj)⟩) _ _ fs _ { w with drawn := w.drawn + 1 } (inv0 _) hI.mono (fun j hj _ w => hI.free j hj w) (Below.refl _ _).drew
    (fun j _ => hI.mono j [] w w.drew (fun t ht => by cases ht) hd (hI.now j)) H
  simpa using this
/-- .. and behind them operations in one forced order. -/
theorem wp_region_w_tail {id : Nat} {Q : Exit → Act → World → Prop} {a : Act} {w : World} {l : List Oper} (m n : Nat) (N : Nat → Option (List Value → MadeW m)) (X : Nat → List Tmp) (Dt Ot : Nat → List TypeId) (U : Nat → List Nat) (fs : Fs) (hmw : m ≤ w.heap.size) (hm : P.follows .mixedOrders = true)
    (hB : Region.lexTailB .any l.toArray n = true) (hU : (EnvW.mk P .any l.toArray m w (fun _ => none) X Dt Ot U).okU = true) (hX : (EnvW.mk P .any l.toArray m w (fun _ => none) X Dt Ot U).okX = true) (hE : (EnvW.mk P .any l.toArray m w N X Dt Ot U).Told) (hI : (EnvW.mk P .any l.toArray m w N X Dt Ot U).Ini fs)
    (h : (EnvW.mk P .any l.toArray m w N X Dt Ot U).walk (fun fs a' => ∀ w', Below m w w' → (∀ j, (EnvW.mk P .any l.toArray m w (fun _ => none) X Dt Ot U).fin j = true → fs j w') → wpList P l.toArray Q (l.drop n) a' w') 0 (l.take n) fs a) : (Code.region id l.toArray true).wp P Q a w := by
  simp only [Region.lexTailB, Bool.and_eq_true, decide_eq_true_eq] at hB
  obtain ⟨⟨⟨⟨hsel, hn⟩, hs⟩, hc⟩, hlex⟩ := hB
  have hn' : n < l.length := by simpa using hn
  have htl : (l.take n).length = n := by simp; omega
  have hdl : (l.drop n).length = l.toArray.size - n := by simp
  have hU' : (EnvW.mk P .any l.toArray m w N X Dt Ot U).okU = true := hU
  have hX' : (EnvW.mk P .any l.toArray m w N X Dt Ot U).okX = true := hX
  have H := EnvW.head_lex (E := ⟨P, .any, l.toArray, m, w, N, X, Dt, Ot, U⟩) (n := n) (g := l.toArray.size - n) hU' hX' hsel (fun listed inv i hin hun j hj => by
      rcases Nat.lt_or_ge j n with h | h
      · exact h
      · exact absurd hj (tail_waits hs hc hn inv _ i rfl hin hun j h)) (l.take n) 0 _ fs a (fun j hj => by
    have hj' : j < n := by rw [htl] at hj; exact hj
    simp [hj']) (by simpa using htl) (inv0 _) (by rw [htl]; exact hlex) h
  refine wp_region_any hm ?_
  have hd : Kept m [] w w.drew := Kept.of_below (Below.refl _ _).drew hmw
  have := EnvW.head_any (E := ⟨P, .any, l.toArray, m, w, N, X, Dt, Ot, U⟩) (Q' := Q) (g := l.toArray.size - n) hE hU' hmw (fun listed fs a' w' inv hw' hf hL => by
    have := wpAny_of_seq (md := .any) (Q' := Q) (l.drop n) n listed a' w' (fun j => by simp [List.getElem?_drop]) (by rw [hdl]; exact hL.1) (hL.2 w' hw' fun j hj => hf j (EnvW.fin_alive inv.size hj))
    rwa [hdl] at this) _ _ fs _ { w with drawn := w.drawn + 1 } (inv0 _) hI.mono (fun j hj _ w => hI.free j hj w) (Below.refl _ _).drew (fun j _ => hI.mono j [] w w.drew (fun t ht => by cases ht) hd (hI.now j)) H
  rw [htl, show n + (l.toArray.size - n) = l.toArray.size by omega] at this
  exact this
end
end Go.Proofs.Ytfldoihindbdmaa
/- A region that draws its order and writes: the steps of its walk. Over any program. -/
namespace Go.Proofs.Ytfldoihindbdmaa
open Go.RowKit
section
variable {P : Program} {ops : Array Oper} {md : Region.Mode} {m : Nat} {W : World} {N : Nat → Option (List Value → MadeW m)} {X : Nat → List Tmp} {Dt Ot : Nat → List TypeId} {U : Nat → List Nat}
theorem walkW_skip {Q : Fs → Act → Prop} {k : Nat} {o : Oper} {l : List Oper} {fs : Fs} {a : Act} (hw : Region.wanted o (yielded ops a.tmps) = false)
    (h : (EnvW.mk P md ops m W N X Dt Ot U).walk Q (k + 1) l fs (a.put o.dst undef)) : (EnvW.mk P md ops m W N X Dt Ot U).walk Q k (o :: l) fs a := by
  have hw' : (EnvW.mk P md ops m W N X Dt Ot U).want o a = false := hw
  refine ⟨undef, fun h1 => (by rw [hw'] at h1; cases h1), fun v hv => ?_⟩
  simp only [hw', EnvW.pk, Bool.false_eq_true, if_false] at hv ⊢
  have : v = undef := hv
  subst this
  have h2 : (MadeW.val (m := m) undef).R undef = fun _ => True := rfl
  rw [h2, Fs.add_true]
  exact h
/-- What the check of a stretch of reads asks. -/
def segBW (U : Nat → List Nat) (N : Nat → Bool) (ks : List Nat) : Nat → List Oper → Bool
  | _, [] => true
  | k, o :: l => !N k && plainOp o.op && ks.all (fun j => (U k).contains j) && (U k).all (fun j => ks.contains j) && segBW U N ks (k + 1) l
theorem madeAtW_quiet {o : Oper} {a : Act} {C : World → Prop} {w : World} {v : Value} (hp : plainOp o.op = true) (h : o.quietAt P a C w v) : madeAtW P (.val (m := m) v) o a w := by
  unfold Oper.quietAt at h
  unfold madeAtW
  generalize hr : (execOp a.eval o).run P w = r at h ⊢
  cases r with
  | ok n w' =>
    cases n <;> simp only [Oper.quietUpon] at h <;> simp only [madeUponW]
    case value u => obtain ⟨rfl, rfl⟩ := h; exact ⟨Kept.refl _ _ _, rfl, trivial⟩
    case skip => obtain ⟨rfl, rfl⟩ := h; exact ⟨Kept.refl _ _ _, rfl, trivial⟩
    case enter f args => exact absurd hr (plain_enter hp)
  | halt x w' => simp only [Oper.quietUpon] at h
theorem walkW_seg {Q : Fs → Act → Prop} {fs : Fs} (gs : List (Nat × (World → Prop))) (hg : ∀ p ∈ gs, ∀ w, fs p.1 w → p.2 w) (hx : ∃ w, Below m W w ∧ ∀ p ∈ gs, fs p.1 w) {rest : List Oper} :
    ∀ (seg : List Oper) (k : Nat) (a : Act), segBW U (fun k => (N k).isSome) (gs.map (·.1)) k seg = true →
    wpQuiet P ops (fun w' => ∃ x : LaterF m W gs, w' = x.w) (fun a' => (EnvW.mk P md ops m W N X Dt Ot U).walk Q (k + seg.length) rest fs a') seg a → (EnvW.mk P md ops m W N X Dt Ot U).walk Q k (seg ++ rest) fs a
  | [], k, a, _, h => h
  | o :: seg, k, a, hB, h => by
    simp only [segBW, Bool.and_eq_true, Bool.not_eq_true'] at hB
    obtain ⟨⟨⟨⟨hN, hp⟩, ha⟩, hu⟩, hB'⟩ := hB
    have hN' : N k = none := by simpa using hN
    have ih := fun a => walkW_seg (Q := Q) (fs := fs) gs hg hx (rest := rest) seg (k + 1) a
    simp only [List.length_cons, show k + (seg.length + 1) = k + 1 + seg.length by omega, wpQuiet] at h
    rw [List.cons_append]
    split at h
    · rename_i hw
      have hw' : (EnvW.mk P md ops m W N X Dt Ot U).want o a = true := hw
      obtain ⟨v, h1, h2⟩ := h
      refine ⟨v, fun _ => ⟨.inr hp, fun _ => ?_, fun w hb hf => ?_⟩, fun u hu => ?_⟩
      · obtain ⟨w, hb, hf⟩ := hx
        refine ⟨w, hb, fun j hj => ?_⟩
        have := List.all_eq_true.1 hu j hj
        obtain ⟨p, hp, rfl⟩ := List.mem_map.1 (show j ∈ gs.map (·.1) by simpa using this)
        exact hf p hp
      · simp only [EnvW.pk, hN', if_true]
        refine madeAtW_quiet hp (h1 w ⟨⟨w, hb, fun p hp' => hg p hp' w (hf p.1 ?_)⟩, rfl⟩)
        have := List.all_eq_true.1 ha p.1 (List.mem_map.2 ⟨p, hp', rfl⟩)
        simpa using this
      · simp only [hw', EnvW.pk, hN', if_true] at hu ⊢
        have : u = v := hu
        subst this
        have h3 : (MadeW.val (m := m) u).R u = fun _ => True := rfl
        rw [h3, Fs.add_true]
        exact ih _ hB' h2
    · rename_i hw
      exact walkW_skip (by simpa using hw) (ih _ hB' h)
theorem walkW_segn {Q : Fs → Act → Prop} {fs : Fs} {k : Nat} {a : Act} (s : Nat) (gs : List (Nat × (World → Prop))) (hg : ∀ p ∈ gs, ∀ w, fs p.1 w → p.2 w) (hx : ∃ w, Below m W w ∧ ∀ p ∈ gs, fs p.1 w) {l : List Oper} (hs : decide (s ≤ l.length) = true)
    (hB : segBW U (fun k => (N k).isSome) (gs.map (·.1)) k (l.take s) = true)
    (h : wpQuiet P ops (fun w' => ∃ x : LaterF m W gs, w' = x.w) (fun a' => (EnvW.mk P md ops m W N X Dt Ot U).walk Q (k + s) (l.drop s) fs a') (l.take s) a) : (EnvW.mk P md ops m W N X Dt Ot U).walk Q k l fs a := by
  have hs' := of_decide_eq_true hs
  have hl : (l.take s).length = s := by simp; omega
  have := walkW_seg (P := P) (ops := ops) (md := md) (N := N) (X := X) (Dt := Dt) (Ot := Ot) (U := U) (Q := Q) gs hg hx (rest := l.drop s) (l.take s) k a hB (by rw [hl]; exact h)
  rwa [List.take_append_drop] at this
theorem noneHx {fs : Fs} : ∃ w, Below m W w ∧ ∀ p ∈ ([] : List (Nat × (World → Prop))), fs p.1 w := ⟨W, Below.refl _ _, fun p hp => by cases hp⟩
theorem walkW_mk {Q : Fs → Act → Prop} {k : Nat} {o : Oper} {l : List Oper} {fs : Fs} {a : Act} (f : List Value → MadeW m) (xs : List Value) (M : MadeW m) (gs : List (Nat × (World → Prop))) (hg : ∀ p ∈ gs, ∀ w, fs p.1 w → p.2 w)
    (ha : (gs.map (·.1)).all (fun j => (U k).contains j) = true) (hw : Region.wanted o (yielded ops a.tmps) = true) (hN : N k = some f) (hx : (X k).map (fun t => a.tmps.getD t undef) = xs) (hM : f xs = M) (h1 : ∀ w, Below m W w → (∀ p ∈ gs, p.2 w) → madeAtW P M o a w)
    (h2 : ∀ v, M.T v → (EnvW.mk P md ops m W N X Dt Ot U).walk Q (k + 1) l (fs.add k (M.R v)) (a.put o.dst v)) : (EnvW.mk P md ops m W N X Dt Ot U).walk Q k (o :: l) fs a := by
  have hw' : (EnvW.mk P md ops m W N X Dt Ot U).want o a = true := hw
  have hN' : (EnvW.mk P md ops m W N X Dt Ot U).N k = some f := hN
  have hp : (EnvW.mk P md ops m W N X Dt Ot U).pk k true undef a = M := by
    unfold EnvW.pk
    simp only [hN, if_true]
    rw [← hM, ← hx]
    rfl
  refine ⟨undef, fun _ => ⟨.inl (by rw [hN']; rfl), fun h => (by rw [hN'] at h; cases h), fun w hb hf => ?_⟩, fun v hv => ?_⟩
  · rw [hp]
    refine h1 w hb fun p hp => hg p hp w (hf p.1 ?_)
    have := List.all_eq_true.1 ha p.1 (List.mem_map.2 ⟨p, hp, rfl⟩)
    simpa using this
  · rw [hw', hp] at hv ⊢
    exact h2 v hv
/-- .. whose value is known. -/
theorem walkW_val {Q : Fs → Act → Prop} {k : Nat} {o : Oper} {l : List Oper} {fs : Fs} {a : Act} (c : Value) (f : List Value → MadeW m) (xs : List Value) (gs : List (Nat × (World → Prop))) (hg : ∀ p ∈ gs, ∀ w, fs p.1 w → p.2 w)
    (ha : (gs.map (·.1)).all (fun j => (U k).contains j) = true) (hw : Region.wanted o (yielded ops a.tmps) = true) (hN : N k = some f) (hx : (X k).map (fun t => a.tmps.getD t undef) = xs) (hM : f xs = .val c) (h1 : ∀ w, Below m W w → (∀ p ∈ gs, p.2 w) → madeAtW P (MadeW.val (m := m) c) o a w)
    (h2 : (EnvW.mk P md ops m W N X Dt Ot U).walk Q (k + 1) l fs (a.put o.dst c)) : (EnvW.mk P md ops m W N X Dt Ot U).walk Q k (o :: l) fs a :=
  walkW_mk f xs _ gs hg ha hw hN hx hM h1 fun v hv => by
    have : v = c := hv
    subst this
    have h3 : (MadeW.val (m := m) v).R v = fun _ => True := rfl
    rw [h3, Fs.add_true]
    exact h2
theorem walkW_nil {E : EnvW} {Q : Fs → Act → Prop} {k : Nat} {fs : Fs} {a : Act} (h : Q fs a) : E.walk Q k [] fs a := h
theorem facts2 {k k' : Nat} {F F' : World → Prop} {fs : Fs} (h : ∀ w, fs k w → F w) (h' : ∀ w, fs k' w → F' w) : ∀ p ∈ [(k, F), (k', F')], ∀ w, fs p.1 w → p.2 w := fun p hp w hw => by
  simp only [List.mem_cons, List.not_mem_nil, or_false] at hp
  rcases hp with rfl | rfl
  · exact h w hw
  · exact h' w hw
/-- A call's end. -/
theorem endW {M : MadeW m} {w w' : World} {v : Value} (hk : Kept m M.D w w') (hT : M.T v) (hR : M.R v w') : madeEndW M w (.returned v) w' := ⟨v, rfl, hk, hT, hR⟩
theorem valW {c : Value} {w w' : World} (hb : Below w.heap.size w w') (hm : m ≤ w.heap.size) : madeEndW (MadeW.val (m := m) c) w (.returned c) w' := ⟨c, rfl, Kept.of_below hb hm, rfl, trivial⟩
/-- A block of its own, whose content is known. -/
def MadeW.row (m : Nat) (f : Nat → Value) (c : Array Value) (t : TypeId) : MadeW m where
  T v := ∃ b, m ≤ b ∧ v = f b
  R v w := ∃ b, m ≤ b ∧ v = f b ∧ bk w b = some (.cells c t (0, 0))
  D := []
  O := [t]
  inh := ⟨_, m, Nat.le_refl _, rfl⟩
  mono := fun D v w w' hd hk ⟨b, h1, h2, h3⟩ => ⟨b, h1, h2, hk.row h3 fun h => hd t h (by simp)⟩
/-- A block that was there is written: its content from then on. -/
def MadeW.store (m : Nat) (b : Nat) (c : Array Value) (t : TypeId) : MadeW m where
  T _ := True
  R _ w := bk w b = some (.cells c t (0, 0))
  D := [t]
  O := [t]
  inh := ⟨undef, trivial⟩
  mono := fun D v w w' hd hk h => hk.row h fun h' => hd t h' (by simp)
/-- .. the block and the content as the operation's slots have them. -/
def MadeW.storeAt (m : Nat) (t : TypeId) : List Value → MadeW m
  | [.pointer (some ⟨b, 0, none⟩), .agg c] => .store m b c t
  | _ => .store m 0 #[] t
theorem storeAt_D (m : Nat) (t : TypeId) (x : List Value) : (MadeW.storeAt m t x).D = [t] := by unfold MadeW.storeAt; split <;> rfl
theorem storeAt_O (m : Nat) (t : TypeId) (x : List Value) : (MadeW.storeAt m t x).O = [t] := by unfold MadeW.storeAt; split <;> rfl
/-- What is told of the operations that make or write, by their numbers: each with what it writes and what its fact rests on. -/
structure Ent (m : Nat) where
  k : Nat
  f : List Value → MadeW m
  D : List TypeId
  O : List TypeId
  X : List Tmp
  ok : ∀ x, (f x).D = D ∧ (f x).O = O
def entN (l : List (Ent m)) (k : Nat) : Option (List Value → MadeW m) := (l.find? fun e => e.k == k).map (·.f)
def entD (l : List (Ent m)) (k : Nat) : List TypeId := ((l.find? fun e => e.k == k).map (·.D)).getD []
def entO (l : List (Ent m)) (k : Nat) : List TypeId := ((l.find? fun e => e.k == k).map (·.O)).getD []
def entX (l : List (Ent m)) (k : Nat) : List Tmp := ((l.find? fun e => e.k == k).map (·.X)).getD []
theorem ent_told (l : List (Ent m)) (U : Nat → List Nat) : (EnvW.mk P md ops m W (entN l) (entX l) (entD l) (entO l) U).Told := by
  refine ⟨fun i f h x => ?_, fun i f h x => ?_⟩
  · change entN l i = some f at h
    show _ = entD l i
    unfold entN at h
    unfold entD
    cases he : l.find? (fun e => e.k == i) with
    | none => rw [he] at h; cases h
    | some e => rw [he] at h; cases h; exact (e.ok x).1
  · change entN l i = some f at h
    show _ = entO l i
    unfold entN at h
    unfold entO
    cases he : l.find? (fun e => e.k == i) with
    | none => rw [he] at h; cases h
    | some e => rw [he] at h; cases h; exact (e.ok x).2
/-- A region that draws its order, told by a list. -/
theorem wp_region_e {id : Nat} {Q : Exit → Act → World → Prop} {a : Act} {w : World} {l : List Oper} (m : Nat) (es : List (Ent m)) (U : Nat → List Nat) (fs : Fs) (hmw : m ≤ w.heap.size) (hm : P.follows .mixedOrders = true)
    (hB : lexMadeB l.toArray = true) (hU : (EnvW.mk P .any l.toArray m w (fun _ => none) (entX es) (entD es) (entO es) U).okU = true) (hX : (EnvW.mk P .any l.toArray m w (fun _ => none) (entX es) (entD es) (entO es) U).okX = true)
    (hI : (EnvW.mk P .any l.toArray m w (entN es) (entX es) (entD es) (entO es) U).Ini fs)
    (h : (EnvW.mk P .any l.toArray m w (entN es) (entX es) (entD es) (entO es) U).walk (fun fs a' => ∀ w', Below m w w' → (∀ j, (EnvW.mk P .any l.toArray m w (fun _ => none) (entX es) (entD es) (entO es) U).fin j = true → fs j w') → Q .normal a' w') 0 l fs a) : (Code.region id l.toArray true).wp P Q a w :=
  wp_region_w m (entN es) (entX es) (entD es) (entO es) U fs hmw hm hB hU hX (ent_told es U) hI h
theorem row_T {M : MadeW m} {f : Nat → Value} {c : Array Value} {t : TypeId} {v : Value} (HM : Hid (M = MadeW.row m f c t)) (h : M.T v) : ∃ b, m ≤ b ∧ v = f b := by
  have := HM.out
  subst this
  exact h
def Ent.row (k : Nat) {M : MadeW m} {f : Nat → Value} {c : Array Value} {t : TypeId} (HM : Hid (M = MadeW.row m f c t)) : Ent m := ⟨k, fun _ => M, [], [t], [], fun _ => by have := HM.out; subst this; exact ⟨rfl, rfl⟩⟩
def Ent.val (m k : Nat) (c : Value) : Ent m := ⟨k, fun _ => .val c, [], [], [], fun _ => ⟨rfl, rfl⟩⟩
def Ent.store (m k : Nat) (t : TypeId) (X : List Tmp) : Ent m := ⟨k, MadeW.storeAt m t, [t], [t], X, fun x => ⟨storeAt_D m t x, storeAt_O m t x⟩⟩
/-- A value that hangs on a block; nothing is told of the block. -/
def MadeW.fresh (m : Nat) (f : Nat → Value) : MadeW m where
  T v := ∃ b, m ≤ b ∧ v = f b
  R _ _ := True
  D := []
  O := []
  inh := ⟨_, m, Nat.le_refl _, rfl⟩
  mono := fun _ _ _ _ _ _ h => h
def Ent.fresh (k : Nat) {M : MadeW m} {f : Nat → Value} (HM : Hid (M = MadeW.fresh m f)) : Ent m := ⟨k, fun _ => M, [], [], [], fun _ => by have := HM.out; subst this; exact ⟨rfl, rfl⟩⟩
theorem fresh_T {M : MadeW m} {f : Nat → Value} {v : Value} (HM : Hid (M = MadeW.fresh m f)) (h : M.T v) : ∃ b, m ≤ b ∧ v = f b := by
  have := HM.out
  subst this
  exact h
theorem fresh_mk {M : MadeW m} {f : Nat → Value} {w w' : World} {b : Nat} (HM : Hid (M = MadeW.fresh m f)) (hb : Below w.heap.size w w') (hm : m ≤ w.heap.size) (hlt : m ≤ b) : Kept m M.D w w' ∧ M.T (f b) ∧ M.R (f b) w' := by
  have := HM.out
  subst this
  exact ⟨Kept.of_below hb hm, ⟨b, hlt, rfl⟩, trivial⟩
/-- Where a pointer's or a slice's block is told by the value. -/
theorem ptr_inj (b b' : Nat) (h : Value.pointer (some ⟨b, 0, none⟩) = .pointer (some ⟨b', 0, none⟩)) : b = b' := by simpa using h
theorem row_R {M : MadeW m} {f : Nat → Value} {c : Array Value} {t : TypeId} {b : Nat} {w : World} (HM : Hid (M = MadeW.row m f c t)) (hf : ∀ b b', f b = f b' → b = b') (h : M.R (f b) w) : bk w b = some (.cells c t (0, 0)) := by
  have := HM.out
  subst this
  obtain ⟨b', _, h2, h3⟩ := h
  rw [hf _ _ h2]
  exact h3
theorem row_mk {M : MadeW m} {f : Nat → Value} {c : Array Value} {t : TypeId} {w w' : World} {b : Nat} (HM : Hid (M = MadeW.row m f c t)) (hb : Below w.heap.size w w') (hm : m ≤ w.heap.size) (hlt : m ≤ b) (h : bk w' b = some (.cells c t (0, 0))) : Kept m M.D w w' ∧ M.T (f b) ∧ M.R (f b) w' := by
  have := HM.out
  subst this
  exact ⟨Kept.of_below hb hm, ⟨b, hlt, rfl⟩, b, hlt, rfl, h⟩
theorem store_R {M : MadeW m} {b : Nat} {c : Array Value} {t : TypeId} {v : Value} {w : World} (HM : Hid (M = MadeW.store m b c t)) (h : M.R v w) : bk w b = some (.cells c t (0, 0)) := by
  have := HM.out
  subst this
  exact h
/-- A whole row is stored into a block that is known. -/
theorem storeRow_mk {M : MadeW m} {ty : TypeId} {n : Nat} (hi : (P.info? ty).map (·.size) = some n) {x y : Operand} {tt : TypeId} {pos : String} {af : Array Edge} {g : Option (Nat × Bool)} {a : Act} {w : World} {b : Nat} {c0 c : Array Value} {t : TypeId}
    (HM : Hid (M = MadeW.store m b c t)) (hb : bk w b = some (.cells c0 t (0, 0))) (hm : m ≤ b) (hx : a.eval x = .pointer (some ⟨b, 0, none⟩)) (hy : a.eval y = .agg c) (h0 : c0.size = n) (h1 : c.size = n) (h2 : ones c.toList = true) :
    madeAtW P M ⟨none, .store ty x y, tt, pos, af, g⟩ a w := by
  have := HM.out
  subst this
  have hrun := run_storeVar_row (P := P) w b t ty c0 c hb (by rw [hi, h1]) (by omega) (Array.all_eq_true_iff_forall_mem.2 (fun v hv => ones_mem h2 v (by simpa using hv)))
  unfold madeAtW execOp
  simp only [hx, hy, Instr.storeAt, Instr.sureAddr, Sem.run_bind, Sem.run_pure, Result.andThen_ok, hrun]
  exact ⟨Kept.setRow hb hm (by simp [MadeW.store]), trivial, by show bk (w.setRow b c) b = _; rw [bk_setRow_same, hb]; rfl⟩
/-- A world with a block of whatever content. -/
theorem world_with (hm : m ≤ W.heap.size) {b : Nat} (hb : m ≤ b) (r : Obj) : ∃ w, Below m W w ∧ bk w b = some r := by
  refine ⟨{ W with heap := (W.heap ++ Array.replicate (b + 1) r).setIfInBounds b r }, ⟨rfl, rfl, rfl, by simp, fun k hk => ?_⟩, ?_⟩
  · show ((W.heap ++ Array.replicate (b + 1) r).setIfInBounds b r)[k]? = _
    rw [Array.getElem?_setIfInBounds_ne (by omega), Array.getElem?_append_left (by omega)]
  · show ((W.heap ++ Array.replicate (b + 1) r).setIfInBounds b r)[b]? = _
    rw [Array.getElem?_setIfInBounds_self_of_lt (by simp; omega)]
end
end Go.Proofs.Ytfldoihindbdmaa
/-
  A region that draws its order, told by a list; behind it operations in one forced order. Over any program.
-/
namespace Go.Proofs.Ytfldoihindbdmaa
open Go.RowKit
theorem wp_region_e_tail {P : Program} {id : Nat} {Q : Exit → Act → World → Prop} {a : Act} {w : World} {l : List Oper} (m n : Nat) (es : List (Ent m)) (U : Nat → List Nat) (fs : Fs) (hmw : m ≤ w.heap.size) (hm : P.follows .mixedOrders = true)
    (hB : Region.lexTailB .any l.toArray n = true) (hU : (EnvW.mk P .any l.toArray m w (fun _ => none) (entX es) (entD es) (entO es) U).okU = true) (hX : (EnvW.mk P .any l.toArray m w (fun _ => none) (entX es) (entD es) (entO es) U).okX = true)
    (hI : (EnvW.mk P .any l.toArray m w (entN es) (entX es) (entD es) (entO es) U).Ini fs)
    (h : (EnvW.mk P .any l.toArray m w (entN es) (entX es) (entD es) (entO es) U).walk (fun fs a' => ∀ w', Below m w w' → (∀ j, (EnvW.mk P .any l.toArray m w (fun _ => none) (entX es) (entD es) (entO es) U).fin j = true → fs j w') → wpList P l.toArray Q (l.drop n) a' w') 0 (l.take n) fs a) : (Code.region id l.toArray true).wp P Q a w :=
  wp_region_w_tail m n (entN es) (entX es) (entD es) (entO es) U fs hmw hm hB hU hX (ent_told es U) hI h
end Go.Proofs.Ytfldoihindbdmaa
/-
  A region that draws its order in a round of a range over a function, inside the wide fence: what is shown of it outside holds there. Over any program.
-/
namespace Go.Proofs.Ytfldoihindbdmaa
open Go Go.RowKit
section
variable {l n : Nat} {P : Program} {ops : Array Oper} {md : Region.Mode} {Q : Exit → Act → World → Prop}
theorem stepsIn_round {a b : Machine} (h : Steps P a b) : StepsIn (Machine.fenced P (Fence.wide.inRound l)) P a b := by
  rw [fenced_inRound]
  exact stepsIn_wide.2 h
theorem wpOpIn_of_wpOp {i : Nat} {a : Act} {w : World} {K K' : Act → World → Prop} (hnd : ∀ (i : Nat) (o : Oper), ops[i]? = some o → ∀ c, o.op ≠ .defer c) (hQ : ¬ LetsOut Q) (hK : ∀ a w, K a w → K' a w) (h : wpOp P ops Q i K a w) :
    wpOpIn (Fence.wide.inRound l) n P ops Q i K' a w := by
  unfold wpOp at h
  unfold wpOpIn
  split
  · rename_i ho; simp only [ho] at h; exact hK _ _ h
  · rename_i o ho
    simp only [ho] at h
    split
    · rename_i hw
      simp only [hw, if_true] at h
      rcases h with h | ⟨_, h⟩
      · refine ⟨fun _ _ => trivial, ?_⟩
        rw [show (Fence.wide.inRound l).round = some l from rfl, Oper.semAt_some l _ _ (hnd i o ho)]
        unfold Oper.wp at h
        generalize (execOp a.eval o).run P w = r at *
        cases r with
        | ok x w' =>
          cases x <;> simp only [Oper.upon] at h <;> simp only [Oper.uponIn]
          case enter f args => exact ⟨fun h => (by simp [Fence.wide, Fence.inRound] at h), CallsIn.inRound l ((callsIn_wide.2 h).mono fun e w'' he => by cases e <;> first | exact hK _ _ he | exact he)⟩
          case row row args => exact ⟨fun h => (by simp [Fence.wide, Fence.inRound] at h), fun c cs _ => by
            obtain ⟨v, w'', h1, h2⟩ := h c cs
            exact ⟨v, w'', hK _ _ h1, stepsIn_round h2⟩⟩
          all_goals exact hK _ _ h
        | halt x w' => cases x <;> simp only [Oper.upon] at h <;> simp only [Oper.uponIn] <;> exact h
      · exact absurd h hQ
    · rename_i hw; simp only [hw] at h; exact ⟨fun _ _ => trivial, hK _ _ h⟩
theorem wpAnyIn_of_wpAny (hnd : ∀ (i : Nat) (o : Oper), ops[i]? = some o → ∀ c, o.op ≠ .defer c) (hQ : ¬ LetsOut Q) :
    ∀ (f : Nat) (listed : Array Bool) (a : Act) (w : World), wpAny P md ops Q f listed a w → wpAnyIn (Fence.wide.inRound l) n P md ops Q f listed a w
  | 0, _, _, _, h => h
  | f + 1, _, _, _, h => ⟨h.1, fun i hi => wpOpIn_of_wpOp hnd hQ (wpAnyIn_of_wpAny hnd hQ f _) (h.2 i hi)⟩
end
theorem wpIn_region_round {P : Program} {l n id : Nat} {Q : Exit → Act → World → Prop} {a : Act} {w : World} {L : List Oper} (m k : Nat) (es : List (Ent m)) (U : Nat → List Nat) (fs : Fs) (hnd : ∀ (i : Nat) (o : Oper), L.toArray[i]? = some o → ∀ c, o.op ≠ .defer c) (hQ : ¬ LetsOut Q) (hmw : m ≤ w.heap.size) (hm : P.follows .mixedOrders = true)
    (hB : Region.lexTailB .any L.toArray k = true) (hU : (EnvW.mk P .any L.toArray m w (fun _ => none) (entX es) (entD es) (entO es) U).okU = true) (hX : (EnvW.mk P .any L.toArray m w (fun _ => none) (entX es) (entD es) (entO es) U).okX = true)
    (hI : (EnvW.mk P .any L.toArray m w (entN es) (entX es) (entD es) (entO es) U).Ini fs)
    (h : (EnvW.mk P .any L.toArray m w (entN es) (entX es) (entD es) (entO es) U).walk (fun fs a' => ∀ w', Below m w w' → (∀ j, (EnvW.mk P .any L.toArray m w (fun _ => none) (entX es) (entD es) (entO es) U).fin j = true → fs j w') → wpList P L.toArray Q (L.drop k) a' w') 0 (L.take k) fs a) : (Code.region id L.toArray true).wpIn (Fence.wide.inRound l) n P Q a w := by
  simp only [Region.lexTailB, Bool.and_eq_true, decide_eq_true_eq] at hB
  obtain ⟨⟨⟨⟨hsel, hn⟩, hs⟩, hc⟩, hlex⟩ := hB
  have htl : (L.take k).length = k := by have : k < L.length := by simpa using hn
                                         simp; omega
  have hn' : k < L.length := by simpa using hn
  have hdl : (L.drop k).length = L.toArray.size - k := by simp
  have H := EnvW.head_lex (E := ⟨P, .any, L.toArray, m, w, entN es, entX es, entD es, entO es, U⟩) (n := k) (g := L.toArray.size - k) hU hX hsel (fun listed inv i hin hun j hj => by
      rcases Nat.lt_or_ge j k with h | h
      · exact h
      · exact absurd hj (tail_waits hs hc hn inv _ i rfl hin hun j h)) (L.take k) 0 _ fs a (fun j hj => by
    have hj' : j < k := by rw [htl] at hj; exact hj
    simp [hj']) (by simpa using htl) (inv0 _) (by rw [htl]; exact hlex) h
  refine wpIn_region_any hm (wpAnyIn_of_wpAny hnd hQ _ _ _ _ ?_)
  have hd : Kept m [] w w.drew := Kept.of_below (Below.refl _ _).drew hmw
  have := EnvW.head_any (E := ⟨P, .any, L.toArray, m, w, entN es, entX es, entD es, entO es, U⟩) (Q' := Q) (g := L.toArray.size - k) (ent_told es U) hU hmw (fun listed fs a' w' inv hw' hf hL => by
    have := wpAny_of_seq (md := .any) (Q' := Q) (L.drop k) k listed a' w' (fun j => by simp [List.getElem?_drop]) (by rw [hdl]; exact hL.1) (hL.2 w' hw' fun j hj => hf j (EnvW.fin_alive inv.size hj))
    rwa [hdl] at this) _ _ fs _ { w with drawn := w.drawn + 1 } (inv0 _) hI.mono (fun j hj _ w => hI.free j hj w) (Below.refl _ _).drew (fun j _ => hI.mono j [] w w.drew (fun t ht => by cases ht) hd (hI.now j)) H
  rw [htl, show k + (L.toArray.size - k) = L.toArray.size by omega] at this
  exact this
end Go.Proofs.Ytfldoihindbdmaa
