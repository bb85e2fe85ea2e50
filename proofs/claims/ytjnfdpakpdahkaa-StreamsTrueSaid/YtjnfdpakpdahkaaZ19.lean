/- Streams, plain: what is read is a beginning of the text. -/
import Derived.Test.YtjnfdpakpdahkaaZ14
namespace Go.Proofs.Ytjnfdpakpdahkaa
/-- Of a text t from place p on: g bytes were read, r are ready. -/
structure Tr (p : Nat) (t : List UInt8) (g : Nat) (s : Sn) : Prop where
  ok : s.Ok
  le : g + s.ready.length ≤ t.length
  at' : s.at' = (p + (g + s.ready.length)) % m32
  ready : s.ready = (t.drop g).take s.ready.length
  far : ∀ e ∈ s.far, t[g + s.ready.length + e.1]? = some e.2
  ends : s.known = true → g + s.ready.length + s.left = t.length
theorem Tr.start {p : Nat} (hp : p < m32) (t : List UInt8) : Tr p t 0 ⟨p, [], [], false, 0⟩ :=
  ⟨⟨hp, by simp, List.nodup_nil, by simp, by simp, by intro h; cases h⟩, by simp, by simp [Nat.mod_eq_of_lt hp], by simp, by simp, by intro h; cases h⟩
section
variable {p g : Nat} {t : List UInt8} {s : Sn}
theorem dist_back {p q o : Nat} (h : q < o) (ho : o ≤ 8000) : 8192 ≤ dist ((p + q) % m32) ((p + o) % m32) := by
  unfold dist m32
  omega
theorem dist_on {p q o : Nat} (h : o ≤ q) (hq : q ≤ 8000) : dist ((p + q) % m32) ((p + o) % m32) = q - o := by
  unfold dist m32
  omega
theorem Tr.byte (h : Tr p t g s) (ht : t.length ≤ 8000) {q : Nat} {c : UInt8} (hc : t[q]? = some c) : Tr p t g (s.byte (dist ((p + q) % m32) s.at') c) := by
  have ho := byte_ok h.ok (dist ((p + q) % m32) s.at') c
  unfold Sn.byte at ho ⊢
  split
  · rename_i hk
    rw [if_pos hk] at ho
    have hq : q < t.length := (List.getElem?_eq_some_iff.1 hc).1
    have hoq : g + s.ready.length ≤ q := by
      rcases Nat.lt_or_ge q (g + s.ready.length) with hlt | hge
      · have h1 := dist_back (p := p) hlt (by have := h.le; omega)
        rw [← h.at'] at h1
        unfold Sn.takes Sn.win at hk
        simp only [Bool.and_eq_true, decide_eq_true_eq] at hk
        omega
      · exact hge
    have hd : dist ((p + q) % m32) s.at' = q - (g + s.ready.length) := by rw [h.at']; exact dist_on hoq (by omega)
    refine ⟨ho, h.le, h.at', h.ready, fun e he => ?_, h.ends⟩
    rcases List.mem_append.1 he with he | he
    · exact h.far e he
    · obtain rfl := List.mem_singleton.1 he
      show t[g + s.ready.length + dist ((p + q) % m32) s.at']? = some c
      rw [hd, show g + s.ready.length + (q - (g + s.ready.length)) = q by omega]
      exact hc
  · exact h
theorem takes_has {d j : Nat} {c : UInt8} (h : s.has j = true) : (s.byte d c).has j = true := by
  unfold Sn.byte
  split
  · unfold Sn.has at h ⊢
    simp only [List.any_append, h, Bool.true_or]
  · exact h
theorem byte_has {d : Nat} {c : UInt8} (h1 : d < s.win) (h2 : s.known = true → d < s.left) : (s.byte d c).has d = true := by
  unfold Sn.byte
  split
  · simp [Sn.has]
  · rename_i h
    unfold Sn.takes at h
    have h3 : decide (d < s.win) = true := by simpa using h1
    rw [h3] at h
    cases hk : s.known
    · rw [hk] at h; simpa using h
    · have := h2 hk
      rw [hk, show decide (d < s.left) = true by simpa using this] at h
      simpa using h
theorem byte_keeps (s : Sn) (d : Nat) (c : UInt8) : (s.byte d c).at' = s.at' ∧ (s.byte d c).ready = s.ready ∧ (s.byte d c).known = s.known ∧ (s.byte d c).left = s.left := by unfold Sn.byte; split <;> exact ⟨rfl, rfl, rfl, rfl⟩
theorem bytes_keeps : ∀ (l : List UInt8) (s : Sn) (d : Nat), (s.bytes d l).1.at' = s.at' ∧ (s.bytes d l).1.ready = s.ready ∧ (s.bytes d l).1.known = s.known ∧ (s.bytes d l).1.left = s.left
  | [], _, _ => ⟨rfl, rfl, rfl, rfl⟩
  | c :: l, s, d => by
    obtain ⟨h1, h2, h3, h4⟩ := bytes_keeps l (s.byte d c) ((d + 1) % m32)
    obtain ⟨k1, k2, k3, k4⟩ := byte_keeps s d c
    exact ⟨h1.trans k1, h2.trans k2, h3.trans k3, h4.trans k4⟩
theorem dist_next {q a : Nat} (ha : a < m32) : dist ((p + (q + 1)) % m32) a = (dist ((p + q) % m32) a + 1) % m32 := by
  unfold dist m32 at *
  omega
theorem Tr.bytes : ∀ (l : List UInt8) {s : Sn} (q : Nat), Tr p t g s → t.length ≤ 8000 → (∀ k (h : k < l.length), t[q + k]? = some l[k]) → Tr p t g (s.bytes (dist ((p + q) % m32) s.at') l).1
  | [], _, _, h, _, _ => h
  | c :: l, s, q, h, ht, hl => by
    have h0 : t[q]? = some c := hl 0 (Nat.succ_pos _)
    have h1 := h.byte ht h0
    have k1 := (byte_keeps s (dist ((p + q) % m32) s.at') c).1
    have := Tr.bytes l (q + 1) h1 ht fun k hk => by
      have := hl (k + 1) (by simp; omega)
      rw [show q + 1 + k = q + (k + 1) by omega]
      simpa using this
    rw [k1, dist_next h.ok.at32] at this
    exact this
theorem bytes_has : ∀ (l : List UInt8) {s : Sn} (d j : Nat), s.has j = true → (s.bytes d l).1.has j = true
  | [], _, _, _, h => h
  | c :: l, s, d, j, h => bytes_has l ((d + 1) % m32) j (takes_has h)
/-- Whatever stands in reach is there behind it. -/
theorem Tr.all : ∀ (l : List UInt8) {s : Sn} (q : Nat), Tr p t g s → t.length ≤ 8000 → (∀ k (h : k < l.length), t[q + k]? = some l[k]) → ∀ k, k < l.length → g + s.ready.length ≤ q + k →
    (s.bytes (dist ((p + q) % m32) s.at') l).1.has (q + k - (g + s.ready.length)) = true
  | [], _, _, _, _, _, k, hk, _ => by simp at hk
  | c :: l, s, q, h, ht, hl, k, hk, ho => by
    have h0 : t[q]? = some c := hl 0 (Nat.succ_pos _)
    have h1 := h.byte ht h0
    obtain ⟨k1, k2, k3, k4⟩ := byte_keeps s (dist ((p + q) % m32) s.at') c
    have hl' : ∀ k (h : k < l.length), t[q + 1 + k]? = some l[k] := fun k hk => by
      have := hl (k + 1) (by simp; omega)
      rw [show q + 1 + k = q + (k + 1) by omega]
      simpa using this
    show ((s.byte (dist ((p + q) % m32) s.at') c).bytes ((dist ((p + q) % m32) s.at' + 1) % m32) l).1.has _ = true
    cases k with
    | zero =>
      have hq : q < t.length := (List.getElem?_eq_some_iff.1 h0).1
      have hd : dist ((p + q) % m32) s.at' = q - (g + s.ready.length) := by rw [h.at']; exact dist_on (by omega) (by omega)
      refine bytes_has l _ _ ?_
      rw [Nat.add_zero, ← hd]
      refine byte_has ?_ fun hkn => ?_
      · rw [hd]; unfold Sn.win; have := h.le; omega
      · rw [hd]; have := h.ends hkn; omega
    | succ k =>
      have := Tr.all l (q + 1) h1 ht hl' k (by simpa using hk) (by rw [k2]; omega)
      rw [k1, k2, dist_next h.ok.at32, show q + 1 + k = q + (k + 1) by omega] at this
      exact this
theorem Tr.end' (h : Tr p t g s) (ht : t.length ≤ 8000) : Tr p t g (s.end' (dist ((p + t.length) % m32) s.at')) := by
  have ho := end_ok h.ok (dist ((p + t.length) % m32) s.at')
  unfold Sn.end' at ho ⊢
  split
  · rename_i hk
    rw [if_pos hk] at ho
    refine ⟨ho, h.le, h.at', h.ready, h.far, fun _ => ?_⟩
    show g + s.ready.length + dist ((p + t.length) % m32) s.at' = t.length
    rw [h.at', dist_on h.le ht]
    have := h.le
    omega
  · exact h
theorem Tr.step {s' : Sn} (h : Tr p t g s) (hs : s.step = some s') : Tr p t g s' := by
  have ho := step_ok h.ok hs
  unfold Sn.step at hs
  cases hf : s.far.find? (fun e => e.1 == 0) with
  | none => rw [hf] at hs; simp at hs
  | some e =>
    rw [hf] at hs
    simp only [Option.map_some, Option.some.injEq] at hs
    have hm := List.mem_of_find?_eq_some hf
    have h0 : e.1 = 0 := by simpa using List.find?_some hf
    have h1 := h.far e hm
    rw [h0, Nat.add_zero] at h1
    have hlt := (List.getElem?_eq_some_iff.1 h1).1
    subst hs
    refine ⟨ho, by simp; omega, ?_, ?_, fun e' he' => ?_, fun hk => ?_⟩
    · simp only [List.length_append, List.length_cons, List.length_nil, h.at', Nat.mod_add_mod]
      congr 1
    · simp only [List.length_append, List.length_cons, List.length_nil, Nat.zero_add]
      rw [List.take_add_one, ← h.ready]
      congr 1
      rw [List.getElem?_drop, h1]
      rfl
    · have := h.far _ (lower_mem he')
      simp only [List.length_append, List.length_cons, List.length_nil, Nat.zero_add]
      rw [show g + (s.ready.length + 1) + e'.1 = g + s.ready.length + (e'.1 + 1) by omega]
      exact this
    · have h2 := h.ends hk
      have h3 := h.ok.ends hk e hm
      simp only [List.length_append, List.length_cons, List.length_nil]
      omega
theorem Tr.settleN : ∀ (n : Nat) {s : Sn}, Tr p t g s → Tr p t g (settleN n s)
  | 0, _, h => h
  | n + 1, s, h => by
    unfold Proofs.Ytjnfdpakpdahkaa.settleN
    cases hs : s.step with
    | none => exact h
    | some s' => exact Tr.settleN n (h.step hs)
theorem settleN_done : ∀ (n : Nat) {s : Sn}, s.far.length ≤ n → (Proofs.Ytjnfdpakpdahkaa.settleN n s).step = none
  | 0, s, h => by
    have : s.far = [] := List.eq_nil_of_length_eq_zero (by omega)
    unfold Proofs.Ytjnfdpakpdahkaa.settleN Sn.step
    rw [this]
    rfl
  | n + 1, s, h => by
    unfold Proofs.Ytjnfdpakpdahkaa.settleN
    cases hs : s.step with
    | none => exact hs
    | some s' => exact settleN_done n (by have := step_length hs; omega)
def Full (t : List UInt8) (g : Nat) (s : Sn) : Prop := ∀ j, j < t.length - (g + s.ready.length) → s.has j = true
theorem has_lower {f : List (Nat × UInt8)} {j : Nat} (h : (f.any fun e => e.1 == j + 1) = true) : ((lower f).any fun e => e.1 == j) = true := by
  obtain ⟨e, he, hj⟩ := List.any_eq_true.1 h
  have hj' : e.1 = j + 1 := by simpa using hj
  refine List.any_eq_true.2 ⟨(e.1 - 1, e.2), ?_, by simp [hj']⟩
  unfold lower
  exact List.mem_map.2 ⟨e, List.mem_filter.2 ⟨he, by simp [hj']⟩, rfl⟩
theorem Full.step {s' : Sn} (h : Full t g s) (hs : s.step = some s') : Full t g s' := by
  unfold Sn.step at hs
  cases hf : s.far.find? (fun e => e.1 == 0) with
  | none => rw [hf] at hs; simp at hs
  | some e =>
    rw [hf] at hs
    simp only [Option.map_some, Option.some.injEq] at hs
    subst hs
    intro j hj
    simp only [List.length_append, List.length_cons, List.length_nil] at hj
    exact has_lower (h (j + 1) (by omega))
theorem Full.settleN : ∀ (n : Nat) {s : Sn}, Full t g s → Full t g (Proofs.Ytjnfdpakpdahkaa.settleN n s)
  | 0, _, h => h
  | n + 1, s, h => by
    unfold Proofs.Ytjnfdpakpdahkaa.settleN
    cases hs : s.step with
    | none => exact h
    | some s' => exact Full.settleN n (h.step hs)
/-- A part of the text comes. -/
theorem Tr.put (h : Tr p t g s) (ht : t.length ≤ 8000) (q k : Nat) (hq : q + k ≤ t.length) (fin : Bool) (hf : fin = true → q + k = t.length) : Tr p t g (s.put ((p + q) % m32) ((t.drop q).take k) fin).1 := by
  have hl : ((t.drop q).take k).length = k := by rw [List.length_take, List.length_drop]; omega
  unfold Sn.put
  split
  · exact h
  · have h1 := Tr.bytes ((t.drop q).take k) q h ht fun j hj => by
      rw [hl] at hj
      rw [List.getElem_take, List.getElem_drop, List.getElem?_eq_getElem (by omega)]
    simp only [hl]
    have k1 := (bytes_keeps ((t.drop q).take k) s (dist ((p + q) % m32) s.at')).1
    cases fin
    · exact Tr.settleN _ h1
    · have h2 := h1.end' ht
      rw [k1] at h2
      have e1 : ((p + q) % m32 + k) % m32 = (p + t.length) % m32 := by rw [Nat.mod_add_mod, Nat.add_assoc, hf rfl]
      simp only [e1, if_true]
      exact Tr.settleN _ h2
theorem Tr.read (h : Tr p t g s) (n : Int) : Tr p t (g + s.reads n) (s.read n) := by
  have hr : s.reads n ≤ s.ready.length := by unfold Sn.reads; omega
  have hl : (s.read n).ready.length = s.ready.length - s.reads n := by unfold Sn.read; simp
  have e1 : g + s.reads n + (s.read n).ready.length = g + s.ready.length := by rw [hl]; omega
  refine ⟨read_ok h.ok n, by rw [e1]; exact h.le, by rw [e1]; exact h.at', ?_, fun e he => by rw [e1]; exact h.far e he, fun hk => by rw [e1]; exact h.ends hk⟩
  rw [hl]
  show s.ready.drop (s.reads n) = _
  have h2 := congrArg (List.drop (s.reads n)) h.ready
  rw [List.drop_take, List.drop_drop] at h2
  exact h2
theorem Tr.got (h : Tr p t g s) (n : Int) : t.take g ++ s.ready.take (s.reads n) = t.take (g + s.reads n) := by
  have hr : s.reads n ≤ s.ready.length := by unfold Sn.reads; omega
  rw [h.ready, List.take_take, Nat.min_eq_left hr, List.take_add]
/-- All of it comes, and its end. -/
theorem Tr.last (h : Tr p t g s) (hp : p < m32) (ht : t.length ≤ 8000) : ∃ s', (s.put p t true).1 = s' ∧ Tr p t g s' ∧ s'.over = true ∧ g + s'.ready.length = t.length ∧ s'.next = ((p + t.length) % m32 + 1) % m32 := by
  refine ⟨_, rfl, ?_⟩
  have hput : Tr p t g (s.put p t true).1 := by
    have := h.put ht 0 t.length (by omega) true (fun _ => by omega)
    rwa [Nat.add_zero, Nat.mod_eq_of_lt hp, List.drop_zero, List.take_length] at this
  have hkey : (s.put p t true).1.known = true ∧ g + (s.put p t true).1.ready.length = t.length := by
    unfold Sn.put at hput ⊢
    split
    · rename_i ho
      rw [if_pos ho] at hput
      unfold Sn.over at ho
      simp only [Bool.and_eq_true, beq_iff_eq] at ho
      have := h.ends ho.1
      exact ⟨ho.1, by show g + s.ready.length = t.length; omega⟩
    · rename_i ho
      rw [if_neg ho] at hput
      simp only [if_true] at hput ⊢
      obtain ⟨r, hr⟩ : ∃ r, r = s.bytes (dist p s.at') t := ⟨_, rfl⟩
      have hb : Tr p t g r.1 := by
        have := Tr.bytes t 0 h ht fun k hk => by rw [Nat.zero_add, List.getElem?_eq_getElem hk]
        rw [Nat.add_zero, Nat.mod_eq_of_lt hp, ← hr] at this
        exact this
      have hfull : Full t g r.1 := fun j hj => by
        obtain ⟨k1, k2, _, _⟩ := bytes_keeps t s (dist p s.at')
        rw [← hr] at k2
        rw [k2] at hj
        have := Tr.all t 0 h ht (fun k hk => by rw [Nat.zero_add, List.getElem?_eq_getElem hk]) (j + (g + s.ready.length)) (by omega) (by omega)
        rw [Nat.add_zero, Nat.mod_eq_of_lt hp, ← hr, Nat.zero_add, Nat.add_sub_cancel] at this
        exact this
      rw [← hr] at hput ⊢
      have k1 : r.1.at' = s.at' := by rw [hr]; exact (bytes_keeps t s (dist p s.at')).1
      obtain ⟨u, hu⟩ : ∃ u, u = r.1.end' (dist ((p + t.length) % m32) s.at') := ⟨_, rfl⟩
      rw [← hu] at hput ⊢
      have hkn : u.known = true := by
        rw [hu]
        unfold Sn.end'
        split
        · rfl
        · rename_i hne
          cases hkn : r.1.known
          · exfalso
            apply hne
            unfold Sn.endsAt
            rw [hkn, ← k1, hb.at', dist_on hb.le ht]
            simp only [Bool.not_false, Bool.true_and, Bool.and_eq_true, decide_eq_true_eq, List.all_eq_true]
            refine ⟨by unfold Sn.win; have := hb.le; omega, fun e he => ?_⟩
            have := (List.getElem?_eq_some_iff.1 (hb.far e he)).1
            omega
          · rfl
      have hfu : Full t g u := by
        rw [hu]
        unfold Sn.end'
        split
        · exact hfull
        · exact hfull
      have hdone := settleN_done u.far.length (s := u) (Nat.le_refl _)
      have hfs := Full.settleN u.far.length hfu
      have hks : ∀ (n : Nat) (v : Sn), v.known = true → (Proofs.Ytjnfdpakpdahkaa.settleN n v).known = true := fun n => by
        induction n with
        | zero => exact fun v h => h
        | succ n ih =>
          intro v hv
          unfold Proofs.Ytjnfdpakpdahkaa.settleN
          cases hs : v.step with
          | none => exact hv
          | some v' =>
            refine ih v' ?_
            unfold Sn.step at hs
            cases hf : v.far.find? (fun e => e.1 == 0) with
            | none => rw [hf] at hs; simp at hs
            | some e =>
              rw [hf] at hs
              simp only [Option.map_some, Option.some.injEq] at hs
              subst hs
              exact hv
      refine ⟨hks _ _ hkn, ?_⟩
      show g + (Proofs.Ytjnfdpakpdahkaa.settleN u.far.length u).ready.length = t.length
      have hle := hput.le
      unfold Sn.settle at hle
      rcases Nat.lt_or_ge (g + (Proofs.Ytjnfdpakpdahkaa.settleN u.far.length u).ready.length) t.length with hlt | hge
      · exfalso
        have h0 := hfs 0 (by omega)
        unfold Sn.step at hdone
        unfold Sn.has at h0
        obtain ⟨e, he, h00⟩ := List.any_eq_true.1 h0
        cases hf : (Proofs.Ytjnfdpakpdahkaa.settleN u.far.length u).far.find? (fun e => e.1 == 0) with
        | none => exact absurd h00 (by simpa using List.find?_eq_none.1 hf e he)
        | some e' => rw [hf] at hdone; simp at hdone
      · omega
  obtain ⟨hk, hg⟩ := hkey
  have hl := hput.ends hk
  have ho : (s.put p t true).1.over = true := by
    unfold Sn.over
    rw [hk, show (s.put p t true).1.left = 0 by omega]
    rfl
  refine ⟨hput, ho, hg, ?_⟩
  unfold Sn.next
  rw [ho, if_pos rfl, hput.at', hg]
end
end Go.Proofs.Ytjnfdpakpdahkaa
