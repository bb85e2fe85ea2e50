/- Streams, plain: an end of reading: what is in order, what came behind a gap, where it ends. No program. -/
namespace Go.Proofs.Ytjnfdpakpdahkaa
/-- An end of reading: the next place, what is ready, what came behind a gap (how far, which byte), whether its end is known, how far that is. -/
structure Sn where
  at' : Nat
  ready : List UInt8
  far : List (Nat × UInt8)
  known : Bool
  left : Nat
def m32 : Nat := 4294967296
/-- How far a place is. -/
def dist (p a : Nat) : Nat := (p + (m32 - a)) % m32
def Sn.win (s : Sn) : Nat := 8192 - s.ready.length
def Sn.has (s : Sn) (d : Nat) : Bool := s.far.any fun e => e.1 == d
def Sn.takes (s : Sn) (d : Nat) : Bool := decide (d < s.win) && (!s.known || decide (d < s.left)) && !s.has d
def Sn.byte (s : Sn) (d : Nat) (c : UInt8) : Sn := if s.takes d then { s with far := s.far ++ [(d, c)] } else s
def Sn.over (s : Sn) : Bool := s.known && s.left == 0
/-- Bytes from a distance on: does one count? -/
def Sn.bytes : Sn → Nat → List UInt8 → Sn × Bool
  | s, _, [] => (s, false)
  | s, d, c :: l => ((Sn.bytes (s.byte d c) ((d + 1) % m32) l).1, s.takes d || (Sn.bytes (s.byte d c) ((d + 1) % m32) l).2)
def Sn.endsAt (s : Sn) (d : Nat) : Bool := !s.known && decide (d ≤ s.win) && s.far.all fun e => decide (e.1 < d)
def Sn.end' (s : Sn) (d : Nat) : Sn := if s.endsAt d then { s with known := true, left := d } else s
def lower (f : List (Nat × UInt8)) : List (Nat × UInt8) := (f.filter fun e => e.1 != 0).map fun e => (e.1 - 1, e.2)
/-- One byte more is in order, if it came. -/
def Sn.step (s : Sn) : Option Sn := (s.far.find? fun e => e.1 == 0).map fun e => ⟨(s.at' + 1) % m32, s.ready ++ [e.2], lower s.far, s.known, s.left - 1⟩
theorem lower_length : ∀ (f : List (Nat × UInt8)), (f.find? fun e => e.1 == 0).isSome = true → (lower f).length < f.length
  | [], h => by simp at h
  | e :: f, h => by
    unfold lower
    by_cases h0 : e.1 = 0
    · rw [List.filter_cons_of_neg (by simp [h0])]
      have := List.length_filter_le (fun e : Nat × UInt8 => e.1 != 0) f
      simp only [List.length_map, List.length_cons]
      omega
    · rw [List.filter_cons_of_pos (by simp [h0])]
      rw [List.find?_cons_of_neg (by simp [h0])] at h
      have := lower_length f h
      unfold lower at this
      simp only [List.length_map, List.length_cons] at this ⊢
      omega
def settleN : Nat → Sn → Sn
  | 0, s => s
  | n + 1, s => match s.step with
    | none => s
    | some s' => settleN n s'
theorem settleN_succ (n : Nat) (s : Sn) : settleN (n + 1) s = match s.step with
    | none => s
    | some s' => settleN n s' := rfl
def Sn.settle (s : Sn) : Sn := settleN s.far.length s
theorem step_length {s s' : Sn} (h : s.step = some s') : s'.far.length < s.far.length := by
  unfold Sn.step at h
  cases hf : s.far.find? (fun e => e.1 == 0) with
  | none => rw [hf] at h; simp at h
  | some e =>
    rw [hf] at h
    simp only [Option.map_some, Option.some.injEq] at h
    subst h
    exact lower_length s.far (by rw [hf]; rfl)
theorem settleN_fuel : ∀ n m s, s.far.length ≤ n → s.far.length ≤ m → settleN n s = settleN m s
  | 0, 0, _, _, _ => rfl
  | 0, m + 1, s, h, _ => by
    unfold settleN
    have : s.step = none := by
      unfold Sn.step
      rw [List.eq_nil_of_length_eq_zero (Nat.le_zero.1 h)]
      rfl
    rw [this]
  | n + 1, 0, s, _, h => by
    unfold settleN
    have : s.step = none := by
      unfold Sn.step
      rw [List.eq_nil_of_length_eq_zero (Nat.le_zero.1 h)]
      rfl
    rw [this]
  | n + 1, m + 1, s, h1, h2 => by
    unfold settleN
    cases hs : s.step with
    | none => rfl
    | some s' =>
      have := step_length hs
      exact settleN_fuel n m s' (by omega) (by omega)
theorem settle_eq (s : Sn) : s.settle = match s.step with
    | none => s
    | some s' => s'.settle := by
  unfold Sn.settle
  rw [settleN_fuel s.far.length (s.far.length + 1) s (Nat.le_refl _) (Nat.le_succ _), settleN_succ]
  cases hs : s.step with
  | none => rfl
  | some s' =>
    have := step_length hs
    exact settleN_fuel s.far.length s'.far.length s' (by omega) (Nat.le_refl _)
/-- What came: bytes from a place on, and whether the stream ends behind them. -/
def Sn.put (s : Sn) (p : Nat) (b : List UInt8) (fin : Bool) : Sn × Bool :=
  if s.over then (s, false)
  else
    let r := s.bytes (dist p s.at') b
    let d := dist ((p + b.length) % m32) s.at'
    ((if fin then r.1.end' d else r.1).settle, (fin && r.1.endsAt d) || r.2)
def Sn.reads (s : Sn) (n : Int) : Nat := (min n s.ready.length).toNat
def Sn.read (s : Sn) (n : Int) : Sn := { s with ready := s.ready.drop (s.reads n) }
def Sn.next (s : Sn) : Nat := if s.over then (s.at' + 1) % m32 else s.at'
/-- What always holds. -/
structure Sn.Ok (s : Sn) : Prop where
  at32 : s.at' < m32
  room : s.ready.length ≤ 8192
  nodup : (s.far.map (·.1)).Nodup
  small : ∀ e ∈ s.far, e.1 < s.win
  ends : s.known = true → ∀ e ∈ s.far, e.1 < s.left
  left' : s.known = true → s.left ≤ 8192
theorem dist_lt (p a : Nat) : dist p a < m32 := Nat.mod_lt _ (by decide)
theorem byte_ok {s : Sn} (h : s.Ok) (d : Nat) (c : UInt8) : (s.byte d c).Ok := by
  unfold Sn.byte
  split
  · rename_i ht
    unfold Sn.takes at ht
    simp only [Bool.and_eq_true, Bool.or_eq_true, Bool.not_eq_true', decide_eq_true_eq] at ht
    obtain ⟨⟨h1, h2⟩, h3⟩ := ht
    refine ⟨h.at32, h.room, ?_, fun e he => ?_, fun hk e he => ?_, h.left'⟩
    · simp only [List.map_append, List.map_cons, List.map_nil]
      refine List.nodup_append.2 ⟨h.nodup, by simp, fun a ha b hb => ?_⟩
      simp only [List.mem_singleton] at hb
      subst hb
      rintro rfl
      obtain ⟨e, he, hed⟩ := List.mem_map.1 ha
      have : s.has a = true := List.any_eq_true.2 ⟨e, he, by simp [hed]⟩
      rw [h3] at this
      cases this
    · rcases List.mem_append.1 he with he | he
      · exact h.small e he
      · obtain rfl := List.mem_singleton.1 he
        exact h1
    · rcases List.mem_append.1 he with he | he
      · exact h.ends hk e he
      · obtain rfl := List.mem_singleton.1 he
        rcases h2 with h2 | h2
        · rw [show s.known = true from hk] at h2; cases h2
        · exact h2
  · exact h
theorem bytes_ok : ∀ (l : List UInt8) {s : Sn} (_ : s.Ok) (d : Nat), (s.bytes d l).1.Ok
  | [], _, h, _ => h
  | c :: l, _, h, d => bytes_ok l (byte_ok h d c) _
theorem end_ok {s : Sn} (h : s.Ok) (d : Nat) : (s.end' d).Ok := by
  unfold Sn.end'
  split
  · rename_i ht
    unfold Sn.endsAt at ht
    simp only [Bool.and_eq_true, Bool.not_eq_true', decide_eq_true_eq, List.all_eq_true] at ht
    obtain ⟨⟨h1, h2⟩, h3⟩ := ht
    exact ⟨h.at32, h.room, h.nodup, h.small, fun _ e he => h3 e he, fun _ => Nat.le_trans h2 (Nat.sub_le _ _)⟩
  · exact h
theorem lower_mem {f : List (Nat × UInt8)} {e : Nat × UInt8} (h : e ∈ lower f) : (e.1 + 1, e.2) ∈ f := by
  unfold lower at h
  obtain ⟨e', he', rfl⟩ := List.mem_map.1 h
  obtain ⟨h1, h2⟩ := List.mem_filter.1 he'
  simp only [bne_iff_ne, ne_eq] at h2
  obtain ⟨a, b⟩ := e'
  simp only at h2 ⊢
  rw [show a - 1 + 1 = a by omega]
  exact h1
theorem lower_nodup : ∀ {f : List (Nat × UInt8)}, (f.map (·.1)).Nodup → ((lower f).map (·.1)).Nodup
  | [], _ => by simp [lower]
  | e :: f, h => by
    have h' := List.nodup_cons.1 (show (e.1 :: f.map (·.1)).Nodup from h)
    have ih := lower_nodup h'.2
    by_cases h0 : e.1 = 0
    · have : lower (e :: f) = lower f := by unfold lower; rw [List.filter_cons_of_neg (by simp [h0])]
      rw [this]; exact ih
    · have : lower (e :: f) = (e.1 - 1, e.2) :: lower f := by unfold lower; rw [List.filter_cons_of_pos (by simp [h0])]; rfl
      rw [this]
      refine List.nodup_cons.2 ⟨fun hm => ?_, ih⟩
      obtain ⟨e', he', hee⟩ := List.mem_map.1 hm
      have := lower_mem he'
      refine h'.1 (List.mem_map.2 ⟨_, this, ?_⟩)
      simp only at hee ⊢
      omega
theorem step_ok {s s' : Sn} (h : s.Ok) (hs : s.step = some s') : s'.Ok := by
  unfold Sn.step at hs
  cases hf : s.far.find? (fun e => e.1 == 0) with
  | none => rw [hf] at hs; simp at hs
  | some e =>
    rw [hf] at hs
    simp only [Option.map_some, Option.some.injEq] at hs
    have hm := List.mem_of_find?_eq_some hf
    have h0 : e.1 = 0 := by simpa using List.find?_some hf
    have hw := h.small e hm
    unfold Sn.win at hw
    subst hs
    refine ⟨Nat.mod_lt _ (by decide), by simp; omega, lower_nodup h.nodup, fun e' he' => ?_, fun hk e' he' => ?_, fun hk => ?_⟩
    · have := h.small _ (lower_mem he')
      unfold Sn.win at this ⊢
      simp only [List.length_append, List.length_cons, List.length_nil] at this ⊢
      omega
    · have := h.ends hk _ (lower_mem he')
      simp only at this ⊢
      omega
    · have := h.left' hk
      simp only
      omega
theorem settleN_ok : ∀ (n : Nat) {s : Sn}, s.Ok → (settleN n s).Ok
  | 0, _, h => h
  | n + 1, s, h => by
    unfold settleN
    cases hs : s.step with
    | none => exact h
    | some s' => exact settleN_ok n (step_ok h hs)
theorem settle_ok {s : Sn} (h : s.Ok) : s.settle.Ok := settleN_ok _ h
theorem put_ok {s : Sn} (h : s.Ok) (p : Nat) (b : List UInt8) (fin : Bool) : (s.put p b fin).1.Ok := by
  unfold Sn.put
  split
  · exact h
  · have h1 := bytes_ok b h (dist p s.at')
    cases fin
    · exact settle_ok h1
    · exact settle_ok (end_ok h1 _)
theorem read_ok {s : Sn} (h : s.Ok) (n : Int) : (s.read n).Ok := by
  refine ⟨h.at32, ?_, h.nodup, fun e he => ?_, h.ends, h.left'⟩
  · simp only [Sn.read, List.length_drop]; have := h.room; omega
  · have := h.small e he
    unfold Sn.win at this ⊢
    simp only [Sn.read, List.length_drop]
    omega
end Go.Proofs.Ytjnfdpakpdahkaa
