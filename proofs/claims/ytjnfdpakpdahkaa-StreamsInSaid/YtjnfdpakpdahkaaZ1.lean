/- Streams: what came behind a gap, as a map reads. No program. -/
import Derived.Maps.RangeWalk
import Derived.Test.YtjnfdpakpdahkaaZ0
namespace Go.Proofs.Ytjnfdpakpdahkaa
open Go.WideShapes
abbrev Dm := DataW Unit
def kyOf (p d : Nat) : Lit := .int .u32 (((p + d) % m32 : Nat) : Int)
def ent (p : Nat) (e : Nat × UInt8) : Lit × Dm := (kyOf p e.1, .lit (.int .u8 (e.2.toNat : Int)))
def FarL (p : Nat) (f : List (Nat × UInt8)) : List (Lit × Dm) := (f.map (ent p)).foldr DataW.insert []
/-- The map's datum. -/
def FarD (p : Nat) (f : List (Nat × UInt8)) : Dm := .map (FarL p f)
structure FarOk (f : List (Nat × UInt8)) : Prop where
  nodup : (f.map (·.1)).Nodup
  small : ∀ e ∈ f, e.1 < m32
def Ku (l : Lit) : Prop := ∃ a : Int, l = .int .u32 a
theorem ku_one : Maps.OneKind Ku := ⟨fun ⟨_, h⟩ => by subst h; trivial, fun ⟨a, ha⟩ ⟨b, hb⟩ hne => by
  subst ha; subst hb
  simp only [Lit.before, decide_eq_true_eq]
  have : a ≠ b := fun e => hne (by rw [e])
  omega⟩
theorem kyOf_inj {p d d' : Nat} (h : d < m32) (h' : d' < m32) (e : kyOf p d = kyOf p d') : d = d' := by
  unfold kyOf at e
  simp only [Lit.int.injEq, true_and, Int.natCast_inj] at e
  unfold m32 at *
  omega
theorem kyOf_same {p d d' : Nat} (h : d < m32) (h' : d' < m32) : (kyOf p d).sameKey (kyOf p d') = (d == d') := by
  by_cases e : d = d'
  · subst e
    rw [WideAt.sameKey_self (by trivial)]
    simp
  · rw [Maps.sameKey_ne (fun e1 => e (kyOf_inj h h' e1))]
    simp [e]
theorem keys_ent (p : Nat) (f : List (Nat × UInt8)) : Maps.Keys Ku (f.map (ent p)) := fun x hx => by
  obtain ⟨e, _, rfl⟩ := List.mem_map.1 hx
  exact ⟨_, rfl⟩
theorem apart_ent {p : Nat} : ∀ {f : List (Nat × UInt8)}, FarOk f → (f.map (ent p)).Pairwise (fun x y => x.1 ≠ y.1)
  | [], _ => List.Pairwise.nil
  | e :: f, h => by
    have h' := List.nodup_cons.1 (show (e.1 :: f.map (·.1)).Nodup from h.nodup)
    refine List.pairwise_cons.2 ⟨fun y hy e1 => ?_, apart_ent ⟨h'.2, fun x hx => h.small x (List.mem_cons_of_mem _ hx)⟩⟩
    obtain ⟨x, hx, rfl⟩ := List.mem_map.1 hy
    have := kyOf_inj (h.small e (List.mem_cons_self ..)) (h.small x (List.mem_cons_of_mem _ hx)) e1
    exact h'.1 (List.mem_map.2 ⟨x, hx, this.symm⟩)
theorem rising_ent {p : Nat} {f : List (Nat × UInt8)} (h : FarOk f) : DataW.rising (FarL p f) = true :=
  ChangeMaps.rising_of_pairwise _ (Maps.sorted_sorted ku_one _ (keys_ent p f) (apart_ent h))
theorem farD_size (p : Nat) (f : List (Nat × UInt8)) : Maps.size (FarD p f) = f.length := by
  simp [FarD, FarL, Maps.size, length_sorted]
theorem farD_mem {p : Nat} {f : List (Nat × UInt8)} {x : Lit × Dm} : x ∈ FarL p f ↔ ∃ e ∈ f, ent p e = x := by
  unfold FarL
  rw [mem_sorted, List.mem_map]
theorem farD_has {p d : Nat} {f : List (Nat × UInt8)} (h : FarOk f) (hd : d < m32) : Maps.has (FarD p f) (kyOf p d) = f.any fun e => e.1 == d := by
  unfold FarD
  rw [Maps.has_eq, Bool.eq_iff_iff, List.any_eq_true, List.any_eq_true]
  constructor
  · rintro ⟨x, hx, hs⟩
    obtain ⟨e, he, rfl⟩ := farD_mem.1 hx
    exact ⟨e, he, by rwa [show (ent p e).1 = kyOf p e.1 from rfl, kyOf_same (h.small e he) hd] at hs⟩
  · rintro ⟨e, he, hs⟩
    exact ⟨ent p e, farD_mem.2 ⟨e, he, rfl⟩, by rwa [show (ent p e).1 = kyOf p e.1 from rfl, kyOf_same (h.small e he) hd]⟩
theorem farD_at {p : Nat} {f : List (Nat × UInt8)} (h : FarOk f) {e : Nat × UInt8} (he : e ∈ f) (z : Dm) : (FarD p f).atKey (kyOf p e.1) z = .lit (.int .u8 (e.2.toNat : Int)) :=
  (atKey_sorted (f.map (ent p)) (rising_ent h) (kyOf p e.1) (by trivial)).2 (ent p e) (List.mem_map.2 ⟨e, he, rfl⟩) rfl z
theorem farD_none {p d : Nat} {f : List (Nat × UInt8)} (h : FarOk f) (hd : d < m32) (hn : (f.any fun e => e.1 == d) = false) (z : Dm) : (FarD p f).atKey (kyOf p d) z = z :=
  (atKey_sorted (f.map (ent p)) (rising_ent h) (kyOf p d) (by trivial)).1 (fun x hx e1 => by
    obtain ⟨e, he, rfl⟩ := List.mem_map.1 hx
    have h1 := List.any_eq_false.1 hn e he
    exact h1 (by simpa using kyOf_inj (h.small e he) hd e1)) z
theorem notKey_ent {p d : Nat} {e : Nat × UInt8} (h : e.1 < m32) (hd : d < m32) : ChangeMaps.notKey (kyOf p d) (ent p e) = (e.1 != d) := by
  unfold ChangeMaps.notKey
  rw [show (ent p e).1 = kyOf p e.1 from rfl, kyOf_same h hd]
  rfl
theorem filter_ent {p d : Nat} (hd : d < m32) : ∀ {f : List (Nat × UInt8)}, (∀ e ∈ f, e.1 < m32) → (f.map (ent p)).filter (ChangeMaps.notKey (kyOf p d)) = (f.filter fun e => e.1 != d).map (ent p)
  | [], _ => rfl
  | e :: f, h => by
    have ih := filter_ent (p := p) hd (f := f) fun x hx => h x (List.mem_cons_of_mem _ hx)
    have h1 := notKey_ent (p := p) (h e (List.mem_cons_self ..)) hd
    cases hb : (e.1 != d)
    · rw [hb] at h1
      rw [List.map_cons, List.filter_cons_of_neg (by simp [h1]), List.filter_cons_of_neg (by simp [hb]), ih]
    · rw [hb] at h1
      rw [List.map_cons, List.filter_cons_of_pos h1, List.filter_cons_of_pos (p := fun e : Nat × UInt8 => e.1 != d) hb, ih, List.map_cons]
/-- A byte more. -/
theorem farD_put {p d : Nat} {f : List (Nat × UInt8)} (h : FarOk f) (hd : d < m32) (hn : (f.any fun e => e.1 == d) = false) (c : UInt8) :
    (FarD p f).put (kyOf p d) (.lit (.int .u8 (c.toNat : Int))) = FarD p (f ++ [(d, c)]) := by
  unfold FarD
  rw [DataW.put_eq]
  congr 1
  refine (Maps.sorted_put ku_one (k := kyOf p d) ⟨_, rfl⟩ (keys_ent p f) (apart_ent h) (E' := (f ++ [(d, c)]).map (ent p)) ?_).symm
  rw [filter_ent hd h.small, List.filter_eq_self.2 (fun e he => by
    have := List.any_eq_false.1 hn e he
    simpa using this), List.map_append]
  exact List.perm_append_comm
theorem lower_ent {p : Nat} : ∀ {f : List (Nat × UInt8)}, (f.filter fun e => e.1 != 0).map (ent p) = (lower f).map (ent ((p + 1) % m32))
  | [] => rfl
  | e :: f => by
    have ih := lower_ent (p := p) (f := f)
    unfold lower at ih ⊢
    by_cases h0 : e.1 = 0
    · rw [List.filter_cons_of_neg (by simp [h0])]
      exact ih
    · rw [List.filter_cons_of_pos (by simp [h0]), List.map_cons, ih, List.map_cons, List.map_cons]
      congr 1
      unfold ent kyOf
      simp only [Prod.mk.injEq, and_true, Lit.int.injEq, true_and, Int.natCast_inj]
      rw [Nat.mod_add_mod]
      congr 1
      omega
/-- The next byte goes. -/
theorem farD_del {p : Nat} {f : List (Nat × UInt8)} (h : FarOk f) : (FarD p f).del (kyOf p 0) = FarD ((p + 1) % m32) (lower f) := by
  unfold FarD
  rw [DataW.del_eq]
  congr 1
  refine (Maps.sorted_del ku_one (keys_ent p f) (apart_ent h) (E' := (lower f).map (ent ((p + 1) % m32))) ?_).symm
  rw [filter_ent (by decide) h.small, lower_ent]
theorem lower_ok {f : List (Nat × UInt8)} (h : FarOk f) : FarOk (lower f) := ⟨lower_nodup h.nodup, fun e he => by
  have := h.small _ (lower_mem he)
  simp only at this
  omega⟩
theorem farD_nil (p : Nat) : FarD p [] = .map [] := rfl
/-- A key of the map: which of what came it is. -/
theorem farD_key {p : Nat} {f : List (Nat × UInt8)} {kl : Lit} (hk : Maps.has (FarD p f) kl = true) : ∃ e ∈ f, kl = kyOf p e.1 := by
  unfold FarD at hk
  rw [Maps.has_eq, List.any_eq_true] at hk
  obtain ⟨x, hx, hs⟩ := hk
  obtain ⟨e, he, rfl⟩ := farD_mem.1 hx
  exact ⟨e, he, (WideAt.sameKey_eq hs).symm⟩
/-- How far a key is. -/
theorem dist_ky {p d : Nat} (hp : p < m32) (hd : d < m32) : dist ((p + d) % m32) p = d := by
  unfold dist m32 at *
  omega
theorem ky_dist {p q : Nat} (hp : p < m32) (hq : q < m32) : (p + dist q p) % m32 = q := by
  unfold dist m32 at *
  omega
theorem Sn.Ok.far {s : Sn} (h : s.Ok) : FarOk s.far := ⟨h.nodup, fun e he => by
  have := h.small e he
  unfold Sn.win at this
  unfold m32
  omega⟩
theorem nodup_length : ∀ (n : Nat) (l : List Nat), l.Nodup → (∀ x ∈ l, x < n) → l.length ≤ n
  | 0, l, _, h => by
    cases l with
    | nil => simp
    | cons a l => exact absurd (h a (List.mem_cons_self ..)) (by omega)
  | n + 1, l, hn, h => by
    have h1 := nodup_length n (l.filter fun x => x != n) (hn.filter _) fun x hx => by
      obtain ⟨hx1, hx2⟩ := List.mem_filter.1 hx
      have := h x hx1
      simp only [bne_iff_ne, ne_eq] at hx2
      omega
    have h3 := List.length_eq_countP_add_countP (fun x => x != n) (l := l)
    have h4 : l.countP (fun a => decide ¬(a != n) = true) ≤ 1 := by
      rw [show (fun a => decide ¬(a != n) = true) = fun a => a == n from funext fun a => by by_cases h : a = n <;> simp [h]]
      exact List.nodup_iff_count.1 hn n
    rw [← List.countP_eq_length_filter] at h1
    omega
theorem Sn.Ok.far_length {s : Sn} (h : s.Ok) : s.far.length ≤ 8192 := by
  have := nodup_length 8192 (s.far.map (·.1)) h.nodup fun x hx => by
    obtain ⟨e, he, rfl⟩ := List.mem_map.1 hx
    have := h.small e he
    unfold Sn.win at this
    omega
  simpa using this
end Go.Proofs.Ytjnfdpakpdahkaa
