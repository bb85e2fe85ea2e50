/- Headers, plain: options and chains of headers. No program. -/
import Derived.Test.YtbfiakikhkiefaaS0
namespace Go.Proofs.Ytbfiakikhkiefaa
set_option maxRecDepth 100000
def at8 (h : List UInt8) (i : Nat) : UInt8 := h.getD i 0
theorem at8_take (h : List UInt8) (n i : Nat) (hi : i < n) : at8 (h.take n) i = at8 h i := by
  unfold at8
  simp only [List.getD_eq_getElem?_getD, List.getElem?_take_of_lt hi]
/-- What is done about an option that nobody knows: 0 it is let go, 8 the packet is dropped, 7 a fault. -/
def jc (k : UInt8) (mc : Bool) : Nat := if k.toNat < 64 then 0 else if k.toNat < 128 then 8 else if 192 ≤ k.toNat ∧ mc = true then 8 else 7
/-- Is it the one that alerts? -/
def oal (h : List UInt8) (hop : Bool) (i : Nat) : Bool := at8 h i == 5 && at8 h (i + 1) == 2 && hop
def oc (h : List UInt8) (hop mc : Bool) (i : Nat) : Nat := if at8 h i = 1 then 0 else if oal h hop i then 0 else jc (at8 h i) mc
def oend (h : List UInt8) (i : Nat) : Nat := i + 2 + (at8 h (i + 1)).toNat
def optS (h : List UInt8) (hop mc : Bool) : Nat → Nat → Bool → Nat × Nat × Bool
  | 0, i, al => (0, i, al)
  | f + 1, i, al =>
    if h.length ≤ i then (0, i, al)
    else if at8 h i = 0 then optS h hop mc f (i + 1) al
    else if h.length ≤ i + 1 ∨ h.length < oend h i then (4, i, al)
    else if oc h hop mc i = 0 then optS h hop mc f (oend h i) (oal h hop i || al)
    else (oc h hop mc i, i, al)
theorem optS_fuel (h : List UInt8) (hop mc : Bool) : ∀ f g i al, h.length ≤ i + f → h.length ≤ i + g → optS h hop mc f i al = optS h hop mc g i al
  | 0, 0, _, _, _, _ => rfl
  | 0, g + 1, i, al, h1, _ => by unfold optS; rw [if_pos (by omega)]
  | f + 1, 0, i, al, _, h2 => by unfold optS; rw [if_pos (by omega)]
  | f + 1, g + 1, i, al, h1, h2 => by
    unfold optS
    rw [optS_fuel h hop mc f g (i + 1) al (by omega) (by omega), optS_fuel h hop mc f g (oend h i) _ (by unfold oend; omega) (by unfold oend; omega)]
/-- Options from a place on: 0 (they end), or what is wrong, where, and whether they alert. -/
def opt (h : List UInt8) (hop mc : Bool) (i : Nat) (al : Bool) : Nat × Nat × Bool := optS h hop mc h.length i al
theorem opt_eq (h : List UInt8) (hop mc : Bool) (i : Nat) (al : Bool) : opt h hop mc i al =
    if h.length ≤ i then (0, i, al)
    else if at8 h i = 0 then opt h hop mc (i + 1) al
    else if h.length ≤ i + 1 ∨ h.length < oend h i then (4, i, al)
    else if oc h hop mc i = 0 then opt h hop mc (oend h i) (oal h hop i || al)
    else (oc h hop mc i, i, al) := by
  unfold opt
  rw [optS_fuel h hop mc h.length (h.length + 1) i al (by omega) (by omega)]
  rfl
/-- All that a chain tells. -/
structure Tl where
  last : UInt8
  rest : List UInt8
  al : Bool
  fi : Bool
  fid : Nat
  fo : Nat
  fm : Bool
  code : Nat
  fat : Nat
  e : Nat
deriving DecidableEq
def tlE (e : Nat) : Tl := ⟨0, [], false, false, 0, 0, false, 0, 0, e⟩
def tlF (code p : Nat) (al : Bool) : Tl := ⟨0, [], al, false, 0, 0, false, code, min p 4294967295, 7⟩
def hsz (b : List UInt8) : Nat := 8 * ((at8 b 1).toNat + 1)
def wd (b : List UInt8) : Nat := 256 * (at8 b 2).toNat + (at8 b 3).toNat
def pid (b : List UInt8) : Nat := 16777216 * (at8 b 4).toNat + 65536 * (at8 b 5).toNat + 256 * (at8 b 6).toNat + (at8 b 7).toNat
def opr (nx : UInt8) (b : List UInt8) (mc : Bool) : Nat × Nat × Bool := opt (b.take (hsz b)) (nx == 0) mc 2 false
def chS (mc : Bool) : Nat → UInt8 → List UInt8 → Nat → Nat → Bool → Bool → Tl
  | 0, nx, b, _, _, _, al => ⟨nx, b, al, false, 0, 0, false, 0, 0, 0⟩
  | f + 1, nx, b, p, told, fs, al =>
    if nx = 0 ∨ nx = 60 then
      if nx = 0 ∧ fs = false then tlF 1 told al
      else if b.length < 2 ∨ b.length < hsz b then tlE 5
      else if (opr nx b mc).1 = 0 then chS mc f (at8 b 0) (b.drop (hsz b)) (p + hsz b) p false ((opr nx b mc).2.2 || al)
      else if (opr nx b mc).1 = 7 then tlF 2 (p + (opr nx b mc).2.1) ((opr nx b mc).2.2 || al)
      else tlE (opr nx b mc).1
    else if nx = 43 then
      if b.length < 4 ∨ b.length < hsz b then tlE 5
      else if at8 b 3 ≠ 0 then tlF 0 (p + 3) al
      else chS mc f (at8 b 0) (b.drop (hsz b)) (p + hsz b) p false al
    else if nx = 44 then
      if b.length < 8 then tlE 5
      else if wd b / 8 = 0 ∧ wd b % 2 = 0 then chS mc f (at8 b 0) (b.drop 8) (p + 8) p false al
      else ⟨at8 b 0, b.drop 8, al, true, pid b, wd b / 8, wd b % 2 == 1, 0, 0, 0⟩
    else if nx = 59 then ⟨59, [], al, false, 0, 0, false, 0, 0, 0⟩
    else ⟨nx, b, al, false, 0, 0, false, 0, 0, 0⟩
theorem hsz_ge (b : List UInt8) : 8 ≤ hsz b := by unfold hsz; omega
theorem chS_fuel (mc : Bool) : ∀ f g nx b p told fs al, b.length < f → b.length < g → chS mc f nx b p told fs al = chS mc g nx b p told fs al
  | 0, _, _, _, _, _, _, _, h, _ => absurd h (by omega)
  | _ + 1, 0, _, _, _, _, _, _, _, h => absurd h (by omega)
  | f + 1, g + 1, nx, b, p, told, fs, al, h1, h2 => by
    have h8 := hsz_ge b
    by_cases hb : b.length = 0
    · have hl : b = [] := List.eq_nil_of_length_eq_zero hb
      unfold chS
      have e : b.length < 2 ∨ b.length < hsz b := .inl (by omega)
      have e2 : b.length < 4 ∨ b.length < hsz b := .inl (by omega)
      have e3 : b.length < 8 := by omega
      rw [if_pos e, if_pos e2, if_pos e3]
      simp only [e, e2, e3, if_true]
    · have k1 : ∀ n, 8 ≤ n → (b.drop n).length < f ∧ (b.drop n).length < g := fun n hn => by rw [List.length_drop]; omega
      unfold chS
      rw [chS_fuel mc f g (at8 b 0) (b.drop (hsz b)) (p + hsz b) p false ((opr nx b mc).2.2 || al) (k1 _ h8).1 (k1 _ h8).2, chS_fuel mc f g (at8 b 0) (b.drop (hsz b)) (p + hsz b) p false al (k1 _ h8).1 (k1 _ h8).2,
        chS_fuel mc f g (at8 b 0) (b.drop 8) (p + 8) p false al (k1 _ (by omega)).1 (k1 _ (by omega)).2]
/-- A chain from a header on: its number, its bytes, where it stands, who told it, whether it may be one for each hop, whether the packet is on alert. -/
def chain (mc : Bool) (nx : UInt8) (b : List UInt8) (p told : Nat) (fs al : Bool) : Tl := chS mc (b.length + 1) nx b p told fs al
theorem chain_eq (mc : Bool) (nx : UInt8) (b : List UInt8) (p told : Nat) (fs al : Bool) : chain mc nx b p told fs al =
    if nx = 0 ∨ nx = 60 then
      if nx = 0 ∧ fs = false then tlF 1 told al
      else if b.length < 2 ∨ b.length < hsz b then tlE 5
      else if (opr nx b mc).1 = 0 then chain mc (at8 b 0) (b.drop (hsz b)) (p + hsz b) p false ((opr nx b mc).2.2 || al)
      else if (opr nx b mc).1 = 7 then tlF 2 (p + (opr nx b mc).2.1) ((opr nx b mc).2.2 || al)
      else tlE (opr nx b mc).1
    else if nx = 43 then
      if b.length < 4 ∨ b.length < hsz b then tlE 5
      else if at8 b 3 ≠ 0 then tlF 0 (p + 3) al
      else chain mc (at8 b 0) (b.drop (hsz b)) (p + hsz b) p false al
    else if nx = 44 then
      if b.length < 8 then tlE 5
      else if wd b / 8 = 0 ∧ wd b % 2 = 0 then chain mc (at8 b 0) (b.drop 8) (p + 8) p false al
      else ⟨at8 b 0, b.drop 8, al, true, pid b, wd b / 8, wd b % 2 == 1, 0, 0, 0⟩
    else if nx = 59 then ⟨59, [], al, false, 0, 0, false, 0, 0, 0⟩
    else ⟨nx, b, al, false, 0, 0, false, 0, 0, 0⟩ := by
  have h8 := hsz_ge b
  unfold chain
  rw [chS_fuel mc (b.length + 1) (b.length + 2) nx b p told fs al (by omega) (by omega), chS_fuel mc ((b.drop (hsz b)).length + 1) (b.length + 1) _ _ _ _ _ _ (by omega) (by rw [List.length_drop]; omega),
    chS_fuel mc ((b.drop (hsz b)).length + 1) (b.length + 1) (at8 b 0) (b.drop (hsz b)) (p + hsz b) p false al (by omega) (by rw [List.length_drop]; omega), chS_fuel mc ((b.drop 8).length + 1) (b.length + 1) _ _ _ _ _ _ (by omega) (by rw [List.length_drop]; omega)]
  rfl
end Go.Proofs.Ytbfiakikhkiefaa
