/- Checksums: plain laws. -/
import Derived.Test.YtbfiakikhkiefaaC0
import Derived.Test.YtbfiakikhkiefaaMgB
namespace Go.Proofs.Ytbfiakikhkiefaa
open Go.RowKit
/-- A byte, and whether it is a word's high one; what it weighs. -/
abbrev Pr : Type := UInt8 × Bool
def wt (x : Pr) : Nat := if x.2 then 256 * x.1.toNat else x.1.toNat
def ws (l : List Pr) : Nat := (l.map wt).sum
/-- The first k bytes, each with its place's. -/
def tk (L : List UInt8) (k : Nat) : List Pr := (List.range k).map fun j => (L[j]?.getD 0, j % 2 == 0)
/-- The sum of all words. -/
def WS (L : List UInt8) : Nat := ws (tk L L.length)
/-- A sum with its carries added. -/
def red (n : Nat) : Nat := if n = 0 then 0 else (n - 1) % 65535 + 1
theorem ws_snoc (l : List Pr) (x : Pr) : ws (l ++ [x]) = ws l + wt x := by simp [ws]
theorem wt_le (x : Pr) : wt x ≤ 65280 := by
  have := x.1.toNat_lt
  unfold wt; split <;> omega
theorem ws_le (l : List Pr) : ws l ≤ 65280 * l.length := by
  induction l with
  | nil => simp [ws]
  | cons x l ih =>
    have := wt_le x
    simp only [ws, List.map_cons, List.sum_cons, List.length_cons] at *
    omega
theorem tk_length (L : List UInt8) (k : Nat) : (tk L k).length = k := by simp [tk]
theorem tk_succ (L : List UInt8) (k : Nat) : tk L (k + 1) = tk L k ++ [(L[k]?.getD 0, k % 2 == 0)] := by simp [tk, List.range_succ]
theorem red_le (n : Nat) : red n ≤ 65535 := by unfold red; split <;> omega
theorem red_small {n : Nat} (h : n ≤ 65535) : red n = n := by unfold red; split <;> omega
theorem red_add (a x : Nat) (h : x ≤ 65535) : (if 65535 < red a + x then red a + x - 65535 else red a + x) = red (a + x) := by
  unfold red
  split <;> split <;> split <;> omega
theorem red_fold (a : Nat) (h : 65535 < a) : red (a / 65536 + a % 65536) = red a := by
  unfold red
  split <;> split <;> omega
theorem fold_lt (a : Nat) (h : 65535 < a) : a / 65536 + a % 65536 < a := by omega
/-- A list's sum. -/
def sumOf (L : List UInt8) : Nat := 65535 - red (WS L)
/-- With the pseudo header. -/
def ovr (src dst : List UInt8) (nx : UInt8) (b : List UInt8) : List UInt8 := src ++ dst ++ nb 4 b.length ++ [0, 0, 0, nx] ++ b
theorem ovr_length (src dst : List UInt8) (nx : UInt8) (b : List UInt8) (h1 : src.length = 16) (h2 : dst.length = 16) : (ovr src dst nx b).length = 40 + b.length := by simp [ovr, nb_length, h1, h2]; omega
end Go.Proofs.Ytbfiakikhkiefaa
