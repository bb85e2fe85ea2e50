/- HeadersOption, plain: whatever kind of option, whatever padding ahead of it. -/
import Derived.Test.YtbfiakikhkiefaaH0
namespace Go.Proofs.Ytbfiakikhkiefaa
set_option maxRecDepth 100000
/-- A header with one option behind padding. -/
def hO (k : UInt8) (n : Nat) : List UInt8 := [17, 0] ++ List.replicate n 0 ++ [k, UInt8.ofNat (4 - n)] ++ List.replicate (4 - n) 0
def okO (k n : Nat) (mc : Bool) : Bool :=
  let R1 := chain mc 60 (hO (UInt8.ofNat k) n) 72 64 false false
  let R2 := chain mc 0 (hO (UInt8.ofNat k) n) 40 6 true false
  !R1.al && R2.al == (k == 5 && n == 2) && R2.e == R1.e &&
    (if k < 64 then R1.last == 17 && R1.e == 0 && R1.code == 0 && R1.fat == 0 else if k < 128 || (decide (192 ≤ k) && mc) then R1.e == 8 && R1.code == 0 && R1.fat == 0 else R1.e == 7 && R1.code == 2 && R1.fat == 74 + n)
theorem okO_all : ∀ (k : Fin 256) (n : Fin 4) (mc : Bool), okO k.1 n.1 mc = true := by decide +kernel
end Go.Proofs.Ytbfiakikhkiefaa
