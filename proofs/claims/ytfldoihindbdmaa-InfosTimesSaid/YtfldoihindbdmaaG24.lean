/- InfosPlay: world.does, whatever the act. -/
import Derived.Test.YtfldoihindbdmaaG23
namespace Go.Proofs.Ytfldoihindbdmaa
open Go.RowKit
theorem does_any (n x y m q now : Nat) (p : Option Addr) (c : Cl) (l : List Nat) (a : Ai) (w : World) (h : Wv w n x y p m q c l) (ha : AiOk w n a) (hn : now ≤ far) (hal : a.l.length ≤ 1500) :
    Calls Try.prog 21 #[.agg (wlC x y p q), .int .u64 (now : Int), .agg a.row] w (Does w n x y p m q) := by
  by_cases h0 : (a.kind.toNat : Int) % 5 = 0
  · exact does_start n x y m q now p c l a w h ha hn h0
  · by_cases h1 : (a.kind.toNat : Int) % 5 = 1
    · exact does_reply n x y m q now p c l a w h ha hn hal (.inl h1)
    · by_cases h2 : (a.kind.toNat : Int) % 5 = 2
      · exact does_reply n x y m q now p c l a w h ha hn hal (.inr h2)
      · exact does_tick n x y m q now p c l a w h ha hn h0 h1 h2
end Go.Proofs.Ytfldoihindbdmaa
