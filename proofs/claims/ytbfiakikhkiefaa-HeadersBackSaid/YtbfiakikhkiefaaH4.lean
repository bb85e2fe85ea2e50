/- Headers: the map of what is done at each header. -/
import Derived.Test.YtbfiakikhkiefaaH3
import Derived.WideMake
namespace Go.Proofs.Ytbfiakikhkiefaa
open Go.RowKit
set_option maxRecDepth 100000
set_option maxHeartbeats 1000000
def fv (f : Nat) : Value := .func (.func f) #[] #[]
def stE : Array MapEntry := #[{ key := .int .u8 0, val := fv 45, born := 0 }, { key := .int .u8 60, val := fv 46, born := 1 }, { key := .int .u8 43, val := fv 47, born := 2 }]
def putM (w : World) (r : Nat) (o : Obj) : World := { w with heap := w.heap.setIfInBounds r o }
theorem bk_putM {w : World} {r : Nat} {o o' : Obj} (h : bk w r = some o) : bk (putM w r o') r = some o' := (MapKept.heap_set (o' := o') h).1
theorem below_putM {n r : Nat} {w w' : World} {o : Obj} (h : Below n w w') (hr : n ≤ r) : Below n w (putM w' r o) := by
  refine h.trans ⟨rfl, rfl, rfl, by simp [putM], fun k hk => ?_⟩
  show (w'.heap.setIfInBounds r o)[k]? = w'.heap[k]?
  rw [Array.getElem?_setIfInBounds_ne (by omega)]
theorem run_ins (w : World) (r clock : Nat) (es : Array MapEntry) (k : Int) (val : Value) (hb : bk w r = some (.map es clock)) (hf : Instr.findNow (.int .u8) (.int .u8 k) es.toList 0 = some none) :
    (Instr.mapUpdate 77 (.map (some r)) (.int .u8 k) val).run Try.prog w = .ok () (putM w r (.map (es.push { key := .int .u8 k, val := val, born := clock }) (clock + 1))) := by
  have hc : (Instr.checkKey false 10000 5 (.int .u8 k)).run Try.prog w = .ok () w := MapKept.run_checkKey (k := .int .u8 k) Try.underlying5 (by simp [MapKept.IsKey]) false 9999
  simp [Instr.mapUpdate, run_underlying Try.underlying77, MapKept.run_getObj_map hb, hc, MapKept.run_findKey Try.underlying5 hf, MapKept.run_setObj_map _ hb, Result.andThen, putM]
theorem steps_any (w : World) : Calls Try.prog 32 #[] w fun e w' => e = .returned (.map (some w.heap.size)) ∧ bk w' w.heap.size = some (.map stE 3) ∧ Below w.heap.size w w' := by
  have h0 : (Instr.makeMap 77 none).run Try.prog w = .ok (.map (some w.heap.size)) (w.alloc (.map #[] 0)) := run_makeMap_plain w _
  have k1 : bk (w.alloc (.map #[] 0)) w.heap.size = some (.map #[] 0) := bk_alloc_at _ _ _ rfl
  have b1 : Below w.heap.size w (w.alloc (.map #[] 0)) := (Below.refl _ _).alloc (Nat.le_refl _) _
  generalize w.alloc (.map #[] 0) = w1 at *
  have h1 := run_ins w1 w.heap.size 0 #[] 0 (fv 45) k1 rfl
  have k2 : bk (putM w1 w.heap.size (.map ((#[] : Array MapEntry).push { key := .int .u8 0, val := fv 45, born := 0 }) (0 + 1))) w.heap.size = _ := bk_putM k1
  have b2 : Below w.heap.size w (putM w1 w.heap.size (.map ((#[] : Array MapEntry).push { key := .int .u8 0, val := fv 45, born := 0 }) (0 + 1))) := below_putM b1 (Nat.le_refl _)
  generalize putM w1 w.heap.size (.map ((#[] : Array MapEntry).push { key := .int .u8 0, val := fv 45, born := 0 }) (0 + 1)) = w2 at *
  have h2 := run_ins w2 w.heap.size _ _ 60 (fv 46) k2 rfl
  have k3 := bk_putM (o' := (.map (((#[] : Array MapEntry).push { key := .int .u8 0, val := fv 45, born := 0 }).push { key := .int .u8 60, val := fv 46, born := 0 + 1 }) (0 + 1 + 1))) k2
  have b3 : Below w.heap.size w (putM w2 w.heap.size (.map (((#[] : Array MapEntry).push { key := .int .u8 0, val := fv 45, born := 0 }).push { key := .int .u8 60, val := fv 46, born := 0 + 1 }) (0 + 1 + 1))) := below_putM b2 (Nat.le_refl _)
  generalize putM w2 w.heap.size (.map (((#[] : Array MapEntry).push { key := .int .u8 0, val := fv 45, born := 0 }).push { key := .int .u8 60, val := fv 46, born := 0 + 1 }) (0 + 1 + 1)) = w3 at *
  have h3 := run_ins w3 w.heap.size _ _ 43 (fv 47) k3 rfl
  have k4 : bk (putM w3 w.heap.size (.map ((((#[] : Array MapEntry).push { key := .int .u8 0, val := fv 45, born := 0 }).push { key := .int .u8 60, val := fv 46, born := 0 + 1 }).push { key := .int .u8 43, val := fv 47, born := 0 + 1 + 1 }) (0 + 1 + 1 + 1))) w.heap.size = some (.map stE 3) := bk_putM k3
  have b4 : Below w.heap.size w (putM w3 w.heap.size (.map ((((#[] : Array MapEntry).push { key := .int .u8 0, val := fv 45, born := 0 }).push { key := .int .u8 60, val := fv 46, born := 0 + 1 }).push { key := .int .u8 43, val := fv 47, born := 0 + 1 + 1 }) (0 + 1 + 1 + 1))) := below_putM b3 (Nat.le_refl _)
  generalize putM w3 w.heap.size (.map ((((#[] : Array MapEntry).push { key := .int .u8 0, val := fv 45, born := 0 }).push { key := .int .u8 60, val := fv 46, born := 0 + 1 }).push { key := .int .u8 43, val := fv 47, born := 0 + 1 + 1 }) (0 + 1 + 1 + 1)) = w4 at *
  have HK := Lib.hid k4; have HB := Lib.hid b4
  unfold fv at h1 h2 h3
  clear k1 k2 k3 k4 b1 b2 b3 b4
  go_enter Try.func32, Try.ntmps32
  go_wp2_with fail
  go_ret
  exact ⟨rfl, HK.out, HB.out⟩
def lookV (k : UInt8) : Value := if k = 0 then fv 45 else if k = 60 then fv 46 else if k = 43 then fv 47 else .nilFunc
def isStep (k : UInt8) : Bool := k == 0 || k == 60 || k == 43
theorem look_any (w : World) (r : Nat) (k : UInt8) (hb : bk w r = some (.map stE 3)) :
    (Instr.lookup 77 (.map (some r)) (B k) true).run Try.prog w = .ok (.tuple #[lookV k, .bool (isStep k)]) w := by
  have hc : ∀ em, (Instr.checkKey em 10000 5 (B k)).run Try.prog w = .ok () w := fun em => MapKept.run_checkKey (k := B k) Try.underlying5 (by simp [MapKept.IsKey]) em 9999
  have hz : (zeroValue 79).run Try.prog w = .ok .nilFunc w := by kernel_rfl
  have e : ∀ j : UInt8, ((k.toNat : Int) == (j.toNat : Int)) = (k == j) := fun j => by
    rw [Bool.eq_iff_iff, beq_iff_eq, beq_iff_eq, ← UInt8.toNat_inj]; omega
  have e0 := e 0; have e60 := e 60; have e43 := e 43
  have hf : Instr.findNow (.int .u8) (B k) stE.toList 0 = some (if k = 0 then some (0, fv 45) else if k = 60 then some (1, fv 46) else if k = 43 then some (2, fv 47) else none) := by
    have f0 : ((k.toNat : Int) == 0) = (k == 0) := e0
    have f60 : ((k.toNat : Int) == 60) = (k == 60) := e60
    have f43 : ((k.toNat : Int) == 43) = (k == 43) := e43
    unfold stE B
    simp only [Instr.findNow, Instr.sameNow, if_true, f0, f60, f43]
    by_cases h0 : k = 0
    · subst h0; rfl
    · rw [show (k == 0) = false by rw [beq_eq_false_iff_ne]; exact h0, if_neg h0]
      by_cases h60 : k = 60
      · subst h60; rfl
      · rw [show (k == 60) = false by rw [beq_eq_false_iff_ne]; exact h60, if_neg h60]
        by_cases h43 : k = 43
        · subst h43; rfl
        · rw [show (k == 43) = false by rw [beq_eq_false_iff_ne]; exact h43, if_neg h43]
  have hF := MapKept.run_findKey (P := Try.prog) (w := w) Try.underlying5 hf
  unfold lookV isStep
  by_cases h0 : k = 0
  · subst h0
    simp [Instr.lookup, run_underlying Try.underlying77, MapKept.run_getObj_map hb, hc, hF, Result.andThen]
  · rw [if_neg h0] at hF ⊢
    by_cases h60 : k = 60
    · subst h60
      simp [Instr.lookup, run_underlying Try.underlying77, MapKept.run_getObj_map hb, hc, hF, Result.andThen]
    · rw [if_neg h60] at hF ⊢
      by_cases h43 : k = 43
      · subst h43
        simp [Instr.lookup, run_underlying Try.underlying77, MapKept.run_getObj_map hb, hc, hF, Result.andThen]
      · rw [if_neg h43] at hF ⊢
        simp [Instr.lookup, run_underlying Try.underlying77, MapKept.run_getObj_map hb, hc, hF, hz, Result.andThen, h0, h60, h43]
end Go.Proofs.Ytbfiakikhkiefaa
