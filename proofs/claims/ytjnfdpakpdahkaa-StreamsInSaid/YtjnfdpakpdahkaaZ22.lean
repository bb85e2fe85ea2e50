/- Streams: the document's end of reading: a step. -/
import Derived.Test.YtjnfdpakpdahkaaZ21
import Derived.Test.YtjnfdpakpdahkaaW2
import Derived.Test.YtjnfdpakpdahkaaW3
namespace Go.Proofs.Ytjnfdpakpdahkaa
open Go.RowKit
set_option maxRecDepth 100000
set_option maxHeartbeats 2000000
def camC (e : Nat × UInt8) : Array Value := #[.int .u32 (e.1 : Int), B e.2]
theorem infoF : (Try.prog.info? 72).map (fun i => (i.zero, i.size, i.bytes)) = some (some (.agg #[.int .u32 0, .int .u8 0]), 2, 8) := by kernel_rfl
theorem run_appF {w : World} (n : Nat) (v : Value) (f : List (Nat × UInt8)) (e : Nat × UInt8) (hown : w.ownsRow n 72 2 v f.length (farV f)) (b c : Nat) (hb : bk w b = some (.cells (camC e) 72 (0, 0))) (hn : n ≤ w.heap.size) (hl : f.length < 2 ^ 40) (ty : TypeId) :
    ∃ A' c' w', (Builtin.append_ #[53, 53] ty #[v, .slice (some ⟨b, 0, none⟩) 1 c]).run Try.prog w = .ok (.slice A' (f.length + 1) c') w' ∧ w'.ownsRow n 72 2 (.slice A' (f.length + 1) c') (f.length + 1) (farV (f ++ [e])) ∧ w.grownBy w' v.ownBlock ∧ ((Value.slice A' (f.length + 1) c').ownBlock = v.ownBlock ∨ (Value.slice A' (f.length + 1) c').ownBlock = some w.heap.size) := by
  obtain ⟨i0, hi, hz0, hz1, hz2⟩ := info_parts infoF
  obtain ⟨v', w', h1, h2, h3, _, h5⟩ := run_append_own_at (P := Try.prog) w n 53 ty 72 i0 (.agg #[.int .u32 0, .int .u8 0]) 2 8 Try.underlying53 hi hz0 hz1 hz2 rfl (by decide) v f.length (farV f) hown ⟨b, 0, none⟩ 1 c (farV [e]) rfl (fun j u hu => by
    have hj : ((⟨b, 0, none⟩ : Addr).add j) = ⟨b, j, none⟩ := by unfold Addr.add; split <;> simp_all
    rw [hj, bk_cell hb]
    simpa [camC, farV] using hu) (farV_one [e]) (by unfold maxLen; omega) (by omega) hn
  obtain ⟨A', c', rfl, _⟩ := far_slice h2
  exact ⟨A', c', w', h1, by rw [farV_append]; exact h2, h3, h5⟩
theorem wpList_appF {w : World} {ops : Array Oper} {rest : List Oper} {o : Oper} {a : Act} {Q : Exit → Act → World → Prop} (hgd : o.guard = none) (s x : Operand)
    (ho : o.op = .call { callee := .builtin .append, args := #[s, x], argTypes := #[53, 53] })
    (n : Nat) (v : Value) (f : List (Nat × UInt8)) (e : Nat × UInt8) (hs : a.eval s = v) (hown : w.ownsRow n 72 2 v f.length (farV f)) (b c : Nat) (hx : a.eval x = .slice (some ⟨b, 0, none⟩) 1 c) (hb : bk w b = some (.cells (camC e) 72 (0, 0))) (hn : n ≤ w.heap.size) (hl : f.length < 2 ^ 40)
    (h : ∀ A' c' w', w'.ownsRow n 72 2 (.slice A' (f.length + 1) c') (f.length + 1) (farV (f ++ [e])) → w.grownBy w' v.ownBlock → ((Value.slice A' (f.length + 1) c').ownBlock = v.ownBlock ∨ (Value.slice A' (f.length + 1) c').ownBlock = some w.heap.size) → wpList Try.prog ops Q rest (a.put o.dst (.slice A' (f.length + 1) c')) w') :
    wpList Try.prog ops Q (o :: rest) a w := by
  obtain ⟨A', c', w', h1, h2, h3, h4⟩ := run_appF n v f e hown b c hb hn hl o.type
  refine wpList_plain hgd fun K hK => ?_
  unfold Oper.wp execOp
  simp only [ho, resolve, invoke, builtin, Sem.run_bind, Sem.run_pure, Result.andThen_ok, List.map_toArray, List.map_cons, List.map_nil, hs, hx, h1]
  exact hK _ _ (h A' c' w' h2 h3 h4)
theorem step_appF {w : World} {ops : Array Oper} {o : Oper} {a : Act} {K : Act → World → Prop} {Q : Exit → Act → World → Prop} {E : Prop} (hgd : o.guard = none) (s x : Operand)
    (ho : o.op = .call { callee := .builtin .append, args := #[s, x], argTypes := #[53, 53] })
    (n : Nat) (v : Value) (f : List (Nat × UInt8)) (e : Nat × UInt8) (hs : a.eval s = v) (hown : w.ownsRow n 72 2 v f.length (farV f)) (b c : Nat) (hx : a.eval x = .slice (some ⟨b, 0, none⟩) 1 c) (hb : bk w b = some (.cells (camC e) 72 (0, 0))) (hn : n ≤ w.heap.size) (hl : f.length < 2 ^ 40)
    (h : ∀ A' c' w', w'.ownsRow n 72 2 (.slice A' (f.length + 1) c') (f.length + 1) (farV (f ++ [e])) → w.grownBy w' v.ownBlock → ((Value.slice A' (f.length + 1) c').ownBlock = v.ownBlock ∨ (Value.slice A' (f.length + 1) c').ownBlock = some w.heap.size) → K (a.put o.dst (.slice A' (f.length + 1) c')) w') :
    if Region.wanted o (yielded ops a.tmps) = true then Oper.wp Try.prog o a w K Q else E := by
  have hw : Region.wanted o (yielded ops a.tmps) = true := by simp [Region.wanted, hgd]
  rw [if_pos hw]
  obtain ⟨A', c', w', h1, h2, h3, h4⟩ := run_appF n v f e hown b c hb hn hl o.type
  unfold Oper.wp execOp
  simp only [ho, resolve, invoke, builtin, Sem.run_bind, Sem.run_pure, Result.andThen_ok, List.map_toArray, List.map_cons, List.map_nil, hs, hx, h1]
  exact h A' c' w' h2 h3 h4
/-! ### Plain: what a step sees -/
theorem lower_take {f : List (Nat × UInt8)} {k : Nat} (hk : k < f.length) : lower (f.take (k + 1)) = lower (f.take k) ++ if (f[k]).1 = 0 then [] else [((f[k]).1 - 1, (f[k]).2)] := by
  rw [List.take_succ_eq_append_getElem hk]
  unfold lower
  rw [List.filter_append, List.map_append]
  congr 1
  by_cases h : (f[k]).1 = 0
  · rw [if_pos h, List.filter_cons_of_neg (by simp [h])]; rfl
  · rw [if_neg h, List.filter_cons_of_pos (by simp [h])]; rfl
theorem nodup_fst {f : List (Nat × UInt8)} (h : (f.map (·.1)).Nodup) {i j : Nat} (hi : i < f.length) (hj : j < f.length) (e : (f[i]).1 = (f[j]).1) : i = j := by
  have hp := List.pairwise_iff_getElem.1 h
  rcases Nat.lt_trichotomy i j with h1 | h1 | h1
  · exact absurd (by rw [List.getElem_map, List.getElem_map]; exact e) (hp i j (by simpa using hi) (by simpa using hj) h1)
  · exact h1
  · exact absurd (by rw [List.getElem_map, List.getElem_map]; exact e.symm) (hp j i (by simpa using hj) (by simpa using hi) h1)
theorem nodup_take {f : List (Nat × UInt8)} (h : (f.map (·.1)).Nodup) {k : Nat} (hk : k < f.length) : ((f.take k).any fun e => e.1 == (f[k]).1) = false := by
  rw [List.any_eq_false]
  intro e he
  obtain ⟨i, hi, rfl⟩ := List.getElem_of_mem he
  have hi' : i < k := by rw [List.length_take] at hi; omega
  intro h2
  rw [List.getElem_take] at h2
  have h3 : i = k := nodup_fst h (show i < f.length by omega) hk (by simpa using h2)
  omega
theorem zero_byte {s : Sn} (h : s.Ok) : ∃ c : UInt8, (s.has 0 = true → s.step = some ⟨(s.at' + 1) % m32, s.ready ++ [c], lower s.far, s.known, s.left - 1⟩) ∧ ∀ k (hk : k < s.far.length), (s.far[k]).1 = 0 → (s.far[k]).2 = c := by
  cases hb : s.has 0 with
  | false =>
    refine ⟨0, fun h => (by cases h), fun k hk h0 => ?_⟩
    unfold Sn.has at hb
    rw [List.any_eq_false] at hb
    exact absurd (by simpa using h0) (hb _ (List.getElem_mem hk))
  | true =>
    obtain ⟨e, he, h0, hs⟩ := step_some hb
    refine ⟨e.2, fun _ => hs, fun k hk hk0 => ?_⟩
    obtain ⟨i, hi, rfl⟩ := List.getElem_of_mem he
    have := nodup_fst h.nodup hk hi (hk0.trans h0.symm)
    subst this
    rfl
end Go.Proofs.Ytjnfdpakpdahkaa
