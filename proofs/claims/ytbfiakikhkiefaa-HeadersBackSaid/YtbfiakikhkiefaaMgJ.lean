import Derived.Test.YtbfiakikhkiefaaH17
import Derived.Test.YtbfiakikhkiefaaH17B
import Derived.Test.YtbfiakikhkiefaaH17C
import Derived.Test.YtbfiakikhkiefaaMgG
/- Headers: the document's walk. -/
namespace Go.Proofs.Ytbfiakikhkiefaa
open Go.RowKit
set_option maxRecDepth 100000
set_option maxHeartbeats 4000000
theorem walk9_59 (mc : Bool) (N : Nat) (IH0 : WalkOK mc N) (nx : UInt8) (A : Option Addr) (b : List UInt8) (c p told : Nat) (fs al : Bool) (w : World) (h59 : nx = 59) (h0 : ¬ nx = 0) (h60 : ¬ nx = 60) (h43 : ¬ nx = 43) (h44 : ¬ nx = 44) (_ : b.length < N + 1) (hr : Rd w w.heap.size A b) (hA : A = none → b = [] ∧ c = 0) (_ : b.length ≤ c) (_ : b.length < 2 ^ 30) (_ : p + b.length < 2 ^ 40) (_ : told < 2 ^ 40) :
    Calls Try.prog 36 #[B nx, .slice A b.length c, .int .u64 (p : Int), .int .u64 (told : Int), .bool fs, .bool mc, .bool al] w fun e w' => ∃ A' c', e = .returned (toV (chain mc nx b p told fs al) A' c') ∧
      Gots (chain mc nx b p told fs al).rest w.heap.size A' w' ∧ Below w.heap.size w w' := by
  have IH := Lib.hid IH0
  unfold WalkOK at IH
  clear IH0
  obtain ⟨R, hR⟩ : ∃ R, R = chain mc nx b p told fs al := ⟨_, rfl⟩
  rw [← hR]
  have HE := Lib.hid (hR.trans (chain_eq ..))
  have HRD := Lib.hid hr; have HA := Lib.hid hA
  clear hR hr hA
  go_enter Try.func36, Try.ntmps36
  go_upto_region 1 with fail
  have R0 : Hid (Rw w (w.alloc (.cells (tdC (tlA false) nilV) 51 (0, 0)))) := Lib.hid ⟨(by (repeat (first | exact Below.refl _ _ | assumption | refine Below.drew ?_ | refine bdrewN ?_ _ | refine Below.alloc ?_ (by first | omega | (simp <;> omega) | (simp only [World.size_alloc] <;> omega)) _ | refine below_setRow ?_ (by first | omega | (simp <;> omega)) _ | refine Below.setCell ?_ (by first | omega | (simp <;> omega)) _))), bk_alloc_at _ _ _ rfl⟩
  change Code.wp _ _ _ _ (w.alloc (.cells (tdC (tlA false) nilV) 51 (0, 0)))
  generalize w.alloc (.cells (tdC (tlA false) nilV) 51 (0, 0)) = w1 at *
  have q1 := R0.out.k
  have l1 := R0.out.lt
  have k0 : ¬ (nx.toNat : Int) = 0 := fun e => h0 (UInt8.toNat_inj.1 (by show nx.toNat = 0; omega))
  have k60 : ¬ (nx.toNat : Int) = 60 := fun e => h60 (UInt8.toNat_inj.1 (by show nx.toNat = 60; omega))
  replace HE := Lib.hid (HE.out.trans (if_neg (by rintro (e | e) <;> contradiction)))
  have k43 : ¬ (nx.toNat : Int) = 43 := fun e => h43 (UInt8.toNat_inj.1 (by show nx.toNat = 43; omega))
  replace HE := Lib.hid (HE.out.trans (if_neg h43))
  have k44 : ¬ (nx.toNat : Int) = 44 := fun e => h44 (UInt8.toNat_inj.1 (by show nx.toNat = 44; omega))
  replace HE := Lib.hid (HE.out.trans (if_neg h44))
  have k59 : (nx.toNat : Int) = 59 := by rw [h59]; rfl
  replace HE := Lib.hid (HE.out.trans (if_pos h59))
  clear h0 h60 h43 h44 h59
  go_wp2_with fail
  refine ret_cell (cs := tdC (⟨59, [], al, false, 0, 0, false, 0, 0, 0⟩) nilV) rfl rfl rfl ?_ Try.underlying51 rfl (by kernel_rfl) ?_
  rotate_left
  · exact ⟨none, 0, by rw [HE.out]; rfl, by rw [HE.out]; exact Gots.nil, (R0).out.ret (⟨59, [], al, false, 0, 0, false, 0, 0, 0⟩) nilV |>.1⟩
  · exact ((R0).out.ret (⟨59, [], al, false, 0, 0, false, 0, 0, 0⟩) nilV).2
theorem walk9_other (mc : Bool) (N : Nat) (IH0 : WalkOK mc N) (nx : UInt8) (A : Option Addr) (b : List UInt8) (c p told : Nat) (fs al : Bool) (w : World) (h59 : ¬ nx = 59) (h0 : ¬ nx = 0) (h60 : ¬ nx = 60) (h43 : ¬ nx = 43) (h44 : ¬ nx = 44) (_ : b.length < N + 1) (hr : Rd w w.heap.size A b) (hA : A = none → b = [] ∧ c = 0) (_ : b.length ≤ c) (h30 : b.length < 2 ^ 30) (_ : p + b.length < 2 ^ 40) (_ : told < 2 ^ 40) :
    Calls Try.prog 36 #[B nx, .slice A b.length c, .int .u64 (p : Int), .int .u64 (told : Int), .bool fs, .bool mc, .bool al] w fun e w' => ∃ A' c', e = .returned (toV (chain mc nx b p told fs al) A' c') ∧
      Gots (chain mc nx b p told fs al).rest w.heap.size A' w' ∧ Below w.heap.size w w' := by
  have IH := Lib.hid IH0
  unfold WalkOK at IH
  clear IH0
  obtain ⟨R, hR⟩ : ∃ R, R = chain mc nx b p told fs al := ⟨_, rfl⟩
  rw [← hR]
  have HE := Lib.hid (hR.trans (chain_eq ..))
  have HRD := Lib.hid hr; have HA := Lib.hid hA
  clear hR hr hA
  go_enter Try.func36, Try.ntmps36
  go_upto_region 1 with fail
  have R0 : Hid (Rw w (w.alloc (.cells (tdC (tlA false) nilV) 51 (0, 0)))) := Lib.hid ⟨(by (repeat (first | exact Below.refl _ _ | assumption | refine Below.drew ?_ | refine bdrewN ?_ _ | refine Below.alloc ?_ (by first | omega | (simp <;> omega) | (simp only [World.size_alloc] <;> omega)) _ | refine below_setRow ?_ (by first | omega | (simp <;> omega)) _ | refine Below.setCell ?_ (by first | omega | (simp <;> omega)) _))), bk_alloc_at _ _ _ rfl⟩
  change Code.wp _ _ _ _ (w.alloc (.cells (tdC (tlA false) nilV) 51 (0, 0)))
  generalize w.alloc (.cells (tdC (tlA false) nilV) 51 (0, 0)) = w1 at *
  have q1 := R0.out.k
  have l1 := R0.out.lt
  have k0 : ¬ (nx.toNat : Int) = 0 := fun e => h0 (UInt8.toNat_inj.1 (by show nx.toNat = 0; omega))
  have k60 : ¬ (nx.toNat : Int) = 60 := fun e => h60 (UInt8.toNat_inj.1 (by show nx.toNat = 60; omega))
  replace HE := Lib.hid (HE.out.trans (if_neg (by rintro (e | e) <;> contradiction)))
  have k43 : ¬ (nx.toNat : Int) = 43 := fun e => h43 (UInt8.toNat_inj.1 (by show nx.toNat = 43; omega))
  replace HE := Lib.hid (HE.out.trans (if_neg h43))
  have k44 : ¬ (nx.toNat : Int) = 44 := fun e => h44 (UInt8.toNat_inj.1 (by show nx.toNat = 44; omega))
  replace HE := Lib.hid (HE.out.trans (if_neg h44))
  have k59 : ¬ (nx.toNat : Int) = 59 := fun e => h59 (UInt8.toNat_inj.1 (by show nx.toNat = 59; omega))
  replace HE := Lib.hid (HE.out.trans (if_neg h59))
  clear h0 h60 h43 h44 h59
  go_wp2_with (at_builtin; refine append_rd rfl _ _ rfl w1.heap.size (.slice none 0 0) 0 [] rfl (World.ownsRow_nil _ _ _ _) A b c rfl HA.out ((HRD.out.below R0.out.f (Nat.le_refl _)).mono R0.out.f.size) (by omega) (Nat.le_refl _) ?_)
  intro v9 w2 hown hgrow
  have hown' : w2.ownsRow w1.heap.size 5 1 v9 b.length (b.map B) := by simpa using hown
  obtain ⟨A9, c9, rfl, _, _, _⟩ := Rd.of_own hown' rfl
  have G9 := Lib.hid (Gots.of_own hown')
  have R9 := Lib.hid (R0.out.next ((Below.refl _ _).grown hgrow (Nat.le_refl _) (fun k hk => by cases hk)))
  have HM0 : Hid (w.heap.size < w1.heap.size) := Lib.hid R0.out.lt
  have hRe := HE.out
  subst hRe
  have q9 := R9.out.k
  have l9 := R9.out.lt
  clear hown hgrow hown' HE R0 q1 l1
  go_wp2_with fail
  refine ret_cell (cs := tdC ⟨nx, b, al, false, 0, 0, false, 0, 0, 0⟩ (.slice A9 b.length c9)) rfl rfl rfl ?_ Try.underlying51 rfl (by kernel_rfl) ?_
  rotate_left
  · exact ⟨A9, ⟨c9, rfl⟩, R9.out.gots _ HM0.out G9.out, (R9.out.ret ⟨nx, b, al, false, 0, 0, false, 0, 0, 0⟩ _).1⟩
  · exact (R9.out.ret ⟨nx, b, al, false, 0, 0, false, 0, 0, 0⟩ _).2
theorem walk9_all (mc : Bool) : ∀ N, WalkOK mc N
  | 0 => fun _ _ b _ _ _ _ _ _ h => absurd h (by omega)
  | N + 1 => fun nx A b c p told fs al w hN hr hA hc h30 hp ht => by
    have IH := walk9_all mc N
    by_cases h0 : nx = 0
    · exact walk9_hop mc N IH nx A b c p told fs al w h0 hN hr hA hc h30 hp ht
    · by_cases h60 : nx = 60
      · exact walk9_ends mc N IH nx A b c p told fs al w h60 hN hr hA hc h30 hp ht
      · by_cases h43 : nx = 43
        · exact walk9_route mc N IH nx A b c p told fs al w h43 h0 h60 hN hr hA hc h30 hp ht
        · by_cases h44 : nx = 44
          · exact walk9_part mc N IH nx A b c p told fs al w h44 h0 h60 h43 hN hr hA hc h30 hp ht
          · by_cases h59 : nx = 59
            · exact walk9_59 mc N IH nx A b c p told fs al w h59 h0 h60 h43 h44 hN hr hA hc h30 hp ht
            · exact walk9_other mc N IH nx A b c p told fs al w h59 h0 h60 h43 h44 hN hr hA hc h30 hp ht
theorem walk9_any (mc : Bool) (N : Nat) (nx : UInt8) (A : Option Addr) (b : List UInt8) (c p told : Nat) (fs al : Bool) (w : World) (h1 : b.length < N) (h2 : Rd w w.heap.size A b) (h3 : A = none → b = [] ∧ c = 0) (h4 : b.length ≤ c) (h5 : b.length < 2 ^ 30) (h6 : p + b.length < 2 ^ 40) (h7 : told < 2 ^ 40) :
    Calls Try.prog 36 #[B nx, .slice A b.length c, .int .u64 (p : Int), .int .u64 (told : Int), .bool fs, .bool mc, .bool al] w fun e w' => ∃ A' c', e = .returned (toV (chain mc nx b p told fs al) A' c') ∧
      Gots (chain mc nx b p told fs al).rest w.heap.size A' w' ∧ Below w.heap.size w w' := walk9_all mc N nx A b c p told fs al w h1 h2 h3 h4 h5 h6 h7

end Go.Proofs.Ytbfiakikhkiefaa
/- Headers: the document's Chain; HeadersChain, walked. -/
namespace Go.Proofs.Ytbfiakikhkiefaa
open Go.RowKit
set_option maxRecDepth 100000
set_option maxHeartbeats 2000000
@[go_sem] theorem tdC_frag (t : Tl) (v : Value) : xt (tdC t v) 3 4 = fragC t.fi t.fid t.fo t.fm := id rfl
@[go_sem] theorem tdC_fault (t : Tl) (v : Value) : xt (tdC t v) 7 2 = faultC t.code t.fat := id rfl
theorem chain_rest (mc : Bool) : ∀ (f : Nat) (nx : UInt8) (b : List UInt8) (p told : Nat) (fs al : Bool), (chS mc f nx b p told fs al).rest.length ≤ b.length
  | 0, nx, b, _, _, _, _ => Nat.le_refl _
  | f + 1, nx, b, p, told, fs, al => by
    have ih := fun nx' k p' told' fs' al' => Nat.le_trans (chain_rest mc f nx' (b.drop k) p' told' fs' al') (by rw [List.length_drop]; omega : (b.drop k).length ≤ b.length)
    unfold chS
    repeat' split
    all_goals first | exact ih _ _ _ _ _ _ | (simp [tlF, tlE]; done) | (simp only [List.length_drop]; omega) | exact Nat.le_refl _
theorem chain9_any (nx : UInt8) (A : Option Addr) (b : List UInt8) (c at' : Nat) (mc : Bool) (w : World) (h : Rd w w.heap.size A b) (hA : A = none → b = [] ∧ c = 0) (hc : b.length ≤ c) (hl : b.length < 2 ^ 30) (hat : at' < 2 ^ 32) :
    Calls Try.prog 19 #[B nx, .slice A b.length c, .int .u32 (at' : Int), .bool mc] w fun e w' => ∃ A' c', e = .returned (toV (chain mc nx b at' (if at' = 40 then 6 else at' - 8) (at' == 40) false) A' c') ∧
      Gots (chain mc nx b at' (if at' = 40 then 6 else at' - 8) (at' == 40) false).rest w.heap.size A' w' ∧ Below w.heap.size w w' := by
  obtain ⟨R, hR⟩ : ∃ R, R = chain mc nx b at' (if at' = 40 then 6 else at' - 8) (at' == 40) false := ⟨_, rfl⟩
  rw [← hR]
  have a1 : IntKind.u64.wrap (at' : Int) = (at' : Int) := by rw [IntKind.wrap_u64]; omega
  have HH := Lib.hid (And.intro h hA)
  clear h hA
  go_enter Try.func19, Try.ntmps19
  go_upto_region 1 with fail
  have R0 : Hid (Rw w (w.alloc (.cells (tdC (tlA false) nilV) 51 (0, 0)))) := Lib.hid ⟨(by (repeat (first | exact Below.refl _ _ | assumption | refine Below.drew ?_ | refine bdrewN ?_ _ | refine Below.alloc ?_ (by first | omega | (simp <;> omega) | (simp only [World.size_alloc] <;> omega)) _ | refine below_setRow ?_ (by first | omega | (simp <;> omega)) _ | refine Below.setCell ?_ (by first | omega | (simp <;> omega)) _))), bk_alloc_at _ _ _ rfl⟩
  change Code.wp _ _ _ _ (w.alloc (.cells (tdC (tlA false) nilV) 51 (0, 0)))
  generalize w.alloc (.cells (tdC (tlA false) nilV) 51 (0, 0)) = w1 at *
  have q1 := R0.out.k
  have l1 := R0.out.lt
  by_cases h40 : at' = 40
  · subst h40
    have HR : Hid (R = chain mc nx b 40 6 true false) := Lib.hid (by rw [hR]; rfl)
    clear hR a1
    have C := walk9_any mc (b.length + 1) nx A b c 40 6 true false w1 (by omega) ((HH.out.1.below R0.out.f (Nat.le_refl _)).mono R0.out.f.size) HH.out.2 hc (by omega) (by omega) (by omega)
    rw [← HR.out] at C
    have HC := Lib.hid C
    clear C
    go_wp2_with fail
    refine HC.out.mono ?_
    rintro e w2 ⟨A2, c2, rfl, hg, b2⟩
    have HM0 := Lib.hid R0.out.lt
    have R9 := Lib.hid (R0.out.next b2)
    have G9 := Lib.hid hg
    have q9 := R9.out.k
    have l9 := R9.out.lt
    clear HC hg b2 R0 q1 l1
    unfold toV
    go_wp2_with fail
    refine ret_cell (cs := tdC R (.slice A2 R.rest.length c2)) rfl rfl rfl ?_ Try.underlying51 rfl (by kernel_rfl) ?_
    rotate_left
    · first | exact ⟨A2, c2, rfl, R9.out.gots _ HM0.out G9.out, (R9.out.ret R _).1⟩ | exact ⟨A2, ⟨c2, rfl⟩, R9.out.gots _ HM0.out G9.out, (R9.out.ret R _).1⟩
    · exact (R9.out.ret R _).2
  · have h40' : ¬ (at' : Int) = 40 := by omega
    obtain ⟨t0, ht0⟩ : ∃ t, t = at' - 8 := ⟨_, rfl⟩
    have HR : Hid (R = chain mc nx b at' t0 false false) := Lib.hid (by rw [hR, if_neg h40, ht0, show (at' == 40) = false by rw [beq_eq_false_iff_ne]; exact h40])
    by_cases h8 : 8 ≤ at'
    · have d1 : decide ((8 : Int) ≤ (at' : Int)) = true := by simp; omega
      have d2 : decide (8 ≤ at') = true := by simp; omega
      have a2 : IntKind.u64.wrap ((at' : Int) - 8) = (t0 : Int) := by rw [IntKind.wrap_u64]; omega
      have ht : t0 < 2 ^ 40 := by omega
      clear hR h40 ht0
      have C := walk9_any mc (b.length + 1) nx A b c at' t0 false false w1 (by omega) ((HH.out.1.below R0.out.f (Nat.le_refl _)).mono R0.out.f.size) HH.out.2 hc (by omega) (by omega) (by omega)
      rw [← HR.out] at C
      have HC := Lib.hid C
      clear C
      go_wp2_with fail
      refine HC.out.mono ?_
      rintro e w2 ⟨A2, c2, rfl, hg, b2⟩
      have HM0 := Lib.hid R0.out.lt
      have R9 := Lib.hid (R0.out.next b2)
      have G9 := Lib.hid hg
      have q9 := R9.out.k
      have l9 := R9.out.lt
      clear HC hg b2 R0 q1 l1
      unfold toV
      go_wp2_with fail
      refine ret_cell (cs := tdC R (.slice A2 R.rest.length c2)) rfl rfl rfl ?_ Try.underlying51 rfl (by kernel_rfl) ?_
      rotate_left
      · first | exact ⟨A2, c2, rfl, R9.out.gots _ HM0.out G9.out, (R9.out.ret R _).1⟩ | exact ⟨A2, ⟨c2, rfl⟩, R9.out.gots _ HM0.out G9.out, (R9.out.ret R _).1⟩
      · exact (R9.out.ret R _).2
    · have d1 : decide ((8 : Int) ≤ (at' : Int)) = false := by simp; omega
      have d2 : decide (8 ≤ at') = false := by simp; omega
      obtain rfl : t0 = 0 := by omega
      clear hR h40 ht0
      have C := walk9_any mc (b.length + 1) nx A b c at' 0 false false w1 (by omega) ((HH.out.1.below R0.out.f (Nat.le_refl _)).mono R0.out.f.size) HH.out.2 hc (by omega) (by omega) (by omega)
      rw [← HR.out] at C
      have HC := Lib.hid C
      clear C
      go_wp2_with fail
      refine HC.out.mono ?_
      rintro e w2 ⟨A2, c2, rfl, hg, b2⟩
      have HM0 := Lib.hid R0.out.lt
      have R9 := Lib.hid (R0.out.next b2)
      have G9 := Lib.hid hg
      have q9 := R9.out.k
      have l9 := R9.out.lt
      clear HC hg b2 R0 q1 l1
      unfold toV
      go_wp2_with fail
      refine ret_cell (cs := tdC R (.slice A2 R.rest.length c2)) rfl rfl rfl ?_ Try.underlying51 rfl (by kernel_rfl) ?_
      rotate_left
      · first | exact ⟨A2, c2, rfl, R9.out.gots _ HM0.out G9.out, (R9.out.ret R _).1⟩ | exact ⟨A2, ⟨c2, rfl⟩, R9.out.gots _ HM0.out G9.out, (R9.out.ret R _).1⟩
      · exact (R9.out.ret R _).2
theorem headersChain_long (nx : UInt8) (at' : Nat) (mc : Bool) (A : Option Addr) (n c : Nat) (w : World) (hl : 5000 < n) (h63 : n < 2 ^ 63) :
    Calls Try.prog 4 #[.agg #[B nx, .int .u32 (at' : Int), .bool mc], .slice A n c] w fun e w' => e = .returned (.bool true) ∧ Below w.heap.size w w' := by
  have d1 : decide (5000 < (n : Int)) = true := by simp; omega
  have d2 : decide (5000 < n) = true := by simp; omega
  go_enter Try.func4, Try.ntmps4
  go_wp2_with fail
  have a0 : Below w.heap.size w (w.alloc (.cells #[B nx, .int .u32 (at' : Int), .bool mc] 44)) := (by (repeat (first | exact Below.refl _ _ | assumption | refine Below.drew ?_ | refine bdrewN ?_ _ | refine Below.alloc ?_ (by first | omega | (simp <;> omega) | (simp only [World.size_alloc] <;> omega)) _ | refine below_setRow ?_ (by first | omega | (simp <;> omega)) _ | refine Below.setCell ?_ (by first | omega | (simp <;> omega)) _)))
  refine (lives9_any _).mono ?_
  rintro e w1 ⟨rfl, b1⟩
  go_wp2_with fail
  go_ret
  exact ⟨rfl, a0.trans (b1.mono a0.size)⟩
theorem headersChain_walk (nx : UInt8) (at' : Nat) (mc : Bool) (A : Option Addr) (l : List UInt8) (c : Nat) (w : World) (hat : at' < 4294967296) (h : Rd w w.heap.size A l) (hA : A = none → l = [] ∧ c = 0) (hc : l.length ≤ c) (hl : l.length ≤ 5000) :
    Calls Try.prog 4 #[.agg #[B nx, .int .u32 (at' : Int), .bool mc], .slice A l.length c] w fun e w' => e = .returned (.bool true) ∧ Below w.heap.size w w' := by
  have RI := Lib.hid h; have HA := Lib.hid hA
  clear h hA
  have d1 : decide (5000 < (l.length : Int)) = false := by simp; omega
  have d2 : decide (5000 < l.length) = false := by simp; omega
  have hlr := chain_rest mc (l.length + 1) nx l at' (if at' = 40 then 6 else at' - 8) (at' == 40) false
  obtain ⟨R, hR⟩ : ∃ R, R = chain mc nx l at' (if at' = 40 then 6 else at' - 8) (at' == 40) false := ⟨_, rfl⟩
  have hlr' : R.rest.length ≤ l.length := by rw [hR]; exact hlr
  obtain ⟨last, rest, al, fi, fid, fo, fm, code, fat, er⟩ := R
  simp only at hlr'
  have HR := Lib.hid hR
  have q1 := fun w => eqFrag fi fid fo fm w
  have q2 := fun w => eqFault code fat w
  clear hR hlr
  go_enter Try.func4, Try.ntmps4
  go_wp2_with fail
  have a0 : Below w.heap.size w (w.alloc (.cells #[B nx, .int .u32 (at' : Int), .bool mc] 44)) := (by (repeat (first | exact Below.refl _ _ | assumption | refine Below.drew ?_ | refine bdrewN ?_ _ | refine Below.alloc ?_ (by first | omega | (simp <;> omega) | (simp only [World.size_alloc] <;> omega)) _ | refine below_setRow ?_ (by first | omega | (simp <;> omega)) _ | refine Below.setCell ?_ (by first | omega | (simp <;> omega)) _)))
  have KP := Lib.hid (bk_alloc_at w (.cells #[B nx, .int .u32 (at' : Int), .bool mc] 44 (0, 0)) w.heap.size rfl)
  have F := Lib.hid a0
  replace RI := Lib.hid ((RI.out.below a0 (Nat.le_refl _)).mono a0.size)
  clear a0
  generalize w.alloc (.cells #[B nx, .int .u32 (at' : Int), .bool mc] 44) = w0 at *
  have n0 := bk_lt KP.out
  refine (twinBytes_any A l c w0 RI.out (by omega)).mono ?_
  rintro e w1 ⟨rfl, hT, b1⟩
  have KT := Lib.hid hT
  have ltT := bk_lt hT
  replace KP := Lib.hid (bk_keep b1 (bk_lt KP.out) KP.out)
  replace F := Lib.hid (F.out.trans (b1.mono F.out.size))
  replace RI := Lib.hid ((RI.out.below b1 (Nat.le_refl _)).mono b1.size)
  clear hT b1
  obtain ⟨T, hT⟩ : ∃ T, T = w0.heap.size := ⟨_, rfl⟩
  rw [← hT] at KT ltT n0
  rw [← hT]
  clear hT
  have cp0 := bk_cell KP.out 0; have cp1 := bk_cell KP.out 1; have cp2 := bk_cell KP.out 2
  simp at cp0 cp1 cp2
  go_wp2_with fail
  have C := chain_any nx (some ⟨T, 0, none⟩) l (l.length + 4) at' mc w1 (Rd.of_bk KT.out ltT (tw_head l 199)) (fun h => by cases h) (by omega) (by omega) (by omega)
  rw [← HR.out] at C
  refine C.mono ?_
  clear C cp0 cp1 cp2
  rintro e w2 ⟨A2, rfl, hG2, b2⟩
  have GD := Lib.hid hG2
  replace KP := Lib.hid (bk_keep b2 (bk_lt KP.out) KP.out)
  replace KT := Lib.hid (bk_keep b2 (bk_lt KT.out) KT.out)
  replace F := Lib.hid (F.out.trans (b2.mono F.out.size))
  replace RI := Lib.hid ((RI.out.below b2 (Nat.le_refl _)).mono b2.size)
  have s2 := b2.size
  clear hG2 b2
  have cp0 := bk_cell KP.out 0; have cp1 := bk_cell KP.out 1; have cp2 := bk_cell KP.out 2
  simp at cp0 cp1 cp2
  have lP := bk_lt KP.out
  unfold tlV
  go_upto_region 5 with fail
  have a3 : Below w2.heap.size w2 ((w2.alloc (.cells (fragC fi fid fo fm) 27 (0, 0))).alloc (.cells (faultC code fat) 47 (0, 0))) := (by (repeat (first | exact Below.refl _ _ | assumption | refine Below.drew ?_ | refine bdrewN ?_ _ | refine Below.alloc ?_ (by first | omega | (simp <;> omega) | (simp only [World.size_alloc] <;> omega)) _ | refine below_setRow ?_ (by first | omega | (simp <;> omega)) _ | refine Below.setCell ?_ (by first | omega | (simp <;> omega)) _)))
  have KF : Hid (bk ((w2.alloc (.cells (fragC fi fid fo fm) 27 (0, 0))).alloc (.cells (faultC code fat) 47 (0, 0))) w2.heap.size = some (.cells (fragC fi fid fo fm) 27 (0, 0))) := Lib.hid (by
    rw [bk_alloc_past _ _ _ (by simp), bk_alloc_at _ _ _ rfl])
  have KG : Hid (bk ((w2.alloc (.cells (fragC fi fid fo fm) 27 (0, 0))).alloc (.cells (faultC code fat) 47 (0, 0))) (w2.heap.size + 1) = some (.cells (faultC code fat) 47 (0, 0))) := Lib.hid (by
    rw [bk_alloc_at _ _ _ (by simp)])
  replace KP := Lib.hid (bk_keep a3 (bk_lt KP.out) KP.out)
  replace KT := Lib.hid (bk_keep a3 (bk_lt KT.out) KT.out)
  replace GD := Lib.hid (GD.out.below a3)
  replace F := Lib.hid (F.out.trans (a3.mono F.out.size))
  replace RI := Lib.hid ((RI.out.below a3 (Nat.le_refl _)).mono a3.size)
  have s3 := a3.size
  clear a3 cp0 cp1 cp2 lP
  change Code.wp _ _ _ _ ((w2.alloc (.cells (fragC fi fid fo fm) 27 (0, 0))).alloc (.cells (faultC code fat) 47 (0, 0)))
  generalize (w2.alloc (.cells (fragC fi fid fo fm) 27 (0, 0))).alloc (.cells (faultC code fat) 47 (0, 0)) = w3 at *
  have cp0 := bk_cell KP.out 0; have cp1 := bk_cell KP.out 1; have cp2 := bk_cell KP.out 2
  simp at cp0 cp1 cp2
  have lP := bk_lt KP.out
  go_wp2_with fail
  have C := chain9_any nx A l c at' mc w3 RI.out HA.out hc (by omega) (by omega)
  rw [← HR.out] at C
  refine C.mono ?_
  clear C cp0 cp1 cp2 lP
  rintro e w4 ⟨A4, c4, rfl, hG4, b4⟩
  replace KF := Lib.hid (bk_keep b4 (bk_lt KF.out) KF.out)
  replace KG := Lib.hid (bk_keep b4 (bk_lt KG.out) KG.out)
  replace KT := Lib.hid (bk_keep b4 (bk_lt KT.out) KT.out)
  replace GD := Lib.hid (GD.out.below b4)
  replace F := Lib.hid (F.out.trans (b4.mono F.out.size))
  replace RI := Lib.hid ((RI.out.below b4 (Nat.le_refl _)).mono b4.size)
  have GE := Lib.hid hG4
  have s4 := b4.size
  clear hG4 b4
  unfold toV
  go_upto_region 6 with fail
  have a5 : Below w4.heap.size w4 (w4.alloc (.cells (tdC ⟨last, rest, al, fi, fid, fo, fm, code, fat, er⟩ (.slice A4 rest.length c4)) 51 (0, 0))) := (by (repeat (first | exact Below.refl _ _ | assumption | refine Below.drew ?_ | refine bdrewN ?_ _ | refine Below.alloc ?_ (by first | omega | (simp <;> omega) | (simp only [World.size_alloc] <;> omega)) _ | refine below_setRow ?_ (by first | omega | (simp <;> omega)) _ | refine Below.setCell ?_ (by first | omega | (simp <;> omega)) _)))
  have K5 : Hid (bk (w4.alloc (.cells (tdC ⟨last, rest, al, fi, fid, fo, fm, code, fat, er⟩ (.slice A4 rest.length c4)) 51 (0, 0))) w4.heap.size = some (.cells (tdC ⟨last, rest, al, fi, fid, fo, fm, code, fat, er⟩ (.slice A4 rest.length c4)) 51 (0, 0))) := Lib.hid (by
    rw [bk_alloc_at _ _ _ rfl])
  replace KF := Lib.hid (bk_keep a5 (bk_lt KF.out) KF.out)
  replace KG := Lib.hid (bk_keep a5 (bk_lt KG.out) KG.out)
  replace KT := Lib.hid (bk_keep a5 (bk_lt KT.out) KT.out)
  replace GD := Lib.hid (GD.out.below a5)
  replace GE := Lib.hid (GE.out.below a5)
  replace F := Lib.hid (F.out.trans (a5.mono F.out.size))
  replace RI := Lib.hid ((RI.out.below a5 (Nat.le_refl _)).mono a5.size)
  have s5 := a5.size
  clear a5
  change Code.wp _ _ _ _ (w4.alloc (.cells (tdC ⟨last, rest, al, fi, fid, fo, fm, code, fat, er⟩ (.slice A4 rest.length c4)) 51 (0, 0)))
  generalize w4.alloc (.cells (tdC ⟨last, rest, al, fi, fid, fo, fm, code, fat, er⟩ (.slice A4 rest.length c4)) 51 (0, 0)) = w5 at *
  have vKF := KF.out; have wKF := bk_lt vKF
  have vKG := KG.out; have wKG := bk_lt vKG
  have vK5 := K5.out; have wK5 := bk_lt vK5
  have ct0 := bk_cell K5.out 0; have ct1 := bk_cell K5.out 1
  simp [tdC] at ct0 ct1
  have CS := sameBytes_any A2 A4 rest rest rest.length c4 w5 GD.out.rd GE.out.rd (by omega) (by omega)
  rw [beq_self_eq_true] at CS
  go_wp2_with fail
  refine CS.mono ?_
  clear CS ct0 ct1
  rintro e w6 ⟨rfl, b6⟩
  clear vKF wKF
  clear vKG wKG
  clear vK5 wK5
  replace KF := Lib.hid (bk_keep b6 (bk_lt KF.out) KF.out)
  replace KG := Lib.hid (bk_keep b6 (bk_lt KG.out) KG.out)
  replace K5 := Lib.hid (bk_keep b6 (bk_lt K5.out) K5.out)
  replace KT := Lib.hid (bk_keep b6 (bk_lt KT.out) KT.out)
  replace GD := Lib.hid (GD.out.below b6)
  replace F := Lib.hid (F.out.trans (b6.mono F.out.size))
  replace RI := Lib.hid ((RI.out.below b6 (Nat.le_refl _)).mono b6.size)
  have s6 := b6.size
  clear b6 GE
  have vKF := KF.out; have wKF := bk_lt vKF
  have vKG := KG.out; have wKG := bk_lt vKG
  have vK5 := K5.out; have wK5 := bk_lt vK5
  have ct2 := bk_cell K5.out 2; have ct9 := bk_cell K5.out 9
  simp [tdC] at ct2 ct9
  go_wp2_with fail
  refine (leftBytes_any A l c T w6 RI.out (by omega) KT.out).mono ?_
  rintro e w7 ⟨rfl, b7⟩
  clear vKF wKF
  clear vKG wKG
  clear vK5 wK5
  replace KT := Lib.hid (bk_keep b7 (bk_lt KT.out) KT.out)
  replace GD := Lib.hid (GD.out.below b7)
  replace F := Lib.hid (F.out.trans (b7.mono F.out.size))
  have s7 := b7.size
  clear b7 ct2 ct9 KF KG K5 KP RI
  go_wp2_with fail
  have a8 := (Below.refl (w7).heap.size w7).alloc (Nat.le_refl _) (.cells #[.slice none 0 0] 40 (0, 0))
  have HK8 : Hid (Bk ((w7).alloc (.cells #[.slice none 0 0] 40 (0, 0))) (w7).heap.size w.heap.size []) := Lib.hid (Bk.new (bk_alloc_at _ _ _ rfl))
  have hf7 := F.out.size
  replace KT := Lib.hid (bk_keep a8 (bk_lt KT.out) KT.out)
  replace GD := Lib.hid (GD.out.below a8)
  replace F := Lib.hid (F.out.trans (a8.mono F.out.size))
  have hlt8 := F.out.size
  have s8 := a8.size
  clear a8
  generalize (w7).alloc (.cells #[.slice none 0 0] 40 (0, 0)) = w8 at *
  refine (bytes_Bk w7.heap.size w.heap.size [] (some ⟨T, 0, none⟩) l.length (l.length + 4) w8 HK8.out (by simp) hf7 hlt8 (fun _ => ⟨T, 0, _, rfl, KT.out, by simp [tw_length]⟩) (by omega) (by omega) (fun b j ⟨o, e, _⟩ => by cases e; omega) (fun l' hl' => by cases hl')).mono ?_
  rintro e w9 ⟨i1, x1, rfl, K9, B9, b9⟩
  replace F := Lib.hid (F.out.trans b9)
  have s9 := B9.size
  have R9 := Lib.hid (B9.room' GD.out.room fun b o cur e hb => by rintro rfl; obtain ⟨hv, hh⟩ := HK8.out.book.objAt; rw [hh] at hb; cases hb)
  have hlo := Lib.hid GD.out.lo
  have HK9 := Lib.hid K9
  clear K9 B9 b9 HK8 GD KT
  go_wp2_with fail
  refine (bytes_Bk w7.heap.size w.heap.size _ A2 rest.length rest.length w9 HK9.out (by simp) hf7 (by omega) R9.out (Nat.le_refl _) (by omega) (fun b j hr => by have := hlo.out b j hr; omega) (fun l' hl' b j h1 h2 => by
    simp at hl'
    subst hl'
    obtain ⟨o, e, _⟩ := h1
    cases e
    have := hlo.out _ _ h2
    omega)).mono ?_
  rintro e w10 ⟨i2, x2, rfl, K10, B10, b10⟩
  replace F := Lib.hid (F.out.trans b10)
  have s10 := B10.size
  have HK10 := Lib.hid K10
  clear K10 B10 b10 HK9 R9
  go_wp2_with fail
  refine (apart_Bk (w7).heap.size w.heap.size _ w10 (HK10).out hf7 (by omega) (by simp)).mono ?_
  rintro e wq ⟨rfl, bq⟩
  replace F := Lib.hid (F.out.trans bq)
  clear bq HK10
  go_wp2_with fail
  refine (lives9_any wq).mono ?_
  rintro e wr ⟨rfl, br⟩
  replace F := Lib.hid (F.out.trans (br.mono F.out.size))
  clear br
  go_wp2_with fail
  go_ret
  exact ⟨rfl, F.out⟩
end Go.Proofs.Ytbfiakikhkiefaa
/- Headers: what Get gives, plain; a packet's row, turned. -/
namespace Go.Proofs.Ytbfiakikhkiefaa
open Go.RowKit
set_option maxRecDepth 100000
set_option maxHeartbeats 1000000
def p16 (l : List UInt8) : List UInt8 := (l ++ List.replicate 16 0).take 16
theorem p16_len (l : List UInt8) : (p16 l).length = 16 := by unfold p16; rw [List.length_take, List.length_append, List.length_replicate]; omega
theorem p16_eq {l : List UInt8} (h : 16 ≤ l.length) : p16 l = l.take 16 := by unfold p16; rw [List.take_append_of_le_length h]
def z16 : List UInt8 := List.replicate 16 0
def pk0 : Pk := ⟨z16, z16, 0, false, false, 0, 0, false, 0, rfl, rfl, by decide, by decide⟩
def isMul (l : List UInt8) : Bool := l.getD 0 0 == 255
def gsz (b : List UInt8) : Nat := 256 * (at8 b 4).toNat + (at8 b 5).toNat
def gB (b : List UInt8) : List UInt8 := (b.drop 40).take (gsz b)
def gR (b : List UInt8) : Tl := chain (isMul (p16 (b.drop 24))) (at8 b 6) (gB b) 40 6 true false
/-- What a packet of these bytes tells, or what is wrong. -/
def gT (b : List UInt8) : Tl := if b.length < 40 then tlE 5 else if (at8 b 0).toNat / 16 ≠ 6 then tlE 4 else if b.length < 40 + gsz b then tlE 5 else gR b
def pkG (b : List UInt8) (R : Tl) : Pk := ⟨p16 (b.drop 8), p16 (b.drop 24), at8 b 7, R.al, R.fi, R.fid % 4294967296, R.fo % 65536, R.fm, R.last, p16_len _, p16_len _, Nat.mod_lt _ (by decide), Nat.mod_lt _ (by decide)⟩
def gP (b : List UInt8) : Pk := if (gT b).e = 0 ∨ (gT b).e = 7 then pkG b (gT b) else pk0
/-- A chain's answers: all is well, a fault, an error. -/
def Shape (R : Tl) : Prop := (R.e = 0 ∧ R.code = 0 ∧ R.fat = 0 ∧ R.fid < 4294967296 ∧ R.fo < 65536) ∨ (∃ co p al, R = tlF co p al) ∨ (∃ e, R = tlE e ∧ e ≠ 0 ∧ e ≠ 7)
theorem wd_lt (b : List UInt8) : wd b < 65536 := by
  have h1 := (at8 b 2).toNat_lt; have h2 := (at8 b 3).toNat_lt
  unfold wd; omega
theorem pid_lt (b : List UInt8) : pid b < 4294967296 := by
  have h1 := (at8 b 4).toNat_lt; have h2 := (at8 b 5).toNat_lt; have h3 := (at8 b 6).toNat_lt; have h4 := (at8 b 7).toNat_lt
  unfold pid; omega
theorem chS_shape (mc : Bool) : ∀ (f : Nat) (nx : UInt8) (b : List UInt8) (p told : Nat) (fs al : Bool), Shape (chS mc f nx b p told fs al)
  | 0, _, _, _, _, _, _ => .inl ⟨rfl, rfl, rfl, by simp [chS], by simp [chS]⟩
  | f + 1, nx, b, p, told, fs, al => by
    have ih := chS_shape mc f
    have hw := wd_lt b
    have hp := pid_lt b
    have hok := opr_ok nx b mc
    have hn : ∀ e, e ≠ 0 → e ≠ 7 → Shape (tlE e) := fun e h1 h2 => .inr (.inr ⟨e, rfl, h1, h2⟩)
    unfold chS
    by_cases h1 : nx = 0 ∨ nx = 60
    · rw [if_pos h1]
      by_cases h2 : nx = 0 ∧ fs = false
      · rw [if_pos h2]; exact .inr (.inl ⟨_, _, _, rfl⟩)
      · rw [if_neg h2]
        by_cases h3 : b.length < 2 ∨ b.length < hsz b
        · rw [if_pos h3]; exact hn 5 (by decide) (by decide)
        · rw [if_neg h3]
          by_cases h4 : (opr nx b mc).1 = 0
          · rw [if_pos h4]; exact ih ..
          · rw [if_neg h4]
            by_cases h5 : (opr nx b mc).1 = 7
            · rw [if_pos h5]; exact .inr (.inl ⟨_, _, _, rfl⟩)
            · rw [if_neg h5]; exact hn _ h4 h5
    · rw [if_neg h1]
      by_cases h2 : nx = 43
      · rw [if_pos h2]
        by_cases h3 : b.length < 4 ∨ b.length < hsz b
        · rw [if_pos h3]; exact hn 5 (by decide) (by decide)
        · rw [if_neg h3]
          by_cases h4 : at8 b 3 ≠ 0
          · rw [if_pos h4]; exact .inr (.inl ⟨_, _, _, rfl⟩)
          · rw [if_neg h4]; exact ih ..
      · rw [if_neg h2]
        by_cases h3 : nx = 44
        · rw [if_pos h3]
          by_cases h4 : b.length < 8
          · rw [if_pos h4]; exact hn 5 (by decide) (by decide)
          · rw [if_neg h4]
            by_cases h5 : wd b / 8 = 0 ∧ wd b % 2 = 0
            · rw [if_pos h5]; exact ih ..
            · rw [if_neg h5]; exact .inl ⟨rfl, rfl, rfl, hp, by show wd b / 8 < _; omega⟩
        · rw [if_neg h3]
          by_cases h4 : nx = 59
          · rw [if_pos h4]; exact .inl ⟨rfl, rfl, rfl, by show (0 : Nat) < 4294967296; decide, by show (0 : Nat) < 65536; decide⟩
          · rw [if_neg h4]; exact .inl ⟨rfl, rfl, rfl, by show (0 : Nat) < 4294967296; decide, by show (0 : Nat) < 65536; decide⟩
theorem chain_shape (mc : Bool) (nx : UInt8) (b : List UInt8) (p told : Nat) (fs al : Bool) : Shape (chain mc nx b p told fs al) := chS_shape mc _ nx b p told fs al
theorem shape_rest {R : Tl} (h : Shape R) (he : R.e ≠ 0) : R.rest = [] := by
  rcases h with h | ⟨_, _, _, rfl⟩ | ⟨_, rfl, _⟩
  · exact absurd h.1 he
  · rfl
  · rfl
theorem shape_bound {R : Tl} (h : Shape R) : R.fid < 4294967296 ∧ R.fo < 65536 := by
  rcases h with h | ⟨_, _, _, rfl⟩ | ⟨_, rfl, _⟩
  · exact h.2.2.2
  · exact ⟨by simp [tlF], by simp [tlF]⟩
  · exact ⟨by simp [tlE], by simp [tlE]⟩
section
variable {p : Pk} {A : Option Addr} {n c : Nat}
@[go_sem] theorem pkC_set32 (y : UInt8) : (pkC p A n c).setIfInBounds 32 (B y) = pkC { p with hops := y } A n c := by
  have := p.hs; have := p.hd
  unfold pkC
  rw [List.setIfInBounds_toArray]
  congr 1
  rw [List.set_append_right _ _ (by simp [*])]
  simp [*]
@[go_sem] theorem pkC_set33 (y : Bool) : (pkC p A n c).setIfInBounds 33 (.bool y) = pkC { p with al := y } A n c := by
  have := p.hs; have := p.hd
  unfold pkC
  rw [List.setIfInBounds_toArray]
  congr 1
  rw [List.set_append_right _ _ (by simp [*])]
  simp [*]
@[go_sem] theorem pkC_set38 (y : UInt8) : (pkC p A n c).setIfInBounds 38 (B y) = pkC { p with nx := y } A n c := by
  have := p.hs; have := p.hd
  unfold pkC
  rw [List.setIfInBounds_toArray]
  congr 1
  rw [List.set_append_right _ _ (by simp [*])]
  simp [*]
@[go_sem] theorem pkC_spl0 (s : List UInt8) (h : s.length = 16) : spl (pkC p A n c).toList 0 (List.map B s) = pkC { p with src := s, hs := h } A n c := by
  have := p.hs; have := p.hd
  unfold spl pkC
  simp [*]
@[go_sem] theorem pkC_spl16 (s : List UInt8) (h : s.length = 16) : spl (pkC p A n c).toList 16 (List.map B s) = pkC { p with dst := s, hd := h } A n c := by
  have := p.hs; have := p.hd
  unfold spl pkC
  simp [*, List.drop_append]
theorem pkC_spl34 (fi : Bool) (fid fo : Nat) (fm : Bool) (h1 : fid < 4294967296) (h2 : fo < 65536) : spl (pkC p A n c).toList 34 (fragC fi fid fo fm).toList = pkC { p with fi := fi, fid := fid, fo := fo, fm := fm, hid := h1, ho := h2 } A n c := by
  have := p.hs; have := p.hd
  unfold spl pkC fragC
  have e1 : List.take 34 (List.map B p.src) = List.map B p.src := List.take_of_length_le (by simp; omega)
  have e2 : List.take 18 (List.map B p.dst) = List.map B p.dst := List.take_of_length_le (by simp; omega)
  have e3 : List.drop 38 (List.map B p.src) = [] := List.drop_eq_nil_of_le (by simp; omega)
  have e4 : List.drop 22 (List.map B p.dst) = [] := List.drop_eq_nil_of_le (by simp; omega)
  simp [*, List.take_append, List.drop_append]
end
theorem results_three {fn : Func} {u p1 p2 : Tmp} {t1 t2 : TypeId} (h : fn.results = #[.cell p1 t1, .cell p2 t2, .tmp u]) (tmps : Array Value) (P : Program) (w : World) :
    (results fn tmps).run P w = ((asAddr (tmps.getD p1 undef)).run P w).andThen fun a w₁ => ((loadVar t1 a).run P w₁).andThen fun v w₂ => ((asAddr (tmps.getD p2 undef)).run P w₂).andThen fun a2 w₃ => ((loadVar t2 a2).run P w₃).andThen fun v2 w₄ =>
      .ok (.tuple #[v, v2, tmps.getD u undef]) w₄ := by
  simp only [results, h]
  simp [Sem.run_bind, Result.andThen]
/-- Two rows and a value. -/
theorem ret_three {P : Program} {fn : Func} {R : Ending → World → Prop} {a : Act} {w : World} {u p1 p2 : Tmp} {t1 t2 : TypeId} {g1 g2 : Nat} {c1 c2 : Array Value} {d1 d2 : TypeDesc} {ty1 ty2 : TypeId} {f1 f2 : Nat × Nat} {y : Value}
    (h : fn.results = #[.cell p1 t1, .cell p2 t2, .tmp u]) (hd' : a.defers = []) (hp1 : a.tmps.getD p1 undef = .pointer (some ⟨g1, 0, none⟩)) (hp2 : a.tmps.getD p2 undef = .pointer (some ⟨g2, 0, none⟩))
    (hy : a.tmps.getD u undef = y) (hg1 : bk w g1 = some (.cells c1 ty1 f1)) (hg2 : bk w g2 = some (.cells c2 ty2 f2))
    (hu1 : P.underlying t1 = some d1) (hu2 : P.underlying t2 = some d2) (hd1 : d1.isRow = true) (hd2 : d2.isRow = true) (hi1 : (P.info? t1).map (·.size) = some c1.size) (hi2 : (P.info? t2).map (·.size) = some c2.size)
    (hR : R (.returned (.tuple #[.agg c1, .agg c2, y])) w) : bodyPost P fn R .ret a w := by
  refine bodyPost_ret ?_ hd' hR
  have l1 := run_loadVar_row (P := P) w g1 ty1 t1 c1 f1 d1 hg1 hu1 (by cases d1 <;> simp_all) hi1
  have l2 := run_loadVar_row (P := P) w g2 ty2 t2 c2 f2 d2 hg2 hu2 (by cases d2 <;> simp_all) hi2
  rw [results_three h, hp1, hp2, hy]
  simp [asAddr, Result.andThen, l1, l2]
theorem bad_PK (gc gb : Nat) (L : List UInt8) (p : Option Nat) (w : World) (h : PK w gc gb L p) :
    Calls Try.prog 41 #[.pointer (some ⟨gc, 0, none⟩)] w fun e w' => e = .returned (.bool p.isNone) ∧ w = w' := by
  cases p with
  | none => obtain ⟨A, N, c, hb⟩ := h; exact bad_any gc N c A false w hb
  | some q => obtain ⟨_, A, c, hb, _⟩ := h; exact bad_any gc _ c A true w hb
theorem u8_beq (x y : UInt8) : ((x.toNat : Int) == (y.toNat : Int)) = (x == y) := by
  rw [Bool.eq_iff_iff]; simp [← UInt8.toNat_inj]; omega
theorem isMul_any (l : List UInt8) (h : l.length = 16) (w : World) :
    Calls Try.prog 42 #[.agg (List.map B l).toArray] w fun e w' => e = .returned (.bool (isMul l)) ∧ Below w.heap.size w w' := by
  have hfin : isMul l = ((l[0].toNat : Int) == 255) := by
    rw [isMul, ← u8_beq]; simp [List.getD_eq_getElem?_getD, h]
  have HF := Lib.hid hfin; clear hfin
  go_enter Try.func42, Try.ntmps42
  go_wp2
  go_ret
  refine ⟨?_, (Below.refl _ _).alloc (Nat.le_refl _) _⟩
  rw [HF.out]; rfl
theorem rIsMul_any (l : List UInt8) (h : l.length = 16) (w : World) :
    Calls Try.prog 43 #[.agg (List.map B l).toArray] w fun e w' => e = .returned (.bool (isMul l)) ∧ Below w.heap.size w w' := by
  have hfin : isMul l = ((l[0].toNat : Int) == 255) := by
    rw [isMul, ← u8_beq]; simp [List.getD_eq_getElem?_getD, h]
  have HF := Lib.hid hfin; clear hfin
  go_enter Try.func43, Try.ntmps43
  go_wp2
  go_ret
  refine ⟨?_, (Below.refl _ _).alloc (Nat.le_refl _) _⟩
  rw [HF.out]; rfl
end Go.Proofs.Ytbfiakikhkiefaa
