/- InfosPlay: both take a reply. -/
import Derived.Test.YtfldoihindbdmaaG21
namespace Go.Proofs.Ytfldoihindbdmaa
open Go.RowKit
set_option maxRecDepth 100000
set_option maxHeartbeats 1000000
theorem AnsR.nil {w : World} {n : Nat} : AnsR w n none none [] [] 0 0 := ⟨World.ownsRow_nil _ _ _ _, OutT.nil, fun k h => by cases h⟩
/-- What the program's Reply hands back. -/
def PRep (W : World) (x : Nat) (p : Option Addr) (c1 : Cl) (l : List Nat) (ok : Bool) (sv ds : List (List UInt8)) (F : Nat) (e : Ending) (w' : World) : Prop :=
  ∃ SA DA k1 k2, e = .returned (.tuple #[.agg (ansG SA DA sv.length ds.length F), .bool ok]) ∧ AnsR w' W.heap.size SA DA sv ds k1 k2 ∧ Px w' x p c1 l ∧ Tn (fun k => k = x) W w'
def DRep (W : World) (y m q : Nat) (c1 : Cl) (l : List Nat) (ok : Bool) (sv ds : List (List UInt8)) (F : Nat) (e : Ending) (w' : World) : Prop :=
  ∃ SA DA k1 k2, e = .returned (.tuple #[.agg (raC SA DA sv.length k1 ds.length k2 F), .bool ok]) ∧ OutA w' W.heap.size (.slice SA sv.length k1) sv ∧ OutT w' W.heap.size (.slice DA ds.length k2) ds ∧ Dy w' y m q c1 l ∧ Tn (fun k => k = y) W w'
theorem prep_no {W w' : World} {x : Nat} {p : Option Addr} {c c1 : Cl} {l : List Nat} {e : Ending} (hp : ¬ WF p x) (h : Px W x p c l) (h1 : e = .returned (.tuple #[.agg (ansC 0), .bool false])) (h2 : ClB w' x c1) (h3 : Tn (fun j => j = x) W w') : PRep W x p c1 l false [] [] 0 e w' :=
  ⟨none, none, 0, 0, h1, AnsR.nil, ⟨h2, h.wd.keep h3 fun k hk e => hp (e ▸ hk)⟩, h3⟩
theorem drep_no {W w' : World} {y m q : Nat} {c c1 : Cl} {l : List Nat} {e : Ending} (hy : y < m ∧ y ≠ q) (h : Dy W y m q c l) (h1 : e = .returned (.tuple #[.agg (ansC 0), .bool false])) (h2 : RClB w' y c1) (h3 : Tn (fun j => j = y) W w') : DRep W y m q c1 l false [] [] 0 e w' :=
  ⟨none, none, 0, 0, h1, World.ownsRow_nil _ _ _ _, OutT.nil, ⟨h2, h.wd.keep h3 fun k hk => hk ▸ hy⟩, h3⟩
theorem reply_both (n x y m q now : Nat) (p : Option Addr) (c : Cl) (l : List Nat) (s : St26 n x y p m q) (hn : now ≤ far) (hi : c.Inv) (b : List UInt8) (hlen : b.length < 2 ^ 28) : ∃ (ok : Bool) (c1 : Cl) (sv ds : List (List UInt8)) (F : Nat), c1.Inv ∧ (∀ z ∈ sv, z.length = 16) ∧
    (∀ W A cb, Px W x p c l → Rd W W.heap.size A b → b.length ≤ cb → cb < 2 ^ 63 → (∀ bb o, A = some ⟨bb, o, none⟩ → bb ≠ x) → Calls Try.prog 9 #[.pointer (some ⟨x, 0, none⟩), .int .u64 (now : Int), .slice A b.length cb] W (PRep W x p c1 l ok sv ds F)) ∧
    (∀ W A cb, Dy W y m q c l → Rd W W.heap.size A b → b.length ≤ cb → cb < 2 ^ 63 → (∀ bb o, A = some ⟨bb, o, none⟩ → bb ≠ y) → Calls Try.prog 39 #[.pointer (some ⟨y, 0, none⟩), .int .u64 (now : Int), .slice A b.length cb] W (DRep W y m q c1 l ok sv ds F)) := by
  have hpx : ¬ WF p x := fun e => (s.pn x e).2.2.1 rfl
  have hy : y < m ∧ y ≠ q := ⟨s.ym, s.yq⟩
  have hgi := goes_inv c hi now hn
  cases ha : c.asks with
  | false =>
    refine ⟨false, c.goes now, [], [], 0, hgi, (fun z h => by simp at h), fun W A cb hW hr hcb hcc hA => (reply_idle x c now A b cb W hW.cl hr hn ha).mono ?_, fun W A cb hW hr hcb hcc hA => (rreply_idle y c now A b cb W hW.cl hr hn hA ha).mono ?_⟩
    · rintro e w' ⟨h1, h2, h3⟩; exact prep_no hpx hW h1 h2 h3
    · rintro e w' ⟨h1, h2, h3⟩; exact drep_no hy hW h1 h2 h3
  | true =>
    cases hpf : (headB c).isPrefixOf b with
    | false =>
      refine ⟨false, c.goes now, [], [], 0, hgi, (fun z h => by simp at h), fun W A cb hW hr hcb hcc hA => (reply_other x c now A b cb W hW.cl hr hn hcb hA ha hpf).mono ?_, fun W A cb hW hr hcb hcc hA => (rreply_other y c now A b cb W hW.cl hr hn hA ha hpf).mono ?_⟩
      · rintro e w' ⟨h1, h2, h3⟩; exact prep_no hpx hW h1 h2 h3
      · rintro e w' ⟨h1, h2, h3⟩; exact drep_no hy hW h1 h2 h3
    | true =>
      obtain ⟨rest, hrest⟩ := List.isPrefixOf_iff_prefix.1 hpf
      have hb : b = headB c ++ rest := hrest.symm
      rcases opts_or rest.length rest (Nat.le_refl _) with ⟨ol, hol⟩ | hbad
      · cases hok : okR ol with
        | false =>
          refine ⟨false, c.goes now, [], [], 0, hgi, (fun z h => by simp at h), fun W A cb hW hr hcb hcc hA => (reply2_any x c now A b rest cb ol W hW.cl hr hn hcb hA ha hb hol (by omega) hcc).mono ?_, fun W A cb hW hr hcb hcc hA => (rreply_rej y c now A b rest cb W hW.cl hr hn hcb hA ha hb (some ol) ⟨ol, hol, rfl⟩ hlen hcc hok).mono ?_⟩
          · intro e w' hQ
            unfold ReplyR at hQ
            rw [if_pos hok] at hQ
            exact prep_no hpx hW hQ.1 hQ.2.1 hQ.2.2
          · intro e w' hQ
            unfold RRes at hQ
            rw [if_pos (show okO (some ol) = false from hok)] at hQ
            exact drep_no hy hW hQ.1 hQ.2.1 hQ.2.2
        | true =>
          refine ⟨true, { c.goes now with asks := false, fresh := true, next := addT (max c.tm now) (secT (frsh (ol.lookup 32))) }, srv' (ol.lookup 23), dnm (ol.lookup 24), frsh (ol.lookup 32), ⟨hgi.s, fun _ => rfl, addT_le _ _, hgi.t64, hgi.i24, hgi.w, hgi.w22⟩, svf_16 _ _, fun W A cb hW hr hcb hcc hA => (reply2_any x c now A b rest cb ol W hW.cl hr hn hcb hA ha hb hol (by omega) hcc).mono ?_, fun W A cb hW hr hcb hcc hA => (rreply_acc y c now A b rest cb W hW.cl hr hn hcb hA ha hb ol hol hlen hcc hok).mono ?_⟩
          · intro e w' hQ
            unfold ReplyR at hQ
            rw [if_neg (by rw [hok]; decide)] at hQ
            obtain ⟨SA, DA, k1, k2, e1, e2, e3, e4⟩ := hQ
            exact ⟨SA, DA, k1, k2, e1, e3, ⟨e2, hW.wd.keep e4 fun k hk e => hpx (e ▸ hk)⟩, e4⟩
          · rintro e w' ⟨SA, DA, k1, k2, e1, e2, e3, e4, e5⟩
            exact ⟨SA, DA, k1, k2, e1, e3, e4, ⟨e2, hW.wd.keep e5 fun k hk => hk ▸ hy⟩, e5⟩
      · refine ⟨false, c.goes now, [], [], 0, hgi, (fun z h => by simp at h), fun W A cb hW hr hcb hcc hA => (reply_bad x c now A b rest cb W hW.cl hr hn hcb hA ha hb hbad (by omega) hcc).mono ?_, fun W A cb hW hr hcb hcc hA => (rreply_rej y c now A b rest cb W hW.cl hr hn hcb hA ha hb none hbad hlen hcc rfl).mono ?_⟩
        · rintro e w' ⟨h1, h2, h3⟩; exact prep_no hpx hW h1 h2 h3
        · intro e w' hQ
          unfold RRes at hQ
          rw [if_pos (show okO none = false from rfl)] at hQ
          exact drep_no hy hW hQ.1 hQ.2.1 hQ.2.2
end Go.Proofs.Ytfldoihindbdmaa
