/- The program's law FnExactResultsAfter holds for all arguments. No conditions. -/
-- The row, written by wip/tools/rowl.py: of its parameters some are lists of lists.
import Derived.Test.YtbghkcgglhoopaaRows
import Derived.Test.YtbghkcgglhoopaaMFnExactResultsAfterx14
import Derived.Test.YtbghkcgglhoopaaPureFnExactResultsAfter
import Derived.WalkKit
import Derived.ProofKit
import Derived.OpenShut
import Derived.ShutString
import Derived.ChangeOld
import Derived.Below
import Derived.SizedLaws
import Derived.Deep.Slices
import Derived.Deep.Fields
import Derived.ChangeSame
namespace Go.Proofs.Ytbghkcgglhoopaa.fnExactResultsAfter
open Go.ChangeShapes Go.WideShapes Go.ChangeAt Go.RowKit Go.Deep Go.Proofs.YtbghkcgglhoopaaW.PrintWords
open Go.ChangeMaps (open_string shut_string)
set_option linter.unusedVariables false
theorem own : ownKnob Try.prog.godebug = none := by kernel_rfl
theorem laidOut : laidOutB Try.prog = true := by kernel_rfl
def IsRow (k : IntKind) (w : World) (a : Option Addr) (len cap : Nat) (zs : List Int) : Prop :=
  (a = none ∧ len = 0 ∧ cap = 0 ∧ zs = []) ∨
  ∃ x, a = some x ∧ len ≤ cap ∧ cap ≤ maxLen ∧ zs.length = cap ∧ (∀ i, i < zs.length → w.cell? (x.add i) = some (.int k (zs.getD i 0))) ∧ ∀ n ∈ zs, (Lit.int k n).wf = true
theorem list_of {α : Type} (n : Nat) (P : Nat → α → Prop) (h : ∀ i, i < n → ∃ x, P i x) : ∃ xs : List α, xs.length = n ∧ ∀ i x, xs[i]? = some x → P i x := by
  induction n with
  | zero => exact ⟨[], rfl, fun i x hx => by simp at hx⟩
  | succ n ih =>
    obtain ⟨xs, hl, hx⟩ := ih (fun i hi => h i (by omega))
    obtain ⟨y, hy⟩ := h n (by omega)
    refine ⟨xs ++ [y], by simp [hl], fun i x hi => ?_⟩
    by_cases c : i < xs.length
    · rw [List.getElem?_append_left c] at hi; exact hx i x hi
    · rw [List.getElem?_append_right (by omega)] at hi
      have hz : i - xs.length = 0 := by
        apply Decidable.byContradiction
        intro hne
        rw [List.getElem?_eq_none (by simp; omega)] at hi
        cases hi
      rw [hz] at hi
      simp at hi
      obtain rfl : i = n := by omega
      rw [← hi]; exact hy
/-- A list of lists of whole numbers that came in, as it reads. -/
theorem open_rows {H : Type} {enc : TypeId × Value → H} {W : World} {base fuel : Nat} {held : Bool} {a : Option Addr} {len cap : Nat} {x : DataW H × List MemPlace} (h : DataW.trod enc Try.prog W base (fun _ => true) held fuel 43 [.slice a len cap] = some x) :
    ∃ l : List (List Int), len = l.length ∧ l.length ≤ maxLen ∧ len ≤ cap ∧ (∀ x ∈ l, x.length ≤ maxLen) ∧ (∀ x ∈ l, ∀ y ∈ x, (Lit.int .i64 y).wf = true) ∧ Kd.C (Kd.slice 3 (Kd.int .i64)) W a l.length l := by
  rcases open_slice1 Try.underlying43 (by kernel_rfl) h with ⟨hcs, _⟩ | ⟨b, ln, cp, m, n, V, D, Pl, hcs, _, hl, hm, hmm, _, hi⟩
  · injection hcs with hcs _
    injection hcs with e1 e2 e3
    subst e1 e2 e3
    exact ⟨[], rfl, Nat.zero_le _, Nat.le_refl _, (fun x hx => absurd hx List.not_mem_nil), (fun x hx => absurd hx List.not_mem_nil), rfl, Nat.zero_le _, fun h => by simp at h⟩
  · injection hcs with hcs _
    injection hcs with e1 e2 e3
    subst e1 e2 e3
    have hmc : m = cap := by rw [hmm]; rfl
    obtain ⟨xs, hxl, hxs⟩ := list_of len (fun i (x : List Int) => ∃ A c, V i = .slice A x.length c ∧ x.length ≤ c ∧ x.length ≤ maxLen ∧ (∀ y ∈ x, (Lit.int .i64 y).wf = true) ∧ Kd.C (Kd.int .i64) W A x.length x) (fun i hlt => by
      obtain ⟨_, ht⟩ := hi i (by omega)
      rcases open_ints Try.underlying22 Try.underlying3 (by kernel_rfl) ht with ⟨hc, _⟩ | ⟨x, l, c, zs, hc, _, hl, hm, hz, _, hcell, hwz⟩
      · injection hc with hc _
        exact ⟨[], none, 0, hc, Nat.le_refl _, Nat.zero_le _, (fun x hx => absurd hx List.not_mem_nil), rfl, Nat.zero_le _, fun h => by simp at h⟩
      · injection hc with hc _
        obtain ⟨l1, e1, hr, hm1, hw1, hc1⟩ := ReadsInt.ofRowC (show IsRow .i64 W (some x) l c zs from .inr ⟨x, rfl, hl, hm, by simpa using hz, hcell, hwz⟩)
        subst e1
        exact ⟨l1, some x, c, hc, hc1, hm1, hw1, Kd.C_of_reads (d := (0 : Int)) (h1 := fun _ => rfl) hr⟩)
    have hmem : ∀ x ∈ xs, ∃ i, xs[i]? = some x := fun x hx => List.getElem?_of_mem hx
    refine ⟨xs, hxl.symm, by omega, hl, ?_, ?_, rfl, by unfold maxLen at hm; omega, fun _ => ⟨b, rfl, fun j p hj => ?_⟩⟩
    · intro x hx
      obtain ⟨i, hi⟩ := hmem x hx
      obtain ⟨_, _, _, _, h3, _, _⟩ := hxs i x hi
      exact h3
    · intro x hx
      obtain ⟨i, hi⟩ := hmem x hx
      obtain ⟨_, _, _, _, _, h4, _⟩ := hxs i x hi
      exact h4
    · obtain ⟨A, c, e, h1, _, _, h5⟩ := hxs j p hj
      have hjl : j < len := by have := (List.getElem?_eq_some_iff.1 hj).1; omega
      refine ⟨[.slice A p.length c], rfl, ⟨A, c, rfl, h1, h5⟩, fun i u hu => ?_⟩
      have hi0 : i = 0 := by have := (List.getElem?_eq_some_iff.1 hu).1; simpa using this
      subst hi0
      simp only [List.getElem?_cons_zero, Option.some.injEq] at hu
      subst hu
      have hcell := (hi j (by omega)).1
      rw [← e]
      show W.cell? (b.add (j * 1 + 0)) = _
      rw [Nat.mul_one, Nat.add_zero]
      exact hcell
set_option maxRecDepth 100000 in
theorem lifted (os : Os) (started : os.Started) (H : Type) (enc : TypeId × Value → H) :
    ReturnsInHanded {} Try.checked os 11 .any (Rows.fnExactResultsAfterSpec.pre6 enc Try.prog Try.f11 Rows.fnExactResultsAfterRow.domain false) (Rows.fnExactResultsAfterSpec.post enc Try.prog Try.f11 false true false false) := by
  refine returnsInHanded_of_change_sized (C := Try.checked) own started (by kernel_rfl) Try.func11
    (ChangeSpec.witness6 (enc := enc) (C := Try.checked) false ⟨#[], #[.slice none 0 0, .int .i64 0], []⟩ 8 (by kernel_rfl) (by kernel_rfl) (by kernel_rfl) (by kernel_rfl)) ?_
  intro W base args ds gs before hval0 hW hcnd hsz0 _
  have hsz : (DataW.weightsEach Try.prog (Try.f11.params.toList ++ Rows.fnExactResultsAfterSpec.plain.varTypes Try.prog) (ds ++ gs)).all (· ≤ reachBytes) = true := hsz0
  have hval : ∀ (j : Nat) t v, Try.f11.params[j]? = some t → args[j]? = some v → Value.okWide Try.prog W .any base t v := hval0
  have hW' := hW
  obtain ⟨p, q, hA0, hV, rfl, hfz, hnd⟩ := hW
  have hA : DataW.TrodAll enc Try.prog W 0 (fun _ => true) true Try.f11.params.toList args.toList ds p := hA0
  rw [Try.params11] at hA hval hsz
  obtain ⟨v0, vs0, d0, ds0, p0, q0, hargs, rfl, rfl, h0, r0⟩ := trodAll_cons hA
  obtain ⟨v1, vs1, d1, ds1, p1, q1, rfl, rfl, rfl, h1, r1⟩ := trodAll_cons r0
  obtain ⟨rfl, rfl, rfl⟩ := trodAll_nil r1
  obtain rfl : args = #[v0, v1] := by cases args; simp_all
  obtain ⟨rfl, rfl⟩ := trodVars_none hV
  obtain ⟨a0, len0, cap0, rfl⟩ := okWide_slice Try.underlying43 (hval 0 43 v0 rfl rfl)
  have k0 := h0
  have lt0 : ∀ x ∈ p0, x.block < W.heap.size := by obtain ⟨m, hm⟩ := k0; exact DataW.trod_lt m _ _ _ hm
  obtain ⟨l0, e0, hm0, hc0, hs0, hw0, hr0⟩ := (show ∃ l : List (List Int), len0 = l.length ∧ l.length ≤ maxLen ∧ len0 ≤ cap0 ∧ (∀ x ∈ l, x.length ≤ maxLen) ∧ (∀ x ∈ l, ∀ y ∈ x, (Lit.int .i64 y).wf = true) ∧ Kd.C (Kd.slice 3 (Kd.int .i64)) W a0 l.length l from by obtain ⟨fuel, hf⟩ := h0; exact open_rows hf)
  subst e0
  obtain ⟨a1, rfl, rfl, rfl, w1⟩ := open_int Try.underlying3 (hval 1 3 v1 rfl rfl) h1
  clear hA0 hval0 hsz0 hsz
  refine (MFnExactResultsAfter.laws_FnExactResultsAfter.walk Pure.FnExactResultsAfter_ a0 cap0 l0 a1 W hr0 hc0 hm0 hs0 hw0 w1).mono fun e W' ⟨he, bel⟩ => ?_
  subst he
  exact ⟨_, rfl, _, _, _, [], _, [], hW', trodAll_mk1 (shut_bool Try.underlying4 _), (trodAll_cons_mk (Below.trod laidOut (by kernel_rfl) (of_decide_eq_true (by kernel_rfl)) k0 bel lt0) (trodAll_cons_mk (shut_int Try.underlying3 w1) trodAll_mk0)), rfl, bel.frame _, fun h => by cases h⟩
theorem over : Rows.fnExactResultsAfterRow.holds Try.pinned (OpenSpec.ofChange Rows.fnExactResultsAfterSpec) :=
  OpenClaim.holds_of_wide 11 Try.f11 rfl rfl rfl rfl rfl rfl rfl ⟨rfl, rfl, rfl, rfl, rfl⟩ rfl rfl rfl rfl rfl (by kernel_rfl) Try.func11 (by kernel_rfl)
    (of_decide_eq_true (by kernel_rfl)) (by unfold Func.isWrapper; first | (rw [if_pos (by decide +kernel)]; kernel_rfl) | (rw [if_neg (by decide +kernel)]; exact ⟨rfl, rfl⟩))
    (fun os started H enc _ => lifted os started H enc)
theorem proved : Rows.FnExactResultsAfterSaid := over
#print axioms proved
end Go.Proofs.Ytbghkcgglhoopaa.fnExactResultsAfter
namespace Go.Proofs.Ytbghkcgglhoopaa
/-- The row, under a short name, for the claim. -/
theorem fnExactResultsAfter_holds : Rows.FnExactResultsAfterSaid := fnExactResultsAfter.proved
end Go.Proofs.Ytbghkcgglhoopaa
