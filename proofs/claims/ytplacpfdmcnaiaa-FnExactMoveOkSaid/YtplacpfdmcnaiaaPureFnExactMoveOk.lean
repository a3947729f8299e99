/- For all arguments, the program's MoveOk answers as the reference's does. No conditions. -/
import Derived.Test.YtplacpfdmcnaiaaMFnExactMoveOkx0
import Derived.Test.YtplacpfdmcnaiaaMFnExactMoveOkx1
import Derived.OpenShut
namespace Go.Proofs.Ytplacpfdmcnaiaa.Pure
open Go.RowKit Go.Proofs.Ytplacpfdmcnaiaa.MFnExactMoveOk Go.Proofs.YtplacpfdmcnaiaaW.PrintWords Go.Proofs.YtplacpfdmcnaiaaW.PrintLast
set_option linter.unusedVariables false
set_option linter.unusedSimpArgs false

/-! ### base: numbers, reads, loops -/
theorem w64 {a : Int} (h0 : -9223372036854775808 ≤ a) (h1 : a ≤ 9223372036854775807) : wrap64 a = a := by
  unfold wrap64
  omega
theorem w64n {n : Nat} (h : n ≤ 9223372036854775807) : wrap64 (n : Int) = n := w64 (by omega) (by omega)
theorem bd64 {n : Int} (h : (Lit.int .i64 n).wf = true) : -9223372036854775808 ≤ n ∧ n ≤ 9223372036854775807 := Go.bounds_i64 h
theorem rd_nat (xs : List Int) (i : Nat) : rd xs (i : Int) = xs.getD i 0 := by simp [rd]
theorem rd_lt {xs : List Int} {i : Nat} (h : i < xs.length) : rd xs (i : Int) = xs[i] := by simp [rd, h]
theorem bt_nat {s : ByteArray} {i : Nat} (h : i < s.size) : bt s (i : Int) = (s[i].toNat : Int) := by simp [bt, h]
/-- Going up to n: what holds at n holds from i on. -/
theorem up_ind (n : Nat) (P : Nat → Prop) (h0 : P n) (hs : ∀ i, i < n → P (i + 1) → P i) : ∀ i, i ≤ n → P i := by
  have h : ∀ d i, i + d = n → P i := by
    intro d
    induction d with
    | zero => intro i hi; obtain rfl : i = n := by omega
              exact h0
    | succ d ih => intro i hi; exact hs i (by omega) (ih (i + 1) (by omega))
  intro i hi
  exact h (n - i) i (by omega)
theorem ev_some {α : Type} {g : Nat → Option α} {r : α} (h : ∀ k, g k = some r) : Ev g r := ⟨0, fun k _ => h k⟩
theorem ev_pair {α β : Type} {g : Nat → Option α} {f : Nat → Option β} {a : α} {b : β} {h : α → β → Option Bool} (hg : Ev g a) (hf : Ev f b) (hh : h a b = some true) : ∃ k, ((g k).bind fun x => (f k).bind fun y => h x y) = some true :=
  Ev.rounds (Ev.bind hg (Ev.bind hf (ev_some fun _ => hh)))

theorem spec_l01In_eq (a b c : Int) : spec_l01In.f a b c = some (decide (b ≤ a ∧ a ≤ c)) := by
  unfold spec_l01In.f
  by_cases h : a ≥ b
  · rw [if_pos h]; simp; omega
  · rw [if_neg h]; simp; omega

/-- May a move of this kind and number be done with a packet of n cards? -/
def moveOk (n k a : Int) : Bool := decide (1 ≤ n ∧ n ≤ 12 ∧ 0 ≤ a) && (if k = 1 ∨ k = 2 ∨ k = 3 then decide (a ≤ n) else if k = 4 ∨ k = 5 ∨ k = 7 then decide (a ≤ 1) else if k = 6 then decide (a = 0) else if k = 8 ∨ k = 9 then decide (a < n) else false)
theorem ev_three {α : Type} {g : Nat → Option α} {r : α} (h : ∀ k, g (k + 3) = some r) : Ev g r := ⟨3, fun k hk => by
  obtain ⟨j, rfl⟩ : ∃ j, k = j + 3 := ⟨k - 3, by omega⟩
  exact h j⟩
theorem kind_cases (k : Int) : k = 1 ∨ k = 2 ∨ k = 3 ∨ k = 4 ∨ k = 5 ∨ k = 6 ∨ k = 7 ∨ k = 8 ∨ k = 9 ∨ (k ≠ 1 ∧ k ≠ 2 ∧ k ≠ 3 ∧ k ≠ 4 ∧ k ≠ 5 ∧ k ≠ 6 ∧ k ≠ 7 ∧ k ≠ 8 ∧ k ≠ 9) := by omega

theorem spec_MoveOk_ev (n k a : Int) : Ev (fun i => spec_MoveOk.f i n k a) (moveOk n k a) := by
  refine ev_three fun i => ?_
  unfold spec_MoveOk.f moveOk
  rw [spec_l01In_eq, Option.bind_some]
  by_cases hn : 1 ≤ n ∧ n ≤ 12
  · rw [decide_eq_true hn, if_pos rfl]
    have hw : wrap64 (n - 1) = n - 1 := w64 (by omega) (by omega)
    simp only [spec_MoveOk.j0, spec_MoveOk.j1, spec_l01In_eq, Option.bind_some, hw]
    rcases kind_cases k with rfl | rfl | rfl | rfl | rfl | rfl | rfl | rfl | rfl | ⟨h1, h2, h3, h4, h5, h6, h7, h8, h9⟩ <;> simp [*] <;> first | omega | (simp only [← Bool.decide_and, decide_eq_decide]; omega) | (rw [Bool.eq_iff_iff]; simp; omega)
  · rw [decide_eq_false hn, if_neg (by simp), decide_eq_false (by omega)]
    rfl

theorem impl_MoveOk_ev (n k a : Int) : Ev (fun i => impl_MoveOk.f i n k a) (moveOk n k a) := by
  refine ev_three fun i => ?_
  unfold impl_MoveOk.f moveOk
  by_cases hn : 1 ≤ n ∧ n ≤ 12 ∧ 0 ≤ a
  · rw [decide_eq_true hn, if_neg (by omega), if_neg (by omega), decide_eq_false (by omega)]
    simp only [impl_MoveOk.j0, impl_MoveOk.j1, impl_MoveOk.j2]
    rcases kind_cases k with rfl | rfl | rfl | rfl | rfl | rfl | rfl | rfl | rfl | ⟨h1, h2, h3, h4, h5, h6, h7, h8, h9⟩ <;> simp [*] <;> first | omega | (rw [Bool.eq_iff_iff]; simp)
  · rw [decide_eq_false hn]
    by_cases h1 : n < 1
    · rw [if_pos h1]; simp [impl_MoveOk.j0]
    · rw [if_neg h1]
      by_cases h2 : n > 12
      · rw [if_pos h2]; simp [impl_MoveOk.j0]
      · rw [if_neg h2, decide_eq_true (show a < 0 by omega)]; simp [impl_MoveOk.j0]

theorem FnExactMoveOk : laws_FnExactMoveOk.Pure := by
  intro n k a _ _ _
  unfold laws_FnExactMoveOk.f laws_toMove.f
  simp only [Option.bind_some]
  refine Ev.rounds ?_
  refine Ev.bind (spec_MoveOk_ev n k a) (Ev.bind (impl_MoveOk_ev n k a) ?_)
  simp only [bne_self_eq_false, Bool.false_eq_true, if_false]
  exact Ev.now _

end Go.Proofs.Ytplacpfdmcnaiaa.Pure
