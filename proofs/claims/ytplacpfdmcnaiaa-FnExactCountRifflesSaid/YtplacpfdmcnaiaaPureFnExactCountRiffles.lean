/- For every whole number, the program's CountRiffles answers as the reference's does. No conditions. -/
import Derived.Test.YtplacpfdmcnaiaaPFnExactCountRifflesx0
import Derived.Test.YtplacpfdmcnaiaaPFnExactCountRifflesx1
import Derived.OpenShut
namespace Go.Proofs.Ytplacpfdmcnaiaa.Pure
open Go.RowKit Go.Proofs.Ytplacpfdmcnaiaa.PFnExactCountRiffles Go.Proofs.YtplacpfdmcnaiaaW.PrintWords Go.Proofs.YtplacpfdmcnaiaaW.PrintLast
set_option linter.unusedVariables false
set_option linter.unusedSimpArgs false

/-! ### base: numbers, reads, loops -/
theorem w64 {a : Int} (h0 : -9223372036854775808 ≤ a) (h1 : a ≤ 9223372036854775807) : wrap64 a = a := by
  unfold wrap64
  omega
theorem bd64 {n : Int} (h : (Lit.int .i64 n).wf = true) : -9223372036854775808 ≤ n ∧ n ≤ 9223372036854775807 := Go.bounds_i64 h
theorem rd_nat (xs : List Int) (i : Nat) : rd xs (i : Int) = xs.getD i 0 := by simp [rd]
theorem rd_lt {xs : List Int} {i : Nat} (h : i < xs.length) : rd xs (i : Int) = xs[i] := by simp [rd, h]
theorem bt_nat {s : ByteArray} {i : Nat} (h : i < s.size) : bt s (i : Int) = (s[i].toNat : Int) := by simp [bt, h]
/-- Going up to n: what holds at n holds from i on. -/
theorem up_ind (n : Nat) (P : Nat → Prop) (h0 : P n) (hs : ∀ i, i < n → P (i + 1) → P i) : ∀ i, i ≤ n → P i := by
  have h : ∀ d i, i + d = n → P i := by
    intro d
    induction d with
    | zero => intro i hi; obtain rfl : i = n := by omega
              exact h0
    | succ d ih => intro i hi; exact hs i (by omega) (ih (i + 1) (by omega))
  intro i hi
  exact h (n - i) i (by omega)
theorem ev_some {α : Type} {g : Nat → Option α} {r : α} (h : ∀ k, g k = some r) : Ev g r := ⟨0, fun k _ => h k⟩
theorem ev_pair {α β : Type} {g : Nat → Option α} {f : Nat → Option β} {a : α} {b : β} {h : α → β → Option Bool} (hg : Ev g a) (hf : Ev f b) (hh : h a b = some true) : ∃ k, ((g k).bind fun x => (f k).bind fun y => h x y) = some true :=
  Ev.rounds (Ev.bind hg (Ev.bind hf (ev_some fun _ => hh)))

theorem spec_l01In_eq (a b c : Int) : spec_l01In.f a b c = some (decide (b ≤ a ∧ a ≤ c)) := by
  unfold spec_l01In.f
  by_cases h : a ≥ b
  · rw [if_pos h]; simp; omega
  · rw [if_neg h]; simp; omega

theorem FnExactCountRiffles : laws_FnExactCountRiffles.Pure := by
  intro x hw
  by_cases h : 1 ≤ x ∧ x ≤ 12
  · refine ⟨20, ?_⟩
    obtain rfl | rfl | rfl | rfl | rfl | rfl | rfl | rfl | rfl | rfl | rfl | rfl : x = 1 ∨ x = 2 ∨ x = 3 ∨ x = 4 ∨ x = 5 ∨ x = 6 ∨ x = 7 ∨ x = 8 ∨ x = 9 ∨ x = 10 ∨ x = 11 ∨ x = 12 := by omega
    all_goals kernel_rfl
  · refine ⟨0, ?_⟩
    unfold laws_FnExactCountRiffles.f spec_CountRiffles.f impl_CountRiffles.f
    rw [spec_l01In_eq]
    simp only [Option.bind_some, decide_eq_true_eq]
    rw [if_neg h]
    by_cases h0 : x < 1
    · rw [if_pos h0]; simp
    · rw [if_neg h0, if_pos (by omega)]; simp

end Go.Proofs.Ytplacpfdmcnaiaa.Pure
