/- For every string, the program's IsName answers as the reference's does. No conditions. -/
import Derived.Test.YtplacpfdmcnaiaaPFnExactIsNamex0
import Derived.Test.YtplacpfdmcnaiaaPFnExactIsNamex1
import Derived.OpenShut
namespace Go.Proofs.Ytplacpfdmcnaiaa.Pure
open Go.RowKit Go.Proofs.Ytplacpfdmcnaiaa.PFnExactIsName Go.Proofs.YtplacpfdmcnaiaaW.PrintWords Go.Proofs.YtplacpfdmcnaiaaW.PrintLast
set_option linter.unusedVariables false
set_option linter.unusedSimpArgs false

/-! ### base: numbers, reads, loops -/
theorem w64 {a : Int} (h0 : -9223372036854775808 ≤ a) (h1 : a ≤ 9223372036854775807) : wrap64 a = a := by
  unfold wrap64
  omega
theorem bd64 {n : Int} (h : (Lit.int .i64 n).wf = true) : -9223372036854775808 ≤ n ∧ n ≤ 9223372036854775807 := Go.bounds_i64 h
theorem rd_nat (xs : List Int) (i : Nat) : rd xs (i : Int) = xs.getD i 0 := by simp [rd]
theorem rd_lt {xs : List Int} {i : Nat} (h : i < xs.length) : rd xs (i : Int) = xs[i] := by simp [rd, h]
theorem bt_nat {s : ByteArray} {i : Nat} (h : i < s.size) : bt s (i : Int) = (s[i].toNat : Int) := by simp [bt, h]
/-- Going up to n: what holds at n holds from i on. -/
theorem up_ind (n : Nat) (P : Nat → Prop) (h0 : P n) (hs : ∀ i, i < n → P (i + 1) → P i) : ∀ i, i ≤ n → P i := by
  have h : ∀ d i, i + d = n → P i := by
    intro d
    induction d with
    | zero => intro i hi; obtain rfl : i = n := by omega
              exact h0
    | succ d ih => intro i hi; exact hs i (by omega) (ih (i + 1) (by omega))
  intro i hi
  exact h (n - i) i (by omega)
theorem ev_some {α : Type} {g : Nat → Option α} {r : α} (h : ∀ k, g k = some r) : Ev g r := ⟨0, fun k _ => h k⟩
theorem ev_pair {α β : Type} {g : Nat → Option α} {f : Nat → Option β} {a : α} {b : β} {h : α → β → Option Bool} (hg : Ev g a) (hf : Ev f b) (hh : h a b = some true) : ∃ k, ((g k).bind fun x => (f k).bind fun y => h x y) = some true :=
  Ev.rounds (Ev.bind hg (Ev.bind hf (ev_some fun _ => hh)))

theorem spec_l01In_eq (a b c : Int) : spec_l01In.f a b c = some (decide (b ≤ a ∧ a ≤ c)) := by
  unfold spec_l01In.f
  by_cases h : a ≥ b
  · rw [if_pos h]; simp; omega
  · rw [if_neg h]; simp; omega

theorem FnExactIsName : laws_FnExactIsName.Pure := by
  intro s hs
  have both : ∀ i, i ≤ s.size → ∃ r, Ev (fun k => spec_IsName.l0 k s (i : Int)) r ∧ Ev (fun k => impl_IsName.l0 k s (i : Int)) r := by
    refine up_ind s.size (fun i => ∃ r, Ev (fun k => spec_IsName.l0 k s (i : Int)) r ∧ Ev (fun k => impl_IsName.l0 k s (i : Int)) r) ?_ ?_
    · refine ⟨decide (1 ≤ (s.size : Int) ∧ (s.size : Int) ≤ 8), Ev.step (f := fun _ => some _) (fun k => ?_) (Ev.now _), Ev.step (f := fun _ => some _) (fun k => ?_) (Ev.now _)⟩
      · simp only [spec_IsName.l0]; rw [if_neg (by omega), spec_l01In_eq]; rfl
      · simp only [impl_IsName.l0]; rw [if_neg (by omega)]
        by_cases h : (s.size : Int) ≥ 1
        · rw [if_pos h]; simp; omega
        · rw [if_neg h]; simp; omega
    · intro i hi ⟨r, h1, h2⟩
      have hw : wrap64 ((i : Int) + 1) = ((i + 1 : Nat) : Int) := by rw [w64 (by omega) (by omega)]; omega
      by_cases c1 : bt s i ≥ 97 ∧ bt s i ≤ 122
      · refine ⟨r, Ev.step (fun k => ?_) h1, Ev.step (fun k => ?_) h2⟩
        · simp only [spec_IsName.l0]; rw [if_pos (by omega), if_pos (by omega), if_pos c1.1, if_pos c1.2, hw]
        · simp only [impl_IsName.l0]; rw [if_pos (by omega), if_pos (by omega), if_pos c1.1, if_pos (by omega), if_pos c1.2, hw]
      · by_cases c2 : ¬ (i : Int) = 0 ∧ bt s i ≥ 48 ∧ bt s i ≤ 57
        · refine ⟨r, Ev.step (fun k => ?_) h1, Ev.step (fun k => ?_) h2⟩
          · simp only [spec_IsName.l0]; rw [if_pos (by omega), if_pos (by omega)]
            repeat (first | rw [if_neg (by omega)] | rw [if_pos (by omega)])
            rw [hw]
          · simp only [impl_IsName.l0]; rw [if_pos (by omega), if_pos (by omega)]
            repeat (first | rw [if_neg (by omega)] | rw [if_pos (by omega)])
            rw [hw]
        · refine ⟨false, Ev.step (f := fun _ => some _) (fun k => ?_) (Ev.now _), Ev.step (f := fun _ => some _) (fun k => ?_) (Ev.now _)⟩
          · simp only [spec_IsName.l0]
            repeat' split
            all_goals first | rfl | (exfalso; omega)
          · simp only [impl_IsName.l0]
            repeat' split
            all_goals first | rfl | (exfalso; omega)
  obtain ⟨r, h1, h2⟩ := both 0 (by omega)
  unfold laws_FnExactIsName.f
  by_cases hb : (s.size : Int) > 1048576
  · exact ⟨0, by rw [if_pos hb]⟩
  · simp only [if_neg hb]
    exact ev_pair (h := fun a b => if (b != a) = true then some false else some true) h1 h2 (by simp)

end Go.Proofs.Ytplacpfdmcnaiaa.Pure
