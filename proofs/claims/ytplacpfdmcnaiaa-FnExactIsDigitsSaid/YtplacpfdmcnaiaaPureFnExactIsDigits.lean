/- For every string, the program's IsDigits answers as the reference's does. No conditions. -/
import Derived.Test.YtplacpfdmcnaiaaMFnExactIsDigitsx0
import Derived.Test.YtplacpfdmcnaiaaMFnExactIsDigitsx1
import Derived.OpenShut
namespace Go.Proofs.Ytplacpfdmcnaiaa.Pure
open Go.RowKit Go.Proofs.Ytplacpfdmcnaiaa.MFnExactIsDigits Go.Proofs.YtplacpfdmcnaiaaW.PrintWords Go.Proofs.YtplacpfdmcnaiaaW.PrintLast
set_option linter.unusedVariables false
set_option linter.unusedSimpArgs false

/-! ### base: numbers, reads, loops -/
theorem w64 {a : Int} (h0 : -9223372036854775808 ≤ a) (h1 : a ≤ 9223372036854775807) : wrap64 a = a := by
  unfold wrap64
  omega
theorem w64n {n : Nat} (h : n ≤ 9223372036854775807) : wrap64 (n : Int) = n := w64 (by omega) (by omega)
theorem bd64 {n : Int} (h : (Lit.int .i64 n).wf = true) : -9223372036854775808 ≤ n ∧ n ≤ 9223372036854775807 := Go.bounds_i64 h
theorem rd_nat (xs : List Int) (i : Nat) : rd xs (i : Int) = xs.getD i 0 := by simp [rd]
theorem rd_lt {xs : List Int} {i : Nat} (h : i < xs.length) : rd xs (i : Int) = xs[i] := by simp [rd, h]
theorem bt_nat {s : ByteArray} {i : Nat} (h : i < s.size) : bt s (i : Int) = (s[i].toNat : Int) := by simp [bt, h]
/-- Going up to n: what holds at n holds from i on. -/
theorem up_ind (n : Nat) (P : Nat → Prop) (h0 : P n) (hs : ∀ i, i < n → P (i + 1) → P i) : ∀ i, i ≤ n → P i := by
  have h : ∀ d i, i + d = n → P i := by
    intro d
    induction d with
    | zero => intro i hi; obtain rfl : i = n := by omega
              exact h0
    | succ d ih => intro i hi; exact hs i (by omega) (ih (i + 1) (by omega))
  intro i hi
  exact h (n - i) i (by omega)
theorem ev_some {α : Type} {g : Nat → Option α} {r : α} (h : ∀ k, g k = some r) : Ev g r := ⟨0, fun k _ => h k⟩
theorem ev_pair {α β : Type} {g : Nat → Option α} {f : Nat → Option β} {a : α} {b : β} {h : α → β → Option Bool} (hg : Ev g a) (hf : Ev f b) (hh : h a b = some true) : ∃ k, ((g k).bind fun x => (f k).bind fun y => h x y) = some true :=
  Ev.rounds (Ev.bind hg (Ev.bind hf (ev_some fun _ => hh)))

theorem FnExactIsDigits : laws_FnExactIsDigits.Pure := by
  intro s hs
  have both : ∀ i, i ≤ s.size → ∃ r, Ev (fun k => spec_IsDigits.l0 k s (i : Int)) r ∧ Ev (fun k => impl_IsDigits.l0 k s (i : Int)) r := by
    refine up_ind s.size (fun i => ∃ r, Ev (fun k => spec_IsDigits.l0 k s (i : Int)) r ∧ Ev (fun k => impl_IsDigits.l0 k s (i : Int)) r) ?_ ?_
    · refine ⟨decide ((s.size : Int) > 0), Ev.step (f := fun _ => some _) (fun k => ?_) (Ev.now _), Ev.step (f := fun _ => some _) (fun k => ?_) (Ev.now _)⟩
      · simp only [spec_IsDigits.l0]; rw [if_neg (by omega)]
      · simp only [impl_IsDigits.l0]; rw [if_neg (by omega)]
        congr 1
        have e : s.toList.length = s.size := by rw [ByteArray.toList_eq]; rfl
        cases h : s.toList with
        | nil => rw [h] at e; simp at e; simp [← e]
        | cons a l => rw [h] at e; simp at e; simp; omega
    · intro i hi ⟨r, h1, h2⟩
      have hw : wrap64 ((i : Int) + 1) = ((i + 1 : Nat) : Int) := by rw [w64 (by omega) (by omega)]; omega
      by_cases c1 : bt s i < 48
      · refine ⟨false, Ev.step (f := fun _ => some _) (fun k => ?_) (Ev.now _), Ev.step (f := fun _ => some _) (fun k => ?_) (Ev.now _)⟩
        · simp only [spec_IsDigits.l0]; rw [if_pos (by omega), if_pos (by omega), if_pos c1]
        · simp only [impl_IsDigits.l0]; rw [if_pos (by omega), if_pos (by omega), if_pos c1]
      · by_cases c2 : bt s i > 57
        · refine ⟨false, Ev.step (f := fun _ => some _) (fun k => ?_) (Ev.now _), Ev.step (f := fun _ => some _) (fun k => ?_) (Ev.now _)⟩
          · simp only [spec_IsDigits.l0]; rw [if_pos (by omega), if_pos (by omega), if_neg c1, if_pos c2]
          · simp only [impl_IsDigits.l0]; rw [if_pos (by omega), if_pos (by omega), if_neg c1, if_pos c2]
        · refine ⟨r, Ev.step (fun k => ?_) h1, Ev.step (fun k => ?_) h2⟩
          · simp only [spec_IsDigits.l0]; rw [if_pos (by omega), if_pos (by omega), if_neg c1, if_neg c2, hw]
          · simp only [impl_IsDigits.l0]; rw [if_pos (by omega), if_pos (by omega), if_neg c1, if_neg c2, hw]
  obtain ⟨r, h1, h2⟩ := both 0 (by omega)
  unfold laws_FnExactIsDigits.f
  by_cases hb : (s.size : Int) > 1048576
  · exact ⟨0, by rw [if_pos hb]⟩
  · simp only [if_neg hb]
    exact ev_pair (h := fun a b => if (b != a) = true then some false else some true) h1 h2 (by simp)

end Go.Proofs.Ytplacpfdmcnaiaa.Pure
