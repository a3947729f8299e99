/- For every string, the program's MoveNamed answers as the reference's does. No conditions. -/
import Derived.Test.YtplacpfdmcnaiaaPFnExactMoveNamedx0
import Derived.Test.YtplacpfdmcnaiaaPFnExactMoveNamedx1
import Derived.OpenShut
namespace Go.Proofs.Ytplacpfdmcnaiaa.Pure
open Go.RowKit Go.Proofs.Ytplacpfdmcnaiaa.PFnExactMoveNamed Go.Proofs.YtplacpfdmcnaiaaW.PrintWords Go.Proofs.YtplacpfdmcnaiaaW.PrintLast
set_option linter.unusedVariables false
set_option linter.unusedSimpArgs false

/-! ### base: numbers, reads, loops -/
theorem w64 {a : Int} (h0 : -9223372036854775808 ≤ a) (h1 : a ≤ 9223372036854775807) : wrap64 a = a := by
  unfold wrap64
  omega
theorem bd64 {n : Int} (h : (Lit.int .i64 n).wf = true) : -9223372036854775808 ≤ n ∧ n ≤ 9223372036854775807 := Go.bounds_i64 h
theorem rd_nat (xs : List Int) (i : Nat) : rd xs (i : Int) = xs.getD i 0 := by simp [rd]
theorem rd_lt {xs : List Int} {i : Nat} (h : i < xs.length) : rd xs (i : Int) = xs[i] := by simp [rd, h]
theorem bt_nat {s : ByteArray} {i : Nat} (h : i < s.size) : bt s (i : Int) = (s[i].toNat : Int) := by simp [bt, h]
/-- Going up to n: what holds at n holds from i on. -/
theorem up_ind (n : Nat) (P : Nat → Prop) (h0 : P n) (hs : ∀ i, i < n → P (i + 1) → P i) : ∀ i, i ≤ n → P i := by
  have h : ∀ d i, i + d = n → P i := by
    intro d
    induction d with
    | zero => intro i hi; obtain rfl : i = n := by omega
              exact h0
    | succ d ih => intro i hi; exact hs i (by omega) (ih (i + 1) (by omega))
  intro i hi
  exact h (n - i) i (by omega)
theorem ev_some {α : Type} {g : Nat → Option α} {r : α} (h : ∀ k, g k = some r) : Ev g r := ⟨0, fun k _ => h k⟩
theorem ev_pair {α β : Type} {g : Nat → Option α} {f : Nat → Option β} {a : α} {b : β} {h : α → β → Option Bool} (hg : Ev g a) (hf : Ev f b) (hh : h a b = some true) : ∃ k, ((g k).bind fun x => (f k).bind fun y => h x y) = some true :=
  Ev.rounds (Ev.bind hg (Ev.bind hf (ev_some fun _ => hh)))

theorem move_named_both (s : ByteArray) (l : List ByteArray) (z : ByteArray) (hl : l.length = 9) (hne : ∀ i : Nat, i < 9 → (rdOf ByteArray.empty l (i : Int)).toList ≠ []) :
    ∀ i : Nat, i ≤ 9 → ∃ r : Int, Ev (fun k => slices_Index_string_string.l0 k l s 9 (i : Int)) r ∧ Ev (fun k => spec_MoveNamed.l0 k s (z :: l) 10 ((i + 1 : Nat) : Int)) (wrap64 (r + 1)) ∧ (s.toList = [] → r = -1) := by
  refine up_ind 9 (fun (i : Nat) => ∃ r : Int, Ev (fun k => slices_Index_string_string.l0 k l s 9 (i : Int)) r ∧ Ev (fun k => spec_MoveNamed.l0 k s (z :: l) 10 ((i + 1 : Nat) : Int)) (wrap64 (r + 1)) ∧ (s.toList = [] → r = -1)) ?_ ?_
  · refine ⟨-1, Ev.step (f := fun _ => some _) (fun k => ?_) (Ev.now _), Ev.step (f := fun _ => some _) (fun k => ?_) (Ev.now _), fun _ => rfl⟩
    · simp only [slices_Index_string_string.l0]; rw [if_neg (by omega)]
    · simp only [spec_MoveNamed.l0]; rw [if_neg (by omega), w64 (by omega) (by omega)]; rfl
  · intro i hi ⟨r, h1, h2, h3⟩
    have hw : wrap64 ((i : Int) + 1) = ((i + 1 : Nat) : Int) := by rw [w64 (by omega) (by omega)]; omega
    have hw2 : wrap64 (((i + 1 : Nat) : Int) + 1) = ((i + 1 + 1 : Nat) : Int) := by rw [w64 (by omega) (by omega)]; omega
    have hr : rdOf ByteArray.empty (z :: l) ((i + 1 : Nat) : Int) = rdOf ByteArray.empty l (i : Int) := by simp [rdOf]
    have hlen : ((z :: l).length : Int) = 10 := by simp [hl]
    by_cases c : s.toList = (rdOf ByteArray.empty l (i : Int)).toList
    · refine ⟨(i : Int), Ev.step (f := fun _ => some _) (fun k => ?_) (Ev.now _), Ev.step (f := fun _ => some _) (fun k => ?_) (Ev.now _), fun e => absurd (c.symm.trans e) (hne i hi)⟩
      · simp only [slices_Index_string_string.l0]; rw [if_pos (by omega), if_pos (by omega), if_pos (by omega), if_pos c]
      · simp only [spec_MoveNamed.l0]; rw [if_pos (by omega), if_pos (by omega), if_pos (by omega), hr, if_pos c.symm, hw]
    · refine ⟨r, Ev.step (fun k => ?_) h1, Ev.step (fun k => ?_) h2, h3⟩
      · simp only [slices_Index_string_string.l0]; rw [if_pos (by omega), if_pos (by omega), if_pos (by omega), if_neg c, hw]
      · simp only [spec_MoveNamed.l0]; rw [if_pos (by omega), if_pos (by omega), if_pos (by omega), hr, if_neg (fun e => c e.symm), hw2]
theorem FnExactMoveNamed : laws_FnExactMoveNamed.Pure := by
  intro s hs
  unfold laws_FnExactMoveNamed.f
  by_cases hb : (s.size : Int) > 1048576
  · exact ⟨0, by rw [if_pos hb]⟩
  · simp only [if_neg hb]
    obtain ⟨r, h1, h2, h3⟩ := move_named_both s [(⟨#[99, 117, 116]⟩ : ByteArray), (⟨#[100, 101, 97, 108]⟩ : ByteArray), (⟨#[102, 108, 105, 112]⟩ : ByteArray), (⟨#[102, 97, 114, 111]⟩ : ByteArray), (⟨#[109, 111, 110, 103, 101]⟩ : ByteArray), (⟨#[109, 105, 108, 107]⟩ : ByteArray), (⟨#[100, 117, 99, 107]⟩ : ByteArray), (⟨#[116, 117, 114, 110]⟩ : ByteArray), (⟨#[117, 110, 100, 101, 114]⟩ : ByteArray)] ⟨#[]⟩ rfl (by
      intro i hi
      obtain rfl | rfl | rfl | rfl | rfl | rfl | rfl | rfl | rfl : i = 0 ∨ i = 1 ∨ i = 2 ∨ i = 3 ∨ i = 4 ∨ i = 5 ∨ i = 6 ∨ i = 7 ∨ i = 8 := by omega
      all_goals simp [rdOf, ByteArray.toList_eq]) 0 (by omega)
    refine ev_pair (g := fun k => spec_MoveNamed.f k s) (f := fun k => impl_MoveNamed.f k s) (a := wrap64 (r + 1)) (b := wrap64 (r + 1)) (h := fun a b => if b = a then some true else some false) ?_ ?_ (by simp)
    · simp only [spec_MoveNamed.f, spec_l04Names.f, Option.bind_some]
      by_cases c : s.toList = []
      · refine Ev.step (f := fun _ => some _) (fun k => ?_) (Ev.now _)
        simp only [spec_MoveNamed.l0]
        rw [h3 c]
        simp [rdOf, c, ByteArray.toList_eq]
        exact (w64 (by omega) (by omega)).symm
      · refine Ev.step (fun k => ?_) h2
        simp only [spec_MoveNamed.l0]
        rw [if_pos (by decide), if_pos (by decide), if_pos (by decide), if_neg (fun e => c (e.symm.trans (by simp [rdOf, ByteArray.toList_eq])))]
        rw [w64 (by omega) (by omega)]
        rfl
    · simp only [impl_MoveNamed.f, impl_moveNames.f, slices_Index_string_string.f, Option.bind_some]
      exact Ev.bind h1 (Ev.now _)

end Go.Proofs.Ytplacpfdmcnaiaa.Pure
