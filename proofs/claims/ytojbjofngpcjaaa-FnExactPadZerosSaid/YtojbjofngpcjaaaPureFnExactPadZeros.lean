/- For every string and every number, the program's PadZeros answers as the reference's does. No conditions. -/
import Derived.Test.YtojbjofngpcjaaaMFnExactPadZerosx0
import Derived.Test.YtojbjofngpcjaaaMFnExactPadZerosx1
import Derived.OpenShut
namespace Go.Proofs.Ytojbjofngpcjaaa.Pure
open Go.RowKit Go.Proofs.Ytojbjofngpcjaaa.MFnExactPadZeros Go.Proofs.YtojbjofngpcjaaaW.PrintWords Go.Proofs.YtojbjofngpcjaaaW.PrintLast
set_option linter.unusedVariables false
set_option linter.unusedSimpArgs false

/-! ### base: numbers, reads, loops -/
theorem w64 {a : Int} (h0 : -9223372036854775808 ≤ a) (h1 : a ≤ 9223372036854775807) : wrap64 a = a := by
  unfold wrap64
  omega
theorem w64n {n : Nat} (h : n ≤ 9223372036854775807) : wrap64 (n : Int) = n := w64 (by omega) (by omega)
theorem bd64 {n : Int} (h : (Lit.int .i64 n).wf = true) : -9223372036854775808 ≤ n ∧ n ≤ 9223372036854775807 := Go.bounds_i64 h
theorem rd_nat (xs : List Int) (i : Nat) : rd xs (i : Int) = xs.getD i 0 := by simp [rd]
theorem rd_lt {xs : List Int} {i : Nat} (h : i < xs.length) : rd xs (i : Int) = xs[i] := by simp [rd, h]
theorem bt_nat {s : ByteArray} {i : Nat} (h : i < s.size) : bt s (i : Int) = (s[i].toNat : Int) := by simp [bt, h]
/-- Going up to n: what holds at n holds from i on. -/
theorem up_ind (n : Nat) (P : Nat → Prop) (h0 : P n) (hs : ∀ i, i < n → P (i + 1) → P i) : ∀ i, i ≤ n → P i := by
  have h : ∀ d i, i + d = n → P i := by
    intro d
    induction d with
    | zero => intro i hi; obtain rfl : i = n := by omega
              exact h0
    | succ d ih => intro i hi; exact hs i (by omega) (ih (i + 1) (by omega))
  intro i hi
  exact h (n - i) i (by omega)
theorem ev_some {α : Type} {g : Nat → Option α} {r : α} (h : ∀ k, g k = some r) : Ev g r := ⟨0, fun k _ => h k⟩
theorem ev_pair {α β : Type} {g : Nat → Option α} {f : Nat → Option β} {a : α} {b : β} {h : α → β → Option Bool} (hg : Ev g a) (hf : Ev f b) (hh : h a b = some true) : ∃ k, ((g k).bind fun x => (f k).bind fun y => h x y) = some true :=
  Ev.rounds (Ev.bind hg (Ev.bind hf (ev_some fun _ => hh)))

theorem append_toList (a b : ByteArray) : (a ++ b).data.toList = a.data.toList ++ b.data.toList := by simp
theorem bytes_ext {a b : ByteArray} (h : a.data.toList = b.data.toList) : a = b := by
  cases a with
  | mk x =>
    cases b with
    | mk y =>
      have h' : x.toList = y.toList := h
      rw [Array.toList_inj.mp h']
theorem repeat_rep (d : Nat) : Lib.repeatL [48] d = List.replicate d 48 := by
  induction d with
  | zero => rfl
  | succ d ih =>
    show [48] ++ Lib.repeatL [48] d = _
    rw [ih]
    rfl
def padded (s : ByteArray) (d : Nat) : ByteArray := ⟨(Lib.repeatL [48] d).toArray⟩ ++ s
theorem padded_toList (s : ByteArray) (d : Nat) : (padded s d).data.toList = List.replicate d 48 ++ s.data.toList := by
  unfold padded
  rw [append_toList, repeat_rep]
theorem padded_zero (s : ByteArray) : padded s 0 = s := bytes_ext (by rw [padded_toList]; rfl)
theorem padded_succ (s : ByteArray) (d : Nat) : padded ((⟨#[48]⟩ : ByteArray) ++ s) d = padded s (d + 1) := bytes_ext (by
  rw [padded_toList, padded_toList, append_toList]
  show List.replicate d 48 ++ ([48] ++ s.data.toList) = _
  rw [List.replicate_succ', List.append_assoc])
theorem size_cons (s : ByteArray) : ((⟨#[48]⟩ : ByteArray) ++ s).size = s.size + 1 := by
  rw [ByteArray.size_append]
  show 1 + s.size = _
  omega
theorem spec_PadZeros_ev (n : Int) (hn : n ≤ 2000) : ∀ (d : Nat) (s : ByteArray), s.size ≤ 1048576 + 2000 → (n - (s.size : Int)).toNat = d → Ev (fun k => spec_PadZeros.l0 k s n) (padded s d) := by
  intro d
  induction d with
  | zero =>
    intro s hs hd
    rw [padded_zero]
    refine Ev.step (f := fun _ => some _) (fun k => ?_) (Ev.now _)
    simp only [spec_PadZeros.l0]
    rw [if_neg (by omega)]
  | succ d ih =>
    intro s hs hd
    have h1 := size_cons s
    rw [← padded_succ]
    refine Ev.step (f := fun k => spec_PadZeros.l0 k ((⟨#[48]⟩ : ByteArray) ++ s) n) (fun k => ?_) (ih _ (by omega) (by omega))
    simp only [spec_PadZeros.l0]
    rw [if_pos (by omega), if_pos (by omega)]
theorem impl_PadZeros_is (s : ByteArray) (n : Int) (hs : s.size ≤ 1048576) (hn : n ≤ 2000) : impl_PadZeros.f s n = some (padded s (n - (s.size : Int)).toNat) := by
  unfold impl_PadZeros.f
  by_cases c : (s.size : Int) ≥ n
  · rw [if_pos c, show (n - (s.size : Int)).toNat = 0 by omega, padded_zero]
  · have hw : wrap64 (n - (s.size : Int)) = n - (s.size : Int) := w64 (by omega) (by omega)
    have hz : (⟨(Lib.repeatL [48] (n - (s.size : Int)).toNat).toArray⟩ : ByteArray).size = (n - (s.size : Int)).toNat := by
      show (Lib.repeatL [48] (n - (s.size : Int)).toNat).toArray.size = _
      rw [List.size_toArray, repeat_rep, List.length_replicate]
    rw [if_neg c, if_neg (by omega), hw]
    unfold strings_Repeat.f
    rw [if_pos (by omega), if_pos (by omega), if_pos (by show 1 * _ ≤ _; omega), Option.bind_some]
    show (if (⟨(Lib.repeatL [48] (n - (s.size : Int)).toNat).toArray⟩ : ByteArray).size + s.size ≤ 9223372036854775807 then some (padded s _) else none) = _
    rw [if_pos (by rw [hz]; omega)]
theorem FnExactPadZeros : laws_FnExactPadZeros.Pure := by
  intro s n ws wn
  unfold laws_FnExactPadZeros.f
  by_cases g1 : (s.size : Int) > 1048576
  · exact ⟨0, by rw [if_pos g1]⟩
  simp only [if_neg g1]
  by_cases c : n > 2000
  · refine ⟨0, ?_⟩
    have e1 : spec_PadZeros.f 0 s n = some s := by unfold spec_PadZeros.f; rw [if_pos c]
    have e2 : impl_PadZeros.f s n = some s := by
      unfold impl_PadZeros.f
      by_cases c0 : (s.size : Int) ≥ n
      · rw [if_pos c0]
      · rw [if_neg c0, if_pos c]
    rw [e1, e2]
    simp
  · obtain ⟨k, hk⟩ := spec_PadZeros_ev n (by omega) (n - (s.size : Int)).toNat s (by omega) rfl
    have hk := hk k (Nat.le_refl k)
    refine ⟨k, ?_⟩
    have e1 : spec_PadZeros.f k s n = some (padded s (n - (s.size : Int)).toNat) := by unfold spec_PadZeros.f; rw [if_neg c]; exact hk
    rw [e1, impl_PadZeros_is s n (by omega) (by omega)]
    simp

end Go.Proofs.Ytojbjofngpcjaaa.Pure
