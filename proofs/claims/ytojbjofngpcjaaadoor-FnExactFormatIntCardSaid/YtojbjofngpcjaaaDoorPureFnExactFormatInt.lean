/- For every whole number, the program's FormatInt writes what the reference writes. No conditions. -/
import Derived.Test.YtojbjofngpcjaaaDoorMFnExactFormatIntx0
import Derived.Test.YtojbjofngpcjaaaDoorMFnExactFormatIntx1
import Derived.OpenShut
namespace Go.Proofs.YtojbjofngpcjaaaDoor.Pure
open Go.RowKit Go.Proofs.YtojbjofngpcjaaaDoor.MFnExactFormatInt Go.Proofs.YtojbjofngpcjaaaDoorW.PrintWords Go.Proofs.YtojbjofngpcjaaaDoorW.PrintLast
set_option linter.unusedVariables false
set_option linter.unusedSimpArgs false

/-! ### base: numbers, reads, loops -/
theorem w64 {a : Int} (h0 : -9223372036854775808 ≤ a) (h1 : a ≤ 9223372036854775807) : wrap64 a = a := by
  unfold wrap64
  omega
theorem w64n {n : Nat} (h : n ≤ 9223372036854775807) : wrap64 (n : Int) = n := w64 (by omega) (by omega)
theorem bd64 {n : Int} (h : (Lit.int .i64 n).wf = true) : -9223372036854775808 ≤ n ∧ n ≤ 9223372036854775807 := Go.bounds_i64 h
theorem rd_nat (xs : List Int) (i : Nat) : rd xs (i : Int) = xs.getD i 0 := by simp [rd]
theorem rd_lt {xs : List Int} {i : Nat} (h : i < xs.length) : rd xs (i : Int) = xs[i] := by simp [rd, h]
theorem bt_nat {s : ByteArray} {i : Nat} (h : i < s.size) : bt s (i : Int) = (s[i].toNat : Int) := by simp [bt, h]
/-- Going up to n: what holds at n holds from i on. -/
theorem up_ind (n : Nat) (P : Nat → Prop) (h0 : P n) (hs : ∀ i, i < n → P (i + 1) → P i) : ∀ i, i ≤ n → P i := by
  have h : ∀ d i, i + d = n → P i := by
    intro d
    induction d with
    | zero => intro i hi; obtain rfl : i = n := by omega
              exact h0
    | succ d ih => intro i hi; exact hs i (by omega) (ih (i + 1) (by omega))
  intro i hi
  exact h (n - i) i (by omega)
theorem ev_some {α : Type} {g : Nat → Option α} {r : α} (h : ∀ k, g k = some r) : Ev g r := ⟨0, fun k _ => h k⟩
theorem ev_pair {α β : Type} {g : Nat → Option α} {f : Nat → Option β} {a : α} {b : β} {h : α → β → Option Bool} (hg : Ev g a) (hf : Ev f b) (hh : h a b = some true) : ∃ k, ((g k).bind fun x => (f k).bind fun y => h x y) = some true :=
  Ev.rounds (Ev.bind hg (Ev.bind hf (ev_some fun _ => hh)))

/-! ### the reference's FormatInt writes the decimal numeral -/
theorem append_toList' (a b : ByteArray) : (a ++ b).data.toList = a.data.toList ++ b.data.toList := by simp
theorem bytes_ext' {a b : ByteArray} (h : a.data.toList = b.data.toList) : a = b := by
  cases a with
  | mk x =>
    cases b with
    | mk y =>
      have h' : x.toList = y.toList := h
      rw [Array.toList_inj.mp h']
def ofB (l : List UInt8) : ByteArray := ⟨l.toArray⟩
theorem ofB_toList (l : List UInt8) : (ofB l).data.toList = l := by unfold ofB; simp
theorem digit_of (m : Nat) (h : m < 10) : (Go.strOfNums [((48 + m : Nat) : Int) % 256]).data.toList = [UInt8.ofNat (48 + m)] := by
  have : ∀ i : Fin 10, (Go.strOfNums [((48 + i.val : Nat) : Int) % 256]).data.toList = [UInt8.ofNat (48 + i.val)] := by decide +kernel
  exact this ⟨m, h⟩
theorem num_size (v : Int) : (Go.strOfNums [v]).size = 1 := rfl
theorem dec_small (m : Nat) (h : m < 10) : Lib.decDigits m = [UInt8.ofNat (48 + m)] := Lib.decDigits_one h
theorem dec_big (m : Nat) (h : ¬ m < 10) : Lib.decDigits m = Lib.decDigits (m / 10) ++ [UInt8.ofNat (48 + m % 10)] := by rw [Lib.decDigits, dif_neg h]
theorem formatInt_loop : ∀ (d m : Nat) (s : ByteArray), m ≤ 9223372036854775808 → m < 10 ^ d → s.size + d ≤ 1000 → (m : Int) ≤ 9223372036854775807 → 0 < d →
    Ev (fun k => spec_FormatInt.l0 k (m : Int) s) (ofB (Lib.decDigits m ++ s.data.toList)) := by
  intro d
  induction d with
  | zero => intro m s _ _ _ _ h; omega
  | succ d ih =>
    intro m s hb h1 hs hb' _
    by_cases c : m < 10
    · rw [dec_small m c]
      have e : wrap64 (48 + (m : Int)) % 256 = ((48 + m : Nat) : Int) % 256 := by rw [w64 (by omega) (by omega)]; omega
      have ez : ofB ([UInt8.ofNat (48 + m)] ++ s.data.toList) = Go.strOfNums [((48 + m : Nat) : Int) % 256] ++ s := bytes_ext' (by rw [ofB_toList, append_toList', digit_of m c])
      rw [ez]
      refine Ev.step (f := fun _ => some _) (fun k => ?_) (Ev.now _)
      simp only [spec_FormatInt.l0, Option.bind_some]
      rw [if_neg (by omega), e, if_pos (by rw [num_size]; omega)]
    · have hp : (10 : Nat) ^ (d + 1) = 10 ^ d * 10 := Nat.pow_succ ..
      have hd : 0 < d := by
        rcases Nat.eq_zero_or_pos d with h0 | h0
        · subst h0; simp at h1; omega
        · exact h0
      have h2 : m / 10 < 10 ^ d := by omega
      have et : wrap64 (Int.tdiv (m : Int) 10) = ((m / 10 : Nat) : Int) := by
        rw [Int.tdiv_eq_ediv_of_nonneg (by omega), w64 (by omega) (by omega)]; omega
      have em : wrap64 (48 + Int.tmod (m : Int) 10) % 256 = ((48 + m % 10 : Nat) : Int) % 256 := by
        rw [Int.tmod_eq_emod_of_nonneg (by omega), w64 (by omega) (by omega)]; omega
      have ih2 := ih (m / 10) (Go.strOfNums [((48 + m % 10 : Nat) : Int) % 256] ++ s) (by omega) h2 (by rw [ByteArray.size_append, num_size]; omega) (by omega) hd
      have ez : Lib.decDigits m ++ s.data.toList = Lib.decDigits (m / 10) ++ (Go.strOfNums [((48 + m % 10 : Nat) : Int) % 256] ++ s).data.toList := by
        rw [dec_big m c, append_toList', digit_of (m % 10) (by omega), List.append_assoc]
      rw [ez]
      refine Ev.step (fun k => ?_) ih2
      simp only [spec_FormatInt.l0, Option.bind_some]
      rw [if_pos (by omega), em, et, if_pos (by rw [num_size]; omega)]
theorem tdiv_neg (m : Nat) : Int.tdiv (-(m : Int)) 10 = -((m / 10 : Nat) : Int) := by
  rw [Int.neg_tdiv]; rfl
theorem tmod_neg (m : Nat) : Int.tmod (-(m : Int)) 10 = -((m % 10 : Nat) : Int) := by
  rw [Int.neg_tmod]; rfl
theorem formatInt_neg : ∀ (d m : Nat), 0 < m → m ≤ 9223372036854775808 → m < 10 ^ d → d ≤ 900 →
    Ev (fun k => spec_FormatInt.f k (-(m : Int))) (ofB (45 :: Lib.decDigits m)) ∧ (Lib.decDigits m).length ≤ d := by
  intro d
  induction d with
  | zero => intro m h _ h1; simp at h1; omega
  | succ d ih =>
    intro m h0 hb h1 hd
    by_cases c : m < 10
    · rw [dec_small m c]
      have et : wrap64 (Int.tdiv (-(m : Int)) 10) = 0 := by rw [tdiv_neg, show m / 10 = 0 by omega]; exact (w64 (by decide) (by decide)).trans (by decide)
      have e : wrap64 (48 - -(m : Int)) % 256 = ((48 + m : Nat) : Int) % 256 := by rw [w64 (by omega) (by omega)]; omega
      have ez : ofB (45 :: [UInt8.ofNat (48 + m)]) = (⟨#[45]⟩ : ByteArray) ++ Go.strOfNums [((48 + m : Nat) : Int) % 256] := bytes_ext' (by rw [ofB_toList, append_toList', digit_of m c]; rfl)
      refine ⟨?_, by simp⟩
      rw [ez]
      refine Ev.step (f := fun _ => some _) (fun k => ?_) (Ev.now _)
      simp only [spec_FormatInt.f, Option.bind_some]
      rw [if_pos (by omega), if_pos et, e, if_pos (by rw [num_size]; omega)]
    · have hp : (10 : Nat) ^ (d + 1) = 10 ^ d * 10 := Nat.pow_succ ..
      obtain ⟨h2, h3⟩ := ih (m / 10) (by omega) (by omega) (by omega) (by omega)
      have et : wrap64 (Int.tdiv (-(m : Int)) 10) = -((m / 10 : Nat) : Int) := by rw [tdiv_neg, w64 (by omega) (by omega)]
      have em : wrap64 (48 - Int.tmod (-(m : Int)) 10) % 256 = ((48 + m % 10 : Nat) : Int) % 256 := by
        rw [tmod_neg, w64 (by omega) (by omega)]; omega
      have hl : (Lib.decDigits m).length = (Lib.decDigits (m / 10)).length + 1 := by rw [dec_big m c, List.length_append]; rfl
      have ez : ofB (45 :: Lib.decDigits m) = ofB (45 :: Lib.decDigits (m / 10)) ++ Go.strOfNums [((48 + m % 10 : Nat) : Int) % 256] := bytes_ext' (by
        rw [ofB_toList, append_toList', ofB_toList, digit_of (m % 10) (by omega), dec_big m c]; rfl)
      have hz : (ofB (45 :: Lib.decDigits (m / 10))).size = (Lib.decDigits (m / 10)).length + 1 := by
        show (ofB (45 :: Lib.decDigits (m / 10))).data.toList.length = _
        rw [ofB_toList]; rfl
      refine ⟨?_, by omega⟩
      rw [ez]
      have hE : Ev (fun k => (spec_FormatInt.f k (-((m / 10 : Nat) : Int))).bind fun t104 => (if t104.size + (Go.strOfNums [((48 + m % 10 : Nat) : Int) % 256]).size ≤ 9223372036854775807 then (some (t104 ++ (Go.strOfNums [((48 + m % 10 : Nat) : Int) % 256]))) else none)) (ofB (45 :: Lib.decDigits (m / 10)) ++ Go.strOfNums [((48 + m % 10 : Nat) : Int) % 256]) := by
        refine Ev.bind h2 ?_
        simp only [if_pos (show (ofB (45 :: Lib.decDigits (m / 10))).size + (Go.strOfNums [((48 + m % 10 : Nat) : Int) % 256]).size ≤ 9223372036854775807 by rw [num_size, hz]; omega)]
        exact Ev.now _
      refine Ev.step (fun k => ?_) hE
      simp only [spec_FormatInt.f, Option.bind_some]
      rw [if_pos (by omega), et, if_neg (by omega), em]
theorem spec_FormatInt_ev (n : Int) (h0 : -9223372036854775808 ≤ n) (h1 : n ≤ 9223372036854775807) : Ev (fun k => spec_FormatInt.f k n) (ofB (Lib.itoa n)) := by
  unfold Lib.itoa
  by_cases c : n < 0
  · rw [if_pos c]
    have h := (formatInt_neg 19 n.natAbs (by omega) (by omega) (by omega) (by omega)).1
    rw [show -(n.natAbs : Int) = n by omega] at h
    exact h
  · rw [if_neg c]
    have h := formatInt_loop 19 n.toNat ⟨#[]⟩ (by omega) (by omega) (by decide) (by omega) (by omega)
    rw [show ((n.toNat : Nat) : Int) = n by omega] at h
    have ez : Lib.decDigits n.toNat ++ (⟨#[]⟩ : ByteArray).data.toList = Lib.decDigits n.toNat := by simp
    rw [ez] at h
    refine Ev.step (fun k => ?_) h
    simp only [spec_FormatInt.f]
    rw [if_neg c]

theorem FnExactFormatInt_ (n : Int) (wn : (Lit.int .i64 n).wf = true) : ∃ k, spec_FormatInt.f k n = some ⟨(Lib.itoa n).toArray⟩ := by
  obtain ⟨h0, h1⟩ := bd64 wn
  obtain ⟨k, hk⟩ := spec_FormatInt_ev n h0 h1
  exact ⟨k, hk k (Nat.le_refl k)⟩

end Go.Proofs.YtojbjofngpcjaaaDoor.Pure
