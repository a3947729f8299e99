/- For every text, the program's ParseInt answers as the reference's does. No conditions. -/
import Derived.Test.YtbghkcgglhoopaaDoorMFnExactParseIntx0
import Derived.Test.YtbghkcgglhoopaaDoorMFnExactParseIntx1
import Derived.Test.YtbghkcgglhoopaaDoorMFnExactParseIntx2
import Derived.Test.YtbghkcgglhoopaaDoorMFnExactParseIntx3
import Derived.OpenShut
namespace Go.Proofs.YtbghkcgglhoopaaDoor.Pure
open Go.RowKit Go.Proofs.YtbghkcgglhoopaaDoor.MFnExactParseInt Go.Proofs.YtbghkcgglhoopaaDoorW.PrintWords Go.Proofs.YtbghkcgglhoopaaDoorW.PrintLast
set_option linter.unusedVariables false
set_option linter.unusedSimpArgs false

/-! ### base: numbers, reads, loops -/
theorem w64 {a : Int} (h0 : -9223372036854775808 ≤ a) (h1 : a ≤ 9223372036854775807) : wrap64 a = a := by
  unfold wrap64
  omega
theorem w64n {n : Nat} (h : n ≤ 9223372036854775807) : wrap64 (n : Int) = n := w64 (by omega) (by omega)
theorem bd64 {n : Int} (h : (Lit.int .i64 n).wf = true) : -9223372036854775808 ≤ n ∧ n ≤ 9223372036854775807 := Go.bounds_i64 h
theorem rd_nat (xs : List Int) (i : Nat) : rd xs (i : Int) = xs.getD i 0 := by simp [rd]
theorem rd_lt {xs : List Int} {i : Nat} (h : i < xs.length) : rd xs (i : Int) = xs[i] := by simp [rd, h]
theorem bt_nat {s : ByteArray} {i : Nat} (h : i < s.size) : bt s (i : Int) = (s[i].toNat : Int) := by simp [bt, h]
/-- Going up to n: what holds at n holds from i on. -/
theorem up_ind (n : Nat) (P : Nat → Prop) (h0 : P n) (hs : ∀ i, i < n → P (i + 1) → P i) : ∀ i, i ≤ n → P i := by
  have h : ∀ d i, i + d = n → P i := by
    intro d
    induction d with
    | zero => intro i hi; obtain rfl : i = n := by omega
              exact h0
    | succ d ih => intro i hi; exact hs i (by omega) (ih (i + 1) (by omega))
  intro i hi
  exact h (n - i) i (by omega)
theorem ev_some {α : Type} {g : Nat → Option α} {r : α} (h : ∀ k, g k = some r) : Ev g r := ⟨0, fun k _ => h k⟩
theorem ev_pair {α β : Type} {g : Nat → Option α} {f : Nat → Option β} {a : α} {b : β} {h : α → β → Option Bool} (hg : Ev g a) (hf : Ev f b) (hh : h a b = some true) : ∃ k, ((g k).bind fun x => (f k).bind fun y => h x y) = some true :=
  Ev.rounds (Ev.bind hg (Ev.bind hf (ev_some fun _ => hh)))

/-! ### the reference's FormatInt writes the decimal numeral -/
theorem append_toList' (a b : ByteArray) : (a ++ b).data.toList = a.data.toList ++ b.data.toList := by simp
theorem bytes_ext' {a b : ByteArray} (h : a.data.toList = b.data.toList) : a = b := by
  cases a with
  | mk x =>
    cases b with
    | mk y =>
      have h' : x.toList = y.toList := h
      rw [Array.toList_inj.mp h']
def ofB (l : List UInt8) : ByteArray := ⟨l.toArray⟩
theorem ofB_toList (l : List UInt8) : (ofB l).data.toList = l := by unfold ofB; simp
theorem digit_of (m : Nat) (h : m < 10) : (Go.strOfNums [((48 + m : Nat) : Int) % 256]).data.toList = [UInt8.ofNat (48 + m)] := by
  have : ∀ i : Fin 10, (Go.strOfNums [((48 + i.val : Nat) : Int) % 256]).data.toList = [UInt8.ofNat (48 + i.val)] := by decide +kernel
  exact this ⟨m, h⟩
theorem num_size (v : Int) : (Go.strOfNums [v]).size = 1 := rfl
theorem dec_small (m : Nat) (h : m < 10) : Lib.decDigits m = [UInt8.ofNat (48 + m)] := Lib.decDigits_one h
theorem dec_big (m : Nat) (h : ¬ m < 10) : Lib.decDigits m = Lib.decDigits (m / 10) ++ [UInt8.ofNat (48 + m % 10)] := by rw [Lib.decDigits, dif_neg h]
theorem formatInt_loop : ∀ (d m : Nat) (s : ByteArray), m ≤ 9223372036854775808 → m < 10 ^ d → s.size + d ≤ 1000 → (m : Int) ≤ 9223372036854775807 → 0 < d →
    Ev (fun k => spec_FormatInt.l0 k (m : Int) s) (ofB (Lib.decDigits m ++ s.data.toList)) := by
  intro d
  induction d with
  | zero => intro m s _ _ _ _ h; omega
  | succ d ih =>
    intro m s hb h1 hs hb' _
    by_cases c : m < 10
    · rw [dec_small m c]
      have e : wrap64 (48 + (m : Int)) % 256 = ((48 + m : Nat) : Int) % 256 := by rw [w64 (by omega) (by omega)]; omega
      have ez : ofB ([UInt8.ofNat (48 + m)] ++ s.data.toList) = Go.strOfNums [((48 + m : Nat) : Int) % 256] ++ s := bytes_ext' (by rw [ofB_toList, append_toList', digit_of m c])
      rw [ez]
      refine Ev.step (f := fun _ => some _) (fun k => ?_) (Ev.now _)
      simp only [spec_FormatInt.l0, Option.bind_some]
      rw [if_neg (by omega), e, if_pos (by rw [num_size]; omega)]
    · have hp : (10 : Nat) ^ (d + 1) = 10 ^ d * 10 := Nat.pow_succ ..
      have hd : 0 < d := by
        rcases Nat.eq_zero_or_pos d with h0 | h0
        · subst h0; simp at h1; omega
        · exact h0
      have h2 : m / 10 < 10 ^ d := by omega
      have et : wrap64 (Int.tdiv (m : Int) 10) = ((m / 10 : Nat) : Int) := by
        rw [Int.tdiv_eq_ediv_of_nonneg (by omega), w64 (by omega) (by omega)]; omega
      have em : wrap64 (48 + Int.tmod (m : Int) 10) % 256 = ((48 + m % 10 : Nat) : Int) % 256 := by
        rw [Int.tmod_eq_emod_of_nonneg (by omega), w64 (by omega) (by omega)]; omega
      have ih2 := ih (m / 10) (Go.strOfNums [((48 + m % 10 : Nat) : Int) % 256] ++ s) (by omega) h2 (by rw [ByteArray.size_append, num_size]; omega) (by omega) hd
      have ez : Lib.decDigits m ++ s.data.toList = Lib.decDigits (m / 10) ++ (Go.strOfNums [((48 + m % 10 : Nat) : Int) % 256] ++ s).data.toList := by
        rw [dec_big m c, append_toList', digit_of (m % 10) (by omega), List.append_assoc]
      rw [ez]
      refine Ev.step (fun k => ?_) ih2
      simp only [spec_FormatInt.l0, Option.bind_some]
      rw [if_pos (by omega), em, et, if_pos (by rw [num_size]; omega)]
theorem tdiv_neg (m : Nat) : Int.tdiv (-(m : Int)) 10 = -((m / 10 : Nat) : Int) := by
  rw [Int.neg_tdiv]; rfl
theorem tmod_neg (m : Nat) : Int.tmod (-(m : Int)) 10 = -((m % 10 : Nat) : Int) := by
  rw [Int.neg_tmod]; rfl
theorem formatInt_neg : ∀ (d m : Nat), 0 < m → m ≤ 9223372036854775808 → m < 10 ^ d → d ≤ 900 →
    Ev (fun k => spec_FormatInt.f k (-(m : Int))) (ofB (45 :: Lib.decDigits m)) ∧ (Lib.decDigits m).length ≤ d := by
  intro d
  induction d with
  | zero => intro m h _ h1; simp at h1; omega
  | succ d ih =>
    intro m h0 hb h1 hd
    by_cases c : m < 10
    · rw [dec_small m c]
      have et : wrap64 (Int.tdiv (-(m : Int)) 10) = 0 := by rw [tdiv_neg, show m / 10 = 0 by omega]; exact (w64 (by decide) (by decide)).trans (by decide)
      have e : wrap64 (48 - -(m : Int)) % 256 = ((48 + m : Nat) : Int) % 256 := by rw [w64 (by omega) (by omega)]; omega
      have ez : ofB (45 :: [UInt8.ofNat (48 + m)]) = (⟨#[45]⟩ : ByteArray) ++ Go.strOfNums [((48 + m : Nat) : Int) % 256] := bytes_ext' (by rw [ofB_toList, append_toList', digit_of m c]; rfl)
      refine ⟨?_, by simp⟩
      rw [ez]
      refine Ev.step (f := fun _ => some _) (fun k => ?_) (Ev.now _)
      simp only [spec_FormatInt.f, Option.bind_some]
      rw [if_pos (by omega), if_pos et, e, if_pos (by rw [num_size]; omega)]
    · have hp : (10 : Nat) ^ (d + 1) = 10 ^ d * 10 := Nat.pow_succ ..
      obtain ⟨h2, h3⟩ := ih (m / 10) (by omega) (by omega) (by omega) (by omega)
      have et : wrap64 (Int.tdiv (-(m : Int)) 10) = -((m / 10 : Nat) : Int) := by rw [tdiv_neg, w64 (by omega) (by omega)]
      have em : wrap64 (48 - Int.tmod (-(m : Int)) 10) % 256 = ((48 + m % 10 : Nat) : Int) % 256 := by
        rw [tmod_neg, w64 (by omega) (by omega)]; omega
      have hl : (Lib.decDigits m).length = (Lib.decDigits (m / 10)).length + 1 := by rw [dec_big m c, List.length_append]; rfl
      have ez : ofB (45 :: Lib.decDigits m) = ofB (45 :: Lib.decDigits (m / 10)) ++ Go.strOfNums [((48 + m % 10 : Nat) : Int) % 256] := bytes_ext' (by
        rw [ofB_toList, append_toList', ofB_toList, digit_of (m % 10) (by omega), dec_big m c]; rfl)
      have hz : (ofB (45 :: Lib.decDigits (m / 10))).size = (Lib.decDigits (m / 10)).length + 1 := by
        show (ofB (45 :: Lib.decDigits (m / 10))).data.toList.length = _
        rw [ofB_toList]; rfl
      refine ⟨?_, by omega⟩
      rw [ez]
      have hE : Ev (fun k => (spec_FormatInt.f k (-((m / 10 : Nat) : Int))).bind fun t104 => (if t104.size + (Go.strOfNums [((48 + m % 10 : Nat) : Int) % 256]).size ≤ 9223372036854775807 then (some (t104 ++ (Go.strOfNums [((48 + m % 10 : Nat) : Int) % 256]))) else none)) (ofB (45 :: Lib.decDigits (m / 10)) ++ Go.strOfNums [((48 + m % 10 : Nat) : Int) % 256]) := by
        refine Ev.bind h2 ?_
        simp only [if_pos (show (ofB (45 :: Lib.decDigits (m / 10))).size + (Go.strOfNums [((48 + m % 10 : Nat) : Int) % 256]).size ≤ 9223372036854775807 by rw [num_size, hz]; omega)]
        exact Ev.now _
      refine Ev.step (fun k => ?_) hE
      simp only [spec_FormatInt.f, Option.bind_some]
      rw [if_pos (by omega), et, if_neg (by omega), em]
theorem spec_FormatInt_ev (n : Int) (h0 : -9223372036854775808 ≤ n) (h1 : n ≤ 9223372036854775807) : Ev (fun k => spec_FormatInt.f k n) (ofB (Lib.itoa n)) := by
  unfold Lib.itoa
  by_cases c : n < 0
  · rw [if_pos c]
    have h := (formatInt_neg 19 n.natAbs (by omega) (by omega) (by omega) (by omega)).1
    rw [show -(n.natAbs : Int) = n by omega] at h
    exact h
  · rw [if_neg c]
    have h := formatInt_loop 19 n.toNat ⟨#[]⟩ (by omega) (by omega) (by decide) (by omega) (by omega)
    rw [show ((n.toNat : Nat) : Int) = n by omega] at h
    have ez : Lib.decDigits n.toNat ++ (⟨#[]⟩ : ByteArray).data.toList = Lib.decDigits n.toNat := by simp
    rw [ez] at h
    refine Ev.step (fun k => ?_) h
    simp only [spec_FormatInt.f]
    rw [if_neg c]

/-! ### numerals are read back -/
theorem dec_digit : ∀ (d m : Nat), m < 10 ^ d → ∀ c ∈ Lib.decDigits m, 48 ≤ c.toNat ∧ c.toNat ≤ 57 := by
  have one : ∀ i, i < 10 → (UInt8.ofNat (48 + i)).toNat = 48 + i := by
    intro i hi
    have : ∀ j : Fin 10, (UInt8.ofNat (48 + j.val)).toNat = 48 + j.val := by decide +kernel
    exact this ⟨i, hi⟩
  intro d
  induction d with
  | zero =>
    intro m h c hc
    have : m = 0 := by simpa using h
    subst this
    rw [dec_small 0 (by omega)] at hc
    have hc := List.mem_singleton.mp hc
    rw [hc, one 0 (by omega)]
    omega
  | succ d ih =>
    intro m h c hc
    by_cases q : m < 10
    · rw [dec_small m q] at hc
      have hc := List.mem_singleton.mp hc
      rw [hc, one m q]
      omega
    · rw [dec_big m q] at hc
      have hp : (10 : Nat) ^ (d + 1) = 10 ^ d * 10 := Nat.pow_succ ..
      rcases List.mem_append.mp hc with hc | hc
      · exact ih (m / 10) (by omega) c hc
      · have hc := List.mem_singleton.mp hc
        rw [hc, one (m % 10) (by omega)]
        omega
theorem digit_toNat (i : Nat) (h : i < 10) : (UInt8.ofNat (48 + i)).toNat = 48 + i := by
  have : ∀ j : Fin 10, (UInt8.ofNat (48 + j.val)).toNat = 48 + j.val := by decide +kernel
  exact this ⟨i, h⟩
theorem dec_ne (m : Nat) : Lib.decDigits m ≠ [] := by
  by_cases q : m < 10
  · rw [dec_small m q]; simp
  · rw [dec_big m q]; simp
theorem dec_len : ∀ (d m : Nat), m < 10 ^ d → 0 < d → (Lib.decDigits m).length ≤ d := by
  intro d
  induction d with
  | zero => intro m _ h; omega
  | succ d ih =>
    intro m h _
    by_cases q : m < 10
    · rw [dec_small m q]; simp
    · rw [dec_big m q, List.length_append]
      have hp : (10 : Nat) ^ (d + 1) = 10 ^ d * 10 := Nat.pow_succ ..
      have hd : 0 < d := by
        rcases Nat.eq_zero_or_pos d with h0 | h0
        · subst h0; simp at h; omega
        · exact h0
      have := ih (m / 10) (by omega) hd
      simp only [List.length_cons, List.length_nil]
      omega
theorem parse_append : ∀ (l : List UInt8) (a : Nat) (c : UInt8), Lib.parseUint10 a (l ++ [c]) = match Lib.parseUint10 a l with | .ok b => Lib.parseUint10 b [c] | .«syntax» => .«syntax» | .range => .range := by
  intro l
  induction l with
  | nil => intro a c; rfl
  | cons x l ih =>
    intro a c
    rw [List.cons_append]
    simp only [Lib.parseUint10]
    by_cases h1 : 48 ≤ x.toNat ∧ x.toNat ≤ 57
    · rw [if_pos h1, if_pos h1]
      by_cases h2 : 1844674407370955162 ≤ a
      · rw [if_pos h2, if_pos h2]
      · rw [if_neg h2, if_neg h2]
        by_cases h3 : 18446744073709551616 ≤ a * 10 + (x.toNat - 48)
        · rw [if_pos h3, if_pos h3]
        · rw [if_neg h3, if_neg h3]
          exact ih _ c
    · rw [if_neg h1, if_neg h1]
theorem parse_dec : ∀ (d m : Nat), m < 10 ^ d → m < 18446744073709551616 → Lib.parseUint10 0 (Lib.decDigits m) = .ok m := by
  have one : ∀ a i, i < 10 → a * 10 + i < 18446744073709551616 → Lib.parseUint10 a [UInt8.ofNat (48 + i)] = .ok (a * 10 + i) := by
    intro a i hi h
    simp only [Lib.parseUint10]
    rw [digit_toNat i hi, if_pos (by omega), if_neg (by omega), if_neg (by omega)]
    congr 1
    omega
  intro d
  induction d with
  | zero =>
    intro m h _
    have : m = 0 := by simpa using h
    subst this
    rw [dec_small 0 (by omega), one 0 0 (by omega) (by omega)]
  | succ d ih =>
    intro m h hm
    by_cases q : m < 10
    · rw [dec_small m q, one 0 m q (by omega)]
      congr 1
      omega
    · have hp : (10 : Nat) ^ (d + 1) = 10 ^ d * 10 := Nat.pow_succ ..
      rw [dec_big m q, parse_append, ih (m / 10) (by omega) (by omega)]
      show Lib.parseUint10 (m / 10) [UInt8.ofNat (48 + m % 10)] = _
      rw [one (m / 10) (m % 10) (by omega) (by omega)]
      congr 1
      omega
theorem atoi_itoa (v : Int) (h0 : -9223372036854775808 ≤ v) (h1 : v ≤ 9223372036854775807) : Lib.atoiAll (Lib.itoa v) = .ok v := by
  unfold Lib.itoa
  by_cases c : v < 0
  · rw [if_pos c, Lib.atoiAll_minus]
    have hp : Lib.parseMag (Lib.decDigits v.natAbs) = .ok v.natAbs := by
      unfold Lib.parseMag
      rw [if_neg (dec_ne _), parse_dec 20 v.natAbs (by omega) (by omega)]
    rw [hp]
    unfold Lib.signed
    simp only
    rw [if_neg (by omega)]
    congr 1
    omega
  · rw [if_neg c]
    cases hd : Lib.decDigits v.toNat with
    | nil => exact absurd hd (dec_ne _)
    | cons x r =>
      have hx := dec_digit 20 v.toNat (by omega) x (by rw [hd]; exact List.mem_cons_self)
      rw [Lib.atoiAll_plain x r (by omega) (by omega)]
      have hp : Lib.parseMag (x :: r) = .ok v.toNat := by
        rw [← hd]
        unfold Lib.parseMag
        rw [if_neg (dec_ne _), parse_dec 20 v.toNat (by omega) (by omega)]
      rw [hp]
      unfold Lib.signless
      simp only
      rw [if_neg (by omega)]
      congr 1
      omega

/-! ### the reference's ParseInt -/
def digB (c : UInt8) : Prop := 48 ≤ c.toNat ∧ c.toNat ≤ 57
instance (c : UInt8) : Decidable (digB c) := inferInstanceAs (Decidable (_ ∧ _))
theorem bt_mid {s : ByteArray} {pre r : List UInt8} {c : UInt8} (h : s.data.toList = pre ++ c :: r) : bt s (pre.length : Int) = (c.toNat : Int) := by
  have hl : s.size = (pre ++ c :: r).length := by rw [← h]; rfl
  have hlt : pre.length < s.size := by rw [hl]; simp
  rw [bt_nat hlt]
  have e : s[pre.length] = (pre ++ c :: r)[pre.length]'(by simp) := by
    have : s[pre.length] = s.data.toList[pre.length]'(by rw [h]; simp) := rfl
    rw [this]
    congr 1
  rw [e]
  simp
theorem isDigits_loop (t : ByteArray) (ht : t.size ≤ 1048576) : ∀ (r pre : List UInt8), t.data.toList = pre ++ r →
    Ev (fun k => spec_IsDigits.l0 k t (pre.length : Int)) (decide ((∀ c ∈ r, digB c) ∧ 0 < t.size)) := by
  intro r
  induction r with
  | nil =>
    intro pre h
    have hl : t.size = pre.length := by show t.data.toList.length = _; rw [h]; simp
    refine Ev.step (f := fun _ => some _) (fun k => ?_) (Ev.now _)
    simp only [spec_IsDigits.l0]
    rw [if_neg (by omega)]
    congr 1
    simp
  | cons c r ih =>
    intro pre h
    have hl : t.size = pre.length + (r.length + 1) := by show t.data.toList.length = _; rw [h]; simp
    have hb := bt_mid h
    by_cases q : digB c
    · have e : decide ((∀ x ∈ c :: r, digB x) ∧ 0 < t.size) = decide ((∀ x ∈ r, digB x) ∧ 0 < t.size) := by simp [q]
      have hi : (pre ++ [c]).length = pre.length + 1 := by simp
      have ih2 := ih (pre ++ [c]) (by rw [h]; simp)
      rw [hi] at ih2
      rw [e]
      refine Ev.step (fun k => ?_) ih2
      simp only [spec_IsDigits.l0]
      have q' : 48 ≤ c.toNat ∧ c.toNat ≤ 57 := q
      rw [if_pos (by omega), if_pos (by omega), hb, if_neg (by omega), if_neg (by omega), show wrap64 ((pre.length : Int) + 1) = ((pre.length + 1 : Nat) : Int) by rw [w64 (by omega) (by omega)]; omega]
    · have e : decide ((∀ x ∈ c :: r, digB x) ∧ 0 < t.size) = false := by simp [q]
      rw [e]
      refine Ev.step (f := fun _ => some _) (fun k => ?_) (Ev.now _)
      simp only [spec_IsDigits.l0]
      have q' : ¬ (48 ≤ c.toNat ∧ c.toNat ≤ 57) := q
      rw [if_pos (by omega), if_pos (by omega), hb]
      by_cases q2 : c.toNat < 48
      · rw [if_pos (by omega)]
      · rw [if_neg (by omega), if_pos (by omega)]
theorem spec_IsDigits_ev (t : ByteArray) (ht : t.size ≤ 1048576) : Ev (fun k => spec_IsDigits.f k t) (decide ((∀ c ∈ t.data.toList, digB c) ∧ 0 < t.size)) := isDigits_loop t ht t.data.toList [] rfl
/-- The digits, gone through; none: beyond the least int. -/
def magL : Nat → List UInt8 → Option Nat
  | a, [] => some a
  | a, c :: r => if 9223372036854775808 < a * 10 + (c.toNat - 48) then none else magL (a * 10 + (c.toNat - 48)) r
theorem magL_le : ∀ (l : List UInt8) (a m : Nat), a ≤ 9223372036854775808 → magL a l = some m → m ≤ 9223372036854775808 := by
  intro l
  induction l with
  | nil => intro a m h e; simp only [magL] at e; injection e with e; omega
  | cons c l ih =>
    intro a m h e
    simp only [magL] at e
    by_cases q : 9223372036854775808 < a * 10 + (c.toNat - 48)
    · rw [if_pos q] at e; cases e
    · rw [if_neg q] at e
      exact ih _ m (by omega) e
theorem magL_append : ∀ (l : List UInt8) (a : Nat) (c : UInt8), magL a (l ++ [c]) = (magL a l).bind fun b => magL b [c] := by
  intro l
  induction l with
  | nil => intro a c; rfl
  | cons x l ih =>
    intro a c
    rw [List.cons_append]
    simp only [magL]
    by_cases q : 9223372036854775808 < a * 10 + (x.toNat - 48)
    · rw [if_pos q, if_pos q]; rfl
    · rw [if_neg q, if_neg q, ih]
      rfl
theorem magL_dec : ∀ (d m : Nat), m < 10 ^ d → m ≤ 9223372036854775808 → magL 0 (Lib.decDigits m) = some m := by
  have one : ∀ a i, i < 10 → a * 10 + i ≤ 9223372036854775808 → magL a [UInt8.ofNat (48 + i)] = some (a * 10 + i) := by
    intro a i hi h
    simp only [magL]
    rw [digit_toNat i hi, if_neg (by omega)]
    congr 1
    omega
  intro d
  induction d with
  | zero =>
    intro m h _
    have : m = 0 := by simpa using h
    subst this
    rw [dec_small 0 (by omega), one 0 0 (by omega) (by omega)]
  | succ d ih =>
    intro m h hm
    by_cases q : m < 10
    · rw [dec_small m q, one 0 m q (by omega)]
      congr 1
      omega
    · have hp : (10 : Nat) ^ (d + 1) = 10 ^ d * 10 := Nat.pow_succ ..
      rw [dec_big m q, magL_append, ih (m / 10) (by omega) (by omega), Option.bind_some, one (m / 10) (m % 10) (by omega) (by omega)]
      congr 1
      omega
/-- What stands behind the loop. -/
def finI (s : ByteArray) (neg : Bool) (m : Nat) : Int × Bool :=
  if neg = true then (if Lib.itoa (-(m : Int)) = s.toList then (-(m : Int), true) else (0, false))
  else if m = 9223372036854775808 then (0, false) else (if Lib.itoa (m : Int) = s.toList then ((m : Int), true) else (0, false))
theorem ofB_toL (l : List UInt8) : (ofB l).toList = l := by rw [ByteArray.toList_eq, ofB_toList]
theorem parseInt_loop (s t : ByteArray) (neg : Bool) (ht : t.size ≤ 1048576) (hd : ∀ c ∈ t.data.toList, digB c) : ∀ (r pre : List UInt8) (a : Nat), t.data.toList = pre ++ r → a ≤ 9223372036854775808 →
    Ev (fun k => spec_ParseInt.l0 k s neg t (-(a : Int)) (pre.length : Int)) (match magL a r with | none => (0, false) | some m => finI s neg m) := by
  intro r
  induction r with
  | nil =>
    intro pre a h ha
    have hl : t.size = pre.length := by show t.data.toList.length = _; rw [h]; simp
    show Ev _ (finI s neg a)
    unfold finI
    cases neg with
    | true =>
      have hf := spec_FormatInt_ev (-(a : Int)) (by omega) (by omega)
      have hE : Ev (fun k => (spec_FormatInt.f k (-(a : Int))).bind fun t115 => (if t115.toList = s.toList then (some (-(a : Int), true)) else (some (0, false)))) (if Lib.itoa (-(a : Int)) = s.toList then (-(a : Int), true) else (0, false)) := by
        refine Ev.bind hf ?_
        rw [ofB_toL]
        by_cases q : Lib.itoa (-(a : Int)) = s.toList
        · simp only [if_pos q]; exact Ev.now _
        · simp only [if_neg q]; exact Ev.now _
      refine Ev.step (fun k => ?_) hE
      simp only [spec_ParseInt.l0]
      rw [if_neg (by omega)]
      rfl
    | false =>
      by_cases q0 : a = 9223372036854775808
      · refine Ev.step (f := fun _ => some _) (fun k => ?_) (Ev.now _)
        simp only [spec_ParseInt.l0]
        rw [if_neg (by omega), if_neg (by decide), if_pos (by omega), if_neg (by decide), if_pos q0]
      · have ew : wrap64 (- -(a : Int)) = (a : Int) := by rw [Int.neg_neg, w64 (by omega) (by omega)]
        have hf := spec_FormatInt_ev (a : Int) (by omega) (by omega)
        have hE : Ev (fun k => (spec_FormatInt.f k (a : Int)).bind fun t115 => (if t115.toList = s.toList then (some ((a : Int), true)) else (some (0, false)))) (if Lib.itoa (a : Int) = s.toList then ((a : Int), true) else (0, false)) := by
          refine Ev.bind hf ?_
          rw [ofB_toL]
          by_cases q : Lib.itoa (a : Int) = s.toList
          · simp only [if_pos q]; exact Ev.now _
          · simp only [if_neg q]; exact Ev.now _
        rw [if_neg (by decide), if_neg q0]
        refine Ev.step (fun k => ?_) hE
        simp only [spec_ParseInt.l0]
        rw [if_neg (by omega), if_neg (by decide), if_neg (by omega), ew]
  | cons c r ih =>
    intro pre a h ha
    have hl : t.size = pre.length + (r.length + 1) := by show t.data.toList.length = _; rw [h]; simp
    have hb := bt_mid h
    have q' : 48 ≤ c.toNat ∧ c.toNat ≤ 57 := hd c (by rw [h]; simp)
    have e1 : wrap64 (wrap64 (bt t (pre.length : Int)) - 48) = ((c.toNat - 48 : Nat) : Int) := by rw [hb, w64 (a := (c.toNat : Int)) (by omega) (by omega), w64 (by omega) (by omega)]; omega
    have e2 : wrap64 (Int.tdiv (wrap64 ((-9223372036854775808) + ((c.toNat - 48 : Nat) : Int))) 10) = -(((9223372036854775808 - (c.toNat - 48)) / 10 : Nat) : Int) := by
      rw [w64 (a := (-9223372036854775808) + ((c.toNat - 48 : Nat) : Int)) (by omega) (by omega), show (-9223372036854775808) + ((c.toNat - 48 : Nat) : Int) = -((9223372036854775808 - (c.toNat - 48) : Nat) : Int) by omega, tdiv_neg, w64 (by omega) (by omega)]
    by_cases q : 9223372036854775808 < a * 10 + (c.toNat - 48)
    · have em : magL a (c :: r) = none := by simp only [magL]; rw [if_pos q]
      rw [em]
      refine Ev.step (f := fun _ => some _) (fun k => ?_) (Ev.now _)
      simp only [spec_ParseInt.l0]
      rw [if_pos (by omega), if_pos (by omega), e1, e2, if_pos (by omega)]
    · have em : magL a (c :: r) = magL (a * 10 + (c.toNat - 48)) r := by simp only [magL]; rw [if_neg q]
      rw [em]
      have hi : (pre ++ [c]).length = pre.length + 1 := by simp
      have ih2 := ih (pre ++ [c]) (a * 10 + (c.toNat - 48)) (by rw [h]; simp) (by omega)
      rw [hi] at ih2
      refine Ev.step (fun k => ?_) ih2
      simp only [spec_ParseInt.l0]
      have hw : wrap64 (wrap64 (-(a : Int) * 10) - ((c.toNat - 48 : Nat) : Int)) = -((a * 10 + (c.toNat - 48) : Nat) : Int) := by
        rw [w64 (a := -(a : Int) * 10) (by omega) (by omega), w64 (by omega) (by omega)]; omega
      rw [if_pos (by omega), if_pos (by omega), e1, e2, if_neg (by omega), hw, show wrap64 ((pre.length : Int) + 1) = ((pre.length + 1 : Nat) : Int) by rw [w64 (by omega) (by omega)]; omega]
/-- What the reference does behind the sign. -/
def behind (s : ByteArray) (neg : Bool) (l : List UInt8) : Int × Bool :=
  if (∀ c ∈ l, digB c) ∧ 0 < l.length ∧ l.length ≤ 19 then (match magL 0 l with | none => (0, false) | some m => finI s neg m) else (0, false)
theorem behind_ev (s t : ByteArray) (neg : Bool) (ht : t.size ≤ 1048576) : Ev (fun k => spec_ParseInt.j1 k s neg t) (behind s neg t.data.toList) := by
  have hz : t.data.toList.length = t.size := rfl
  by_cases q : (∀ c ∈ t.data.toList, digB c) ∧ 0 < t.size
  · have hdig := spec_IsDigits_ev t ht
    rw [decide_eq_true q] at hdig
    by_cases q2 : t.size ≤ 19
    · have hb : behind s neg t.data.toList = (match magL 0 t.data.toList with | none => (0, false) | some m => finI s neg m) := by
        unfold behind
        rw [if_pos ⟨q.1, by omega, by omega⟩]
      rw [hb]
      have hloop := parseInt_loop s t neg ht q.1 t.data.toList [] 0 rfl (by omega)
      have hj2 : Ev (fun k => spec_ParseInt.j2 k s neg t (decide ((t.size : Int) > 19))) (match magL 0 t.data.toList with | none => (0, false) | some m => finI s neg m) := by
        refine Ev.step (fun k => ?_) hloop
        simp only [spec_ParseInt.j2]
        rw [decide_eq_false (by omega), if_neg (by decide)]
        rfl
      have hE : Ev (fun k => (spec_IsDigits.f k t).bind fun t114 => (if t114 = true then (spec_ParseInt.j2 k s neg t (decide ((t.size : Int) > 19))) else (spec_ParseInt.j2 k s neg t true))) (match magL 0 t.data.toList with | none => (0, false) | some m => finI s neg m) := by
        refine Ev.bind hdig ?_
        simp only [if_pos]
        exact hj2
      exact Ev.step (fun k => rfl) hE
    · have hb : behind s neg t.data.toList = (0, false) := by
        unfold behind
        rw [if_neg (fun h => by omega)]
      rw [hb]
      have hj2 : Ev (fun k => spec_ParseInt.j2 k s neg t (decide ((t.size : Int) > 19))) (0, false) := by
        refine Ev.step (f := fun _ => some _) (fun k => ?_) (Ev.now _)
        simp only [spec_ParseInt.j2]
        rw [decide_eq_true (by omega), if_pos rfl]
      have hE : Ev (fun k => (spec_IsDigits.f k t).bind fun t114 => (if t114 = true then (spec_ParseInt.j2 k s neg t (decide ((t.size : Int) > 19))) else (spec_ParseInt.j2 k s neg t true))) (0, false) := by
        refine Ev.bind hdig ?_
        simp only [if_pos]
        exact hj2
      exact Ev.step (fun k => rfl) hE
  · have hdig := spec_IsDigits_ev t ht
    rw [decide_eq_false q] at hdig
    have hb : behind s neg t.data.toList = (0, false) := by
      unfold behind
      rw [if_neg (fun h => q ⟨h.1, by omega⟩)]
    rw [hb]
    have hj2 : Ev (fun k => spec_ParseInt.j2 k s neg t true) (0, false) := by
      refine Ev.step (f := fun _ => some _) (fun k => ?_) (Ev.now _)
      simp only [spec_ParseInt.j2]
      exact if_pos trivial
    have hE : Ev (fun k => (spec_IsDigits.f k t).bind fun t114 => (if t114 = true then (spec_ParseInt.j2 k s neg t (decide ((t.size : Int) > 19))) else (spec_ParseInt.j2 k s neg t true))) (0, false) := by
      refine Ev.bind hdig ?_
      simp only [if_neg (show ¬ (false = true) by decide)]
      exact hj2
    exact Ev.step (fun k => rfl) hE
/-- The reference's ParseInt. -/
def specB (s : ByteArray) : Int × Bool := match s.data.toList with
  | [] => (0, false)
  | c :: r => if c.toNat = 45 then behind s true r else behind s false (c :: r)
theorem extract_tail (s : ByteArray) (c : UInt8) (r : List UInt8) (h : s.data.toList = c :: r) : (s.extract 1 s.size).data.toList = r := by
  have hz : s.size = r.length + 1 := by show s.data.toList.length = _; rw [h]; rfl
  rw [ByteArray.data_extract, Array.toList_extract, h, hz]
  simp
theorem spec_ParseInt_ev (s : ByteArray) (hs : s.size ≤ 1048576) : Ev (fun k => spec_ParseInt.f k s) (specB s) := by
  unfold spec_ParseInt.f specB
  cases h : s.data.toList with
  | nil =>
    have hz : s.size = 0 := by show s.data.toList.length = _; rw [h]; rfl
    have hb := behind_ev s s false hs
    have e : behind s false s.data.toList = (0, false) := by unfold behind; rw [h]; rw [if_neg (fun q => by simp at q)]
    rw [e] at hb
    simp only [if_neg (show ¬ ((s.size : Int) > 0) by omega)]
    refine Ev.step (fun k => ?_) hb
    simp only [spec_ParseInt.j0]
    rw [if_neg (by decide)]
  | cons c r =>
    have hz : s.size = r.length + 1 := by show s.data.toList.length = _; rw [h]; rfl
    have hb0 : bt s 0 = (c.toNat : Int) := bt_mid (pre := []) h
    simp only [if_pos (show (s.size : Int) > 0 by omega), if_pos (show 0 < (s.size : Int) by omega), hb0]
    by_cases q : c.toNat = 45
    · have eb : ((c.toNat : Int) == 45) = true := by rw [q]; rfl
      rw [eb, if_pos q]
      have ht := extract_tail s c r h
      have htz : (s.extract 1 s.size).size = r.length := by show (s.extract 1 s.size).data.toList.length = _; rw [ht]
      have hb := behind_ev s (s.extract 1 s.size) true (by omega)
      rw [ht] at hb
      refine Ev.step (fun k => ?_) hb
      simp only [spec_ParseInt.j0]
      rw [if_pos trivial, if_pos (by omega)]
    · have eb : ((c.toNat : Int) == 45) = false := by
        rw [beq_eq_false_iff_ne]
        omega
      rw [eb, if_neg q]
      have hb := behind_ev s s false hs
      rw [h] at hb
      refine Ev.step (fun k => ?_) hb
      simp only [spec_ParseInt.j0]
      rw [if_neg (by decide)]
theorem finI_out (s : ByteArray) (neg : Bool) (m : Nat) (hm : m ≤ 9223372036854775808) (hno : ∀ v : Int, -9223372036854775808 ≤ v → v ≤ 9223372036854775807 → Lib.itoa v ≠ s.toList) : finI s neg m = (0, false) := by
  unfold finI
  cases neg with
  | true => rw [if_pos rfl, if_neg (hno _ (by omega) (by omega))]
  | false =>
    rw [if_neg (by decide)]
    by_cases q : m = 9223372036854775808
    · rw [if_pos q]
    · rw [if_neg q, if_neg (hno _ (by omega) (by omega))]
theorem behind_out (s : ByteArray) (neg : Bool) (l : List UInt8) (hno : ∀ v : Int, -9223372036854775808 ≤ v → v ≤ 9223372036854775807 → Lib.itoa v ≠ s.toList) : behind s neg l = (0, false) := by
  unfold behind
  by_cases q : (∀ c ∈ l, digB c) ∧ 0 < l.length ∧ l.length ≤ 19
  · rw [if_pos q]
    cases hm : magL 0 l with
    | none => rfl
    | some m => exact finI_out s neg m (magL_le l 0 m (by omega) hm) hno
  · rw [if_neg q]
theorem behind_dec (s : ByteArray) (neg : Bool) (m : Nat) (hm : m ≤ 9223372036854775808) : behind s neg (Lib.decDigits m) = finI s neg m := by
  unfold behind
  have hl := dec_len 19 m (by omega) (by omega)
  have hp : 0 < (Lib.decDigits m).length := List.length_pos_iff.mpr (dec_ne m)
  rw [if_pos ⟨fun c hc => dec_digit 19 m (by omega) c hc, hp, hl⟩, magL_dec 19 m (by omega) hm]

theorem specB_is (s : ByteArray) : specB s = parseI s := by
  by_cases hv : ∃ v : Int, (-9223372036854775808 ≤ v ∧ v ≤ 9223372036854775807) ∧ Lib.itoa v = s.toList
  · obtain ⟨v, ⟨b0, b1⟩, hv⟩ := hv
    have hd : s.data.toList = Lib.itoa v := by rw [hv, ByteArray.toList_eq]
    have hI : parseI s = (v, true) := by
      unfold parseI
      rw [hd, atoi_itoa v b0 b1]
      simp only
      rw [if_pos hv]
    rw [hI]
    unfold specB
    by_cases c : v < 0
    · have e : Lib.itoa v = 45 :: Lib.decDigits v.natAbs := by unfold Lib.itoa; rw [if_pos c]
      rw [hd, e]
      simp only
      have hvm : -((v.natAbs : Nat) : Int) = v := by omega
      rw [if_pos (show (45 : UInt8).toNat = 45 from rfl), behind_dec s true v.natAbs (by omega)]
      unfold finI
      rw [if_pos rfl, hvm, if_pos hv]
    · have e : Lib.itoa v = Lib.decDigits v.toNat := by unfold Lib.itoa; rw [if_neg c]
      have hvm : ((v.toNat : Nat) : Int) = v := by omega
      have hbd := behind_dec s false v.toNat (by omega)
      have hfi : finI s false v.toNat = (v, true) := by
        unfold finI
        rw [if_neg (by decide), if_neg (by omega), hvm, if_pos hv]
      rw [hd, e]
      cases hdd : Lib.decDigits v.toNat with
      | nil => exact absurd hdd (dec_ne _)
      | cons x r =>
        have hx := dec_digit 19 v.toNat (by omega) x (by rw [hdd]; exact List.mem_cons_self)
        simp only
        rw [if_neg (by omega), ← hdd, hbd, hfi]
  · have hno : ∀ v : Int, -9223372036854775808 ≤ v → v ≤ 9223372036854775807 → Lib.itoa v ≠ s.toList := fun v b0 b1 h => hv ⟨v, ⟨b0, b1⟩, h⟩
    have hI : parseI s = (0, false) := by
      unfold parseI
      cases ha : Lib.atoiAll s.data.toList with
      | ok v =>
        obtain ⟨b0, b1⟩ := Lib.atoiAll_bounds ha
        simp only
        rw [if_neg (hno v b0 b1)]
      | «syntax» => rfl
      | range => rfl
    rw [hI]
    unfold specB
    cases h : s.data.toList with
    | nil => rfl
    | cons c r =>
      simp only
      by_cases q : c.toNat = 45
      · rw [if_pos q]; exact behind_out s true r hno
      · rw [if_neg q]; exact behind_out s false (c :: r) hno
theorem FnExactParseInt_ (s : ByteArray) : ∃ k, s.size ≤ 1048576 → spec_ParseInt.f k s = some (parseI s) := by
  by_cases hs : s.size ≤ 1048576
  · obtain ⟨k, hk⟩ := spec_ParseInt_ev s hs
    rw [specB_is s] at hk
    exact ⟨k, fun _ => hk k (Nat.le_refl k)⟩
  · exact ⟨0, fun h => absurd h hs⟩

end Go.Proofs.YtbghkcgglhoopaaDoor.Pure
