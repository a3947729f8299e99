/- For all arguments, the program's PositionOf answers as the reference's does, and leaves its arguments alone. No conditions. -/
import Derived.Test.YtdgoeomelnlekaaMFnExactPositionOfx0
import Derived.Test.YtdgoeomelnlekaaMFnExactPositionOfx1
import Derived.OpenShut
namespace Go.Proofs.Ytdgoeomelnlekaa.Pure
open Go.RowKit Go.Proofs.Ytdgoeomelnlekaa.MFnExactPositionOf Go.Proofs.YtdgoeomelnlekaaW.PrintWords Go.Proofs.YtdgoeomelnlekaaW.PrintLast
set_option linter.unusedVariables false
set_option linter.unusedSimpArgs false

/-! ### base: numbers, reads, loops -/
theorem w64 {a : Int} (h0 : -9223372036854775808 ≤ a) (h1 : a ≤ 9223372036854775807) : wrap64 a = a := by
  unfold wrap64
  omega
theorem w64n {n : Nat} (h : n ≤ 9223372036854775807) : wrap64 (n : Int) = n := w64 (by omega) (by omega)
theorem bd64 {n : Int} (h : (Lit.int .i64 n).wf = true) : -9223372036854775808 ≤ n ∧ n ≤ 9223372036854775807 := Go.bounds_i64 h
theorem rd_nat (xs : List Int) (i : Nat) : rd xs (i : Int) = xs.getD i 0 := by simp [rd]
theorem rd_lt {xs : List Int} {i : Nat} (h : i < xs.length) : rd xs (i : Int) = xs[i] := by simp [rd, h]
theorem bt_nat {s : ByteArray} {i : Nat} (h : i < s.size) : bt s (i : Int) = (s[i].toNat : Int) := by simp [bt, h]
/-- Going up to n: what holds at n holds from i on. -/
theorem up_ind (n : Nat) (P : Nat → Prop) (h0 : P n) (hs : ∀ i, i < n → P (i + 1) → P i) : ∀ i, i ≤ n → P i := by
  have h : ∀ d i, i + d = n → P i := by
    intro d
    induction d with
    | zero => intro i hi; obtain rfl : i = n := by omega
              exact h0
    | succ d ih => intro i hi; exact hs i (by omega) (ih (i + 1) (by omega))
  intro i hi
  exact h (n - i) i (by omega)
theorem ev_some {α : Type} {g : Nat → Option α} {r : α} (h : ∀ k, g k = some r) : Ev g r := ⟨0, fun k _ => h k⟩
theorem ev_pair {α β : Type} {g : Nat → Option α} {f : Nat → Option β} {a : α} {b : β} {h : α → β → Option Bool} (hg : Ev g a) (hf : Ev f b) (hh : h a b = some true) : ∃ k, ((g k).bind fun x => (f k).bind fun y => h x y) = some true :=
  Ev.rounds (Ev.bind hg (Ev.bind hf (ev_some fun _ => hh)))

/-! ### lists -/
theorem rd_mid (pre : List Int) (x : Int) (r : List Int) : rd (pre ++ x :: r) (pre.length : Int) = x := by simp [rd]
theorem rd_mid' {l pre : List Int} {x : Int} {r : List Int} (h : l = pre ++ x :: r) : rd l (pre.length : Int) = x := by subst h; exact rd_mid _ _ _
theorem snoc_eq {l pre : List Int} {x : Int} {r : List Int} (h : l = pre ++ x :: r) : l = (pre ++ [x]) ++ r := by simp [h]
theorem snoc_len {pre : List Int} (x : Int) (h : pre.length ≤ 9223372036854775806) : wrap64 ((pre.length : Int) + 1) = ((pre ++ [x]).length : Int) := by
  rw [w64 (by omega) (by omega)]; simp
/-- The whole numbers from m on, n of them. -/
def upFrom (m : Int) : Nat → List Int
  | 0 => []
  | n + 1 => m :: upFrom (m + 1) n
theorem upFrom_length (n : Nat) : ∀ m, (upFrom m n).length = n := by
  induction n with
  | zero => intro m; rfl
  | succ n ih => intro m; simp [upFrom, ih]
theorem upFrom_get (n : Nat) : ∀ (m : Int) (i : Nat) (h : i < (upFrom m n).length), (upFrom m n)[i] = m + i := by
  induction n with
  | zero => intro m i h; simp [upFrom] at h
  | succ n ih =>
    intro m i h
    cases i with
    | zero => simp [upFrom]
    | succ i => simp only [upFrom, List.getElem_cons_succ]; rw [ih]; omega
theorem upFrom_snoc (n : Nat) : ∀ m, upFrom m (n + 1) = upFrom m n ++ [m + n] := by
  induction n with
  | zero => intro m; simp [upFrom]
  | succ n ih => intro m; rw [upFrom, ih]; simp [upFrom]; omega
theorem upFrom_mem (n : Nat) : ∀ (m x : Int), x ∈ upFrom m n ↔ m ≤ x ∧ x < m + n := by
  induction n with
  | zero => intro m x; simp only [upFrom, List.not_mem_nil, false_iff]; omega
  | succ n ih => intro m x; simp only [upFrom, List.mem_cons, ih]; omega
theorem upFrom_nodup (n : Nat) : ∀ m, (upFrom m n).Nodup := by
  induction n with
  | zero => intro m; simp [upFrom]
  | succ n ih => intro m; simp only [upFrom, List.nodup_cons, ih, and_true, upFrom_mem]; omega
theorem nodup_inj {l : List Int} (h : l.Nodup) (i j : Nat) (hi : i < l.length) (hj : j < l.length) (e : l[i] = l[j]) : i = j := by
  have hp := List.pairwise_iff_getElem.1 h
  rcases Nat.lt_trichotomy i j with c | c | c
  · exact absurd e (hp i j hi hj c)
  · exact c
  · exact absurd e.symm (hp j i hj hi c)
theorem set_mid (pre : List Int) (x y : Int) (r : List Int) : (pre ++ y :: r).set pre.length x = (pre ++ [x]) ++ r := by simp
theorem lens {l pre r : List Int} (h : l = pre ++ r) : l.length = pre.length + r.length := by rw [h]; simp
theorem snoc_cast (pre : List Int) (x : Int) : ((pre ++ [x]).length : Int) = (pre.length : Int) + 1 := by simp

theorem laws_toIntS_loop (l : List Int) (hl : l.length ≤ 17592186044415) : ∀ (r pre : List Int), l = pre ++ r →
    Ev (fun k => laws_toIntS.l0 k l (pre ++ List.replicate r.length 0) (pre.length : Int)) l := by
  intro r
  induction r with
  | nil =>
    intro pre h
    have e := lens h
    simp only [List.length_nil] at e
    refine Ev.step (f := fun _ => some _) (fun k => ?_) (Ev.now _)
    simp only [laws_toIntS.l0]
    rw [if_neg (by omega)]
    simp [h]
  | cons x r ih =>
    intro pre h
    have e := lens h
    simp only [List.length_cons] at e
    refine Ev.step (fun k => ?_) (ih (pre ++ [x]) (snoc_eq h))
    simp only [laws_toIntS.l0]
    rw [if_pos (by omega), if_pos (by omega), if_pos (by simp; omega), rd_mid' h, snoc_len x (by omega), List.length_cons, List.replicate_succ, Int.toNat_natCast, set_mid]
theorem laws_toIntS_ev (l : List Int) (hl : l.length ≤ 17592186044415) : Ev (fun k => laws_toIntS.f k l) l := by
  unfold laws_toIntS.f
  have h := laws_toIntS_loop l hl l [] rfl
  simp only [if_pos (show 0 ≤ (l.length : Int) by omega), if_pos (show ((l.length : Int) : Int).toNat ≤ 35184372088832 by omega)]
  simpa using h

theorem laws_eqIntS_loop (a b : List Int) (hab : a.length = b.length) (hl : a.length ≤ 9223372036854775806) : ∀ (r s pre qre : List Int), a = pre ++ r → b = qre ++ s → pre.length = qre.length →
    Ev (fun k => laws_eqIntS.l0 k a b (pre.length : Int)) (decide (r = s)) := by
  intro r
  induction r with
  | nil =>
    intro s pre qre h h' hp
    have e := lens h
    have e' := lens h'
    simp only [List.length_nil] at e
    have hs : s = [] := List.eq_nil_of_length_eq_zero (by omega)
    refine Ev.step (f := fun _ => some _) (fun k => ?_) (Ev.now _)
    simp only [laws_eqIntS.l0]
    rw [if_neg (by omega), hs]
    simp
  | cons x r ih =>
    intro s pre qre h h' hp
    have e := lens h
    have e' := lens h'
    simp only [List.length_cons] at e
    cases s with
    | nil => simp only [List.length_nil] at e'; omega
    | cons y s =>
      have hy := rd_mid' h'
      rw [← hp] at hy
      by_cases c : x = y
      · subst c
        have hi := ih s (pre ++ [x]) (qre ++ [x]) (snoc_eq h) (snoc_eq h') (by simp [hp])
        have ed : decide (x :: r = x :: s) = decide (r = s) := by simp
        rw [ed]
        refine Ev.step (fun k => ?_) hi
        simp only [laws_eqIntS.l0]
        rw [if_pos (by omega), if_pos (by omega), if_pos (by omega), rd_mid' h, hy, if_pos rfl, snoc_len x (by omega)]
      · refine Ev.step (f := fun _ => some _) (fun k => ?_) (Ev.now _)
        simp only [laws_eqIntS.l0]
        rw [if_pos (by omega), if_pos (by omega), if_pos (by omega), rd_mid' h, hy, if_neg c]
        simp [c]
theorem laws_eqIntS_ev (a b : List Int) (hl : a.length ≤ 9223372036854775806) : Ev (fun k => laws_eqIntS.f k a b) (decide (a = b)) := by
  unfold laws_eqIntS.f
  by_cases h : (a.length : Int) = (b.length : Int)
  · simp only [if_pos h]
    exact laws_eqIntS_loop a b (by omega) hl a b [] [] rfl rfl rfl
  · simp only [if_neg h]
    exact ev_some fun _ => by rw [decide_eq_false (fun e => h (by rw [e]))]

/-- What every law of one list does: it hands a copy to the reference and one to the program, compares, and looks at the copy. -/
theorem ev_ite_true {α : Type} {f g : Nat → Option α} {r : α} {c : Prop} [Decidable c] (h : c) (k : Ev f r) : Ev (fun n => if c then f n else g n) r := by simpa only [if_pos h] using k
theorem ev_ite_false {α : Type} {f g : Nat → Option α} {r : α} {c : Prop} [Decidable c] (h : ¬ c) (k : Ev g r) : Ev (fun n => if c then f n else g n) r := by simpa only [if_neg h] using k

/-- The card of a cell, or -1. -/
def cardOf (x : Int) : Int := if 0 ≤ x then (if x ≤ 11 then x else -1) else (if -12 ≤ x then -1 - x else -1)

def posFrom (c : Int) : Int → List Int → Int
  | _, [] => -1
  | i, x :: r => if cardOf x = c then i else posFrom c (i + 1) r
/-- Where a card lies in a packet, or -1. -/
def positionOf (l : List Int) (c : Int) : Int := if 0 ≤ c then posFrom c 0 l else -1
theorem posFrom_get (c : Int) (l : List Int) : ∀ (i : Int) (j : Nat) (h : j < l.length), cardOf (l[j]) = c → (∀ (m : Nat) (h' : m < l.length), m < j → cardOf (l[m]) ≠ c) → posFrom c i l = i + j := by
  induction l with
  | nil => intro i j h; simp at h
  | cons x r ih =>
    intro i j h hc hm
    rw [posFrom]
    cases j with
    | zero => rw [if_pos (show cardOf x = c from hc)]; simp
    | succ j =>
      rw [if_neg (show ¬ cardOf x = c from hm 0 (by simp) (by omega)), ih (i + 1) j (by simpa using h) hc (fun m h' hl => hm (m + 1) (by simpa using h') (by omega))]
      omega
theorem posFrom_nonneg (c : Int) (l : List Int) : ∀ i : Int, 0 ≤ i → (0 ≤ posFrom c i l ↔ ∃ x ∈ l, cardOf x = c) := by
  induction l with
  | nil => intro i hi; simp [posFrom]
  | cons x r ih =>
    intro i hi
    rw [posFrom]
    by_cases h : cardOf x = c
    · rw [if_pos h]; simp [h, hi]
    · rw [if_neg h, ih (i + 1) (by omega)]; simp [h]

theorem spec_l01In_eq (a b c : Int) : spec_l01In.f a b c = some (decide (b ≤ a ∧ a ≤ c)) := by
  unfold spec_l01In.f
  by_cases h : a ≥ b
  · rw [if_pos h]; simp; omega
  · rw [if_neg h]; simp; omega

theorem spec_CardOf_eq (x : Int) : spec_CardOf.f x = some (cardOf x) := by
  unfold spec_CardOf.f cardOf
  simp only [spec_l01In_eq, Option.bind_some, decide_eq_true_eq]
  by_cases h0 : 0 ≤ x
  · by_cases h1 : x ≤ 11
    · rw [if_pos ⟨h0, h1⟩, if_pos h0, if_pos h1]
    · rw [if_neg (by omega), if_neg (by omega), if_pos h0, if_neg h1]
  · by_cases h1 : -12 ≤ x
    · rw [if_neg (by omega), if_pos (by omega), if_neg h0, if_pos h1, w64 (by omega) (by omega)]
    · rw [if_neg (by omega), if_neg (by omega), if_neg h0, if_neg h1]

theorem spec_PositionOf_loop (l : List Int) (c : Int) (hl : l.length ≤ 9223372036854775806) : ∀ (r pre : List Int), l = pre ++ r →
    Ev (fun k => spec_PositionOf.l0 k c l (l.length : Int) (pre.length : Int)) (if 0 ≤ c then posFrom c pre.length r else -1) := by
  intro r
  induction r with
  | nil =>
    intro pre h
    have e := lens h
    simp only [List.length_nil] at e
    refine Ev.step (f := fun _ => some _) (fun k => ?_) (Ev.now _)
    simp only [spec_PositionOf.l0]
    rw [if_neg (by omega)]
    simp [posFrom]
  | cons x r ih =>
    intro pre h
    have e := lens h
    simp only [List.length_cons] at e
    have hi := ih (pre ++ [x]) (snoc_eq h)
    by_cases h1 : cardOf x = c
    · by_cases h0 : 0 ≤ c
      · refine Ev.step (f := fun _ => some _) (fun k => ?_) (Ev.now _)
        simp only [spec_PositionOf.l0]
        rw [if_pos (by omega), if_pos (by omega), if_pos (by omega), rd_mid' h, spec_CardOf_eq]
        simp only [Option.bind_some]
        rw [if_pos h1, if_pos h0, if_pos h0, posFrom, if_pos h1]
      · rw [if_neg h0] at hi ⊢
        refine Ev.step (fun k => ?_) hi
        simp only [spec_PositionOf.l0]
        rw [if_pos (by omega), if_pos (by omega), if_pos (by omega), rd_mid' h, spec_CardOf_eq]
        simp only [Option.bind_some]
        rw [if_pos h1, if_neg h0, snoc_len x (by omega)]
    · have er : (if 0 ≤ c then posFrom c (pre.length : Int) (x :: r) else -1) = (if 0 ≤ c then posFrom c ((pre ++ [x]).length : Int) r else -1) := by
        rw [posFrom, if_neg h1, snoc_cast]
      rw [er]
      refine Ev.step (fun k => ?_) hi
      simp only [spec_PositionOf.l0]
      rw [if_pos (by omega), if_pos (by omega), if_pos (by omega), rd_mid' h, spec_CardOf_eq]
      simp only [Option.bind_some]
      rw [if_neg h1, snoc_len x (by omega)]
theorem spec_PositionOf_ev (l : List Int) (c : Int) (hl : l.length ≤ 9223372036854775806) : Ev (fun k => spec_PositionOf.f k l c) (positionOf l c) := by
  unfold spec_PositionOf.f positionOf
  exact spec_PositionOf_loop l c hl l [] rfl

theorem idxF_congr {p q : Int → Bool} {l : List Int} (h : ∀ x ∈ l, p x = q x) : ∀ i, idxF p i l = idxF q i l := by
  induction l with
  | nil => intro i; rfl
  | cons x r ih => intro i; rw [idxF, idxF, h x (by simp), ih (fun y hy => h y (by simp [hy]))]
theorem idxF_card (c : Int) (l : List Int) : ∀ i, idxF (fun x => cardOf x == c) i l = posFrom c i l := by
  induction l with
  | nil => intro i; rfl
  | cons x r ih => intro i; rw [idxF, posFrom, ih]; simp

theorem impl_CardOf_eq (x : Int) (hx : -9223372036854775808 ≤ x) : impl_CardOf.f x = some (cardOf x) := by
  unfold impl_CardOf.f cardOf
  by_cases h0 : x < 0
  · rw [if_pos h0, w64 (by omega) (by omega), if_neg (show ¬ 0 ≤ x by omega)]
    by_cases h1 : -12 ≤ x
    · rw [if_neg (by omega), if_pos h1]
    · rw [if_pos (by omega), if_neg h1]
  · rw [if_neg h0, if_pos (show 0 ≤ x by omega)]
    by_cases h1 : x ≤ 11
    · rw [if_neg (by omega), if_pos h1]
    · rw [if_pos (by omega), if_neg h1]

theorem isCard_eq (c x : Int) (hx : (Lit.int .i64 x).wf = true) : isCard c x = (cardOf x == c) := by
  unfold isCard
  rw [impl_CardOf_eq x (bd64 hx).1]
  rfl
theorem impl_PositionOf_eq (l : List Int) (c : Int) (hw : ∀ x ∈ l, (Lit.int .i64 x).wf = true) : impl_PositionOf.f l c = some (positionOf l c) := by
  unfold impl_PositionOf.f positionOf
  rw [idxF_congr (fun x hx => isCard_eq c x (hw x hx)), idxF_card]
  by_cases h : c < 0
  · rw [if_pos h, if_neg (by omega)]
  · rw [if_neg h, if_pos (by omega)]
theorem impl_PositionOf_ev (l : List Int) (c : Int) (hw : ∀ x ∈ l, (Lit.int .i64 x).wf = true) : Ev (fun k => impl_PositionOf.f l c) (positionOf l c) := ev_some fun _ => impl_PositionOf_eq l c hw

theorem FnExactPositionOf : laws_FnExactPositionOf.Pure := by
  intro a c ha_ ha' wa wc
  unfold laws_FnExactPositionOf.f
  by_cases ga : (a.length : Int) > 1048576
  · exact ⟨0, by rw [if_pos ga]⟩
  simp only [if_neg ga]
  have ta := laws_toIntS_ev a (by omega)
  refine Ev.rounds ?_
  refine Ev.bind ta (Ev.bind (spec_PositionOf_ev a c (by omega)) (Ev.bind ta (Ev.bind (impl_PositionOf_ev a c wa) ?_)))
  simp only [if_true]
  refine Ev.bind ta (Ev.bind (laws_eqIntS_ev _ _ (by omega)) ?_)
  simp only [decide_true, if_true]
  exact Ev.now _

end Go.Proofs.Ytdgoeomelnlekaa.Pure
