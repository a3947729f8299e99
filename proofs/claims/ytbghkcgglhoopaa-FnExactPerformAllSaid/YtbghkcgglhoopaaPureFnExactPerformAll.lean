/- The pure statement of FnExactPerformAll holds: the program and the reference agree on every input. No conditions. -/
import Derived.Test.YtbghkcgglhoopaaMFnExactPerformAllx0
import Derived.Test.YtbghkcgglhoopaaMFnExactPerformAllx1
import Derived.Test.YtbghkcgglhoopaaMFnExactPerformAllx2
import Derived.Test.YtbghkcgglhoopaaMFnExactPerformAllx3
import Derived.Test.YtbghkcgglhoopaaMFnExactPerformAllx4
import Derived.Test.YtbghkcgglhoopaaMFnExactPerformAllx5
import Derived.Test.YtbghkcgglhoopaaMFnExactPerformAllx6
import Derived.Test.YtbghkcgglhoopaaMFnExactPerformAllx7
import Derived.Test.YtbghkcgglhoopaaMFnExactPerformAllx8
import Derived.Test.YtbghkcgglhoopaaMFnExactPerformAllx9
import Derived.Test.YtbghkcgglhoopaaMFnExactPerformAllx10
import Derived.Test.YtbghkcgglhoopaaMFnExactPerformAllx11
import Derived.Test.YtbghkcgglhoopaaMFnExactPerformAllx12
import Derived.Test.YtbghkcgglhoopaaMFnExactPerformAllx13
import Derived.OpenShut
namespace Go.Proofs.Ytbghkcgglhoopaa.Pure
open Go.RowKit Go.Proofs.Ytbghkcgglhoopaa.MFnExactPerformAll Go.Proofs.YtbghkcgglhoopaaW.PrintWords Go.Proofs.YtbghkcgglhoopaaW.PrintLast
set_option linter.unusedVariables false
set_option linter.unusedSimpArgs false

/-! ### base: numbers, reads, loops -/
theorem w64 {a : Int} (h0 : -9223372036854775808 ≤ a) (h1 : a ≤ 9223372036854775807) : wrap64 a = a := by
  unfold wrap64
  omega
theorem w64n {n : Nat} (h : n ≤ 9223372036854775807) : wrap64 (n : Int) = n := w64 (by omega) (by omega)
theorem bd64 {n : Int} (h : (Lit.int .i64 n).wf = true) : -9223372036854775808 ≤ n ∧ n ≤ 9223372036854775807 := Go.bounds_i64 h
theorem rd_nat (xs : List Int) (i : Nat) : rd xs (i : Int) = xs.getD i 0 := by simp [rd]
theorem rd_lt {xs : List Int} {i : Nat} (h : i < xs.length) : rd xs (i : Int) = xs[i] := by simp [rd, h]
theorem bt_nat {s : ByteArray} {i : Nat} (h : i < s.size) : bt s (i : Int) = (s[i].toNat : Int) := by simp [bt, h]
/-- Going up to n: what holds at n holds from i on. -/
theorem up_ind (n : Nat) (P : Nat → Prop) (h0 : P n) (hs : ∀ i, i < n → P (i + 1) → P i) : ∀ i, i ≤ n → P i := by
  have h : ∀ d i, i + d = n → P i := by
    intro d
    induction d with
    | zero => intro i hi; obtain rfl : i = n := by omega
              exact h0
    | succ d ih => intro i hi; exact hs i (by omega) (ih (i + 1) (by omega))
  intro i hi
  exact h (n - i) i (by omega)
theorem ev_some {α : Type} {g : Nat → Option α} {r : α} (h : ∀ k, g k = some r) : Ev g r := ⟨0, fun k _ => h k⟩
theorem ev_pair {α β : Type} {g : Nat → Option α} {f : Nat → Option β} {a : α} {b : β} {h : α → β → Option Bool} (hg : Ev g a) (hf : Ev f b) (hh : h a b = some true) : ∃ k, ((g k).bind fun x => (f k).bind fun y => h x y) = some true :=
  Ev.rounds (Ev.bind hg (Ev.bind hf (ev_some fun _ => hh)))

/-! ### lists -/
theorem rd_mid (pre : List Int) (x : Int) (r : List Int) : rd (pre ++ x :: r) (pre.length : Int) = x := by simp [rd]
theorem rd_mid' {l pre : List Int} {x : Int} {r : List Int} (h : l = pre ++ x :: r) : rd l (pre.length : Int) = x := by subst h; exact rd_mid _ _ _
theorem snoc_eq {l pre : List Int} {x : Int} {r : List Int} (h : l = pre ++ x :: r) : l = (pre ++ [x]) ++ r := by simp [h]
theorem snoc_len {pre : List Int} (x : Int) (h : pre.length ≤ 9223372036854775806) : wrap64 ((pre.length : Int) + 1) = ((pre ++ [x]).length : Int) := by
  rw [w64 (by omega) (by omega)]; simp
/-- The whole numbers from m on, n of them. -/
def upFrom (m : Int) : Nat → List Int
  | 0 => []
  | n + 1 => m :: upFrom (m + 1) n
theorem upFrom_length (n : Nat) : ∀ m, (upFrom m n).length = n := by
  induction n with
  | zero => intro m; rfl
  | succ n ih => intro m; simp [upFrom, ih]
theorem upFrom_get (n : Nat) : ∀ (m : Int) (i : Nat) (h : i < (upFrom m n).length), (upFrom m n)[i] = m + i := by
  induction n with
  | zero => intro m i h; simp [upFrom] at h
  | succ n ih =>
    intro m i h
    cases i with
    | zero => simp [upFrom]
    | succ i => simp only [upFrom, List.getElem_cons_succ]; rw [ih]; omega
theorem upFrom_snoc (n : Nat) : ∀ m, upFrom m (n + 1) = upFrom m n ++ [m + n] := by
  induction n with
  | zero => intro m; simp [upFrom]
  | succ n ih => intro m; rw [upFrom, ih]; simp [upFrom]; omega
theorem upFrom_mem (n : Nat) : ∀ (m x : Int), x ∈ upFrom m n ↔ m ≤ x ∧ x < m + n := by
  induction n with
  | zero => intro m x; simp only [upFrom, List.not_mem_nil, false_iff]; omega
  | succ n ih => intro m x; simp only [upFrom, List.mem_cons, ih]; omega
theorem upFrom_nodup (n : Nat) : ∀ m, (upFrom m n).Nodup := by
  induction n with
  | zero => intro m; simp [upFrom]
  | succ n ih => intro m; simp only [upFrom, List.nodup_cons, ih, and_true, upFrom_mem]; omega
theorem nodup_inj {l : List Int} (h : l.Nodup) (i j : Nat) (hi : i < l.length) (hj : j < l.length) (e : l[i] = l[j]) : i = j := by
  have hp := List.pairwise_iff_getElem.1 h
  rcases Nat.lt_trichotomy i j with c | c | c
  · exact absurd e (hp i j hi hj c)
  · exact c
  · exact absurd e.symm (hp j i hj hi c)
theorem set_mid (pre : List Int) (x y : Int) (r : List Int) : (pre ++ y :: r).set pre.length x = (pre ++ [x]) ++ r := by simp
theorem lens {l pre r : List Int} (h : l = pre ++ r) : l.length = pre.length + r.length := by rw [h]; simp
theorem snoc_cast (pre : List Int) (x : Int) : ((pre ++ [x]).length : Int) = (pre.length : Int) + 1 := by simp

theorem laws_toIntS_loop (l : List Int) (hl : l.length ≤ 17592186044415) : ∀ (r pre : List Int), l = pre ++ r →
    Ev (fun k => laws_toIntS.l0 k l (pre ++ List.replicate r.length 0) (pre.length : Int)) l := by
  intro r
  induction r with
  | nil =>
    intro pre h
    have e := lens h
    simp only [List.length_nil] at e
    refine Ev.step (f := fun _ => some _) (fun k => ?_) (Ev.now _)
    simp only [laws_toIntS.l0]
    rw [if_neg (by omega)]
    simp [h]
  | cons x r ih =>
    intro pre h
    have e := lens h
    simp only [List.length_cons] at e
    refine Ev.step (fun k => ?_) (ih (pre ++ [x]) (snoc_eq h))
    simp only [laws_toIntS.l0]
    rw [if_pos (by omega), if_pos (by omega), if_pos (by simp; omega), rd_mid' h, snoc_len x (by omega), List.length_cons, List.replicate_succ, Int.toNat_natCast, set_mid]
theorem laws_toIntS_ev (l : List Int) (hl : l.length ≤ 17592186044415) : Ev (fun k => laws_toIntS.f k l) l := by
  unfold laws_toIntS.f
  have h := laws_toIntS_loop l hl l [] rfl
  simp only [if_pos (show 0 ≤ (l.length : Int) by omega), if_pos (show ((l.length : Int) : Int).toNat ≤ 35184372088832 by omega)]
  simpa using h

theorem laws_eqIntS_loop (a b : List Int) (hab : a.length = b.length) (hl : a.length ≤ 9223372036854775806) : ∀ (r s pre qre : List Int), a = pre ++ r → b = qre ++ s → pre.length = qre.length →
    Ev (fun k => laws_eqIntS.l0 k a b (pre.length : Int)) (decide (r = s)) := by
  intro r
  induction r with
  | nil =>
    intro s pre qre h h' hp
    have e := lens h
    have e' := lens h'
    simp only [List.length_nil] at e
    have hs : s = [] := List.eq_nil_of_length_eq_zero (by omega)
    refine Ev.step (f := fun _ => some _) (fun k => ?_) (Ev.now _)
    simp only [laws_eqIntS.l0]
    rw [if_neg (by omega), hs]
    simp
  | cons x r ih =>
    intro s pre qre h h' hp
    have e := lens h
    have e' := lens h'
    simp only [List.length_cons] at e
    cases s with
    | nil => simp only [List.length_nil] at e'; omega
    | cons y s =>
      have hy := rd_mid' h'
      rw [← hp] at hy
      by_cases c : x = y
      · subst c
        have hi := ih s (pre ++ [x]) (qre ++ [x]) (snoc_eq h) (snoc_eq h') (by simp [hp])
        have ed : decide (x :: r = x :: s) = decide (r = s) := by simp
        rw [ed]
        refine Ev.step (fun k => ?_) hi
        simp only [laws_eqIntS.l0]
        rw [if_pos (by omega), if_pos (by omega), if_pos (by omega), rd_mid' h, hy, if_pos rfl, snoc_len x (by omega)]
      · refine Ev.step (f := fun _ => some _) (fun k => ?_) (Ev.now _)
        simp only [laws_eqIntS.l0]
        rw [if_pos (by omega), if_pos (by omega), if_pos (by omega), rd_mid' h, hy, if_neg c]
        simp [c]
theorem laws_eqIntS_ev (a b : List Int) (hl : a.length ≤ 9223372036854775806) : Ev (fun k => laws_eqIntS.f k a b) (decide (a = b)) := by
  unfold laws_eqIntS.f
  by_cases h : (a.length : Int) = (b.length : Int)
  · simp only [if_pos h]
    exact laws_eqIntS_loop a b (by omega) hl a b [] [] rfl rfl rfl
  · simp only [if_neg h]
    exact ev_some fun _ => by rw [decide_eq_false (fun e => h (by rw [e]))]

/-- What every law of one list does: it hands a copy to the reference and one to the program, compares, and looks at the copy. -/
theorem ev_ite_true {α : Type} {f g : Nat → Option α} {r : α} {c : Prop} [Decidable c] (h : c) (k : Ev f r) : Ev (fun n => if c then f n else g n) r := by simpa only [if_pos h] using k
theorem ev_ite_false {α : Type} {f g : Nat → Option α} {r : α} {c : Prop} [Decidable c] (h : ¬ c) (k : Ev g r) : Ev (fun n => if c then f n else g n) r := by simpa only [if_neg h] using k

theorem laws_markIntS_loop : ∀ (r pre : List Int) (m : Int), 0 ≤ m → m + r.length ≤ 9223372036854775806 → pre.length + r.length ≤ 9223372036854775806 →
    Ev (fun k => laws_markIntS.l0 k (pre ++ r) m (pre.length : Int)) (m + r.length, pre ++ upFrom m r.length) := by
  intro r
  induction r with
  | nil =>
    intro pre m h0 h1 h2
    refine Ev.step (f := fun _ => some _) (fun k => ?_) (Ev.now _)
    simp only [laws_markIntS.l0]
    rw [if_neg (by simp)]
    simp [upFrom]
  | cons x r ih =>
    intro pre m h0 h1 h2
    simp only [List.length_cons] at h1 h2
    have hi := ih (pre ++ [m]) (m + 1) (by omega) (by omega) (by simp; omega)
    have er : ((m + 1 + r.length : Int), (pre ++ [m]) ++ upFrom (m + 1) r.length) = (m + (x :: r).length, pre ++ upFrom m (x :: r).length) := by
      simp [upFrom]; omega
    rw [er] at hi
    refine Ev.step (fun k => ?_) hi
    simp only [laws_markIntS.l0]
    rw [if_pos (by simp; omega), if_pos (by omega), w64 (by omega) (by omega), snoc_len m (by omega), Int.toNat_natCast, set_mid]
theorem laws_markIntS_ev (l : List Int) (m : Int) (h0 : 0 ≤ m) (h1 : m + l.length ≤ 9223372036854775806) :
    Ev (fun k => laws_markIntS.f k l m) (m + l.length, upFrom m l.length) := by
  unfold laws_markIntS.f
  exact laws_markIntS_loop l [] m h0 h1 (by simp; omega)
theorem laws_heldIntS_loop (l : List Int) (hl : l.length ≤ 9223372036854775806) : ∀ (n : Nat) (pre : List Int) (m : Int), 0 ≤ m → m + n ≤ 9223372036854775806 → l = pre ++ upFrom m n →
    Ev (fun k => laws_heldIntS.l0 k l m (pre.length : Int)) (m + n) := by
  intro n
  induction n with
  | zero =>
    intro pre m h0 h1 h
    have e := lens h
    simp only [upFrom_length] at e
    refine Ev.step (f := fun _ => some _) (fun k => ?_) (Ev.now _)
    simp only [laws_heldIntS.l0]
    rw [if_neg (by omega)]
    simp
  | succ n ih =>
    intro pre m h0 h1 h
    have e := lens h
    simp only [upFrom_length] at e
    have hi := ih (pre ++ [m]) (m + 1) (by omega) (by omega) (by rw [h]; simp [upFrom])
    have er : m + 1 + (n : Int) = m + (n + 1 : Nat) := by omega
    rw [er] at hi
    refine Ev.step (fun k => ?_) hi
    simp only [laws_heldIntS.l0]
    rw [if_pos (by omega), if_pos (by omega), rd_mid' (by rw [h, upFrom]), if_pos rfl, w64 (by omega) (by omega), snoc_len m (by omega)]
theorem laws_heldIntS_ev (m : Int) (n : Nat) (h0 : 0 ≤ m) (h1 : m + n ≤ 9223372036854775806) :
    Ev (fun k => laws_heldIntS.f k (upFrom m n) m) (m + n) := by
  unfold laws_heldIntS.f
  exact laws_heldIntS_loop (upFrom m n) (by rw [upFrom_length]; omega) n [] m h0 h1 rfl

/-- What a law asks of a list that was handed out: it is marked, the marks are held, and held once more. -/
theorem held_once {α : Type} (g : List Int) (hg : g.length ≤ 1048576) {f : Nat → Option α} {r : α} {z : Option α} (h : Ev f r) :
    Ev (fun k => (laws_heldIntS.f k (upFrom 1 g.length) 1).bind fun t => if t < 0 then z else if t = 1 + (g.length : Int) then f k else z) r := by
  refine Ev.bind (laws_heldIntS_ev 1 g.length (by omega) (by omega)) ?_
  simp only [if_neg (show ¬ (1 + (g.length : Int) < 0) by omega), if_true]
  exact h

theorem spec_l01In_eq (a b c : Int) : spec_l01In.f a b c = some (decide (b ≤ a ∧ a ≤ c)) := by
  unfold spec_l01In.f
  by_cases h : a ≥ b
  · rw [if_pos h]; simp; omega
  · rw [if_neg h]; simp; omega

/-- The card of a cell, or -1. -/
def cardOf (x : Int) : Int := if 0 ≤ x then (if x ≤ 11 then x else -1) else (if -12 ≤ x then -1 - x else -1)

/-- A cell turned over. -/
def turnCard (x : Int) : Int := if cardOf x < 0 then x else -1 - x

theorem spec_CardOf_eq (x : Int) : spec_CardOf.f x = some (cardOf x) := by
  unfold spec_CardOf.f cardOf
  simp only [spec_l01In_eq, Option.bind_some, decide_eq_true_eq]
  by_cases h0 : 0 ≤ x
  · by_cases h1 : x ≤ 11
    · rw [if_pos ⟨h0, h1⟩, if_pos h0, if_pos h1]
    · rw [if_neg (by omega), if_neg (by omega), if_pos h0, if_neg h1]
  · by_cases h1 : -12 ≤ x
    · rw [if_neg (by omega), if_pos (by omega), if_neg h0, if_pos h1, w64 (by omega) (by omega)]
    · rw [if_neg (by omega), if_neg (by omega), if_neg h0, if_neg h1]

theorem impl_CardOf_eq (x : Int) (hx : -9223372036854775808 ≤ x) : impl_CardOf.f x = some (cardOf x) := by
  unfold impl_CardOf.f cardOf
  by_cases h0 : x < 0
  · rw [if_pos h0, w64 (by omega) (by omega), if_neg (show ¬ 0 ≤ x by omega)]
    by_cases h1 : -12 ≤ x
    · rw [if_neg (by omega), if_pos h1]
    · rw [if_pos (by omega), if_neg h1]
  · rw [if_neg h0, if_pos (show 0 ≤ x by omega)]
    by_cases h1 : x ≤ 11
    · rw [if_neg (by omega), if_pos h1]
    · rw [if_pos (by omega), if_neg h1]

theorem spec_TurnCard_eq (x : Int) : spec_TurnCard.f x = some (turnCard x) := by
  unfold spec_TurnCard.f turnCard
  rw [spec_CardOf_eq x]
  simp only [Option.bind_some]
  by_cases h : cardOf x < 0
  · rw [if_pos h, if_pos h]
  · rw [if_neg h, if_neg h, w64]
    all_goals (unfold cardOf at h; split at h <;> split at h <;> omega)

theorem impl_TurnCard_eq (x : Int) (hx : -9223372036854775808 ≤ x) : impl_TurnCard.f x = some (turnCard x) := by
  unfold impl_TurnCard.f turnCard
  rw [impl_CardOf_eq x hx]
  simp only [Option.bind_some]
  by_cases h : cardOf x < 0
  · rw [if_pos h, if_pos h]
  · rw [if_neg h, if_neg h, w64]
    all_goals (unfold cardOf at h; split at h <;> split at h <;> omega)

/-! ### the moves, on lists -/
def faroF (k : Int) : Nat → List Int → List Int → List Int → List Int
  | 0, _, _, out => out
  | d + 1, a, b, out => match a, b with
    | [], [] => out
    | [], y :: b => faroF k d [] b (out ++ [y])
    | x :: a, [] => faroF k d a [] (out ++ [x])
    | x :: a, y :: b => if (out.length : Int) % 2 = k then faroF k d a (y :: b) (out ++ [x]) else faroF k d (x :: a) b (out ++ [y])
def mongeF (k : Int) : List Int → Nat → List Int → List Int
  | [], _, out => out
  | x :: r, i, out => if i = 0 ∨ (i : Int) % 2 = k then mongeF k r (i + 1) (out ++ [x]) else mongeF k r (i + 1) (x :: out)
def milkF : Nat → List Int → List Int → List Int
  | 0, l, out => l ++ out
  | d + 1, l, out => if 1 < l.length then milkF d ((l.take (l.length - 1)).drop 1) ([rd l 0, rd l ((l.length : Int) - 1)] ++ out) else l ++ out
def duckF : Nat → List Int → List Int → Bool → List Int
  | 0, q, out, _ => q ++ out
  | _ + 1, [], out, _ => out
  | _ + 1, [x], out, _ => x :: out
  | d + 1, x :: y :: r, out, b => if b = true then duckF d (y :: r) (x :: out) false else duckF d (y :: r ++ [x]) out true
def doMove (l : List Int) (k a : Int) : List Int :=
  if k = 1 then l.drop a.toNat ++ l.take a.toNat
  else if k = 2 then (l.take a.toNat).reverse ++ l.drop a.toNat
  else if k = 3 then ((l.take a.toNat).map turnCard).reverse ++ l.drop a.toNat
  else if k = 4 then faroF a l.length (l.take (l.length / 2)) (l.drop (l.length / 2)) []
  else if k = 5 then mongeF a l 0 []
  else if k = 6 then milkF l.length l []
  else if k = 7 then duckF (2 * l.length) l [] (a == 1)
  else if k = 8 then l.set a.toNat (turnCard (rd l a))
  else l.take a.toNat ++ l.drop (a.toNat + 1) ++ [rd l a]

/-- May a move of this kind and number be done with a packet of n cards? -/
def moveOk (n k a : Int) : Bool := decide (1 ≤ n ∧ n ≤ 12 ∧ 0 ≤ a) && (if k = 1 ∨ k = 2 ∨ k = 3 then decide (a ≤ n) else if k = 4 ∨ k = 5 ∨ k = 7 then decide (a ≤ 1) else if k = 6 then decide (a = 0) else if k = 8 ∨ k = 9 then decide (a < n) else false)
theorem ev_three {α : Type} {g : Nat → Option α} {r : α} (h : ∀ k, g (k + 3) = some r) : Ev g r := ⟨3, fun k hk => by
  obtain ⟨j, rfl⟩ : ∃ j, k = j + 3 := ⟨k - 3, by omega⟩
  exact h j⟩
theorem kind_cases (k : Int) : k = 1 ∨ k = 2 ∨ k = 3 ∨ k = 4 ∨ k = 5 ∨ k = 6 ∨ k = 7 ∨ k = 8 ∨ k = 9 ∨ (k ≠ 1 ∧ k ≠ 2 ∧ k ≠ 3 ∧ k ≠ 4 ∧ k ≠ 5 ∧ k ≠ 6 ∧ k ≠ 7 ∧ k ≠ 8 ∧ k ≠ 9) := by omega

/-! ### permutations -/
def pokFrom (n : Nat) : List Int → List Int → Bool
  | _, [] => true
  | seen, x :: r => decide (0 ≤ x ∧ x < n) && (!decide (x ∈ seen) && pokFrom n (seen ++ [x]) r)
/-- A list of whole numbers is a permutation of at most 12 positions. -/
def permOk (a : List Int) : Bool := pokFrom a.length [] a && decide (a.length ≤ 12)
theorem pokFrom_iff (n : Nat) (r : List Int) : ∀ seen, pokFrom n seen r = true ↔ (∀ x ∈ r, 0 ≤ x ∧ x < n) ∧ r.Nodup ∧ (∀ x ∈ r, x ∉ seen) := by
  induction r with
  | nil => intro seen; simp [pokFrom]
  | cons x r ih =>
    intro seen
    simp only [pokFrom, Bool.and_eq_true, decide_eq_true_eq, Bool.not_eq_true', decide_eq_false_iff_not, ih, List.mem_cons, forall_eq_or_imp, List.nodup_cons, List.mem_append, List.not_mem_nil, or_false, not_or]
    constructor
    · rintro ⟨h1, h2, h3, h4, h5⟩
      exact ⟨⟨h1, h3⟩, ⟨fun hx => (h5 x hx).2 rfl, h4⟩, h2, fun y hy => (h5 y hy).1⟩
    · rintro ⟨⟨h1, h3⟩, ⟨h6, h4⟩, h2, h5⟩
      exact ⟨h1, h2, h3, h4, fun y hy => ⟨h5 y hy, fun e => h6 (e ▸ hy)⟩⟩
theorem permOk_iff (a : List Int) : permOk a = true ↔ (∀ x ∈ a, 0 ≤ x ∧ x < a.length) ∧ a.Nodup ∧ a.length ≤ 12 := by
  simp only [permOk, Bool.and_eq_true, pokFrom_iff, decide_eq_true_eq]
  simp [and_assoc]

def invFrom : List Int → Int → List Int → List Int
  | m, _, [] => m
  | m, i, x :: r => invFrom (m.set x.toNat i) (i + 1) r
/-- The inverse of a permutation. -/
def inverse (a : List Int) : List Int := invFrom (List.replicate a.length 0) 0 a
theorem invFrom_length (r : List Int) : ∀ m i, (invFrom m i r).length = m.length := by
  induction r with
  | nil => intro m i; rfl
  | cons x r ih => intro m i; simp [invFrom, ih]
theorem inverse_length (a : List Int) : (inverse a).length = a.length := by simp [inverse, invFrom_length]
theorem rd_set_ne {m : List Int} {x y i : Int} (hx : 0 ≤ x) (hy : 0 ≤ y) (h : x ≠ y) : rd (m.set x.toNat i) y = rd m y := by
  have : x.toNat ≠ y.toNat := by omega
  simp [rd, List.getElem?_set, this]
theorem rd_set_eq {m : List Int} {x i : Int} (hx : 0 ≤ x) (h : x < m.length) : rd (m.set x.toNat i) x = i := by
  have : x.toNat < m.length := by omega
  simp [rd, List.getElem?_set, this]
theorem invFrom_keep (r : List Int) : ∀ (m : List Int) (i y : Int), 0 ≤ y → y ∉ r → (∀ x ∈ r, 0 ≤ x) → rd (invFrom m i r) y = rd m y := by
  induction r with
  | nil => intro m i y _ _ _; rfl
  | cons x r ih =>
    intro m i y hy hn hp
    simp only [List.mem_cons, not_or] at hn
    have hx := hp x (by simp)
    rw [invFrom, ih _ _ y hy hn.2 (fun z hz => hp z (by simp [hz])), rd_set_ne hx hy (fun e => hn.1 e.symm)]
theorem invFrom_get (r : List Int) : ∀ (m : List Int) (i : Int), (∀ x ∈ r, 0 ≤ x ∧ x < m.length) → r.Nodup → ∀ (j : Nat) (h : j < r.length), rd (invFrom m i r) (r[j]) = i + j := by
  induction r with
  | nil => intro m i _ _ j h; simp at h
  | cons x r ih =>
    intro m i hp hn j h
    simp only [List.nodup_cons] at hn
    have hx := hp x (by simp)
    cases j with
    | zero =>
      simp only [List.getElem_cons_zero]
      rw [invFrom, invFrom_keep r _ _ x hx.1 hn.1 (fun z hz => (hp z (by simp [hz])).1), rd_set_eq hx.1 hx.2]
      simp
    | succ j =>
      simp only [List.getElem_cons_succ]
      rw [invFrom, ih _ _ (fun z hz => by rw [List.length_set]; exact hp z (by simp [hz])) hn.2 j (by simpa using h)]
      omega
theorem inverse_get {a : List Int} (hp : ∀ x ∈ a, 0 ≤ x ∧ x < a.length) (hn : a.Nodup) (j : Nat) (h : j < a.length) : rd (inverse a) (a[j]) = j := by
  unfold inverse
  rw [invFrom_get a _ 0 (fun x hx => by simpa using hp x hx) hn j h]
  omega

theorem nodup_le (l : List Int) : ∀ m : List Int, l.Nodup → (∀ x ∈ l, x ∈ m) → l.length ≤ m.length := by
  induction l with
  | nil => intro m _ _; simp
  | cons x l ih =>
    intro m hn hs
    simp only [List.nodup_cons] at hn
    have hx : x ∈ m := hs x (by simp)
    have h := ih (m.erase x) hn.2 (fun y hy => (List.mem_erase_of_ne (fun e => hn.1 (by rw [← e]; exact hy))).2 (hs y (by simp [hy])))
    rw [List.length_erase_of_mem hx] at h
    have := List.length_pos_of_mem hx
    simp only [List.length_cons]
    omega
theorem perm_surj {a : List Int} (hp : ∀ x ∈ a, 0 ≤ x ∧ x < a.length) (hn : a.Nodup) (v : Int) (h0 : 0 ≤ v) (h1 : v < a.length) : v ∈ a := by
  apply Decidable.byContradiction
  intro hv
  have h := nodup_le (v :: a) (upFrom 0 a.length) (by simp [hv, hn]) (fun y hy => by
    rw [upFrom_mem]
    rcases List.mem_cons.1 hy with rfl | hy
    · omega
    · have := hp y hy; omega)
  rw [upFrom_length] at h
  simp only [List.length_cons] at h
  omega
/-- Where a value of a permutation stands. -/
theorem perm_at {a : List Int} (hp : ∀ x ∈ a, 0 ≤ x ∧ x < a.length) (hn : a.Nodup) (v : Int) (h0 : 0 ≤ v) (h1 : v < a.length) : ∃ j : Nat, ∃ h : j < a.length, a[j] = v ∧ rd (inverse a) v = j := by
  obtain ⟨j, h, e⟩ := List.getElem_of_mem (perm_surj hp hn v h0 h1)
  exact ⟨j, h, e, by rw [← e]; exact inverse_get hp hn j h⟩

def pktFrom : List Int → List Int → Bool
  | _, [] => true
  | seen, x :: r => decide (0 ≤ cardOf x) && (!decide (cardOf x ∈ seen) && pktFrom (seen ++ [cardOf x]) r)
/-- A packet: at most twelve cards, all different. -/
def packetOk (l : List Int) : Bool := pktFrom [] l
theorem pktFrom_iff (r : List Int) : ∀ seen, pktFrom seen r = true ↔ (∀ x ∈ r, 0 ≤ cardOf x) ∧ (r.map cardOf).Nodup ∧ (∀ x ∈ r, cardOf x ∉ seen) := by
  induction r with
  | nil => intro seen; simp [pktFrom]
  | cons x r ih =>
    intro seen
    simp only [pktFrom, Bool.and_eq_true, decide_eq_true_eq, Bool.not_eq_true', decide_eq_false_iff_not, ih, List.mem_cons, forall_eq_or_imp, List.map_cons, List.nodup_cons, List.mem_append, List.not_mem_nil, or_false, not_or, List.mem_map]
    constructor
    · rintro ⟨h1, h2, h3, h4, h5⟩
      exact ⟨⟨h1, h3⟩, ⟨fun ⟨y, hy, e⟩ => (h5 y hy).2 e, h4⟩, h2, fun y hy => (h5 y hy).1⟩
    · rintro ⟨⟨h1, h3⟩, ⟨h6, h4⟩, h2, h5⟩
      exact ⟨h1, h2, h3, h4, fun y hy => ⟨h5 y hy, fun e => h6 ⟨y, hy, e⟩⟩⟩
theorem packetOk_iff (l : List Int) : packetOk l = true ↔ (∀ x ∈ l, 0 ≤ cardOf x) ∧ (l.map cardOf).Nodup := by
  unfold packetOk
  rw [pktFrom_iff]
  simp
theorem cardOf_le (x : Int) : -1 ≤ cardOf x ∧ cardOf x ≤ 11 := by
  unfold cardOf
  split <;> split <;> omega
theorem packetOk_length {l : List Int} (h : packetOk l = true) : l.length ≤ 12 := by
  obtain ⟨h1, h2⟩ := (packetOk_iff l).1 h
  have := nodup_le (l.map cardOf) (upFrom 0 12) h2 (fun y hy => by
    obtain ⟨x, hx, rfl⟩ := List.mem_map.1 hy
    rw [upFrom_mem]
    have := h1 x hx
    have := cardOf_le x
    omega)
  rw [upFrom_length, List.length_map] at this
  exact this

theorem moveOk_parts {n k a : Int} (h : moveOk n k a = true) : 1 ≤ n ∧ n ≤ 12 ∧ 0 ≤ a ∧ ((k = 1 ∨ k = 2 ∨ k = 3) ∧ a ≤ n ∨ (k = 4 ∨ k = 5 ∨ k = 7) ∧ a ≤ 1 ∨ k = 6 ∧ a = 0 ∨ (k = 8 ∨ k = 9) ∧ a < n) := by
  unfold moveOk at h
  rw [Bool.and_eq_true, decide_eq_true_eq] at h
  refine ⟨h.1.1, h.1.2.1, h.1.2.2, ?_⟩
  have h2 := h.2
  split at h2
  · rename_i c; exact .inl ⟨c, of_decide_eq_true h2⟩
  split at h2
  · rename_i c; exact .inr (.inl ⟨c, of_decide_eq_true h2⟩)
  split at h2
  · rename_i c; exact .inr (.inr (.inl ⟨c, of_decide_eq_true h2⟩))
  split at h2
  · rename_i c; exact .inr (.inr (.inr ⟨c, of_decide_eq_true h2⟩))
  · cases h2
theorem rd_of_lt {l : List Int} {a : Int} (h0 : 0 ≤ a) (h1 : a < l.length) : rd l a = l[a.toNat]'(by omega) := by
  have := rd_lt (xs := l) (i := a.toNat) (by omega)
  rw [Int.toNat_of_nonneg h0] at this
  exact this
def perform (l : List Int) (k a : Int) : List Int × Bool := if packetOk l = true ∧ moveOk (l.length : Int) k a = true then (doMove l k a, true) else ([], false)
theorem wf_small {x : Int} (h0 : -100 ≤ x) (h1 : x ≤ 100) : (Lit.int .i64 x).wf = true := by
  simp [Lit.wf, IntKind.min, IntKind.max, IntKind.signed, IntKind.bits]
  omega
theorem cardOf_bound {x : Int} (h : 0 ≤ cardOf x) : -12 ≤ x ∧ x ≤ 11 := by
  unfold cardOf at h
  repeat' split at h
  all_goals omega

theorem set_self (m : List Int) (i : Nat) (hi : i < m.length) : m.set i m[i] = m := List.set_getElem_self hi

theorem cardOf_turn (x : Int) : cardOf (turnCard x) = cardOf x := by
  unfold turnCard
  split
  · rfl
  · rename_i h
    unfold cardOf at h ⊢
    repeat' split
    all_goals (repeat' split at h)
    all_goals omega
theorem faroF_perm (k : Int) : ∀ (d : Nat) (a b out : List Int), a.length + b.length ≤ d → (faroF k d a b out).Perm (out ++ (a ++ b)) := by
  intro d
  induction d with
  | zero =>
    intro a b out h
    have ha : a = [] := List.length_eq_zero_iff.mp (by omega)
    have hb : b = [] := List.length_eq_zero_iff.mp (by omega)
    subst ha hb
    simp [faroF]
  | succ d ih =>
    intro a b out h
    match a, b with
    | [], [] => simp [faroF]
    | [], y :: b =>
      rw [faroF]
      refine (ih [] b (out ++ [y]) (by simp at h ⊢; omega)).trans ?_
      simp
    | x :: a, [] =>
      rw [faroF]
      refine (ih a [] (out ++ [x]) (by simp at h ⊢; omega)).trans ?_
      simp
    | x :: a, y :: b =>
      rw [faroF]
      simp only [List.length_cons] at h
      split
      · refine (ih a (y :: b) (out ++ [x]) (by simp; omega)).trans ?_
        simp
      · refine (ih (x :: a) b (out ++ [y]) (by simp; omega)).trans ?_
        rw [List.append_assoc]
        refine List.Perm.append_left out ?_
        exact (List.perm_middle (l₁ := x :: a) (a := y) (l₂ := b)).symm
theorem mongeF_perm (k : Int) : ∀ (r : List Int) (i : Nat) (out : List Int), (mongeF k r i out).Perm (out ++ r) := by
  intro r
  induction r with
  | nil => intro i out; simp [mongeF]
  | cons x r ih =>
    intro i out
    rw [mongeF]
    split
    · refine (ih (i + 1) (out ++ [x])).trans ?_
      simp
    · refine (ih (i + 1) (x :: out)).trans ?_
      exact (List.perm_middle (l₁ := out) (a := x) (l₂ := r)).symm
theorem ends_of {l : List Int} (h : 1 < l.length) : ∃ x m z, l = x :: (m ++ [z]) ∧ (l.take (l.length - 1)).drop 1 = m ∧ rd l 0 = x ∧ rd l ((l.length : Int) - 1) = z := by
  match l with
  | [] => simp at h
  | [x] => simp at h
  | x :: y :: r =>
    obtain ⟨m, z, e⟩ : ∃ m z, y :: r = m ++ [z] := ⟨(y :: r).dropLast, (y :: r).getLast (by simp), (List.dropLast_concat_getLast (by simp)).symm⟩
    rw [e]
    refine ⟨x, m, z, rfl, ?_, rfl, ?_⟩
    · have : (x :: (m ++ [z])).length - 1 = (x :: m).length := by simp
      rw [this, show x :: (m ++ [z]) = (x :: m) ++ [z] by simp, List.take_left']
      · simp
      · rfl
    · have : ((x :: (m ++ [z])).length : Int) - 1 = ((x :: m).length : Int) := by simp <;> omega
      rw [this, show x :: (m ++ [z]) = (x :: m) ++ z :: [] by simp]
      exact rd_mid _ _ _
theorem milkF_perm : ∀ (d : Nat) (l out : List Int), (milkF d l out).Perm (l ++ out) := by
  intro d
  induction d with
  | zero => intro l out; simp [milkF]
  | succ d ih =>
    intro l out
    rw [milkF]
    split
    · rename_i h
      obtain ⟨x, m, z, e, e1, e2, e3⟩ := ends_of h
      rw [e1, e2, e3]
      refine (ih m ([x, z] ++ out)).trans ?_
      rw [e]
      simp only [List.cons_append, List.nil_append, List.append_assoc]
      exact List.perm_middle
    · exact List.Perm.refl _
theorem duckF_perm : ∀ (d : Nat) (q out : List Int) (b : Bool), (duckF d q out b).Perm (q ++ out) := by
  intro d
  induction d with
  | zero => intro q out b; simp [duckF]
  | succ d ih =>
    intro q out b
    match q with
    | [] => simp [duckF]
    | [x] => simp [duckF]
    | x :: y :: r =>
      rw [duckF]
      split
      · refine (ih (y :: r) (x :: out) false).trans ?_
        exact List.perm_middle
      · refine (ih (y :: r ++ [x]) out true).trans ?_
        rw [List.append_assoc]
        exact List.perm_middle
/-- A move keeps the cards. -/
theorem doMove_perm {l : List Int} {k a : Int} (h : moveOk (l.length : Int) k a = true) : ((doMove l k a).map cardOf).Perm (l.map cardOf) := by
  obtain ⟨n1, n2, h0, hk⟩ := moveOk_parts h
  unfold doMove
  by_cases k1 : k = 1
  · rw [if_pos k1]
    refine List.Perm.map _ ?_
    refine List.perm_append_comm.trans ?_
    rw [List.take_append_drop]
  rw [if_neg k1]
  by_cases k2 : k = 2
  · rw [if_pos k2]
    refine List.Perm.map _ ?_
    refine ((List.reverse_perm _).append_right _).trans ?_
    rw [List.take_append_drop]
  rw [if_neg k2]
  by_cases k3 : k = 3
  · rw [if_pos k3, List.map_append, List.map_reverse, List.map_map]
    have e : (cardOf ∘ turnCard) = cardOf := by funext x; exact cardOf_turn x
    rw [e]
    refine ((List.reverse_perm _).append_right _).trans ?_
    rw [← List.map_append, List.take_append_drop]
  rw [if_neg k3]
  by_cases k4 : k = 4
  · rw [if_pos k4]
    refine List.Perm.map _ ((faroF_perm a _ _ _ _ (by simp; omega)).trans ?_)
    rw [List.nil_append, List.take_append_drop]
  rw [if_neg k4]
  by_cases k5 : k = 5
  · rw [if_pos k5]
    exact List.Perm.map _ (mongeF_perm a l 0 [])
  rw [if_neg k5]
  by_cases k6 : k = 6
  · rw [if_pos k6]
    refine List.Perm.map _ ((milkF_perm l.length l []).trans ?_)
    rw [List.append_nil]
  rw [if_neg k6]
  by_cases k7 : k = 7
  · rw [if_pos k7]
    refine List.Perm.map _ ((duckF_perm _ l [] _).trans ?_)
    rw [List.append_nil]
  rw [if_neg k7]
  have hlt : a.toNat < l.length := by omega
  by_cases k8 : k = 8
  · rw [if_pos k8, List.map_set, cardOf_turn, rd_of_lt h0 (by omega)]
    have e : (l.map cardOf).set a.toNat (cardOf l[a.toNat]) = l.map cardOf := by
      have := set_self (l.map cardOf) a.toNat (by simpa using hlt)
      rw [List.getElem_map] at this
      exact this
    rw [e]
  rw [if_neg k8]
  refine List.Perm.map _ ?_
  rw [rd_of_lt h0 (by omega)]
  have e : l = l.take a.toNat ++ (l[a.toNat] :: l.drop (a.toNat + 1)) := by
    rw [← List.drop_eq_getElem_cons hlt, List.take_append_drop]
  have hp : (l.take a.toNat ++ l.drop (a.toNat + 1) ++ [l[a.toNat]]).Perm (l.take a.toNat ++ (l[a.toNat] :: l.drop (a.toNat + 1))) := by
    rw [List.append_assoc]
    refine List.Perm.append_left _ ?_
    exact List.perm_append_comm
  rw [← e] at hp
  exact hp
theorem doMove_length {l : List Int} {k a : Int} (h : moveOk (l.length : Int) k a = true) : (doMove l k a).length = l.length := by
  have := (doMove_perm h).length_eq
  simpa using this
theorem perform_length (l : List Int) (k a : Int) : (perform l k a).1.length ≤ 12 := by
  unfold perform
  by_cases h : packetOk l = true ∧ moveOk (l.length : Int) k a = true
  · rw [if_pos h, doMove_length h.2]; exact packetOk_length h.1
  · rw [if_neg h]; simp

def moveAll : List Int → List (Int × Int) → List Int × Bool
  | l, [] => (l, true)
  | l, m :: r => if moveOk (l.length : Int) m.1 m.2 = true then moveAll (doMove l m.1 m.2) r else ([], false)
def performAll (l : List Int) (ms : List (Int × Int)) : List Int × Bool := if packetOk l = true ∧ ms.length ≤ 20 then moveAll l ms else ([], false)
theorem packetOk_move {l : List Int} {k a : Int} (h : packetOk l = true) (hm : moveOk (l.length : Int) k a = true) : packetOk (doMove l k a) = true := by
  have hp := doMove_perm hm
  rw [packetOk_iff] at h ⊢
  refine ⟨fun x hx => ?_, hp.nodup_iff.2 h.2⟩
  obtain ⟨y, hy, e⟩ := List.mem_map.1 (hp.mem_iff.1 (List.mem_map_of_mem (f := cardOf) hx))
  rw [← e]
  exact h.1 y hy
theorem packet_bound {l : List Int} (h : packetOk l = true) : ∀ x ∈ l, -12 ≤ x ∧ x ≤ 11 := fun x hx => cardOf_bound (((packetOk_iff l).1 h).1 x hx)
theorem packet_wf {l : List Int} (h : packetOk l = true) : ∀ x ∈ l, (Lit.int .i64 x).wf = true := fun x hx => wf_small (by have := packet_bound h x hx; omega) (by have := packet_bound h x hx; omega)
theorem moveAll_length : ∀ (ms : List (Int × Int)) (l : List Int), packetOk l = true → (moveAll l ms).1.length ≤ 12 := by
  intro ms
  induction ms with
  | nil => intro l h; exact packetOk_length h
  | cons m r ih =>
    intro l h
    rw [moveAll]
    split
    · rename_i c; exact ih _ (packetOk_move h c)
    · simp
theorem performAll_length (l : List Int) (ms : List (Int × Int)) : (performAll l ms).1.length ≤ 12 := by
  unfold performAll
  split
  · rename_i c; exact moveAll_length ms l c.1
  · simp

theorem spec_l02Has_loop (l : List Int) (v : Int) (hl : l.length ≤ 9223372036854775806) : ∀ (r pre : List Int), l = pre ++ r →
    Ev (fun k => spec_l02Has.l0 k v l (l.length : Int) (pre.length : Int)) (decide (v ∈ r)) := by
  intro r
  induction r with
  | nil =>
    intro pre h
    have e := lens h
    simp only [List.length_nil] at e
    refine Ev.step (f := fun _ => some _) (fun k => ?_) (Ev.now _)
    simp only [spec_l02Has.l0]
    rw [if_neg (by omega)]
    simp
  | cons x r ih =>
    intro pre h
    have e := lens h
    simp only [List.length_cons] at e
    by_cases c : x = v
    · refine Ev.step (f := fun _ => some _) (fun k => ?_) (Ev.now _)
      simp only [spec_l02Has.l0]
      rw [if_pos (by omega), if_pos (by omega), if_pos (by omega), rd_mid' h, if_pos c]
      simp [c]
    · have hi := ih (pre ++ [x]) (snoc_eq h)
      have ed : decide (v ∈ x :: r) = decide (v ∈ r) := by simp [show ¬ v = x from fun q => c q.symm]
      rw [ed]
      refine Ev.step (fun k => ?_) hi
      simp only [spec_l02Has.l0]
      rw [if_pos (by omega), if_pos (by omega), if_pos (by omega), rd_mid' h, if_neg c, snoc_len x (by omega)]
theorem spec_l02Has_ev (l : List Int) (v : Int) (hl : l.length ≤ 9223372036854775806) : Ev (fun k => spec_l02Has.f k l v) (decide (v ∈ l)) := by
  unfold spec_l02Has.f
  exact spec_l02Has_loop l v hl l [] rfl

theorem spec_PacketOk_loop (l : List Int) (hl : l.length ≤ 12) : ∀ (r pre seen : List Int), l = pre ++ r → seen.length = pre.length →
    Ev (fun k => spec_PacketOk.l0 k seen l (l.length : Int) (pre.length : Int)) (pktFrom seen r) := by
  intro r
  induction r with
  | nil =>
    intro pre seen h hs
    have e := lens h
    simp only [List.length_nil] at e
    refine Ev.step (f := fun _ => some _) (fun k => ?_) (Ev.now _)
    simp only [spec_PacketOk.l0]
    rw [if_neg (by omega)]
    simp [pktFrom]
  | cons x r ih =>
    intro pre seen h hs
    have e := lens h
    simp only [List.length_cons] at e
    by_cases c0 : cardOf x < 0
    · have e : pktFrom seen (x :: r) = false := by simp only [pktFrom]; rw [decide_eq_false (by omega)]; rfl
      rw [e]
      refine Ev.step (f := fun _ => some _) (fun k => ?_) (Ev.now _)
      simp only [spec_PacketOk.l0]
      rw [if_pos (by omega), if_pos (by omega), if_pos (by omega), rd_mid' h, spec_CardOf_eq]
      simp only [Option.bind_some]
      rw [if_pos c0]
    refine Ev.step (f := fun k => (spec_l02Has.f k seen (cardOf x)).bind fun t => if t = true then some false else spec_PacketOk.l0 k (seen ++ [cardOf x]) l (l.length : Int) ((pre ++ [x]).length : Int)) (fun k => ?_) ?_
    · simp only [spec_PacketOk.l0]
      rw [if_pos (by omega), if_pos (by omega), if_pos (by omega), rd_mid' h, spec_CardOf_eq]
      simp only [Option.bind_some]
      rw [if_neg c0, if_pos (by omega), snoc_len x (by omega)]
    · refine Ev.bind (spec_l02Has_ev seen (cardOf x) (by omega)) ?_
      by_cases c2 : cardOf x ∈ seen
      · have e : pktFrom seen (x :: r) = false := by simp only [pktFrom]; simp [c2]
        rw [e]
        exact ev_some fun _ => by simp [c2]
      · have e : pktFrom seen (x :: r) = pktFrom (seen ++ [cardOf x]) r := by simp only [pktFrom]; rw [decide_eq_true (by omega)]; simp [c2]
        rw [e]
        simp only [c2, decide_false, Bool.false_eq_true, if_false]
        exact ih (pre ++ [x]) (seen ++ [cardOf x]) (snoc_eq h) (by simp [hs])
theorem spec_PacketOk_ev (l : List Int) (ha : l.length ≤ 9223372036854775806) : Ev (fun k => spec_PacketOk.f k l) (packetOk l) := by
  unfold spec_PacketOk.f
  by_cases g : (l.length : Int) > 12
  · have e : packetOk l = false := by
      cases h : packetOk l
      · rfl
      · have := packetOk_length h; omega
    rw [e]
    exact ev_ite_true g (Ev.now _)
  · exact ev_ite_false g (spec_PacketOk_loop l (by omega) l [] [] rfl rfl)

theorem spec_MoveOk_ev (n k a : Int) : Ev (fun i => spec_MoveOk.f i n k a) (moveOk n k a) := by
  refine ev_three fun i => ?_
  unfold spec_MoveOk.f moveOk
  rw [spec_l01In_eq, Option.bind_some]
  by_cases hn : 1 ≤ n ∧ n ≤ 12
  · rw [decide_eq_true hn, if_pos rfl]
    have hw : wrap64 (n - 1) = n - 1 := w64 (by omega) (by omega)
    simp only [spec_MoveOk.j0, spec_MoveOk.j1, spec_l01In_eq, Option.bind_some, hw]
    rcases kind_cases k with rfl | rfl | rfl | rfl | rfl | rfl | rfl | rfl | rfl | ⟨h1, h2, h3, h4, h5, h6, h7, h8, h9⟩ <;> simp [*] <;> first | omega | (simp only [← Bool.decide_and, decide_eq_decide]; omega) | (rw [Bool.eq_iff_iff]; simp; omega)
  · rw [decide_eq_false hn, if_neg (by simp), decide_eq_false (by omega)]
    rfl

theorem spec_l04Back_loop (l : List Int) (a : Nat) (b : Bool) (hl : l.length ≤ 12) (ha : a ≤ l.length) : ∀ (j : Nat) (out : List Int), j ≤ a → out.length + j ≤ 100 →
    Ev (fun k => spec_l04Back.l0 k l (a : Int) b out ((j : Int) - 1)) (out ++ ((l.take j).map (fun x => if b = true then turnCard x else x)).reverse ++ l.drop a) := by
  intro j
  induction j with
  | zero =>
    intro out hj ho
    refine Ev.step (f := fun _ => some _) (fun k => ?_) (Ev.now _)
    simp only [spec_l04Back.l0]
    rw [if_neg (by omega), if_pos (by omega), if_pos (by omega)]
    (try simp only [Option.bind_some])
    rw [if_pos (by simp <;> omega)]
    simp
  | succ j ih =>
    intro out hj ho
    have hlt : j < l.length := by omega
    have e : (((j + 1 : Nat) : Int) - 1) = (j : Int) := by omega
    have et : l.take (j + 1) = l.take j ++ [l[j]] := List.take_succ_eq_append_getElem hlt
    have ew : wrap64 ((j : Int) - 1) = (j : Int) - 1 := w64 (by omega) (by omega)
    have hi := ih (out ++ [if b = true then turnCard l[j] else l[j]]) (by omega) (by simp <;> omega)
    rw [et, List.map_append, List.reverse_append]
    simp only [List.map_cons, List.map_nil, List.reverse_cons, List.reverse_nil, List.nil_append]
    rw [show out ++ ([if b = true then turnCard l[j] else l[j]] ++ (List.map (fun x => if b = true then turnCard x else x) (l.take j)).reverse) ++ l.drop a = (out ++ [if b = true then turnCard l[j] else l[j]]) ++ ((l.take j).map (fun x => if b = true then turnCard x else x)).reverse ++ l.drop a by simp]
    refine Ev.step (fun k => ?_) hi
    simp only [spec_l04Back.l0]
    rw [e, if_pos (by omega), rd_lt hlt, spec_TurnCard_eq, ew]
    by_cases hb : b = true
    · rw [if_pos hb, if_pos hb, if_pos (by omega), if_pos (by omega)]
      (try simp only [Option.bind_some])
      rw [if_pos (by omega)]
    · rw [if_neg hb, if_neg hb, if_pos (by omega), if_pos (by omega), if_pos (by omega)]
theorem spec_l04Back_ev (l : List Int) (a : Int) (b : Bool) (hl : l.length ≤ 12) (h0 : 0 ≤ a) (ha : a ≤ l.length) :
    Ev (fun k => spec_l04Back.f k l a b) (((l.take a.toNat).map (fun x => if b = true then turnCard x else x)).reverse ++ l.drop a.toNat) := by
  have h := spec_l04Back_loop l a.toNat b hl (by omega) a.toNat [] (by omega) (by simp <;> omega)
  rw [Int.toNat_of_nonneg h0, List.nil_append] at h
  unfold spec_l04Back.f
  rw [w64 (by omega) (by omega)]
  exact h
theorem spec_l04Faro_loop (k : Int) : ∀ (d : Nat) (a b out : List Int), a.length + b.length = d → out.length + d ≤ 100 → Ev (fun j => spec_l04Faro.l0 j k a b out) (faroF k d a b out) := by
  intro d
  induction d with
  | zero =>
    intro a b out h ho
    have ha : a = [] := List.length_eq_zero_iff.mp (by omega)
    have hb : b = [] := List.length_eq_zero_iff.mp (by omega)
    subst ha hb
    refine Ev.step (f := fun j => spec_l04Faro.j1 j k [] [] out false) (fun j => by simp [spec_l04Faro.l0]) ?_
    refine Ev.step (f := fun _ => some _) (fun j => by simp [spec_l04Faro.j1, faroF]) (Ev.now _)
  | succ d ih =>
    intro a b out h ho
    refine Ev.step (f := fun j => spec_l04Faro.j1 j k a b out true) (fun j => ?_) ?_
    · simp only [spec_l04Faro.l0]
      by_cases ha : (a.length : Int) > 0
      · rw [if_pos ha]
      · rw [if_neg ha, decide_eq_true (show (b.length : Int) > 0 by omega)]
    · match a, b with
      | [], [] => simp at h
      | [], y :: b =>
        have hi := ih [] b (out ++ [y]) (by simpa using h) (by simp <;> omega)
        refine Ev.step (fun j => ?_) hi
        simp only [spec_l04Faro.j1, if_true]
        rw [if_neg (by simp <;> omega), if_neg (by simp), if_pos (by simp <;> omega), if_pos (by omega), if_pos (by simp <;> omega)]
        rfl
      | x :: a, [] =>
        have hi := ih a [] (out ++ [x]) (by simpa using h) (by simp <;> omega)
        refine Ev.step (fun j => ?_) hi
        simp only [spec_l04Faro.j1, if_true]
        rw [if_pos (by simp), if_pos (by simp <;> omega), if_pos (by omega), if_pos (by simp <;> omega)]
        rfl
      | x :: a, y :: b =>
        rw [faroF]
        by_cases c : (out.length : Int) % 2 = k
        · rw [if_pos c]
          have hi := ih a (y :: b) (out ++ [x]) (by simp at h ⊢; omega) (by simp <;> omega)
          refine Ev.step (fun j => ?_) hi
          simp only [spec_l04Faro.j1, if_true]
          rw [if_neg (by simp <;> omega), if_pos (by simp <;> omega), if_pos c, if_pos (by simp <;> omega), if_pos (by omega), if_pos (by simp <;> omega)]
          rfl
        · rw [if_neg c]
          have hi := ih (x :: a) b (out ++ [y]) (by simp at h ⊢; omega) (by simp <;> omega)
          refine Ev.step (fun j => ?_) hi
          simp only [spec_l04Faro.j1, if_true]
          rw [if_neg (by simp <;> omega), if_pos (by simp <;> omega), if_neg c, if_pos (by simp <;> omega), if_pos (by omega), if_pos (by simp <;> omega)]
          rfl
theorem spec_l04Faro_ev (l : List Int) (k : Int) (hl : l.length ≤ 12) : Ev (fun j => spec_l04Faro.f j l k) (faroF k l.length (l.take (l.length / 2)) (l.drop (l.length / 2)) []) := by
  unfold spec_l04Faro.f
  have e : wrap64 ((l.length : Int) / 2) = ((l.length / 2 : Nat) : Int) := by rw [w64 (by omega) (by omega)]; omega
  rw [e]
  refine ev_ite_true (by omega) (ev_ite_true (by omega) ?_)
  rw [Int.toNat_natCast]
  exact spec_l04Faro_loop k l.length _ _ [] (by simp <;> omega) (by simp <;> omega)
theorem spec_l04Monge_loop (l : List Int) (k : Int) (hl : l.length ≤ 12) : ∀ (r pre out : List Int), l = pre ++ r → out.length = pre.length →
    Ev (fun j => spec_l04Monge.l0 j k out l (l.length : Int) (pre.length : Int)) (mongeF k r pre.length out) := by
  intro r
  induction r with
  | nil =>
    intro pre out h ho
    have e := lens h
    simp only [List.length_nil] at e
    refine Ev.step (f := fun _ => some _) (fun j => ?_) (Ev.now _)
    simp only [spec_l04Monge.l0]
    rw [if_neg (by omega)]
    rfl
  | cons x r ih =>
    intro pre out h ho
    have e := lens h
    simp only [List.length_cons] at e
    have em : Int.tmod (pre.length : Int) 2 = (pre.length : Int) % 2 := Int.tmod_eq_emod_of_nonneg (by omega)
    rw [mongeF]
    by_cases c : pre.length = 0 ∨ (pre.length : Int) % 2 = k
    · rw [if_pos c]
      have hi := ih (pre ++ [x]) (out ++ [x]) (snoc_eq h) (by simp [ho])
      rw [show (pre ++ [x]).length = pre.length + 1 by simp] at hi
      refine Ev.step (fun j => ?_) hi
      simp only [spec_l04Monge.l0]
      rw [if_pos (by omega), if_pos (by omega), if_pos (by omega), rd_mid' h, em, w64 (by omega) (by omega)]
      by_cases c0 : (pre.length : Int) = 0
      · rw [if_pos c0, if_pos (by omega)]; rfl
      · rw [if_neg c0, if_pos (by omega), if_pos (by omega)]; rfl
    · rw [if_neg c]
      have hi := ih (pre ++ [x]) (x :: out) (snoc_eq h) (by simp [ho])
      rw [show (pre ++ [x]).length = pre.length + 1 by simp] at hi
      refine Ev.step (fun j => ?_) hi
      simp only [spec_l04Monge.l0]
      rw [if_pos (by omega), if_pos (by omega), if_pos (by omega), rd_mid' h, em, w64 (by omega) (by omega), if_neg (by omega), if_neg (by omega)]
      simp only [Option.bind_some, List.length_singleton]
      rw [if_pos (by omega)]
      rfl
theorem spec_l04Monge_ev (l : List Int) (k : Int) (hl : l.length ≤ 12) : Ev (fun j => spec_l04Monge.f j l k) (mongeF k l 0 []) := by
  unfold spec_l04Monge.f
  exact spec_l04Monge_loop l k hl l [] [] rfl rfl
theorem spec_l04Milk_loop : ∀ (d : Nat) (l out : List Int), l.length ≤ d → l.length + out.length ≤ 100 → Ev (fun j => spec_l04Milk.l0 j l out) (milkF d l out) := by
  intro d
  induction d with
  | zero =>
    intro l out h ho
    refine Ev.step (f := fun _ => some _) (fun j => ?_) (Ev.now _)
    simp only [spec_l04Milk.l0]
    rw [if_neg (by omega)]
    simp only [Option.bind_some, List.length_nil, List.nil_append]
    rw [if_pos (by omega)]
    (try simp only [Option.bind_some])
    rw [if_pos (by omega)]
    rfl
  | succ d ih =>
    intro l out h ho
    rw [milkF]
    by_cases c : 1 < l.length
    · rw [if_pos c]
      have hi := ih ((l.take (l.length - 1)).drop 1) ([rd l 0, rd l ((l.length : Int) - 1)] ++ out) (by simp <;> omega) (by simp <;> omega)
      refine Ev.step (fun j => ?_) hi
      have ew : wrap64 ((l.length : Int) - 1) = (l.length : Int) - 1 := w64 (by omega) (by omega)
      simp only [spec_l04Milk.l0, ew]
      rw [if_pos (by omega), if_pos (by omega), if_pos (by omega), if_pos (by omega)]
      (try simp only [Option.bind_some])
      rw [if_pos (by simp <;> omega), if_pos (by omega), if_pos (by omega), show ((l.length : Int) - 1).toNat = l.length - 1 by omega]
    · rw [if_neg c]
      refine Ev.step (f := fun _ => some _) (fun j => ?_) (Ev.now _)
      simp only [spec_l04Milk.l0]
      rw [if_neg (by omega)]
      simp only [Option.bind_some, List.length_nil, List.nil_append]
      rw [if_pos (by omega)]
      (try simp only [Option.bind_some])
      rw [if_pos (by omega)]
theorem spec_l04Milk_ev (l : List Int) (hl : l.length ≤ 12) : Ev (fun j => spec_l04Milk.f j l) (milkF l.length l []) := by
  unfold spec_l04Milk.f
  exact spec_l04Milk_loop l.length l [] (by omega) (by simp <;> omega)
theorem spec_l04Duck_loop : ∀ (d : Nat) (q out : List Int) (s : Nat) (b : Bool), q ≠ [] → q.length ≤ 100 → out.length + q.length ≤ 100 → 2 * q.length + (if b = true then 0 else 1) ≤ d + 1 → s + d ≤ 1000 → (b = true ↔ s % 2 = 1) →
    Ev (fun j => spec_l04Duck.l0 j q out (s : Int)) (duckF d q out b) := by
  intro d
  induction d with
  | zero =>
    intro q out s b hq h1 ho hd hs hb
    have : 0 < q.length := List.length_pos_iff.2 hq
    split at hd <;> omega
  | succ d ih =>
    intro q out s b hq h1 ho hd hs hb
    have em : Int.tmod (s : Int) 2 = (s : Int) % 2 := Int.tmod_eq_emod_of_nonneg (by omega)
    have en : wrap64 ((s : Int) + 1) = ((s + 1 : Nat) : Int) := by rw [w64 (by omega) (by omega)]; rfl
    match q with
    | [] => exact absurd rfl hq
    | [x] =>
      refine Ev.step (f := fun _ => some _) (fun j => ?_) (Ev.now _)
      simp only [spec_l04Duck.l0, duckF]
      rw [if_neg (by simp), if_pos (by simp)]
      simp only [Option.bind_some, List.length_singleton]
      rw [if_pos (by simp at ho; omega)]
      rfl
    | x :: y :: r =>
      simp only [List.length_cons] at h1 ho hd
      rw [duckF]
      by_cases c : b = true
      · rw [if_pos c]
        have hs1 := hb.1 c
        rw [if_pos c] at hd
        have hi := ih (y :: r) (x :: out) (s + 1) false (by simp) (by simp <;> omega) (by simp <;> omega) (by simp <;> omega) (by omega) (by simp <;> omega)
        refine Ev.step (fun j => ?_) hi
        simp only [spec_l04Duck.l0, em, en]
        rw [if_pos (by simp <;> omega), if_pos (by simp <;> omega), if_pos (by simp <;> omega)]
        (try simp only [Option.bind_some])
        rw [if_pos (by omega)]
        simp only [Option.bind_some, List.length_singleton]
        rw [if_pos (by omega)]
        rfl
      · rw [if_neg c]
        have hs1 : ¬ s % 2 = 1 := fun q => c (hb.2 q)
        rw [if_neg c] at hd
        have hi := ih (y :: r ++ [x]) out (s + 1) true (by simp) (by simp <;> omega) (by simp <;> omega) (by simp <;> omega) (by omega) (by simp <;> omega)
        refine Ev.step (fun j => ?_) hi
        simp only [spec_l04Duck.l0, em, en]
        rw [if_pos (by simp <;> omega), if_pos (by simp <;> omega), if_pos (by simp <;> omega)]
        (try simp only [Option.bind_some])
        rw [if_neg (by omega), if_pos (by simp <;> omega)]
        rfl
theorem spec_l04Duck_ev (l : List Int) (a : Int) (hl : l.length ≤ 12) (h1 : 1 ≤ l.length) (ha : a = 0 ∨ a = 1) : Ev (fun j => spec_l04Duck.f j l a) (duckF (2 * l.length) l [] (a == 1)) := by
  unfold spec_l04Duck.f
  simp only [Option.bind_some, List.length_nil, List.nil_append]
  refine ev_ite_true (by omega) ?_
  have h := spec_l04Duck_loop (2 * l.length) l [] a.toNat (a == 1) (List.length_pos_iff.1 h1) (by omega) (by simp <;> omega) (by split <;> omega) (by omega) (by rcases ha with rfl | rfl <;> simp)
  rw [Int.toNat_of_nonneg (by omega)] at h
  exact h

theorem spec_l04Do_ev (l : List Int) (k a : Int) (h : moveOk (l.length : Int) k a = true) : Ev (fun j => spec_l04Do.f j l k a) (doMove l k a) := by
  obtain ⟨n1, n2, h0, hk⟩ := moveOk_parts h
  have hl : l.length ≤ 12 := by omega
  unfold spec_l04Do.f doMove
  by_cases k1 : k = 1
  · rw [if_pos k1]
    refine ev_ite_true k1 (ev_some fun j => ?_)
    simp only [Option.bind_some, List.length_nil, List.nil_append]
    rw [if_pos (by omega), if_pos (by omega), if_pos (by simp <;> omega)]
    (try simp only [Option.bind_some])
    rw [if_pos (by simp <;> omega)]
  rw [if_neg k1]
  refine ev_ite_false k1 ?_
  by_cases k2 : k = 2
  · rw [if_pos k2]
    refine ev_ite_true k2 (Ev.bind (spec_l04Back_ev l a false hl h0 (by omega)) ?_)
    simp only [Bool.false_eq_true, if_false, List.map_id']
    exact Ev.now _
  rw [if_neg k2]
  refine ev_ite_false k2 ?_
  by_cases k3 : k = 3
  · rw [if_pos k3]
    refine ev_ite_true k3 (Ev.bind (spec_l04Back_ev l a true hl h0 (by omega)) ?_)
    simp only [if_true]
    exact Ev.now _
  rw [if_neg k3]
  refine ev_ite_false k3 ?_
  by_cases k4 : k = 4
  · rw [if_pos k4]
    exact ev_ite_true k4 (Ev.bind (spec_l04Faro_ev l a hl) (Ev.now _))
  rw [if_neg k4]
  refine ev_ite_false k4 ?_
  by_cases k5 : k = 5
  · rw [if_pos k5]
    exact ev_ite_true k5 (Ev.bind (spec_l04Monge_ev l a hl) (Ev.now _))
  rw [if_neg k5]
  refine ev_ite_false k5 ?_
  by_cases k6 : k = 6
  · rw [if_pos k6]
    exact ev_ite_true k6 (Ev.bind (spec_l04Milk_ev l hl) (Ev.now _))
  rw [if_neg k6]
  refine ev_ite_false k6 ?_
  by_cases k7 : k = 7
  · rw [if_pos k7]
    exact ev_ite_true k7 (Ev.bind (spec_l04Duck_ev l a hl (by omega) (by omega)) (Ev.now _))
  rw [if_neg k7]
  refine ev_ite_false k7 ?_
  by_cases k8 : k = 8
  · simp only [if_pos k8]
    refine ev_some fun j => ?_
    simp only [Option.bind_some, List.length_nil, List.nil_append]
    rw [if_pos (by omega)]
    (try simp only [Option.bind_some])
    rw [if_pos (by omega), if_pos (by omega), spec_TurnCard_eq]
    (try simp only [Option.bind_some])
    rw [if_pos (by omega)]
  simp only [if_neg k8]
  refine ev_some fun j => ?_
  simp only [Option.bind_some, List.length_nil, List.nil_append]
  have ew : wrap64 (a + 1) = a + 1 := w64 (by omega) (by omega)
  rw [if_pos (by omega), if_pos (by omega), if_pos (by simp <;> omega)]
  simp only [Option.bind_some, ew]
  rw [if_pos (by omega), if_pos (by omega), if_pos (by simp <;> omega), show (a + 1).toNat = a.toNat + 1 by omega]
  (try simp only [Option.bind_some])
  rw [if_pos (by omega), if_pos (by simp <;> omega)]

theorem impl_PacketOk_loop (l : List Int) (hl : l.length ≤ 9223372036854775806) (hw : ∀ x ∈ l, (Lit.int .i64 x).wf = true) : ∀ (r pre seen : List Int) (m : List Bool), l = pre ++ r → m.length = 12 → (∀ c : Int, 0 ≤ c → c < 12 → (rdOf false m c = true ↔ c ∈ seen)) →
    Ev (fun k => impl_PacketOk.l0 k m l (pre.length : Int)) (pktFrom seen r) := by
  intro r
  induction r with
  | nil =>
    intro pre seen m h hm hs
    have e := lens h
    simp only [List.length_nil] at e
    refine Ev.step (f := fun _ => some _) (fun k => ?_) (Ev.now _)
    simp only [impl_PacketOk.l0]
    rw [if_neg (by omega)]
    simp [pktFrom]
  | cons x r ih =>
    intro pre seen m h hm hs
    have e := lens h
    simp only [List.length_cons] at e
    have hx := bd64 (hw x (by rw [h]; simp))
    have hc := cardOf_le x
    by_cases c0 : cardOf x < 0
    · have e : pktFrom seen (x :: r) = false := by simp only [pktFrom]; rw [decide_eq_false (by omega)]; rfl
      rw [e]
      refine Ev.step (f := fun _ => some _) (fun k => ?_) (Ev.now _)
      simp only [impl_PacketOk.l0]
      rw [if_pos (by omega), if_pos (by omega), rd_mid' h, impl_CardOf_eq x hx.1]
      simp only [Option.bind_some]
      rw [if_pos c0]
    have hsc := hs (cardOf x) (by omega) (by omega)
    by_cases c2 : cardOf x ∈ seen
    · have e : pktFrom seen (x :: r) = false := by simp only [pktFrom]; simp [c2]
      rw [e]
      refine Ev.step (f := fun _ => some _) (fun k => ?_) (Ev.now _)
      simp only [impl_PacketOk.l0]
      rw [if_pos (by omega), if_pos (by omega), rd_mid' h, impl_CardOf_eq x hx.1]
      simp only [Option.bind_some]
      rw [if_neg c0, if_pos (by omega), if_pos (hsc.2 c2)]
    · have e : pktFrom seen (x :: r) = pktFrom (seen ++ [cardOf x]) r := by simp only [pktFrom]; rw [decide_eq_true (by omega)]; simp [c2]
      rw [e]
      refine Ev.step (fun k => ?_) (ih (pre ++ [x]) (seen ++ [cardOf x]) (m.set (cardOf x).toNat true) (snoc_eq h) (by simp [hm]) ?_)
      · simp only [impl_PacketOk.l0]
        rw [if_pos (by omega), if_pos (by omega), rd_mid' h, impl_CardOf_eq x hx.1]
        simp only [Option.bind_some]
        rw [if_neg c0, if_pos (by omega), if_neg (fun q => c2 (hsc.1 q)), snoc_len x (by omega)]
      · intro c h0 h1
        rw [List.mem_append, List.mem_singleton, ← hs c h0 h1]
        simp only [rdOf, List.getD_eq_getElem?_getD, List.getElem?_set, hm]
        by_cases ec : c = cardOf x
        · subst ec
          rw [if_pos rfl, if_pos (by omega)]
          simp
        · rw [if_neg (by omega)]
          simp [ec]
theorem impl_PacketOk_ev (l : List Int) (hl : l.length ≤ 9223372036854775806) (hw : ∀ x ∈ l, (Lit.int .i64 x).wf = true) : Ev (fun k => impl_PacketOk.f k l) (packetOk l) := by
  unfold impl_PacketOk.f packetOk
  refine impl_PacketOk_loop l hl hw l [] [] _ rfl (by simp) ?_
  intro c h0 h1
  simp only [rdOf, List.getD_eq_getElem?_getD, List.getElem?_replicate]
  rw [if_pos (by omega)]
  simp

theorem impl_MoveOk_ev (n k a : Int) : Ev (fun i => impl_MoveOk.f i n k a) (moveOk n k a) := by
  refine ev_three fun i => ?_
  unfold impl_MoveOk.f moveOk
  by_cases hn : 1 ≤ n ∧ n ≤ 12 ∧ 0 ≤ a
  · rw [decide_eq_true hn, if_neg (by omega), if_neg (by omega), decide_eq_false (by omega)]
    simp only [impl_MoveOk.j0, impl_MoveOk.j1, impl_MoveOk.j2]
    rcases kind_cases k with rfl | rfl | rfl | rfl | rfl | rfl | rfl | rfl | rfl | ⟨h1, h2, h3, h4, h5, h6, h7, h8, h9⟩ <;> simp [*] <;> first | omega | (rw [Bool.eq_iff_iff]; simp)
  · rw [decide_eq_false hn]
    by_cases h1 : n < 1
    · rw [if_pos h1]; simp [impl_MoveOk.j0]
    · rw [if_neg h1]
      by_cases h2 : n > 12
      · rw [if_pos h2]; simp [impl_MoveOk.j0]
      · rw [if_neg h2, decide_eq_true (show a < 0 by omega)]; simp [impl_MoveOk.j0]

theorem slices_Reverse_int_int_loop : ∀ (d : Nat) (m p q : List Int), m.length ≤ d → p.length = q.length → p.length + m.length + q.length ≤ 100 →
    Ev (fun k => slices_Reverse_int_int.l0 k (p ++ m ++ q) (p.length : Int) ((p.length : Int) + m.length - 1)) (p ++ m.reverse ++ q) := by
  intro d
  induction d with
  | zero =>
    intro m p q h hp hl
    have hm : m = [] := List.length_eq_zero_iff.mp (by omega)
    subst hm
    refine Ev.step (f := fun _ => some _) (fun k => ?_) (Ev.now _)
    simp only [slices_Reverse_int_int.l0]
    rw [if_neg (by simp <;> omega)]
    rfl
  | succ d ih =>
    intro m p q h hp hl
    match m with
    | [] =>
      refine Ev.step (f := fun _ => some _) (fun k => ?_) (Ev.now _)
      simp only [slices_Reverse_int_int.l0]
      rw [if_neg (by simp <;> omega)]
      rfl
    | [x] =>
      refine Ev.step (f := fun _ => some _) (fun k => ?_) (Ev.now _)
      simp only [slices_Reverse_int_int.l0]
      rw [if_neg (by simp)]
      rfl
    | x :: y :: r =>
      obtain ⟨m', z, e⟩ : ∃ m' z, y :: r = m' ++ [z] := ⟨(y :: r).dropLast, (y :: r).getLast (by simp), (List.dropLast_concat_getLast (by simp)).symm⟩
      rw [e] at h hl ⊢
      simp only [List.length_cons, List.length_append, List.length_singleton] at h hl
      have hi := ih m' (p ++ [z]) (x :: q) (by omega) (by simp [hp]) (by simp <;> omega)
      have e1 : p ++ (x :: (m' ++ [z])).reverse ++ q = p ++ [z] ++ m'.reverse ++ (x :: q) := by simp
      rw [e1]
      refine Ev.step (fun k => ?_) hi
      have hj : ((p.length : Int) + ((x :: (m' ++ [z])).length : Int) - 1) = ((p.length + 1 + m'.length : Nat) : Int) := by simp <;> omega
      have ei : wrap64 ((p.length : Int) + 1) = ((p ++ [z]).length : Int) := snoc_len z (by omega)
      have ej : wrap64 (((p.length + 1 + m'.length : Nat) : Int) - 1) = ((p ++ [z]).length : Int) + (m'.length : Int) - 1 := by rw [w64 (by omega) (by omega), List.length_append, List.length_singleton]; omega
      have ex : rd (p ++ (x :: (m' ++ [z])) ++ q) (p.length : Int) = x := by simp [rd]
      have ez : rd (p ++ (x :: (m' ++ [z])) ++ q) ((p.length + 1 + m'.length : Nat) : Int) = z := by
        have : p ++ (x :: (m' ++ [z])) ++ q = (p ++ x :: m') ++ (z :: q) := by simp
        rw [this, show p.length + 1 + m'.length = (p ++ x :: m').length by simp <;> omega]
        exact rd_mid _ _ _
      have es : ((p ++ (x :: (m' ++ [z])) ++ q).set p.length z).set (p.length + 1 + m'.length) x = p ++ [z] ++ m' ++ (x :: q) := by
        have e2 : p ++ (x :: (m' ++ [z])) ++ q = p ++ x :: (m' ++ z :: q) := by simp
        rw [e2, set_mid, show (p ++ [z] ++ (m' ++ z :: q)) = (p ++ [z] ++ m') ++ z :: q by simp, show p.length + 1 + m'.length = (p ++ [z] ++ m').length by simp <;> omega, set_mid]
        simp
      simp only [slices_Reverse_int_int.l0]
      rw [hj, if_pos (by omega), if_pos (by omega), if_pos (by simp <;> omega), if_pos (by omega), if_pos (by simp <;> omega), ex, ez, ei, ej, Int.toNat_natCast, Int.toNat_natCast, es]
theorem slices_Reverse_int_int_ev (l : List Int) (hl : l.length ≤ 100) : Ev (fun k => slices_Reverse_int_int.f k l) l.reverse := by
  unfold slices_Reverse_int_int.f
  have h := slices_Reverse_int_int_loop l.length l [] [] (by omega) rfl (by simp <;> omega)
  simp only [List.nil_append, List.append_nil, List.length_nil] at h
  rw [w64 (by omega) (by omega)]
  have e : (((0 : Nat) : Int) + (l.length : Int) - 1) = (l.length : Int) - 1 := by omega
  rw [e] at h
  exact h
theorem impl_reversed_ev (l : List Int) (hl : l.length ≤ 100) : Ev (fun k => impl_reversed.f k l) l.reverse := by
  unfold impl_reversed.f
  have e : slices_Clone_int_int.f l = some l := by unfold slices_Clone_int_int.f; rw [if_pos (by omega)]
  simp only [e, Option.bind_some]
  exact Ev.bind (slices_Reverse_int_int_ev l hl) (Ev.now _)

theorem flen {ls pre r : List (List Int)} (h : ls = pre ++ r) : ls.flatten.length = pre.flatten.length + r.flatten.length := by rw [h]; simp
theorem slices_Concat_int_int_two (ls : List (List Int)) (hn : ls.length ≤ 100) (hl : ls.flatten.length ≤ 100) : ∀ (r pre : List (List Int)), ls = pre ++ r →
    Ev (fun k => slices_Concat_int_int.l1 k pre.flatten ls (ls.length : Int) (pre.length : Int)) ls.flatten := by
  intro r
  induction r with
  | nil =>
    intro pre h
    refine Ev.step (f := fun _ => some _) (fun k => ?_) (Ev.now _)
    simp only [slices_Concat_int_int.l1]
    rw [if_neg (by rw [h]; simp), h, List.append_nil]
  | cons x r ih =>
    intro pre h
    have e : ls.length = pre.length + (r.length + 1) := by rw [h]; simp
    have hf := flen h
    simp only [List.flatten_cons, List.length_append] at hf
    have hr : rd_L3 ls (pre.length : Int) = x := by rw [h]; simp [rd_L3]
    have hi := ih (pre ++ [x]) (by rw [h]; simp)
    rw [show (pre ++ [x]).flatten = pre.flatten ++ x by simp, show (pre ++ [x]).length = pre.length + 1 by simp] at hi
    refine Ev.step (fun k => ?_) hi
    simp only [slices_Concat_int_int.l1]
    rw [if_pos (by omega), if_pos (by omega), if_pos (by omega), hr, if_pos (by omega), w64 (by omega) (by omega)]
    rfl
theorem slices_Concat_int_int_one (ls : List (List Int)) (hn : ls.length ≤ 100) (hl : ls.flatten.length ≤ 100) : ∀ (r pre : List (List Int)), ls = pre ++ r →
    Ev (fun k => slices_Concat_int_int.l0 k ls (pre.flatten.length : Int) ls (ls.length : Int) (pre.length : Int)) ls.flatten := by
  intro r
  induction r with
  | nil =>
    intro pre h
    refine Ev.step (f := fun k => slices_Concat_int_int.l1 k [] ls (ls.length : Int) 0) (fun k => ?_) (slices_Concat_int_int_two ls hn hl ls [] rfl)
    have hf := flen h
    simp only [slices_Concat_int_int.l0]
    have e : slices_Grow_int_int.f ([] : List Int) (pre.flatten.length : Int) = some [] := by unfold slices_Grow_int_int.f; rw [if_pos ⟨rfl, by omega, by omega⟩]
    rw [if_neg (by rw [h]; simp), e]
    rfl
  | cons x r ih =>
    intro pre h
    have e : ls.length = pre.length + (r.length + 1) := by rw [h]; simp
    have hf := flen h
    simp only [List.flatten_cons, List.length_append] at hf
    have hr : rd_L3 ls (pre.length : Int) = x := by rw [h]; simp [rd_L3]
    have hi := ih (pre ++ [x]) (by rw [h]; simp)
    rw [show (pre ++ [x]).flatten.length = pre.flatten.length + x.length by simp, show (pre ++ [x]).length = pre.length + 1 by simp] at hi
    have ew : wrap64 ((pre.flatten.length : Int) + (x.length : Int)) = ((pre.flatten.length + x.length : Nat) : Int) := by rw [w64 (by omega) (by omega)]; rfl
    refine Ev.step (fun k => ?_) hi
    simp only [slices_Concat_int_int.l0]
    rw [if_pos (by omega), if_pos (by omega), if_pos (by omega), hr, ew, if_neg (by omega), w64 (by omega) (by omega)]
    rfl
theorem slices_Concat_int_int_ev (ls : List (List Int)) (hn : ls.length ≤ 100) (hl : ls.flatten.length ≤ 100) : Ev (fun k => slices_Concat_int_int.f k ls) ls.flatten := by
  unfold slices_Concat_int_int.f
  exact slices_Concat_int_int_one ls hn hl ls [] rfl

theorem flag_next (n : Nat) (k : Int) (hk : k = 0 ∨ k = 1) : (!decide ((n : Int) % 2 = k)) = decide (((n + 1 : Nat) : Int) % 2 = k) := by
  by_cases h : (n : Int) % 2 = k
  · rw [decide_eq_true h, decide_eq_false (by omega)]; rfl
  · rw [decide_eq_false h, decide_eq_true (by omega)]; rfl
theorem impl_faro_loop (k : Int) (hk : k = 0 ∨ k = 1) : ∀ (d : Nat) (a b out : List Int), a.length + b.length = d → out.length + d ≤ 100 → Ev (fun j => impl_faro.l0 j a b out (decide ((out.length : Int) % 2 = k))) (faroF k d a b out) := by
  intro d
  induction d with
  | zero =>
    intro a b out h ho
    have ha : a = [] := List.length_eq_zero_iff.mp (by omega)
    have hb : b = [] := List.length_eq_zero_iff.mp (by omega)
    subst ha hb
    refine Ev.step (f := fun j => impl_faro.j1 j [] [] out (decide ((out.length : Int) % 2 = k)) false) (fun j => by simp [impl_faro.l0]) ?_
    refine Ev.step (f := fun _ => some _) (fun j => by simp [impl_faro.j1, faroF]) (Ev.now _)
  | succ d ih =>
    intro a b out h ho
    refine Ev.step (f := fun j => impl_faro.j1 j a b out (decide ((out.length : Int) % 2 = k)) true) (fun j => ?_) ?_
    · simp only [impl_faro.l0]
      by_cases ha : (a.length : Int) > 0
      · rw [if_pos ha]
      · rw [if_neg ha, decide_eq_true (show (b.length : Int) > 0 by omega)]
    · have hx : ∀ z : Int, (out ++ [z]).length = out.length + 1 := fun z => by simp
      match a, b with
      | [], [] => simp at h
      | [], y :: b =>
        have hi := ih [] b (out ++ [y]) (by simpa using h) (by simp <;> omega)
        rw [hx, ← flag_next _ _ hk] at hi
        refine Ev.step (fun j => ?_) hi
        simp only [impl_faro.j1, if_true]
        by_cases c : (out.length : Int) % 2 = k
        · rw [if_pos (decide_eq_true c), if_neg (by simp), if_neg (by simp <;> omega), if_pos (by simp <;> omega), if_pos (by omega), if_pos (by simp <;> omega)]
          rfl
        · rw [if_neg (by simp [c]), if_neg (by simp <;> omega), if_pos (by simp <;> omega), if_pos (by omega), if_pos (by simp <;> omega)]
          rfl
      | x :: a, [] =>
        have hi := ih a [] (out ++ [x]) (by simpa using h) (by simp <;> omega)
        rw [hx, ← flag_next _ _ hk] at hi
        refine Ev.step (fun j => ?_) hi
        simp only [impl_faro.j1, if_true]
        by_cases c : (out.length : Int) % 2 = k
        · rw [if_pos (decide_eq_true c), if_pos (by simp <;> omega), if_pos (by simp <;> omega), if_pos (by omega), if_pos (by simp <;> omega)]
          rfl
        · rw [if_neg (by simp [c]), if_pos (by simp), if_pos (by simp <;> omega), if_pos (by omega), if_pos (by simp <;> omega)]
          rfl
      | x :: a, y :: b =>
        rw [faroF]
        by_cases c : (out.length : Int) % 2 = k
        · rw [if_pos c]
          have hi := ih a (y :: b) (out ++ [x]) (by simp at h ⊢; omega) (by simp <;> omega)
          rw [hx, ← flag_next _ _ hk] at hi
          refine Ev.step (fun j => ?_) hi
          simp only [impl_faro.j1, if_true]
          rw [if_pos (decide_eq_true c), if_pos (by simp <;> omega), if_pos (by simp <;> omega), if_pos (by omega), if_pos (by simp <;> omega)]
          rfl
        · rw [if_neg c]
          have hi := ih (x :: a) b (out ++ [y]) (by simp at h ⊢; omega) (by simp <;> omega)
          rw [hx, ← flag_next _ _ hk] at hi
          refine Ev.step (fun j => ?_) hi
          simp only [impl_faro.j1, if_true]
          rw [if_neg (by simp [c]), if_neg (by simp <;> omega), if_pos (by simp <;> omega), if_pos (by omega), if_pos (by simp <;> omega)]
          rfl
theorem impl_faro_ev (l : List Int) (k : Int) (hl : l.length ≤ 12) (hk : k = 0 ∨ k = 1) : Ev (fun j => impl_faro.f j l k) (faroF k l.length (l.take (l.length / 2)) (l.drop (l.length / 2)) []) := by
  unfold impl_faro.f
  have e : wrap64 ((l.length : Int) / 2) = ((l.length / 2 : Nat) : Int) := by rw [w64 (by omega) (by omega)]; omega
  rw [e]
  refine ev_ite_true (by omega) (ev_ite_true (by omega) ?_)
  rw [Int.toNat_natCast]
  have h := impl_faro_loop k hk l.length (l.take (l.length / 2)) (l.drop (l.length / 2)) [] (by simp <;> omega) (by simp <;> omega)
  have eb : (k == 0) = decide ((([] : List Int).length : Int) % 2 = k) := by rcases hk with rfl | rfl <;> rfl
  rw [eb]
  exact h
theorem impl_monge_loop (l : List Int) (k : Int) (hk : k = 0 ∨ k = 1) (hl : l.length ≤ 12) : ∀ (r pre out : List Int), l = pre ++ r → out.length = pre.length →
    Ev (fun j => impl_monge.l0 j k out l (l.length : Int) (pre.length : Int)) (mongeF k r pre.length out) := by
  intro r
  induction r with
  | nil =>
    intro pre out h ho
    have e := lens h
    simp only [List.length_nil] at e
    refine Ev.step (f := fun _ => some _) (fun j => ?_) (Ev.now _)
    simp only [impl_monge.l0]
    rw [if_neg (by omega)]
    rfl
  | cons x r ih =>
    intro pre out h ho
    have e := lens h
    simp only [List.length_cons] at e
    have em : Int.tmod (wrap64 ((pre.length : Int) + k)) 2 = ((pre.length : Int) + k) % 2 := by rw [w64 (by omega) (by omega)]; exact Int.tmod_eq_emod_of_nonneg (by omega)
    rw [mongeF]
    by_cases c : pre.length = 0 ∨ (pre.length : Int) % 2 = k
    · rw [if_pos c]
      have hi := ih (pre ++ [x]) (out ++ [x]) (snoc_eq h) (by simp [ho])
      rw [show (pre ++ [x]).length = pre.length + 1 by simp] at hi
      refine Ev.step (fun j => ?_) hi
      simp only [impl_monge.l0]
      rw [if_pos (by omega), if_pos (by omega), if_pos (by omega), rd_mid' h, em, w64 (by omega) (by omega)]
      by_cases c0 : (pre.length : Int) > 0
      · rw [if_pos c0, if_neg (by omega), if_pos (by omega)]; rfl
      · rw [if_neg c0, if_pos (by omega)]; rfl
    · rw [if_neg c]
      have hi := ih (pre ++ [x]) (x :: out) (snoc_eq h) (by simp [ho])
      rw [show (pre ++ [x]).length = pre.length + 1 by simp] at hi
      refine Ev.step (fun j => ?_) hi
      simp only [impl_monge.l0]
      rw [if_pos (by omega), if_pos (by omega), if_pos (by omega), rd_mid' h, em, w64 (by omega) (by omega), if_pos (by omega), if_pos (by omega)]
      simp only [Option.bind_some, List.length_singleton]
      rw [if_pos (by omega)]
      rfl
theorem impl_monge_ev (l : List Int) (k : Int) (hl : l.length ≤ 12) (hk : k = 0 ∨ k = 1) : Ev (fun j => impl_monge.f j l k) (mongeF k l 0 []) := by
  unfold impl_monge.f
  exact impl_monge_loop l k hk hl l [] [] rfl rfl
theorem impl_milk_loop : ∀ (d : Nat) (l out : List Int), l.length ≤ d → l.length + out.length ≤ 100 → Ev (fun j => impl_milk.l0 j l out) (milkF d l out) := by
  intro d
  induction d with
  | zero =>
    intro l out h ho
    refine Ev.step (f := fun _ => some _) (fun j => ?_) (Ev.now _)
    simp only [impl_milk.l0]
    rw [if_neg (by omega)]
    rw [show slices_Clone_int_int.f l = some l by unfold slices_Clone_int_int.f; rw [if_pos (by omega)]]
    (try simp only [Option.bind_some])
    rw [if_pos (by omega)]
    rfl
  | succ d ih =>
    intro l out h ho
    rw [milkF]
    by_cases c : 1 < l.length
    · rw [if_pos c]
      have hi := ih ((l.take (l.length - 1)).drop 1) ([rd l 0, rd l ((l.length : Int) - 1)] ++ out) (by simp <;> omega) (by simp <;> omega)
      refine Ev.step (fun j => ?_) hi
      have ew : wrap64 ((l.length : Int) - 1) = (l.length : Int) - 1 := w64 (by omega) (by omega)
      simp only [impl_milk.l0, ew]
      rw [if_pos (by omega), if_pos (by omega), if_pos (by omega), if_pos (by omega)]
      (try simp only [Option.bind_some])
      rw [if_pos (by simp <;> omega), if_pos (by omega), if_pos (by omega), show ((l.length : Int) - 1).toNat = l.length - 1 by omega]
    · rw [if_neg c]
      refine Ev.step (f := fun _ => some _) (fun j => ?_) (Ev.now _)
      simp only [impl_milk.l0]
      rw [if_neg (by omega)]
      rw [show slices_Clone_int_int.f l = some l by unfold slices_Clone_int_int.f; rw [if_pos (by omega)]]
      (try simp only [Option.bind_some])
      rw [if_pos (by omega)]
theorem impl_milk_ev (l : List Int) (hl : l.length ≤ 12) : Ev (fun j => impl_milk.f j l) (milkF l.length l []) := by
  unfold impl_milk.f
  exact impl_milk_loop l.length l [] (by omega) (by simp <;> omega)
theorem impl_dealt_loop : ∀ (d : Nat) (q out : List Int) (b : Bool), q ≠ [] → q.length ≤ 100 → out.length + q.length ≤ 100 → 2 * q.length + (if b = true then 0 else 1) ≤ d + 1 →
    ∃ r, Ev (fun j => impl_dealt.l0 j out q b) r ∧ r.reverse = duckF d q out.reverse b ∧ r.length = out.length + q.length := by
  intro d
  induction d with
  | zero =>
    intro q out b hq h1 ho hd
    have : 0 < q.length := List.length_pos_iff.2 hq
    split at hd <;> omega
  | succ d ih =>
    intro q out b hq h1 ho hd
    match q with
    | [] => exact absurd rfl hq
    | [x] =>
      refine ⟨out ++ [x], Ev.step (f := fun _ => some _) (fun j => ?_) (Ev.now _), by simp [duckF], by simp⟩
      simp only [impl_dealt.l0]
      rw [if_neg (by simp), if_pos (by simp at ho ⊢; omega)]
    | x :: y :: r =>
      simp only [List.length_cons] at h1 ho hd
      rw [duckF]
      by_cases c : b = true
      · rw [if_pos c] at hd
        obtain ⟨z, hz, e1, e2⟩ := ih (y :: r) (out ++ [x]) false (by simp) (by simp <;> omega) (by simp <;> omega) (by simp <;> omega)
        refine ⟨z, Ev.step (fun j => ?_) hz, by rw [if_pos c, e1]; simp, by rw [e2]; simp; omega⟩
        simp only [impl_dealt.l0]
        rw [if_pos (by simp <;> omega), if_pos c, if_pos (by simp <;> omega), if_pos (by omega), if_pos (by simp <;> omega), c]
        rfl
      · rw [if_neg c] at hd
        obtain ⟨z, hz, e1, e2⟩ := ih (y :: r ++ [x]) out true (by simp) (by simp <;> omega) (by simp <;> omega) (by simp <;> omega)
        refine ⟨z, Ev.step (fun j => ?_) hz, by rw [if_neg c, e1], by rw [e2]; simp⟩
        simp only [impl_dealt.l0]
        rw [if_pos (by simp <;> omega), if_neg c, if_pos (by simp <;> omega), if_pos (by simp <;> omega)]
        (try simp only [Option.bind_some])
        rw [if_pos (by simp <;> omega), Bool.not_eq_true] at *
        rw [c]
        rfl
theorem impl_dealt_ev (l : List Int) (a : Int) (hl : l.length ≤ 12) (h1 : 1 ≤ l.length) : ∃ r, Ev (fun j => impl_dealt.f j l a) r ∧ r.reverse = duckF (2 * l.length) l [] (a == 1) ∧ r.length = l.length := by
  obtain ⟨r, hr, e1, e2⟩ := impl_dealt_loop (2 * l.length) l [] (a == 1) (List.length_pos_iff.1 h1) (by omega) (by simp <;> omega) (by split <;> omega)
  refine ⟨r, ?_, e1, by simpa using e2⟩
  unfold impl_dealt.f
  rw [show slices_Clone_int_int.f l = some l by unfold slices_Clone_int_int.f; rw [if_pos (by omega)]]
  exact hr

theorem impl_moved_loop (a : Nat) (v : List Int) (hv : v.length ≤ 12) : ∀ (r pre : List Int), (∀ x ∈ r, (Lit.int .i64 x).wf = true) → pre.length + r.length = a → a ≤ 12 →
    Ev (fun k => impl_moved.l0 k (a : Int) (pre ++ r ++ v) (pre.length : Int)) (pre ++ r.map turnCard ++ v) := by
  intro r
  induction r with
  | nil =>
    intro pre hw hp ha
    refine Ev.step (f := fun _ => some _) (fun k => ?_) (Ev.now _)
    simp only [impl_moved.l0]
    rw [if_neg (by simp at hp; omega)]
    rfl
  | cons x r ih =>
    intro pre hw hp ha
    simp only [List.length_cons] at hp
    have hi := ih (pre ++ [turnCard x]) (fun y hy => hw y (by simp [hy])) (by simp <;> omega) ha
    rw [show pre ++ List.map turnCard (x :: r) ++ v = pre ++ [turnCard x] ++ List.map turnCard r ++ v by simp]
    refine Ev.step (fun k => ?_) hi
    have e : pre ++ (x :: r) ++ v = pre ++ x :: (r ++ v) := by simp
    have er : rd (pre ++ (x :: r) ++ v) (pre.length : Int) = x := by rw [e]; exact rd_mid _ _ _
    have es : (pre ++ (x :: r) ++ v).set pre.length (turnCard x) = pre ++ [turnCard x] ++ r ++ v := by rw [e, set_mid]; simp
    simp only [impl_moved.l0]
    rw [if_pos (by omega), if_pos (by omega), if_pos (by simp <;> omega), er, impl_TurnCard_eq x (bd64 (hw x (by simp))).1]
    simp only [Option.bind_some]
    rw [Int.toNat_natCast, es, snoc_len (turnCard x) (by omega)]
theorem impl_moved_ev (l : List Int) (k a : Int) (hw : ∀ x ∈ l, (Lit.int .i64 x).wf = true) (h : moveOk (l.length : Int) k a = true) : Ev (fun j => impl_moved.f j l k a) (doMove l k a) := by
  obtain ⟨n1, n2, h0, hk⟩ := moveOk_parts h
  have hl : l.length ≤ 12 := by omega
  have et : ∀ z : Nat, (l.take z).length ≤ 12 := fun z => by simp; omega
  have ed : ∀ z : Nat, (l.drop z).length ≤ 12 := fun z => by simp; omega
  unfold impl_moved.f doMove
  by_cases k1 : k = 1
  · rw [if_pos k1]
    have hc := slices_Concat_int_int_ev [l.drop a.toNat, l.take a.toNat] (by simp) (by simp <;> omega)
    refine ev_ite_true k1 (ev_ite_true h0 (ev_ite_true (by omega) (Ev.bind hc ?_)))
    simp only [List.flatten_cons, List.flatten_nil, List.append_nil]
    exact Ev.now _
  rw [if_neg k1]
  refine ev_ite_false k1 ?_
  by_cases k2 : k = 2
  · rw [if_pos k2]
    have hc := slices_Concat_int_int_ev [(l.take a.toNat).reverse, l.drop a.toNat] (by simp) (by simp <;> omega)
    refine ev_ite_true k2 (ev_ite_true h0 (ev_ite_true (by omega) (Ev.bind (impl_reversed_ev _ (by have := et a.toNat; omega)) (Ev.bind hc ?_))))
    simp only [List.flatten_cons, List.flatten_nil, List.append_nil]
    exact Ev.now _
  rw [if_neg k2]
  refine ev_ite_false k2 ?_
  by_cases k3 : k = 3
  · rw [if_pos k3]
    have hc := slices_Concat_int_int_ev [(l.take a.toNat).reverse, l.drop a.toNat] (by simp) (by simp <;> omega)
    refine ev_ite_true k3 (ev_ite_true h0 (ev_ite_true (by omega) (Ev.bind (impl_reversed_ev _ (by have := et a.toNat; omega)) (Ev.bind hc ?_))))
    simp only [List.flatten_cons, List.flatten_nil, List.append_nil]
    have hm := impl_moved_loop a.toNat (l.drop a.toNat) (ed _) (l.take a.toNat).reverse [] (fun x hx => hw x (List.mem_of_mem_take (List.mem_reverse.1 hx))) (by simp <;> omega) (by omega)
    rw [Int.toNat_of_nonneg h0, List.nil_append, List.nil_append, List.map_reverse] at hm
    exact hm
  rw [if_neg k3]
  refine ev_ite_false k3 ?_
  by_cases k4 : k = 4
  · rw [if_pos k4]
    exact ev_ite_true k4 (Ev.bind (impl_faro_ev l a hl (by omega)) (Ev.now _))
  rw [if_neg k4]
  refine ev_ite_false k4 ?_
  by_cases k5 : k = 5
  · rw [if_pos k5]
    exact ev_ite_true k5 (Ev.bind (impl_monge_ev l a hl (by omega)) (Ev.now _))
  rw [if_neg k5]
  refine ev_ite_false k5 ?_
  by_cases k6 : k = 6
  · rw [if_pos k6]
    exact ev_ite_true k6 (Ev.bind (impl_milk_ev l hl) (Ev.now _))
  rw [if_neg k6]
  refine ev_ite_false k6 ?_
  by_cases k7 : k = 7
  · rw [if_pos k7]
    obtain ⟨r, hr, e1, e2⟩ := impl_dealt_ev l a hl (by omega)
    rw [← e1]
    exact ev_ite_true k7 (Ev.bind hr (Ev.bind (impl_reversed_ev r (by omega)) (Ev.now _)))
  rw [if_neg k7]
  refine ev_ite_false k7 ?_
  have ec : slices_Clone_int_int.f l = some l := by unfold slices_Clone_int_int.f; rw [if_pos (by omega)]
  by_cases k8 : k = 8
  · simp only [if_pos k8]
    refine ev_some fun j => ?_
    rw [ec]
    simp only [Option.bind_some]
    rw [if_pos (by omega), if_pos (by omega), impl_TurnCard_eq _ (bd64 (hw _ (by rw [rd_of_lt h0 (by omega)]; exact List.getElem_mem _))).1]
    rfl
  simp only [if_neg k8]
  have ew : wrap64 (a + 1) = a + 1 := w64 (by omega) (by omega)
  simp only [ew, show (a + 1).toNat = a.toNat + 1 by omega]
  have hlt : a.toNat < l.length := by omega
  have e1 : (l.take (a.toNat + 1)).drop a.toNat = [rd l a] := by
    rw [List.take_succ_eq_append_getElem hlt, List.drop_append_of_le_length (by simp <;> omega), rd_of_lt h0 (by omega)]
    simp
  rw [e1]
  have hc := slices_Concat_int_int_ev [l.take a.toNat, l.drop (a.toNat + 1), [rd l a]] (by simp) (by simp <;> omega)
  refine ev_ite_true h0 (ev_ite_true (by omega) (ev_ite_true (by omega) (ev_ite_true (by omega) (ev_ite_true (by omega) (Ev.bind hc ?_)))))
  simp only [List.flatten_cons, List.flatten_nil, List.append_nil, List.append_assoc]
  exact Ev.now _

theorem impl_Perform_ev (l : List Int) (k a : Int) (hl : l.length ≤ 9223372036854775806) (hw : ∀ x ∈ l, (Lit.int .i64 x).wf = true) : Ev (fun j => impl_Perform.f j l k a) (perform l k a) := by
  unfold impl_Perform.f perform
  refine Ev.bind (impl_PacketOk_ev l hl hw) ?_
  by_cases h1 : packetOk l = true
  · refine ev_ite_true h1 (Ev.bind (impl_MoveOk_ev _ k a) ?_)
    by_cases h2 : moveOk (l.length : Int) k a = true
    · refine ev_ite_true h2 ?_
      rw [if_pos ⟨h1, h2⟩]
      exact Ev.bind (impl_moved_ev l k a hw h2) (Ev.now _)
    · refine ev_ite_false h2 ?_
      rw [if_neg (fun h => h2 h.2)]
      exact Ev.now _
  · refine ev_ite_false h1 ?_
    rw [if_neg (fun h => h1 h.1)]
    exact Ev.now _

def asPair (m : S28) : Int × Int := (m.f0, m.f1)
theorem impl_PerformAll_loop (ms : List S28) (hm : ms.length ≤ 20) : ∀ (r pre : List S28) (l : List Int), ms = pre ++ r → packetOk l = true →
    Ev (fun k => impl_PerformAll.l0 k l ms (ms.length : Int) (pre.length : Int)) (moveAll l (r.map asPair)) := by
  intro r
  induction r with
  | nil =>
    intro pre l h hp
    refine Ev.step (f := fun _ => some _) (fun k => ?_) (Ev.now _)
    simp only [impl_PerformAll.l0]
    rw [if_neg (by rw [h]; simp)]
    rfl
  | cons m r ih =>
    intro pre l h hp
    have e : ms.length = pre.length + (r.length + 1) := by rw [h]; simp
    have hr : rd_T28 ms (pre.length : Int) = m := by rw [h]; simp [rd_T28]
    have ew : wrap64 ((pre.length : Int) + 1) = ((pre ++ [m]).length : Int) := by rw [w64 (by omega) (by omega)]; simp
    have hpf := impl_Perform_ev l m.f0 m.f1 (by have := packetOk_length hp; omega) (packet_wf hp)
    refine Ev.step (f := fun k => (impl_Perform.f k l m.f0 m.f1).bind fun bt => if bt.2 = true then impl_PerformAll.l0 k bt.1 ms (ms.length : Int) ((pre ++ [m]).length : Int) else some ([], false)) (fun k => ?_) ?_
    · simp only [impl_PerformAll.l0]
      rw [if_pos (by omega), if_pos (by omega), if_pos (by omega), hr, ew]
    · refine Ev.bind hpf ?_
      rw [List.map_cons, moveAll]
      unfold perform
      by_cases c : moveOk (l.length : Int) m.f0 m.f1 = true
      · rw [if_pos ⟨hp, c⟩, if_pos (show moveOk (l.length : Int) (asPair m).1 (asPair m).2 = true from c)]
        simp only [if_true]
        exact ih (pre ++ [m]) (doMove l m.f0 m.f1) (by rw [h]; simp) (packetOk_move hp c)
      · rw [if_neg (fun q => c q.2), if_neg (show ¬ moveOk (l.length : Int) (asPair m).1 (asPair m).2 = true from c)]
        simp only [Bool.false_eq_true, if_false]
        exact Ev.now _
theorem impl_PerformAll_ev (l : List Int) (ms : List S28) (hl : l.length ≤ 1048576) (hml : ms.length ≤ 1048576) (hw : ∀ x ∈ l, (Lit.int .i64 x).wf = true) : Ev (fun k => impl_PerformAll.f k l ms) (performAll l (ms.map asPair)) := by
  have hj : Ev (fun k => impl_PerformAll.j0 k l ms true) ([], false) := by
    refine Ev.step (fun k => by rw [impl_PerformAll.j0]) ?_
    simp only [if_true]
    exact Ev.now _
  unfold impl_PerformAll.f performAll
  refine Ev.bind (impl_PacketOk_ev l (by omega) hw) ?_
  rw [List.length_map]
  by_cases h1 : packetOk l = true
  · refine ev_ite_true h1 ?_
    by_cases h2 : ms.length ≤ 20
    · rw [if_pos ⟨h1, h2⟩, decide_eq_false (by omega)]
      refine Ev.step (fun k => by rw [impl_PerformAll.j0]) ?_
      simp only [Bool.false_eq_true, if_false]
      rw [show slices_Clone_int_int.f l = some l by unfold slices_Clone_int_int.f; rw [if_pos (by omega)]]
      exact impl_PerformAll_loop ms h2 ms [] l rfl h1
    · rw [if_neg (fun h => h2 h.2), decide_eq_true (by omega)]
      exact hj
  · refine ev_ite_false h1 ?_
    rw [if_neg (fun h => h1 h.1)]
    exact hj

theorem spec_PerformAll_loop (ms : List S28) (hm : ms.length ≤ 20) : ∀ (r pre : List S28) (l : List Int), ms = pre ++ r →
    Ev (fun k => spec_PerformAll.l0 k l ms (ms.length : Int) (pre.length : Int)) (moveAll l (r.map asPair)) := by
  intro r
  induction r with
  | nil =>
    intro pre l h
    refine Ev.step (f := fun _ => some _) (fun k => ?_) (Ev.now _)
    simp only [spec_PerformAll.l0]
    rw [if_neg (by rw [h]; simp)]
    rfl
  | cons m r ih =>
    intro pre l h
    have e : ms.length = pre.length + (r.length + 1) := by rw [h]; simp
    have hr : rd_T28 ms (pre.length : Int) = m := by rw [h]; simp [rd_T28]
    have ew : wrap64 ((pre.length : Int) + 1) = ((pre ++ [m]).length : Int) := by rw [w64 (by omega) (by omega)]; simp
    refine Ev.step (f := fun k => (spec_MoveOk.f k (l.length : Int) m.f0 m.f1).bind fun t => if t = true then ((spec_l04Do.f k l m.f0 m.f1).bind fun t => spec_PerformAll.l0 k t ms (ms.length : Int) ((pre ++ [m]).length : Int)) else some ([], false)) (fun k => ?_) ?_
    · simp only [spec_PerformAll.l0]
      rw [if_pos (by omega), if_pos (by omega), if_pos (by omega), hr, ew]
    · refine Ev.bind (spec_MoveOk_ev _ _ _) ?_
      rw [List.map_cons, moveAll]
      by_cases c : moveOk (l.length : Int) m.f0 m.f1 = true
      · rw [if_pos (show moveOk (l.length : Int) (asPair m).1 (asPair m).2 = true from c)]
        refine ev_ite_true c (Ev.bind (spec_l04Do_ev l m.f0 m.f1 c) ?_)
        exact ih (pre ++ [m]) (doMove l m.f0 m.f1) (by rw [h]; simp)
      · rw [if_neg (show ¬ moveOk (l.length : Int) (asPair m).1 (asPair m).2 = true from c)]
        exact ev_ite_false c (Ev.now _)
theorem spec_PerformAll_ev (l : List Int) (ms : List S28) (hl : l.length ≤ 1048576) (hml : ms.length ≤ 1048576) : Ev (fun k => spec_PerformAll.f k l ms) (performAll l (ms.map asPair)) := by
  have hj : Ev (fun k => spec_PerformAll.j0 k l ms true) ([], false) := by
    refine Ev.step (fun k => by rw [spec_PerformAll.j0]) ?_
    simp only [if_true]
    exact Ev.now _
  unfold spec_PerformAll.f performAll
  refine Ev.bind (spec_PacketOk_ev l (by omega)) ?_
  rw [List.length_map]
  by_cases h1 : packetOk l = true
  · refine ev_ite_true h1 ?_
    by_cases h2 : ms.length ≤ 20
    · rw [if_pos ⟨h1, h2⟩, decide_eq_false (by omega)]
      refine Ev.step (fun k => by rw [spec_PerformAll.j0]) ?_
      simp only [Bool.false_eq_true, if_false, Option.bind_some, List.length_nil, List.nil_append]
      refine ev_ite_true (by omega) ?_
      exact spec_PerformAll_loop ms h2 ms [] l rfl
    · rw [if_neg (fun h => h2 h.2), decide_eq_true (by omega)]
      exact hj
  · refine ev_ite_false h1 ?_
    rw [if_neg (fun h => h1 h.1)]
    exact hj

def toB (m : S24) : S28 := ⟨m.f0, m.f1⟩
theorem rdb_mid (pre : List S28) (x : S28) (r : List S28) : rd_T28 (pre ++ x :: r) (pre.length : Int) = x := by simp [rd_T28]
theorem setb_mid (pre : List S28) (x y : S28) (r : List S28) : (pre ++ y :: r).set pre.length x = (pre ++ [x]) ++ r := by simp
theorem laws_toMoveS_loop (l : List S24) (hl : l.length ≤ 1048576) : ∀ (r pre : List S24), l = pre ++ r →
    Ev (fun k => laws_toMoveS.l0 k l (pre.map toB ++ List.replicate r.length z28) (pre.length : Int)) (l.map toB) := by
  intro r
  induction r with
  | nil =>
    intro pre h
    refine Ev.step (f := fun _ => some _) (fun k => ?_) (Ev.now _)
    simp only [laws_toMoveS.l0]
    rw [if_neg (by rw [h]; simp), h]
    simp
  | cons x r ih =>
    intro pre h
    have e : l.length = pre.length + (r.length + 1) := by rw [h]; simp
    have hr : rd_T24 l (pre.length : Int) = x := by rw [h]; simp [rd_T24]
    have ew : wrap64 ((pre.length : Int) + 1) = ((pre ++ [x]).length : Int) := by rw [w64 (by omega) (by omega)]; simp
    have hi := ih (pre ++ [x]) (by rw [h]; simp)
    rw [List.map_append] at hi
    refine Ev.step (fun k => ?_) hi
    have es : (pre.map toB ++ List.replicate (r.length + 1) z28).set pre.length (toB x) = pre.map toB ++ [toB x] ++ List.replicate r.length z28 := by
      have := setb_mid (pre.map toB) (toB x) z28 (List.replicate r.length z28)
      rw [List.length_map] at this
      rw [List.replicate_succ]
      exact this
    simp only [laws_toMoveS.l0, laws_toMove.f, Option.bind_some]
    rw [if_pos (by omega), if_pos (by omega), if_pos (by simp; omega), hr, ew, Int.toNat_natCast, List.length_cons]
    exact congrArg (fun z => laws_toMoveS.l0 k l z ((pre ++ [x]).length : Int)) es
theorem laws_toMoveS_ev (l : List S24) (hl : l.length ≤ 1048576) : Ev (fun k => laws_toMoveS.f k l) (l.map toB) := by
  unfold laws_toMoveS.f
  have h := laws_toMoveS_loop l hl l [] rfl
  simp only [if_pos (show 0 ≤ (l.length : Int) by omega), if_pos (show ((l.length : Int) : Int).toNat ≤ 17592186044416 by omega)]
  simpa using h
theorem laws_eqMoveS_loop (l : List S28) (hl : l.length ≤ 1048576) : ∀ (r pre : List S28), l = pre ++ r → Ev (fun k => laws_eqMoveS.l0 k l l (pre.length : Int)) true := by
  intro r
  induction r with
  | nil =>
    intro pre h
    refine Ev.step (f := fun _ => some _) (fun k => ?_) (Ev.now _)
    simp only [laws_eqMoveS.l0]
    rw [if_neg (by rw [h]; simp)]
  | cons x r ih =>
    intro pre h
    have e : l.length = pre.length + (r.length + 1) := by rw [h]; simp
    have ew : wrap64 ((pre.length : Int) + 1) = ((pre ++ [x]).length : Int) := by rw [w64 (by omega) (by omega)]; simp
    refine Ev.step (fun k => ?_) (ih (pre ++ [x]) (by rw [h]; simp))
    simp only [laws_eqMoveS.l0, laws_eqMove.f, if_true, Option.bind_some]
    rw [if_pos (by omega), if_pos (by omega), if_pos (by omega), ew]
theorem laws_eqMoveS_ev (l : List S28) (hl : l.length ≤ 1048576) : Ev (fun k => laws_eqMoveS.f k l l) true := by
  unfold laws_eqMoveS.f
  simp only [if_true]
  exact laws_eqMoveS_loop l hl l [] rfl
theorem laws_markMoveS_loop : ∀ (r pre : List S28) (m : Int), 0 ≤ m → m + 2 * r.length ≤ 4611686018427387904 → pre.length + r.length ≤ 1048576 →
    ∃ z, Ev (fun k => laws_markMoveS.l0 k (pre ++ r) m (pre.length : Int)) (m + 2 * r.length, z) := by
  intro r
  induction r with
  | nil =>
    intro pre m h0 h1 h2
    refine ⟨pre ++ [], Ev.step (f := fun _ => some _) (fun k => ?_) (Ev.now _)⟩
    simp only [laws_markMoveS.l0]
    rw [if_neg (by simp)]
    simp
  | cons x r ih =>
    intro pre m h0 h1 h2
    simp only [List.length_cons] at h1 h2
    obtain ⟨z, hz⟩ := ih (pre ++ [⟨m, m + 1⟩]) (m + 2) (by omega) (by omega) (by simp; omega)
    refine ⟨z, ?_⟩
    have e : m + 2 + 2 * (r.length : Int) = m + 2 * ((x :: r).length : Int) := by simp; omega
    rw [e] at hz
    refine Ev.step (fun k => ?_) hz
    have ew : wrap64 ((pre.length : Int) + 1) = ((pre ++ [(⟨m, m + 1⟩ : S28)]).length : Int) := by rw [w64 (by omega) (by omega)]; simp
    have e1 : wrap64 (m + 1) = m + 1 := w64 (by omega) (by omega)
    have e2 : wrap64 (m + 1 + 1) = m + 2 := by rw [w64 (by omega) (by omega)]; omega
    simp only [laws_markMoveS.l0, Option.bind_some]
    rw [if_pos (by simp; omega), if_pos (by omega), rdb_mid, Int.toNat_natCast, setb_mid, List.append_assoc, List.singleton_append, rdb_mid, setb_mid, e1, e2, ew]
theorem laws_markMoveS_ev (l : List S28) (m : Int) (h0 : 0 ≤ m) (h1 : m ≤ 4611686000000000000) (hl : l.length ≤ 1048576) : ∃ z, Ev (fun k => laws_markMoveS.f k l m) (m + 2 * l.length, z) := by
  unfold laws_markMoveS.f
  exact laws_markMoveS_loop l [] m h0 (by omega) (by simpa using hl)

-- S: 2
theorem pair_len (l : List S24) : (l.map toB).length = l.length := by simp
theorem FnExactPerformAll_ (l : List Int) (ms : List S24) (hlm : l.length ≤ maxLen) (wl : ∀ x ∈ l, (Lit.int .i64 x).wf = true) (hms : ms.length ≤ maxLen) : ∃ k, laws_FnExactPerformAll.f k l ms = some true := by
  unfold maxLen at hms
  unfold laws_FnExactPerformAll.f
  by_cases gl : (l.length : Int) > 1048576
  · exact ⟨0, by rw [if_pos gl]⟩
  simp only [if_neg gl]
  have ew : wrap64 (1048576 - (ms.length : Int)) = 1048576 - (ms.length : Int) := w64 (by omega) (by omega)
  unfold laws_szMoveS.f
  rw [ew]
  by_cases gm : 1048576 - (ms.length : Int) < 0
  · exact ⟨0, by rw [if_pos gm]; rfl⟩
  rw [if_neg gm]
  simp only [Option.bind_some, if_neg gm]
  have hml : ms.length ≤ 1048576 := by omega
  have hmb : (ms.map toB).length ≤ 1048576 := by rw [pair_len]; exact hml
  have tl := laws_toIntS_ev l (by omega)
  have tm := laws_toMoveS_ev ms hml
  have hl := performAll_length l ((ms.map toB).map asPair)
  have cs := spec_PerformAll_ev l (ms.map toB) (by omega) hmb
  have ci := impl_PerformAll_ev l (ms.map toB) (by omega) hmb wl
  refine Ev.rounds ?_
  refine Ev.bind tl (Ev.bind tm (Ev.bind cs (Ev.bind tl (Ev.bind tm (Ev.bind ci (Ev.bind (laws_eqIntS_ev _ _ (by omega)) ?_))))))
  simp only [decide_true, if_true, bne_self_eq_false]
  refine Ev.step (fun k => by rw [laws_FnExactPerformAll.j0]) ?_
  simp only [Bool.false_eq_true, if_false]
  refine Ev.bind tl (Ev.bind (laws_eqIntS_ev _ _ (by omega)) ?_)
  simp only [decide_true, if_true]
  refine Ev.bind tm (Ev.bind (laws_eqMoveS_ev _ hmb) ?_)
  simp only [if_true]
  obtain ⟨z, mz⟩ := laws_markMoveS_ev (ms.map toB) (1 + (l.length : Int)) (by omega) (by omega) hmb
  refine Ev.bind (laws_markIntS_ev l 1 (by omega) (by omega)) (Ev.bind mz ?_)
  refine ev_ite_false (by simp only []; omega) ?_
  refine Ev.bind (laws_eqIntS_ev _ _ (by omega)) ?_
  simp only [decide_true, if_true, bne_self_eq_false]
  refine Ev.step (fun k => by rw [laws_FnExactPerformAll.j1]) ?_
  simp only [Bool.false_eq_true, if_false]
  refine Ev.bind (laws_markIntS_ev _ 1 (by omega) (by omega)) ?_
  refine held_once _ (by omega) ?_
  refine Ev.bind tl (Ev.bind tm (Ev.bind ci (Ev.bind (laws_eqIntS_ev _ _ (by omega)) ?_)))
  simp only [decide_true, if_true, bne_self_eq_false]
  refine Ev.step (fun k => by rw [laws_FnExactPerformAll.j2]) ?_
  simp only [Bool.false_eq_true, if_false]
  exact held_once _ (by omega) (Ev.now _)

end Go.Proofs.Ytbghkcgglhoopaa.Pure
