/- For all arguments, the program's ResultsAfter answers as the reference's does, leaves its arguments alone, and answers in memory of its own. No conditions. -/
import Derived.Test.YtbghkcgglhoopaaMFnExactResultsAfterx0
import Derived.Test.YtbghkcgglhoopaaMFnExactResultsAfterx1
import Derived.Test.YtbghkcgglhoopaaMFnExactResultsAfterx2
import Derived.Test.YtbghkcgglhoopaaMFnExactResultsAfterx3
import Derived.Test.YtbghkcgglhoopaaMFnExactResultsAfterx4
import Derived.Test.YtbghkcgglhoopaaMFnExactResultsAfterx5
import Derived.Test.YtbghkcgglhoopaaMFnExactResultsAfterx6
import Derived.Test.YtbghkcgglhoopaaMFnExactResultsAfterx7
import Derived.Test.YtbghkcgglhoopaaMFnExactResultsAfterx8
import Derived.Test.YtbghkcgglhoopaaMFnExactResultsAfterx9
import Derived.Test.YtbghkcgglhoopaaMFnExactResultsAfterx10
import Derived.Test.YtbghkcgglhoopaaMFnExactResultsAfterx11
import Derived.Test.YtbghkcgglhoopaaMFnExactResultsAfterx12
import Derived.Test.YtbghkcgglhoopaaMFnExactResultsAfterx13
import Derived.Test.YtbghkcgglhoopaaMFnExactResultsAfterx14
import Derived.OpenShut
namespace Go.Proofs.Ytbghkcgglhoopaa.Pure
open Go.RowKit Go.Proofs.Ytbghkcgglhoopaa.MFnExactResultsAfter Go.Proofs.YtbghkcgglhoopaaW.PrintWords Go.Proofs.YtbghkcgglhoopaaW.PrintLast
set_option linter.unusedVariables false
set_option linter.unusedSimpArgs false

theorem w64 {a : Int} (h0 : -9223372036854775808 ≤ a) (h1 : a ≤ 9223372036854775807) : wrap64 a = a := by
  unfold wrap64
  omega
theorem bd64 {n : Int} (h : (Lit.int .i64 n).wf = true) : -9223372036854775808 ≤ n ∧ n ≤ 9223372036854775807 := Go.bounds_i64 h
theorem rd_lt {xs : List Int} {i : Nat} (h : i < xs.length) : rd xs (i : Int) = xs[i] := by simp [rd, h]
theorem ev_some {α : Type} {g : Nat → Option α} {r : α} (h : ∀ k, g k = some r) : Ev g r := ⟨0, fun k _ => h k⟩
theorem rd_mid (pre : List Int) (x : Int) (r : List Int) : rd (pre ++ x :: r) (pre.length : Int) = x := by simp [rd]
theorem rd_mid' {l pre : List Int} {x : Int} {r : List Int} (h : l = pre ++ x :: r) : rd l (pre.length : Int) = x := by subst h; exact rd_mid _ _ _
theorem snoc_eq {l pre : List Int} {x : Int} {r : List Int} (h : l = pre ++ x :: r) : l = (pre ++ [x]) ++ r := by simp [h]
theorem snoc_len {pre : List Int} (x : Int) (h : pre.length ≤ 9223372036854775806) : wrap64 ((pre.length : Int) + 1) = ((pre ++ [x]).length : Int) := by
  rw [w64 (by omega) (by omega)]; simp
/-- The whole numbers from m on, n of them. -/
def upFrom (m : Int) : Nat → List Int
  | 0 => []
  | n + 1 => m :: upFrom (m + 1) n
theorem upFrom_length (n : Nat) : ∀ m, (upFrom m n).length = n := by
  induction n with
  | zero => intro m; rfl
  | succ n ih => intro m; simp [upFrom, ih]
theorem upFrom_mem (n : Nat) : ∀ (m x : Int), x ∈ upFrom m n ↔ m ≤ x ∧ x < m + n := by
  induction n with
  | zero => intro m x; simp only [upFrom, List.not_mem_nil, false_iff]; omega
  | succ n ih => intro m x; simp only [upFrom, List.mem_cons, ih]; omega
theorem set_mid (pre : List Int) (x y : Int) (r : List Int) : (pre ++ y :: r).set pre.length x = (pre ++ [x]) ++ r := by simp
theorem lens {l pre r : List Int} (h : l = pre ++ r) : l.length = pre.length + r.length := by rw [h]; simp
theorem laws_toIntS_loop (l : List Int) (hl : l.length ≤ 17592186044415) : ∀ (r pre : List Int), l = pre ++ r →
    Ev (fun k => laws_toIntS.l0 k l (pre ++ List.replicate r.length 0) (pre.length : Int)) l := by
  intro r
  induction r with
  | nil =>
    intro pre h
    have e := lens h
    simp only [List.length_nil] at e
    refine Ev.step (f := fun _ => some _) (fun k => ?_) (Ev.now _)
    simp only [laws_toIntS.l0]
    rw [if_neg (by omega)]
    simp [h]
  | cons x r ih =>
    intro pre h
    have e := lens h
    simp only [List.length_cons] at e
    refine Ev.step (fun k => ?_) (ih (pre ++ [x]) (snoc_eq h))
    simp only [laws_toIntS.l0]
    rw [if_pos (by omega), if_pos (by omega), if_pos (by simp; omega), rd_mid' h, snoc_len x (by omega), List.length_cons, List.replicate_succ, Int.toNat_natCast, set_mid]
theorem laws_toIntS_ev (l : List Int) (hl : l.length ≤ 17592186044415) : Ev (fun k => laws_toIntS.f k l) l := by
  unfold laws_toIntS.f
  have h := laws_toIntS_loop l hl l [] rfl
  simp only [if_pos (show 0 ≤ (l.length : Int) by omega), if_pos (show ((l.length : Int) : Int).toNat ≤ 35184372088832 by omega)]
  simpa using h

theorem laws_eqIntS_loop (a b : List Int) (hab : a.length = b.length) (hl : a.length ≤ 9223372036854775806) : ∀ (r s pre qre : List Int), a = pre ++ r → b = qre ++ s → pre.length = qre.length →
    Ev (fun k => laws_eqIntS.l0 k a b (pre.length : Int)) (decide (r = s)) := by
  intro r
  induction r with
  | nil =>
    intro s pre qre h h' hp
    have e := lens h
    have e' := lens h'
    simp only [List.length_nil] at e
    have hs : s = [] := List.eq_nil_of_length_eq_zero (by omega)
    refine Ev.step (f := fun _ => some _) (fun k => ?_) (Ev.now _)
    simp only [laws_eqIntS.l0]
    rw [if_neg (by omega), hs]
    simp
  | cons x r ih =>
    intro s pre qre h h' hp
    have e := lens h
    have e' := lens h'
    simp only [List.length_cons] at e
    cases s with
    | nil => simp only [List.length_nil] at e'; omega
    | cons y s =>
      have hy := rd_mid' h'
      rw [← hp] at hy
      by_cases c : x = y
      · subst c
        have hi := ih s (pre ++ [x]) (qre ++ [x]) (snoc_eq h) (snoc_eq h') (by simp [hp])
        have ed : decide (x :: r = x :: s) = decide (r = s) := by simp
        rw [ed]
        refine Ev.step (fun k => ?_) hi
        simp only [laws_eqIntS.l0]
        rw [if_pos (by omega), if_pos (by omega), if_pos (by omega), rd_mid' h, hy, if_pos rfl, snoc_len x (by omega)]
      · refine Ev.step (f := fun _ => some _) (fun k => ?_) (Ev.now _)
        simp only [laws_eqIntS.l0]
        rw [if_pos (by omega), if_pos (by omega), if_pos (by omega), rd_mid' h, hy, if_neg c]
        simp [c]
theorem laws_eqIntS_ev (a b : List Int) (hl : a.length ≤ 9223372036854775806) : Ev (fun k => laws_eqIntS.f k a b) (decide (a = b)) := by
  unfold laws_eqIntS.f
  by_cases h : (a.length : Int) = (b.length : Int)
  · simp only [if_pos h]
    exact laws_eqIntS_loop a b (by omega) hl a b [] [] rfl rfl rfl
  · simp only [if_neg h]
    exact ev_some fun _ => by rw [decide_eq_false (fun e => h (by rw [e]))]

theorem laws_markIntS_loop : ∀ (r pre : List Int) (m : Int), 0 ≤ m → m + r.length ≤ 9223372036854775806 → pre.length + r.length ≤ 9223372036854775806 →
    Ev (fun k => laws_markIntS.l0 k (pre ++ r) m (pre.length : Int)) (m + r.length, pre ++ upFrom m r.length) := by
  intro r
  induction r with
  | nil =>
    intro pre m h0 h1 h2
    refine Ev.step (f := fun _ => some _) (fun k => ?_) (Ev.now _)
    simp only [laws_markIntS.l0]
    rw [if_neg (by simp)]
    simp [upFrom]
  | cons x r ih =>
    intro pre m h0 h1 h2
    simp only [List.length_cons] at h1 h2
    have hi := ih (pre ++ [m]) (m + 1) (by omega) (by omega) (by simp; omega)
    have er : ((m + 1 + r.length : Int), (pre ++ [m]) ++ upFrom (m + 1) r.length) = (m + (x :: r).length, pre ++ upFrom m (x :: r).length) := by
      simp [upFrom]; omega
    rw [er] at hi
    refine Ev.step (fun k => ?_) hi
    simp only [laws_markIntS.l0]
    rw [if_pos (by simp; omega), if_pos (by omega), w64 (by omega) (by omega), snoc_len m (by omega), Int.toNat_natCast, set_mid]
theorem laws_markIntS_ev (l : List Int) (m : Int) (h0 : 0 ≤ m) (h1 : m + l.length ≤ 9223372036854775806) :
    Ev (fun k => laws_markIntS.f k l m) (m + l.length, upFrom m l.length) := by
  unfold laws_markIntS.f
  exact laws_markIntS_loop l [] m h0 h1 (by simp; omega)
theorem laws_heldIntS_loop (l : List Int) (hl : l.length ≤ 9223372036854775806) : ∀ (n : Nat) (pre : List Int) (m : Int), 0 ≤ m → m + n ≤ 9223372036854775806 → l = pre ++ upFrom m n →
    Ev (fun k => laws_heldIntS.l0 k l m (pre.length : Int)) (m + n) := by
  intro n
  induction n with
  | zero =>
    intro pre m h0 h1 h
    have e := lens h
    simp only [upFrom_length] at e
    refine Ev.step (f := fun _ => some _) (fun k => ?_) (Ev.now _)
    simp only [laws_heldIntS.l0]
    rw [if_neg (by omega)]
    simp
  | succ n ih =>
    intro pre m h0 h1 h
    have e := lens h
    simp only [upFrom_length] at e
    have hi := ih (pre ++ [m]) (m + 1) (by omega) (by omega) (by rw [h]; simp [upFrom])
    have er : m + 1 + (n : Int) = m + (n + 1 : Nat) := by omega
    rw [er] at hi
    refine Ev.step (fun k => ?_) hi
    simp only [laws_heldIntS.l0]
    rw [if_pos (by omega), if_pos (by omega), rd_mid' (by rw [h, upFrom]), if_pos rfl, w64 (by omega) (by omega), snoc_len m (by omega)]
theorem laws_heldIntS_ev (m : Int) (n : Nat) (h0 : 0 ≤ m) (h1 : m + n ≤ 9223372036854775806) :
    Ev (fun k => laws_heldIntS.f k (upFrom m n) m) (m + n) := by
  unfold laws_heldIntS.f
  exact laws_heldIntS_loop (upFrom m n) (by rw [upFrom_length]; omega) n [] m h0 h1 rfl

def total (r : List (List Int)) : Nat := (r.map List.length).sum
def markAll : Int → List (List Int) → List (List Int)
  | _, [] => []
  | m, l :: r => upFrom m l.length :: markAll (m + l.length) r
theorem markAll_length (r : List (List Int)) : ∀ m, (markAll m r).length = r.length := by
  induction r with
  | nil => intro m; rfl
  | cons l r ih => intro m; simp [markAll, ih]
theorem total_cons (l : List Int) (r : List (List Int)) : total (l :: r) = l.length + total r := by simp [total]
theorem getD_mid (pre : List (List Int)) (x : List Int) (r : List (List Int)) : (pre ++ x :: r).getD pre.length [] = x := by simp
theorem set_midL (pre : List (List Int)) (x y : List Int) (r : List (List Int)) : (pre ++ y :: r).set pre.length x = (pre ++ [x]) ++ r := by simp
theorem laws_markIntSS_loop : ∀ (r pre : List (List Int)) (m : Int), 0 ≤ m → m + total r ≤ 9223372036854775806 → pre.length + r.length ≤ 9223372036854775806 →
    Ev (fun k => laws_markIntSS.l0 k (pre ++ r) m (pre.length : Int)) (m + total r, pre ++ markAll m r) := by
  intro r
  induction r with
  | nil =>
    intro pre m h0 h1 h2
    refine Ev.step (f := fun _ => some _) (fun k => ?_) (Ev.now _)
    simp only [laws_markIntSS.l0]
    rw [if_neg (by simp)]
    simp [markAll, total]
  | cons l r ih =>
    intro pre m h0 h1 h2
    rw [total_cons] at h1
    simp only [List.length_cons] at h2
    have hi := ih (pre ++ [upFrom m l.length]) (m + l.length) (by omega) (by omega) (by simp; omega)
    have er : ((m + l.length + total r : Int), (pre ++ [upFrom m l.length]) ++ markAll (m + l.length) r) = (m + (total (l :: r) : Nat), pre ++ markAll m (l :: r)) := by
      rw [total_cons]; simp [markAll]; omega
    rw [er] at hi
    refine Ev.step (f := fun k => (laws_markIntS.f k l m).bind fun b => laws_markIntSS.l0 k ((pre ++ l :: r).set pre.length b.2) b.1 (wrap64 ((pre.length : Int) + 1))) (fun k => ?_) (Ev.bind (laws_markIntS_ev l m h0 (by omega)) ?_)
    · simp only [laws_markIntSS.l0]
      rw [if_pos (by simp; omega), if_pos (by omega), Int.toNat_natCast, getD_mid]
    · have ew : wrap64 ((pre.length : Int) + 1) = ((pre ++ [upFrom m l.length]).length : Int) := by rw [w64 (by omega) (by omega)]; simp
      simp only [set_midL, ew]
      exact hi
theorem laws_markIntSS_ev (r : List (List Int)) (m : Int) (h0 : 0 ≤ m) (h1 : m + total r ≤ 9223372036854775806) (h2 : r.length ≤ 9223372036854775806) :
    Ev (fun k => laws_markIntSS.f k r m) (m + total r, markAll m r) := by
  unfold laws_markIntSS.f
  exact laws_markIntSS_loop r [] m h0 h1 (by simp; omega)
theorem laws_heldIntSS_loop (l : List (List Int)) : ∀ (r pre : List (List Int)) (m : Int), 0 ≤ m → m + total r ≤ 9223372036854775806 → pre.length + r.length ≤ 9223372036854775806 → l = pre ++ markAll m r →
    Ev (fun k => laws_heldIntSS.l0 k l m (pre.length : Int)) (m + total r) := by
  intro r
  induction r with
  | nil =>
    intro pre m h0 h1 h2 h
    refine Ev.step (f := fun _ => some _) (fun k => ?_) (Ev.now _)
    simp only [laws_heldIntSS.l0]
    rw [if_neg (by rw [h]; simp [markAll])]
    simp [total]
  | cons x r ih =>
    intro pre m h0 h1 h2 h
    rw [total_cons] at h1
    simp only [List.length_cons] at h2
    have hl : l.length = pre.length + (r.length + 1) := by rw [h]; simp [markAll, markAll_length]
    have hi := ih (pre ++ [upFrom m x.length]) (m + x.length) (by omega) (by omega) (by simp; omega) (by rw [h]; simp [markAll])
    have er : m + (x.length : Int) + (total r : Int) = m + (total (x :: r) : Nat) := by rw [total_cons]; omega
    rw [er] at hi
    have hrd : rd_L1 l (pre.length : Int) = upFrom m x.length := by rw [h, markAll]; simp [rd_L1]
    refine Ev.step (f := fun k => (laws_heldIntS.f k (upFrom m x.length) m).bind fun t => if t < 0 then some (-1) else laws_heldIntSS.l0 k l t (wrap64 ((pre.length : Int) + 1))) (fun k => ?_) (Ev.bind (laws_heldIntS_ev m x.length h0 (by omega)) ?_)
    · simp only [laws_heldIntSS.l0]
      rw [if_pos (by omega), if_pos (by omega), hrd]
    · have ew : wrap64 ((pre.length : Int) + 1) = ((pre ++ [upFrom m x.length]).length : Int) := by rw [w64 (by omega) (by omega)]; simp
      simp only [if_neg (show ¬ (m + (x.length : Int) < 0) by omega), ew]
      exact hi
theorem laws_heldIntSS_ev (r : List (List Int)) (m : Int) (h0 : 0 ≤ m) (h1 : m + total r ≤ 9223372036854775806) (h2 : r.length ≤ 9223372036854775806) :
    Ev (fun k => laws_heldIntSS.f k (markAll m r) m) (m + total r) := by
  unfold laws_heldIntSS.f
  exact laws_heldIntSS_loop (markAll m r) r [] m h0 h1 (by simp; omega) rfl
theorem laws_eqIntSS_loop (l : List (List Int)) (hs : ∀ x ∈ l, x.length ≤ 9223372036854775806) (hl : l.length ≤ 9223372036854775806) : ∀ (r pre : List (List Int)), l = pre ++ r →
    Ev (fun k => laws_eqIntSS.l0 k l l (pre.length : Int)) true := by
  intro r
  induction r with
  | nil =>
    intro pre h
    refine Ev.step (f := fun _ => some _) (fun k => ?_) (Ev.now _)
    simp only [laws_eqIntSS.l0]
    rw [if_neg (by rw [h]; simp)]
  | cons x r ih =>
    intro pre h
    have e : l.length = pre.length + (r.length + 1) := by rw [h]; simp
    have hi := ih (pre ++ [x]) (by rw [h]; simp)
    have hrd : rd_L1 l (pre.length : Int) = x := by rw [h]; simp [rd_L1]
    refine Ev.step (f := fun k => (laws_eqIntS.f k x x).bind fun t => if t = true then laws_eqIntSS.l0 k l l (wrap64 ((pre.length : Int) + 1)) else some false) (fun k => ?_) (Ev.bind (laws_eqIntS_ev x x (hs x (by rw [h]; simp))) ?_)
    · simp only [laws_eqIntSS.l0]
      rw [if_pos (by omega), if_pos (by omega), if_pos (by omega), hrd]
    · have ew : wrap64 ((pre.length : Int) + 1) = ((pre ++ [x]).length : Int) := by rw [w64 (by omega) (by omega)]; simp
      simp only [decide_true, if_true, ew]
      exact hi
theorem laws_eqIntSS_ev (l : List (List Int)) (hs : ∀ x ∈ l, x.length ≤ 9223372036854775806) (hl : l.length ≤ 9223372036854775806) : Ev (fun k => laws_eqIntSS.f k l l) true := by
  unfold laws_eqIntSS.f
  simp only [if_true]
  exact laws_eqIntSS_loop l hs hl l [] rfl
theorem total_le (r : List (List Int)) (b : Nat) (h : ∀ l ∈ r, l.length ≤ b) : total r ≤ r.length * b := by
  induction r with
  | nil => simp [total]
  | cons l r ih =>
    rw [total_cons, List.length_cons, Nat.succ_mul]
    have := ih (fun x hx => h x (by simp [hx]))
    have := h l (by simp)
    omega
theorem mem_total {r : List (List Int)} {l : List Int} (h : l ∈ r) : l.length ≤ total r := by
  induction r with
  | nil => simp at h
  | cons x r ih =>
    rw [total_cons]
    rcases List.mem_cons.1 h with rfl | h
    · omega
    · have := ih h; omega
/-- What a law asks of lists that were handed out, at one number of rounds. -/
theorem all_at {α β : Type} {f : Nat → Option α} {g : Nat → Option β} {a : α} {b : β} (hf : Ev f a) (hg : Ev g b) : ∃ K, ∀ k, K ≤ k → f k = some a ∧ g k = some b := by
  obtain ⟨K, h⟩ := hf
  obtain ⟨M, i⟩ := hg
  exact ⟨K + M, fun k hk => ⟨h k (by omega), i k (by omega)⟩⟩
theorem and_at {p q : Nat → Prop} (hp : ∃ K, ∀ k, K ≤ k → p k) (hq : ∃ K, ∀ k, K ≤ k → q k) : ∃ K, ∀ k, K ≤ k → p k ∧ q k := by
  obtain ⟨K, h⟩ := hp
  obtain ⟨M, i⟩ := hq
  exact ⟨K + M, fun k hk => ⟨h k (by omega), i k (by omega)⟩⟩
/-- Marked and held: the lists that were handed out are the law's own. -/
theorem lists_held (r : List (List Int)) (h2 : r.length ≤ 1048576) (h1 : total r ≤ 1048576) : ∃ mm r', 0 ≤ mm ∧ r'.length = r.length ∧ (∃ K, ∀ k, K ≤ k → laws_eqIntSS.f k r r = some true ∧ laws_markIntSS.f k r 1 = some (mm, r') ∧ laws_heldIntSS.f k r' 1 = some mm) :=
  ⟨1 + total r, markAll 1 r, by omega, markAll_length r 1, and_at (laws_eqIntSS_ev r (fun x hx => by have := mem_total hx; omega) (by omega)) (all_at (laws_markIntSS_ev r 1 (by omega) (by omega) (by omega)) (laws_heldIntSS_ev r 1 (by omega) (by omega) (by omega)))⟩

theorem laws_szIntS_eq (l : List Int) (a : Int) (h0 : 0 ≤ a) (h1 : a ≤ 1048576) (hl : l.length ≤ 9223372036854775807) : laws_szIntS.f l a = some (if a - l.length < 0 then -1 else a - l.length) := by
  unfold laws_szIntS.f
  rw [w64 (by omega) (by omega)]
  by_cases c : a - (l.length : Int) < 0
  · rw [if_pos c, if_pos c]
  · rw [if_neg c, if_neg c]
theorem laws_szIntSS_loop (l : List (List Int)) (hl : l.length ≤ 1048576) (hs : ∀ x ∈ l, x.length ≤ 9223372036854775807) : ∀ (r pre : List (List Int)) (m : Int), l = pre ++ r → 0 ≤ m → m ≤ 1048576 →
    ∃ z, Ev (fun k => laws_szIntSS.l0 k l m (pre.length : Int)) z ∧ (z < 0 ∨ (0 ≤ z ∧ (total r : Int) ≤ m)) := by
  intro r
  induction r with
  | nil =>
    intro pre m h h0 h1
    refine ⟨m, Ev.step (f := fun _ => some _) (fun k => ?_) (Ev.now _), .inr ⟨h0, by simpa [total] using h0⟩⟩
    simp only [laws_szIntSS.l0]
    rw [if_neg (by rw [h]; simp)]
  | cons x r ih =>
    intro pre m h h0 h1
    have e : l.length = pre.length + (r.length + 1) := by rw [h]; simp
    have hrd : rd_L1 l (pre.length : Int) = x := by rw [h]; simp [rd_L1]
    have hx := laws_szIntS_eq x m h0 h1 (hs x (by rw [h]; simp))
    by_cases c : m - (x.length : Int) < 0
    · rw [if_pos c] at hx
      refine ⟨-1, Ev.step (f := fun _ => some _) (fun k => ?_) (Ev.now _), .inl (by omega)⟩
      simp only [laws_szIntSS.l0]
      rw [if_pos (by omega), if_pos (by omega), hrd, hx]
      rfl
    · rw [if_neg c] at hx
      obtain ⟨z, hz, h2⟩ := ih (pre ++ [x]) (m - x.length) (by rw [h]; simp) (by omega) (by omega)
      refine ⟨z, Ev.step (fun k => ?_) hz, ?_⟩
      · simp only [laws_szIntSS.l0]
        rw [if_pos (by omega), if_pos (by omega), hrd, hx, Option.bind_some, if_neg c]
        have ew : wrap64 ((pre.length : Int) + 1) = ((pre ++ [x]).length : Int) := by rw [w64 (by omega) (by omega)]; simp
        rw [ew]
      · rcases h2 with h2 | ⟨h2, h3⟩
        · exact .inl h2
        · exact .inr ⟨h2, by rw [total_cons]; omega⟩
theorem laws_szIntSS_ev (l : List (List Int)) (hl : l.length ≤ maxLen) (hs : ∀ x ∈ l, x.length ≤ maxLen) : ∃ z, Ev (fun k => laws_szIntSS.f k l 1048576) z ∧ (z < 0 ∨ (0 ≤ z ∧ l.length ≤ 1048576 ∧ total l ≤ 1048576)) := by
  have hl' : l.length ≤ 9223372036854775807 := by unfold maxLen at hl; omega
  have hs' : ∀ x ∈ l, x.length ≤ 9223372036854775807 := fun x hx => by have := hs x hx; unfold maxLen at this; omega
  unfold laws_szIntSS.f
  rw [w64 (by omega) (by omega)]
  by_cases c : (1048576 : Int) - (l.length : Int) < 0
  · simp only [if_pos c]
    exact ⟨-1, Ev.now _, .inl (by omega)⟩
  · simp only [if_neg c]
    obtain ⟨z, hz, h⟩ := laws_szIntSS_loop l (by omega) hs' l [] (1048576 - l.length) rfl (by omega) (by omega)
    refine ⟨z, hz, ?_⟩
    rcases h with h | ⟨h, h1⟩
    · exact .inl h
    · exact .inr ⟨h, by omega, by omega⟩
theorem laws_toIntSS_loop (l : List (List Int)) (hl : l.length ≤ 1048576) (hs : ∀ x ∈ l, x.length ≤ 17592186044415) : ∀ (r pre : List (List Int)), l = pre ++ r →
    Ev (fun k => laws_toIntSS.l0 k l (pre ++ List.replicate r.length []) (pre.length : Int)) l := by
  intro r
  induction r with
  | nil =>
    intro pre h
    have e : l.length = pre.length := by rw [h]; simp
    refine Ev.step (f := fun _ => some _) (fun k => ?_) (Ev.now _)
    simp only [laws_toIntSS.l0]
    rw [if_neg (by omega)]
    simp [h]
  | cons x r ih =>
    intro pre h
    have e : l.length = pre.length + (r.length + 1) := by rw [h]; simp
    have hi := ih (pre ++ [x]) (by rw [h]; simp)
    have hrd : rd_L1 l (pre.length : Int) = x := by rw [h]; simp [rd_L1]
    refine Ev.step (f := fun k => (laws_toIntS.f k x).bind fun t => laws_toIntSS.l0 k l ((pre ++ List.replicate (r.length + 1) []).set pre.length t) (wrap64 ((pre.length : Int) + 1))) (fun k => ?_) (Ev.bind (laws_toIntS_ev x (hs x (by rw [h]; simp))) ?_)
    · simp only [laws_toIntSS.l0]
      rw [if_pos (by omega), if_pos (by omega), hrd, Int.toNat_natCast, List.length_cons]
      simp only [if_pos (show (pre.length : Int) < ((pre ++ List.replicate (r.length + 1) []).length : Int) by simp; omega)]
    · have ew : wrap64 ((pre.length : Int) + 1) = ((pre ++ [x]).length : Int) := by rw [w64 (by omega) (by omega)]; simp
      rw [List.replicate_succ]
      simp only [set_midL, ew]
      exact hi
theorem laws_toIntSS_ev (l : List (List Int)) (hl : l.length ≤ 1048576) (hs : ∀ x ∈ l, x.length ≤ 17592186044415) : Ev (fun k => laws_toIntSS.f k l) l := by
  unfold laws_toIntSS.f
  have h := laws_toIntSS_loop l hl hs l [] rfl
  simp only [if_pos (show 0 ≤ (l.length : Int) by omega), if_pos (show ((l.length : Int) : Int).toNat ≤ 11728124029610 by omega)]
  simpa using h

/-- What every law of one list does: it hands a copy to the reference and one to the program, compares, and looks at the copy. -/
theorem ev_ite_true {α : Type} {f g : Nat → Option α} {r : α} {c : Prop} [Decidable c] (h : c) (k : Ev f r) : Ev (fun n => if c then f n else g n) r := by simpa only [if_pos h] using k
theorem ev_ite_false {α : Type} {f g : Nat → Option α} {r : α} {c : Prop} [Decidable c] (h : ¬ c) (k : Ev g r) : Ev (fun n => if c then f n else g n) r := by simpa only [if_neg h] using k

/-- The card of a cell, or -1. -/
def cardOf (x : Int) : Int := if 0 ≤ x then (if x ≤ 11 then x else -1) else (if -12 ≤ x then -1 - x else -1)

/-- A cell turned over. -/
def turnCard (x : Int) : Int := if cardOf x < 0 then x else -1 - x

def faroF (k : Int) : Nat → List Int → List Int → List Int → List Int
  | 0, _, _, out => out
  | d + 1, a, b, out => match a, b with
    | [], [] => out
    | [], y :: b => faroF k d [] b (out ++ [y])
    | x :: a, [] => faroF k d a [] (out ++ [x])
    | x :: a, y :: b => if (out.length : Int) % 2 = k then faroF k d a (y :: b) (out ++ [x]) else faroF k d (x :: a) b (out ++ [y])
def mongeF (k : Int) : List Int → Nat → List Int → List Int
  | [], _, out => out
  | x :: r, i, out => if i = 0 ∨ (i : Int) % 2 = k then mongeF k r (i + 1) (out ++ [x]) else mongeF k r (i + 1) (x :: out)
def milkF : Nat → List Int → List Int → List Int
  | 0, l, out => l ++ out
  | d + 1, l, out => if 1 < l.length then milkF d ((l.take (l.length - 1)).drop 1) ([rd l 0, rd l ((l.length : Int) - 1)] ++ out) else l ++ out
def duckF : Nat → List Int → List Int → Bool → List Int
  | 0, q, out, _ => q ++ out
  | _ + 1, [], out, _ => out
  | _ + 1, [x], out, _ => x :: out
  | d + 1, x :: y :: r, out, b => if b = true then duckF d (y :: r) (x :: out) false else duckF d (y :: r ++ [x]) out true
def doMove (l : List Int) (k a : Int) : List Int :=
  if k = 1 then l.drop a.toNat ++ l.take a.toNat
  else if k = 2 then (l.take a.toNat).reverse ++ l.drop a.toNat
  else if k = 3 then ((l.take a.toNat).map turnCard).reverse ++ l.drop a.toNat
  else if k = 4 then faroF a l.length (l.take (l.length / 2)) (l.drop (l.length / 2)) []
  else if k = 5 then mongeF a l 0 []
  else if k = 6 then milkF l.length l []
  else if k = 7 then duckF (2 * l.length) l [] (a == 1)
  else if k = 8 then l.set a.toNat (turnCard (rd l a))
  else l.take a.toNat ++ l.drop (a.toNat + 1) ++ [rd l a]

theorem nodup_le (l : List Int) : ∀ m : List Int, l.Nodup → (∀ x ∈ l, x ∈ m) → l.length ≤ m.length := by
  induction l with
  | nil => intro m _ _; simp
  | cons x l ih =>
    intro m hn hs
    simp only [List.nodup_cons] at hn
    have hx : x ∈ m := hs x (by simp)
    have h := ih (m.erase x) hn.2 (fun y hy => (List.mem_erase_of_ne (fun e => hn.1 (by rw [← e]; exact hy))).2 (hs y (by simp [hy])))
    rw [List.length_erase_of_mem hx] at h
    have := List.length_pos_of_mem hx
    simp only [List.length_cons]
    omega
def pktFrom : List Int → List Int → Bool
  | _, [] => true
  | seen, x :: r => decide (0 ≤ cardOf x) && (!decide (cardOf x ∈ seen) && pktFrom (seen ++ [cardOf x]) r)
/-- A packet: at most twelve cards, all different. -/
def packetOk (l : List Int) : Bool := pktFrom [] l
theorem pktFrom_iff (r : List Int) : ∀ seen, pktFrom seen r = true ↔ (∀ x ∈ r, 0 ≤ cardOf x) ∧ (r.map cardOf).Nodup ∧ (∀ x ∈ r, cardOf x ∉ seen) := by
  induction r with
  | nil => intro seen; simp [pktFrom]
  | cons x r ih =>
    intro seen
    simp only [pktFrom, Bool.and_eq_true, decide_eq_true_eq, Bool.not_eq_true', decide_eq_false_iff_not, ih, List.mem_cons, forall_eq_or_imp, List.map_cons, List.nodup_cons, List.mem_append, List.not_mem_nil, or_false, not_or, List.mem_map]
    constructor
    · rintro ⟨h1, h2, h3, h4, h5⟩
      exact ⟨⟨h1, h3⟩, ⟨fun ⟨y, hy, e⟩ => (h5 y hy).2 e, h4⟩, h2, fun y hy => (h5 y hy).1⟩
    · rintro ⟨⟨h1, h3⟩, ⟨h6, h4⟩, h2, h5⟩
      exact ⟨h1, h2, h3, h4, fun y hy => ⟨h5 y hy, fun e => h6 ⟨y, hy, e⟩⟩⟩
theorem packetOk_iff (l : List Int) : packetOk l = true ↔ (∀ x ∈ l, 0 ≤ cardOf x) ∧ (l.map cardOf).Nodup := by
  unfold packetOk
  rw [pktFrom_iff]
  simp
theorem cardOf_le (x : Int) : -1 ≤ cardOf x ∧ cardOf x ≤ 11 := by
  unfold cardOf
  split <;> split <;> omega
theorem packetOk_length {l : List Int} (h : packetOk l = true) : l.length ≤ 12 := by
  obtain ⟨h1, h2⟩ := (packetOk_iff l).1 h
  have := nodup_le (l.map cardOf) (upFrom 0 12) h2 (fun y hy => by
    obtain ⟨x, hx, rfl⟩ := List.mem_map.1 hy
    rw [upFrom_mem]
    have := h1 x hx
    have := cardOf_le x
    omega)
  rw [upFrom_length, List.length_map] at this
  exact this

theorem wf_small {x : Int} (h0 : -100 ≤ x) (h1 : x ≤ 100) : (Lit.int .i64 x).wf = true := by
  simp [Lit.wf, IntKind.min, IntKind.max, IntKind.signed, IntKind.bits]
  omega
theorem cardOf_bound {x : Int} (h : 0 ≤ cardOf x) : -12 ≤ x ∧ x ≤ 11 := by
  unfold cardOf at h
  repeat' split at h
  all_goals omega

/-- a and b put together as bs tells: true takes from b. -/
def wv : List Bool → List Int → List Int → List Int
  | [], _, _ => []
  | true :: bs, a, b => b.headD 0 :: wv bs a b.tail
  | false :: bs, a, b => a.headD 0 :: wv bs a.tail b
def weaveU : Nat → List Int → List Int → List Int → List (List Int)
  | 0, don, _, _ => [don]
  | d + 1, don, a, b => if a = [] ∧ b = [] then [don] else
    (if a = [] then [] else weaveU d (don ++ [a.headD 0]) a.tail b) ++ (if b = [] then [] else weaveU d (don ++ [b.headD 0]) a b.tail)
theorem wv_length : ∀ bs a b, (wv bs a b).length = bs.length := by
  intro bs
  induction bs with
  | nil => intro a b; rfl
  | cons c bs ih => intro a b; cases c <;> simp [wv, ih]
theorem mem_weaveU (x : List Int) : ∀ (d : Nat) (don a b : List Int), a.length + b.length ≤ d → (x ∈ weaveU d don a b ↔ ∃ bs : List Bool, bs.count false = a.length ∧ bs.count true = b.length ∧ x = don ++ wv bs a b) := by
  intro d
  induction d with
  | zero =>
    intro don a b hd
    have e1 : a = [] := List.length_eq_zero_iff.1 (by omega)
    have e2 : b = [] := List.length_eq_zero_iff.1 (by omega)
    subst e1 e2
    simp only [weaveU, List.mem_singleton, List.length_nil]
    constructor
    · rintro rfl; exact ⟨[], rfl, rfl, by simp [wv]⟩
    · rintro ⟨bs, h1, h2, rfl⟩
      cases bs with
      | nil => simp [wv]
      | cons c bs => cases c <;> simp at h1 h2
  | succ d ih =>
    intro don a b hd
    rw [weaveU]
    by_cases c0 : a = [] ∧ b = []
    · rw [if_pos c0, c0.1, c0.2]
      simp only [List.mem_singleton, List.length_nil]
      constructor
      · rintro rfl; exact ⟨[], rfl, rfl, by simp [wv]⟩
      · rintro ⟨bs, h1, h2, rfl⟩
        cases bs with
        | nil => simp [wv]
        | cons c bs => cases c <;> simp at h1 h2
    · rw [if_neg c0, List.mem_append]
      have h1 : (x ∈ (if a = [] then [] else weaveU d (don ++ [a.headD 0]) a.tail b)) ↔ ∃ bs : List Bool, (false :: bs).count false = a.length ∧ (false :: bs).count true = b.length ∧ x = don ++ wv (false :: bs) a b := by
        cases a with
        | nil => simp
        | cons y a =>
          rw [if_neg (by simp)]
          simp only [List.headD_cons, List.tail_cons]
          rw [ih _ _ _ (by simp at hd; omega)]
          constructor
          · rintro ⟨bs, e1, e2, rfl⟩; exact ⟨bs, by simp [e1], by simp [e2], by simp [wv]⟩
          · rintro ⟨bs, e1, e2, rfl⟩; exact ⟨bs, by simpa using e1, by simpa using e2, by simp [wv]⟩
      have h2 : (x ∈ (if b = [] then [] else weaveU d (don ++ [b.headD 0]) a b.tail)) ↔ ∃ bs : List Bool, (true :: bs).count false = a.length ∧ (true :: bs).count true = b.length ∧ x = don ++ wv (true :: bs) a b := by
        cases b with
        | nil => simp
        | cons y b =>
          rw [if_neg (by simp)]
          simp only [List.headD_cons, List.tail_cons]
          rw [ih _ _ _ (by simp at hd; omega)]
          constructor
          · rintro ⟨bs, e1, e2, rfl⟩; exact ⟨bs, by simp [e1], by simp [e2], by simp [wv]⟩
          · rintro ⟨bs, e1, e2, rfl⟩; exact ⟨bs, by simpa using e1, by simpa using e2, by simp [wv]⟩
      rw [h1, h2]
      constructor
      · rintro (⟨bs, h⟩ | ⟨bs, h⟩)
        · exact ⟨_, h⟩
        · exact ⟨_, h⟩
      · rintro ⟨bs, e1, e2, e3⟩
        cases bs with
        | nil =>
          exact absurd ⟨List.length_eq_zero_iff.1 e1.symm, List.length_eq_zero_iff.1 e2.symm⟩ c0
        | cons c bs => cases c
                       · exact .inl ⟨bs, e1, e2, e3⟩
                       · exact .inr ⟨bs, e1, e2, e3⟩
theorem count_tf (bs : List Bool) : bs.count false + bs.count true = bs.length := by
  induction bs with
  | nil => rfl
  | cons c bs ih => cases c <;> simp <;> omega
/-- p's first part and its second one, put together as bs tells. -/
def rif (p : List Int) (bs : List Bool) : List Int := wv bs (p.take (bs.count false)) (p.drop (bs.count false))
theorem mem_weaves (p x : List Int) : x ∈ (List.range (p.length + 1)).flatMap (fun k => weaveU p.length [] (p.take k) (p.drop k)) ↔ ∃ bs : List Bool, bs.length = p.length ∧ x = rif p bs := by
  rw [List.mem_flatMap]
  constructor
  · rintro ⟨k, hk, hx⟩
    rw [List.mem_range] at hk
    rw [mem_weaveU _ _ _ _ _ (by simp; omega)] at hx
    obtain ⟨bs, h1, h2, h3⟩ := hx
    rw [List.length_take, Nat.min_eq_left (by omega)] at h1
    rw [List.length_drop] at h2
    refine ⟨bs, by have := count_tf bs; omega, ?_⟩
    rw [rif, h1]
    simpa using h3
  · rintro ⟨bs, h1, h2⟩
    have hc := count_tf bs
    refine ⟨bs.count false, by rw [List.mem_range]; omega, ?_⟩
    rw [mem_weaveU _ _ _ _ _ (by simp; omega)]
    exact ⟨bs, by rw [List.length_take]; omega, by rw [List.length_drop]; omega, by simpa [rif] using h2⟩
/-- The bits of a number, from the lowest on. -/
def bitsOf : Nat → Nat → List Bool
  | 0, _ => []
  | n + 1, w => decide (w % 2 = 1) :: bitsOf n (w / 2)
theorem bitsOf_length : ∀ n w, (bitsOf n w).length = n := by
  intro n
  induction n with
  | zero => intro w; rfl
  | succ n ih => intro w; simp [bitsOf, ih]
theorem bitsOf_all : ∀ bs : List Bool, ∃ w, w < 2 ^ bs.length ∧ bitsOf bs.length w = bs := by
  intro bs
  induction bs with
  | nil => exact ⟨0, by simp, rfl⟩
  | cons c bs ih =>
    obtain ⟨w, hw, e⟩ := ih
    refine ⟨2 * w + (if c = true then 1 else 0), ?_, ?_⟩
    · rw [List.length_cons, Nat.pow_succ]; split <;> omega
    · rw [List.length_cons, bitsOf]
      cases c with
      | true => rw [if_pos rfl, show (2 * w + 1) / 2 = w by omega, e]; simp
      | false => rw [if_neg (by simp), show (2 * w + 0) / 2 = w by omega, e]; simp
theorem mem_masks (p x : List Int) : x ∈ (List.range (2 ^ p.length)).map (fun w => rif p (bitsOf p.length w)) ↔ ∃ bs : List Bool, bs.length = p.length ∧ x = rif p bs := by
  rw [List.mem_map]
  constructor
  · rintro ⟨w, hw, rfl⟩; exact ⟨_, bitsOf_length _ _, rfl⟩
  · rintro ⟨bs, h1, h2⟩
    obtain ⟨w, hw, e⟩ := bitsOf_all bs
    rw [h1] at hw e
    exact ⟨w, List.mem_range.2 hw, by rw [e, h2]⟩
/-- Both ways to name the riffles give the same lists. -/
theorem weaves_masks (p x : List Int) : x ∈ (List.range (2 ^ p.length)).map (fun w => rif p (bitsOf p.length w)) ↔ x ∈ (List.range (p.length + 1)).flatMap (fun k => weaveU p.length [] (p.take k) (p.drop k)) := by
  rw [mem_masks, mem_weaves]

theorem length_le_sub {α : Type} [DecidableEq α] : ∀ (a b : List α), a.Nodup → (∀ x ∈ a, x ∈ b) → a.length ≤ b.length := by
  intro a
  induction a with
  | nil => intro b _ _; exact Nat.zero_le _
  | cons x a ih =>
    intro b hn hs
    rw [List.nodup_cons] at hn
    have hx : x ∈ b := hs x (by simp)
    have h := ih (b.erase x) hn.2 (fun y hy => (List.mem_erase_of_ne (fun e => hn.1 (by rw [← e]; exact hy))).2 (hs y (by simp [hy])))
    rw [List.length_erase_of_mem hx] at h
    have := List.length_pos_of_mem hx
    rw [List.length_cons]
    omega
theorem sortU_nodup (l : List (List Int)) : (sortU l).Nodup := by
  refine (strict_sortU l).imp ?_
  intro a b h e
  rw [e, lexLt_irrefl] at h
  cases h
theorem nodup_map_inj {α β : Type} (g : α → β) : ∀ (l : List α), l.Nodup → (∀ x ∈ l, ∀ y ∈ l, g x = g y → x = y) → (l.map g).Nodup := by
  intro l
  induction l with
  | nil => intro _ _; simp
  | cons x l ih =>
    intro hn hg
    rw [List.nodup_cons] at hn
    rw [List.map_cons, List.nodup_cons]
    refine ⟨fun h => ?_, ih hn.2 (fun y hy z hz => hg y (by simp [hy]) z (by simp [hz]))⟩
    obtain ⟨y, hy, e⟩ := List.mem_map.1 h
    rw [hg y (by simp [hy]) x (by simp) e] at hy
    exact hn.1 hy
/-- As many different lists are told by other names, where the names differ. -/
theorem length_sortU_map (g : List Int → List Int) (l : List (List Int)) (hg : ∀ x ∈ l, ∀ y ∈ l, g x = g y → x = y) : (sortU (l.map g)).length = (sortU l).length := by
  have h1 : ((sortU l).map g).Nodup := nodup_map_inj g _ (sortU_nodup l) (fun x hx y hy => hg x ((mem_sortU x l).1 hx) y ((mem_sortU y l).1 hy))
  have e : ∀ x, x ∈ (sortU l).map g ↔ x ∈ sortU (l.map g) := fun x => by
    rw [mem_sortU, List.mem_map, List.mem_map]
    constructor
    · rintro ⟨y, hy, e⟩; exact ⟨y, (mem_sortU y l).1 hy, e⟩
    · rintro ⟨y, hy, e⟩; exact ⟨y, (mem_sortU y l).2 hy, e⟩
  have a := length_le_sub _ _ h1 (fun x hx => (e x).1 hx)
  have b := length_le_sub _ _ (sortU_nodup (l.map g)) (fun x hx => (e x).2 hx)
  rw [List.length_map] at a b
  omega

theorem wv_map (g : Int → Int) : ∀ (bs : List Bool) (a b : List Int), bs.count false ≤ a.length → bs.count true ≤ b.length → wv bs (a.map g) (b.map g) = (wv bs a b).map g := by
  intro bs
  induction bs with
  | nil => intro a b _ _; rfl
  | cons c bs ih =>
    intro a b ha hb
    cases c with
    | true =>
      cases b with
      | nil => simp at hb
      | cons y b =>
        simp only [wv, List.map_cons, List.headD_cons, List.tail_cons]
        rw [ih a b (by simpa using ha) (by simpa using hb)]
    | false =>
      cases a with
      | nil => simp at ha
      | cons y a =>
        simp only [wv, List.map_cons, List.headD_cons, List.tail_cons]
        rw [ih a b (by simpa using ha) (by simpa using hb)]
theorem rif_map (g : Int → Int) (p : List Int) (bs : List Bool) (h : bs.length = p.length) : rif (p.map g) bs = (rif p bs).map g := by
  have hc := count_tf bs
  unfold rif
  rw [← List.map_take, ← List.map_drop, wv_map g bs _ _ (by rw [List.length_take]; omega) (by rw [List.length_drop]; omega)]
/-- The numbers from 0 on. -/
def iota (n : Nat) : List Int := (List.range n).map Int.ofNat
theorem iota_length (n : Nat) : (iota n).length = n := by simp [iota]
theorem mem_iota (n : Nat) (x : Int) : x ∈ iota n ↔ 0 ≤ x ∧ x < n := by
  unfold iota
  rw [List.mem_map]
  constructor
  · rintro ⟨i, hi, rfl⟩
    have := List.mem_range.1 hi
    constructor
    · exact Int.natCast_nonneg i
    · show (i : Int) < n
      omega
  · rintro ⟨h0, h1⟩
    exact ⟨x.toNat, List.mem_range.2 (by omega), by show (x.toNat : Int) = x; omega⟩
theorem iota_map (p : List Int) : (iota p.length).map (fun i => p.getD i.toNat 0) = p := by
  apply List.ext_getElem
  · simp [iota]
  · intro i h1 h2
    simp [iota, h2]
theorem getD_inj {p : List Int} (hn : p.Nodup) {i j : Nat} (hi : i < p.length) (hj : j < p.length) (e : p.getD i 0 = p.getD j 0) : i = j := by
  rw [List.getD_eq_getElem?_getD, List.getD_eq_getElem?_getD, List.getElem?_eq_getElem hi, List.getElem?_eq_getElem hj] at e
  have hp := List.pairwise_iff_getElem.1 hn
  have e' : p[i] = p[j] := e
  rcases Nat.lt_trichotomy i j with h | h | h
  · exact absurd e' (hp i j hi hj h)
  · exact h
  · exact absurd e'.symm (hp j i hj hi h)
theorem mapg_inj {p : List Int} (hn : p.Nodup) : ∀ (x y : List Int), (∀ i ∈ x, 0 ≤ i ∧ i < p.length) → (∀ i ∈ y, 0 ≤ i ∧ i < p.length) → x.map (fun i => p.getD i.toNat 0) = y.map (fun i => p.getD i.toNat 0) → x = y := by
  intro x
  induction x with
  | nil => intro y _ _ e; cases y with
    | nil => rfl
    | cons b y => simp at e
  | cons a x ih =>
    intro y hx hy e
    cases y with
    | nil => simp at e
    | cons b y =>
      rw [List.map_cons, List.map_cons] at e
      injection e with e1 e2
      have h1 := hx a (by simp)
      have h2 := hy b (by simp)
      have := getD_inj hn (by omega) (by omega) e1
      rw [ih y (fun i hi => hx i (by simp [hi])) (fun i hi => hy i (by simp [hi])) e2, show a = b by omega]
theorem wv_mem : ∀ (bs : List Bool) (a b : List Int), bs.count false ≤ a.length → bs.count true ≤ b.length → ∀ x ∈ wv bs a b, x ∈ a ∨ x ∈ b := by
  intro bs
  induction bs with
  | nil => intro a b _ _ x hx; simp [wv] at hx
  | cons c bs ih =>
    intro a b ha hb x hx
    cases c with
    | true =>
      cases b with
      | nil => simp at hb
      | cons y b =>
        simp only [wv, List.headD_cons, List.tail_cons, List.mem_cons] at hx
        rcases hx with rfl | hx
        · exact .inr (by simp)
        · rcases ih a b (by simpa using ha) (by simpa using hb) x hx with h | h
          · exact .inl h
          · exact .inr (by simp [h])
    | false =>
      cases a with
      | nil => simp at ha
      | cons y a =>
        simp only [wv, List.headD_cons, List.tail_cons, List.mem_cons] at hx
        rcases hx with rfl | hx
        · exact .inl (by simp)
        · rcases ih a b (by simpa using ha) (by simpa using hb) x hx with h | h
          · exact .inl (by simp [h])
          · exact .inr h
theorem rif_mem {p : List Int} {bs : List Bool} (h : bs.length = p.length) : ∀ x ∈ rif p bs, x ∈ p := by
  intro x hx
  have hc := count_tf bs
  rcases wv_mem bs _ _ (by rw [List.length_take]; omega) (by rw [List.length_drop]; omega) x hx with h | h
  · exact List.mem_of_mem_take h
  · exact List.mem_of_mem_drop h
/-- All riffles of a list, by masks. -/
def rifs (p : List Int) : List (List Int) := (List.range (2 ^ p.length)).map (fun w => rif p (bitsOf p.length w))
theorem rifs_map (p : List Int) : rifs p = (rifs (iota p.length)).map (fun x => x.map (fun i => p.getD i.toNat 0)) := by
  unfold rifs
  rw [List.map_map, iota_length]
  apply List.map_congr_left
  intro w _
  show rif p _ = List.map _ (rif (iota p.length) _)
  rw [← rif_map _ _ _ (by rw [bitsOf_length, iota_length]), iota_map]
theorem rifs_count {p : List Int} (hn : p.Nodup) : (sortU (rifs p)).length = (sortU (rifs (iota p.length))).length := by
  rw [rifs_map]
  refine length_sortU_map _ _ (fun x hx y hy e => ?_)
  have hm : ∀ x ∈ rifs (iota p.length), ∀ i ∈ x, 0 ≤ i ∧ i < p.length := by
    intro x hx i hi
    unfold rifs at hx
    obtain ⟨w, _, rfl⟩ := List.mem_map.1 hx
    have := rif_mem (by rw [bitsOf_length]) i hi
    exact (mem_iota _ _).1 this
  exact mapg_inj hn x y (hm x hx) (hm y hy) e
/-- The way that a riffle of the numbers from 0 on, other than these, tells. -/
def firstOff : Int → List Int → Option Int
  | _, [] => none
  | i, x :: l => if x = i then firstOff (i + 1) l else some x
def wayOf : Int → List Int → Nat
  | _, [] => 0
  | k, x :: l => (if k ≤ x then 1 else 0) + 2 * wayOf k l
def way (l : List Int) : Option Nat := (firstOff 0 l).map (fun k => wayOf k l)
theorem ways12_many : 3000 < ((List.range 4096).filter (fun w => decide (way (rif (iota 12) (bitsOf 12 w)) = some w))).length := by decide +kernel
theorem rifs12 : 3000 < (sortU (rifs (iota 12))).length := by
  refine Nat.lt_of_lt_of_le ways12_many ?_
  let W := (List.range 4096).filter (fun w => decide (way (rif (iota 12) (bitsOf 12 w)) = some w))
  have h1 : (W.map (fun w => rif (iota 12) (bitsOf 12 w))).Nodup := by
    refine nodup_map_inj _ _ (List.nodup_range.filter _) (fun x hx y hy e => ?_)
    have hx' := (List.mem_filter.1 hx).2
    have hy' := (List.mem_filter.1 hy).2
    simp only [decide_eq_true_eq] at hx' hy'
    have e' : rif (iota 12) (bitsOf 12 x) = rif (iota 12) (bitsOf 12 y) := e
    rw [e', hy'] at hx'
    injection hx' with h
    exact h.symm
  have h2 := length_le_sub _ (sortU (rifs (iota 12))) h1 (fun x hx => by
    rw [mem_sortU]
    obtain ⟨w, hw, e⟩ := List.mem_map.1 hx
    refine List.mem_map.2 ⟨w, ?_, by rw [← e, iota_length]⟩
    have := (List.mem_filter.1 hw).1
    rw [iota_length]
    exact this)
  rw [List.length_map] at h2
  exact h2

def cutsU (p : List Int) : List (List Int) := (List.range' 0 p.length).map (fun k => doMove p 1 (k : Nat))
def pickU (p : List Int) (i : Nat) : List Int := [rd p i] ++ p.take i ++ p.drop (i + 1)
def choiceU (p : List Int) (kind : Int) : List (List Int) :=
  if kind = 1 then cutsU p else if kind = 2 then rifs p else if kind = 3 then cutsU (doMove p 3 2) else if kind = 4 then (List.range' 0 p.length).map (pickU p) else [p]
def choiceOk (p : List Int) (kind : Int) : Prop := packetOk p = true ∧ ¬ p.length = 0 ∧ 0 ≤ kind ∧ kind ≤ 4 ∧ (kind = 3 → 2 ≤ p.length) ∧ (kind = 2 → p.length ≤ 11)
instance (p : List Int) (kind : Int) : Decidable (choiceOk p kind) := by unfold choiceOk; exact inferInstance
/-- What a packet and a choice result in. -/
def resultsOf (p : List Int) (kind : Int) : List (List Int) × Bool := if choiceOk p kind then (sortU (choiceU p kind), true) else ([], false)
theorem cutsU_length (p : List Int) : (cutsU p).length = p.length := by simp [cutsU]
theorem doMove1_length (p : List Int) (k : Nat) (h : k ≤ p.length) : (doMove p 1 k).length = p.length := by
  unfold doMove
  rw [if_pos rfl]
  simp
  omega
theorem doMove3_length (p : List Int) (h : 2 ≤ p.length) : (doMove p 3 2).length = p.length := by
  unfold doMove
  rw [if_neg (by omega), if_neg (by omega), if_pos rfl]
  simp
  omega
theorem rif_length (p : List Int) (bs : List Bool) : (rif p bs).length = bs.length := wv_length _ _ _
theorem choiceU_len (p : List Int) (kind : Int) (h3 : kind = 3 → 2 ≤ p.length) : ∀ x ∈ choiceU p kind, x.length = p.length := by
  have hc : ∀ q : List Int, ∀ x ∈ cutsU q, x.length = q.length := by
    intro q x hx
    obtain ⟨k, hk, rfl⟩ := List.mem_map.1 hx
    rw [List.mem_range'_1] at hk
    exact doMove1_length q k (by omega)
  intro x hx
  unfold choiceU at hx
  split at hx
  · exact hc p x hx
  split at hx
  · obtain ⟨w, _, rfl⟩ := List.mem_map.1 hx
    rw [rif_length, bitsOf_length]
  split at hx
  · rename_i h
    rw [hc _ x hx, doMove3_length p (h3 h)]
  split at hx
  · obtain ⟨k, hk, rfl⟩ := List.mem_map.1 hx
    rw [List.mem_range'_1] at hk
    simp [pickU]
    omega
  · rw [List.mem_singleton.1 hx]
theorem choiceU_count (p : List Int) (kind : Int) (h3 : kind = 3 → 2 ≤ p.length) (h1 : 1 ≤ p.length) : (choiceU p kind).length ≤ 2 ^ p.length := by
  have hb : p.length ≤ 2 ^ p.length := Nat.le_of_lt Nat.lt_two_pow_self
  unfold choiceU
  split
  · rw [cutsU_length]; exact hb
  split
  · simp [rifs]
  split
  · rename_i h
    rw [cutsU_length, doMove3_length p (h3 h)]; exact hb
  split
  · simpa using hb
  · simpa using Nat.one_le_two_pow
theorem packet_nodup {p : List Int} (h : packetOk p = true) : p.Nodup := by
  have h2 := ((packetOk_iff p).1 h).2
  have h3 : ∀ l : List Int, (l.map cardOf).Nodup → l.Nodup := by
    intro l
    induction l with
    | nil => intro _; simp
    | cons x l ih =>
      intro hn
      rw [List.map_cons, List.nodup_cons] at hn
      rw [List.nodup_cons]
      exact ⟨fun hx => hn.1 (List.mem_map.2 ⟨x, hx, rfl⟩), ih hn.2⟩
  exact h3 p h2
theorem packet_wf {p : List Int} (h : packetOk p = true) : ∀ x ∈ p, (Lit.int .i64 x).wf = true := by
  intro x hx
  have := cardOf_bound (((packetOk_iff p).1 h).1 x hx)
  exact wf_small (by omega) (by omega)
theorem turn_wf {x : Int} (h : -12 ≤ x ∧ x ≤ 11) : (Lit.int .i64 (turnCard x)).wf = true := by
  have : -13 ≤ turnCard x ∧ turnCard x ≤ 12 := by
    unfold turnCard
    split <;> omega
  exact wf_small (by omega) (by omega)
theorem flip_wf {p : List Int} (h : packetOk p = true) : ∀ x ∈ doMove p 3 2, (Lit.int .i64 x).wf = true := by
  intro x hx
  unfold doMove at hx
  rw [if_neg (by omega), if_neg (by omega), if_pos rfl] at hx
  rcases List.mem_append.1 hx with hx | hx
  · rw [List.mem_reverse] at hx
    obtain ⟨y, hy, rfl⟩ := List.mem_map.1 hx
    exact turn_wf (cardOf_bound (((packetOk_iff p).1 h).1 y (List.mem_of_mem_take hy)))
  · exact packet_wf h x (List.mem_of_mem_drop hx)
theorem pow_le_2048 {n : Nat} (h : n ≤ 11) : 2 ^ n ≤ 2048 := Nat.pow_le_pow_right (by omega) h
theorem wv_prefix : ∀ (bs : List Bool) (a z b : List Int), bs.count false ≤ a.length → wv bs (a ++ z) b = wv bs a b := by
  intro bs
  induction bs with
  | nil => intro a z b _; rfl
  | cons c bs ih =>
    intro a z b h
    cases c with
    | true => simp only [wv]; rw [ih a z _ (by simpa using h)]
    | false =>
      cases a with
      | nil => simp at h
      | cons x a =>
        simp only [wv, List.cons_append, List.headD_cons, List.tail_cons]
        rw [ih a z b (by simpa using h)]
theorem rif_whole (p : List Int) (bs : List Bool) (h : bs.length = p.length) : wv bs p (p.drop (bs.count false)) = rif p bs := by
  have hc := count_tf bs
  have e := wv_prefix bs (p.take (bs.count false)) (p.drop (bs.count false)) (p.drop (bs.count false)) (by rw [List.length_take]; omega)
  rw [List.take_append_drop] at e
  exact e
theorem resultsOf_small (p : List Int) (kind : Int) : (resultsOf p kind).1.length ≤ 4096 ∧ ∀ x ∈ (resultsOf p kind).1, x.length ≤ 12 := by
  unfold resultsOf
  by_cases h : choiceOk p kind
  · rw [if_pos h]
    obtain ⟨hpk, hz, h0, h4, h3, h2⟩ := h
    have hp := packetOk_length hpk
    constructor
    · have := length_sortU (choiceU p kind)
      have := choiceU_count p kind h3 (by omega)
      have : 2 ^ p.length ≤ 4096 := Nat.pow_le_pow_right (n := 2) (by omega) hp
      show (sortU (choiceU p kind)).length ≤ 4096
      omega
    · intro x hx
      rw [choiceU_len p kind h3 x ((mem_sortU x _).1 hx)]
      exact hp
  · rw [if_neg h]
    exact ⟨by simp, fun x hx => by simp at hx⟩

theorem impl_CardOf_eq (x : Int) (hx : -9223372036854775808 ≤ x) : impl_CardOf.f x = some (cardOf x) := by
  unfold impl_CardOf.f cardOf
  by_cases h0 : x < 0
  · rw [if_pos h0, w64 (by omega) (by omega), if_neg (show ¬ 0 ≤ x by omega)]
    by_cases h1 : -12 ≤ x
    · rw [if_neg (by omega), if_pos h1]
    · rw [if_pos (by omega), if_neg h1]
  · rw [if_neg h0, if_pos (show 0 ≤ x by omega)]
    by_cases h1 : x ≤ 11
    · rw [if_neg (by omega), if_pos h1]
    · rw [if_pos (by omega), if_neg h1]

theorem impl_PacketOk_loop (l : List Int) (hl : l.length ≤ 9223372036854775806) (hw : ∀ x ∈ l, (Lit.int .i64 x).wf = true) : ∀ (r pre seen : List Int) (m : List Bool), l = pre ++ r → m.length = 12 → (∀ c : Int, 0 ≤ c → c < 12 → (rdOf false m c = true ↔ c ∈ seen)) →
    Ev (fun k => impl_PacketOk.l0 k m l (pre.length : Int)) (pktFrom seen r) := by
  intro r
  induction r with
  | nil =>
    intro pre seen m h hm hs
    have e := lens h
    simp only [List.length_nil] at e
    refine Ev.step (f := fun _ => some _) (fun k => ?_) (Ev.now _)
    simp only [impl_PacketOk.l0]
    rw [if_neg (by omega)]
    simp [pktFrom]
  | cons x r ih =>
    intro pre seen m h hm hs
    have e := lens h
    simp only [List.length_cons] at e
    have hx := bd64 (hw x (by rw [h]; simp))
    have hc := cardOf_le x
    by_cases c0 : cardOf x < 0
    · have e : pktFrom seen (x :: r) = false := by simp only [pktFrom]; rw [decide_eq_false (by omega)]; rfl
      rw [e]
      refine Ev.step (f := fun _ => some _) (fun k => ?_) (Ev.now _)
      simp only [impl_PacketOk.l0]
      rw [if_pos (by omega), if_pos (by omega), rd_mid' h, impl_CardOf_eq x hx.1]
      simp only [Option.bind_some]
      rw [if_pos c0]
    have hsc := hs (cardOf x) (by omega) (by omega)
    by_cases c2 : cardOf x ∈ seen
    · have e : pktFrom seen (x :: r) = false := by simp only [pktFrom]; simp [c2]
      rw [e]
      refine Ev.step (f := fun _ => some _) (fun k => ?_) (Ev.now _)
      simp only [impl_PacketOk.l0]
      rw [if_pos (by omega), if_pos (by omega), rd_mid' h, impl_CardOf_eq x hx.1]
      simp only [Option.bind_some]
      rw [if_neg c0, if_pos (by omega), if_pos (hsc.2 c2)]
    · have e : pktFrom seen (x :: r) = pktFrom (seen ++ [cardOf x]) r := by simp only [pktFrom]; rw [decide_eq_true (by omega)]; simp [c2]
      rw [e]
      refine Ev.step (fun k => ?_) (ih (pre ++ [x]) (seen ++ [cardOf x]) (m.set (cardOf x).toNat true) (snoc_eq h) (by simp [hm]) ?_)
      · simp only [impl_PacketOk.l0]
        rw [if_pos (by omega), if_pos (by omega), rd_mid' h, impl_CardOf_eq x hx.1]
        simp only [Option.bind_some]
        rw [if_neg c0, if_pos (by omega), if_neg (fun q => c2 (hsc.1 q)), snoc_len x (by omega)]
      · intro c h0 h1
        rw [List.mem_append, List.mem_singleton, ← hs c h0 h1]
        simp only [rdOf, List.getD_eq_getElem?_getD, List.getElem?_set, hm]
        by_cases ec : c = cardOf x
        · subst ec
          rw [if_pos rfl, if_pos (by omega)]
          simp
        · rw [if_neg (by omega)]
          simp [ec]
theorem impl_PacketOk_ev (l : List Int) (hl : l.length ≤ 9223372036854775806) (hw : ∀ x ∈ l, (Lit.int .i64 x).wf = true) : Ev (fun k => impl_PacketOk.f k l) (packetOk l) := by
  unfold impl_PacketOk.f packetOk
  refine impl_PacketOk_loop l hl hw l [] [] _ rfl (by simp) ?_
  intro c h0 h1
  simp only [rdOf, List.getD_eq_getElem?_getD, List.getElem?_replicate]
  rw [if_pos (by omega)]
  simp

theorem impl_TurnCard_eq (x : Int) (hx : -9223372036854775808 ≤ x) : impl_TurnCard.f x = some (turnCard x) := by
  unfold impl_TurnCard.f turnCard
  rw [impl_CardOf_eq x hx]
  simp only [Option.bind_some]
  by_cases h : cardOf x < 0
  · rw [if_pos h, if_pos h]
  · rw [if_neg h, if_neg h, w64]
    all_goals (unfold cardOf at h; split at h <;> split at h <;> omega)

theorem slices_Reverse_int_int_loop : ∀ (d : Nat) (m p q : List Int), m.length ≤ d → p.length = q.length → p.length + m.length + q.length ≤ 100 →
    Ev (fun k => slices_Reverse_int_int.l0 k (p ++ m ++ q) (p.length : Int) ((p.length : Int) + m.length - 1)) (p ++ m.reverse ++ q) := by
  intro d
  induction d with
  | zero =>
    intro m p q h hp hl
    have hm : m = [] := List.length_eq_zero_iff.mp (by omega)
    subst hm
    refine Ev.step (f := fun _ => some _) (fun k => ?_) (Ev.now _)
    simp only [slices_Reverse_int_int.l0]
    rw [if_neg (by simp <;> omega)]
    rfl
  | succ d ih =>
    intro m p q h hp hl
    match m with
    | [] =>
      refine Ev.step (f := fun _ => some _) (fun k => ?_) (Ev.now _)
      simp only [slices_Reverse_int_int.l0]
      rw [if_neg (by simp <;> omega)]
      rfl
    | [x] =>
      refine Ev.step (f := fun _ => some _) (fun k => ?_) (Ev.now _)
      simp only [slices_Reverse_int_int.l0]
      rw [if_neg (by simp)]
      rfl
    | x :: y :: r =>
      obtain ⟨m', z, e⟩ : ∃ m' z, y :: r = m' ++ [z] := ⟨(y :: r).dropLast, (y :: r).getLast (by simp), (List.dropLast_concat_getLast (by simp)).symm⟩
      rw [e] at h hl ⊢
      simp only [List.length_cons, List.length_append, List.length_singleton] at h hl
      have hi := ih m' (p ++ [z]) (x :: q) (by omega) (by simp [hp]) (by simp <;> omega)
      have e1 : p ++ (x :: (m' ++ [z])).reverse ++ q = p ++ [z] ++ m'.reverse ++ (x :: q) := by simp
      rw [e1]
      refine Ev.step (fun k => ?_) hi
      have hj : ((p.length : Int) + ((x :: (m' ++ [z])).length : Int) - 1) = ((p.length + 1 + m'.length : Nat) : Int) := by simp <;> omega
      have ei : wrap64 ((p.length : Int) + 1) = ((p ++ [z]).length : Int) := snoc_len z (by omega)
      have ej : wrap64 (((p.length + 1 + m'.length : Nat) : Int) - 1) = ((p ++ [z]).length : Int) + (m'.length : Int) - 1 := by rw [w64 (by omega) (by omega), List.length_append, List.length_singleton]; omega
      have ex : rd (p ++ (x :: (m' ++ [z])) ++ q) (p.length : Int) = x := by simp [rd]
      have ez : rd (p ++ (x :: (m' ++ [z])) ++ q) ((p.length + 1 + m'.length : Nat) : Int) = z := by
        have : p ++ (x :: (m' ++ [z])) ++ q = (p ++ x :: m') ++ (z :: q) := by simp
        rw [this, show p.length + 1 + m'.length = (p ++ x :: m').length by simp <;> omega]
        exact rd_mid _ _ _
      have es : ((p ++ (x :: (m' ++ [z])) ++ q).set p.length z).set (p.length + 1 + m'.length) x = p ++ [z] ++ m' ++ (x :: q) := by
        have e2 : p ++ (x :: (m' ++ [z])) ++ q = p ++ x :: (m' ++ z :: q) := by simp
        rw [e2, set_mid, show (p ++ [z] ++ (m' ++ z :: q)) = (p ++ [z] ++ m') ++ z :: q by simp, show p.length + 1 + m'.length = (p ++ [z] ++ m').length by simp <;> omega, set_mid]
        simp
      simp only [slices_Reverse_int_int.l0]
      rw [hj, if_pos (by omega), if_pos (by omega), if_pos (by simp <;> omega), if_pos (by omega), if_pos (by simp <;> omega), ex, ez, ei, ej, Int.toNat_natCast, Int.toNat_natCast, es]
theorem slices_Reverse_int_int_ev (l : List Int) (hl : l.length ≤ 100) : Ev (fun k => slices_Reverse_int_int.f k l) l.reverse := by
  unfold slices_Reverse_int_int.f
  have h := slices_Reverse_int_int_loop l.length l [] [] (by omega) rfl (by simp <;> omega)
  simp only [List.nil_append, List.append_nil, List.length_nil] at h
  rw [w64 (by omega) (by omega)]
  have e : (((0 : Nat) : Int) + (l.length : Int) - 1) = (l.length : Int) - 1 := by omega
  rw [e] at h
  exact h
theorem impl_reversed_ev (l : List Int) (hl : l.length ≤ 100) : Ev (fun k => impl_reversed.f k l) l.reverse := by
  unfold impl_reversed.f
  have e : slices_Clone_int_int.f l = some l := by unfold slices_Clone_int_int.f; rw [if_pos (by omega)]
  simp only [e, Option.bind_some]
  exact Ev.bind (slices_Reverse_int_int_ev l hl) (Ev.now _)

theorem flen {ls pre r : List (List Int)} (h : ls = pre ++ r) : ls.flatten.length = pre.flatten.length + r.flatten.length := by rw [h]; simp
theorem slices_Concat_int_int_two (ls : List (List Int)) (hn : ls.length ≤ 100) (hl : ls.flatten.length ≤ 100) : ∀ (r pre : List (List Int)), ls = pre ++ r →
    Ev (fun k => slices_Concat_int_int.l1 k pre.flatten ls (ls.length : Int) (pre.length : Int)) ls.flatten := by
  intro r
  induction r with
  | nil =>
    intro pre h
    refine Ev.step (f := fun _ => some _) (fun k => ?_) (Ev.now _)
    simp only [slices_Concat_int_int.l1]
    rw [if_neg (by rw [h]; simp), h, List.append_nil]
  | cons x r ih =>
    intro pre h
    have e : ls.length = pre.length + (r.length + 1) := by rw [h]; simp
    have hf := flen h
    simp only [List.flatten_cons, List.length_append] at hf
    have hr : rd_L1 ls (pre.length : Int) = x := by rw [h]; simp [rd_L1]
    have hi := ih (pre ++ [x]) (by rw [h]; simp)
    rw [show (pre ++ [x]).flatten = pre.flatten ++ x by simp, show (pre ++ [x]).length = pre.length + 1 by simp] at hi
    refine Ev.step (fun k => ?_) hi
    simp only [slices_Concat_int_int.l1]
    rw [if_pos (by omega), if_pos (by omega), if_pos (by omega), hr, if_pos (by omega), w64 (by omega) (by omega)]
    rfl
theorem slices_Concat_int_int_one (ls : List (List Int)) (hn : ls.length ≤ 100) (hl : ls.flatten.length ≤ 100) : ∀ (r pre : List (List Int)), ls = pre ++ r →
    Ev (fun k => slices_Concat_int_int.l0 k ls (pre.flatten.length : Int) ls (ls.length : Int) (pre.length : Int)) ls.flatten := by
  intro r
  induction r with
  | nil =>
    intro pre h
    refine Ev.step (f := fun k => slices_Concat_int_int.l1 k [] ls (ls.length : Int) 0) (fun k => ?_) (slices_Concat_int_int_two ls hn hl ls [] rfl)
    have hf := flen h
    simp only [slices_Concat_int_int.l0]
    have e : slices_Grow_int_int.f ([] : List Int) (pre.flatten.length : Int) = some [] := by unfold slices_Grow_int_int.f; rw [if_pos ⟨rfl, by omega, by omega⟩]
    rw [if_neg (by rw [h]; simp), e]
    rfl
  | cons x r ih =>
    intro pre h
    have e : ls.length = pre.length + (r.length + 1) := by rw [h]; simp
    have hf := flen h
    simp only [List.flatten_cons, List.length_append] at hf
    have hr : rd_L1 ls (pre.length : Int) = x := by rw [h]; simp [rd_L1]
    have hi := ih (pre ++ [x]) (by rw [h]; simp)
    rw [show (pre ++ [x]).flatten.length = pre.flatten.length + x.length by simp, show (pre ++ [x]).length = pre.length + 1 by simp] at hi
    have ew : wrap64 ((pre.flatten.length : Int) + (x.length : Int)) = ((pre.flatten.length + x.length : Nat) : Int) := by rw [w64 (by omega) (by omega)]; rfl
    refine Ev.step (fun k => ?_) hi
    simp only [slices_Concat_int_int.l0]
    rw [if_pos (by omega), if_pos (by omega), if_pos (by omega), hr, ew, if_neg (by omega), w64 (by omega) (by omega)]
    rfl
theorem slices_Concat_int_int_ev (ls : List (List Int)) (hn : ls.length ≤ 100) (hl : ls.flatten.length ≤ 100) : Ev (fun k => slices_Concat_int_int.f k ls) ls.flatten := by
  unfold slices_Concat_int_int.f
  exact slices_Concat_int_int_one ls hn hl ls [] rfl

theorem impl_moved_loop (a : Nat) (v : List Int) (hv : v.length ≤ 12) : ∀ (r pre : List Int), (∀ x ∈ r, (Lit.int .i64 x).wf = true) → pre.length + r.length = a → a ≤ 12 →
    Ev (fun k => impl_moved.l0 k (a : Int) (pre ++ r ++ v) (pre.length : Int)) (pre ++ r.map turnCard ++ v) := by
  intro r
  induction r with
  | nil =>
    intro pre hw hp ha
    refine Ev.step (f := fun _ => some _) (fun k => ?_) (Ev.now _)
    simp only [impl_moved.l0]
    rw [if_neg (by simp at hp; omega)]
    rfl
  | cons x r ih =>
    intro pre hw hp ha
    simp only [List.length_cons] at hp
    have hi := ih (pre ++ [turnCard x]) (fun y hy => hw y (by simp [hy])) (by simp <;> omega) ha
    rw [show pre ++ List.map turnCard (x :: r) ++ v = pre ++ [turnCard x] ++ List.map turnCard r ++ v by simp]
    refine Ev.step (fun k => ?_) hi
    have e : pre ++ (x :: r) ++ v = pre ++ x :: (r ++ v) := by simp
    have er : rd (pre ++ (x :: r) ++ v) (pre.length : Int) = x := by rw [e]; exact rd_mid _ _ _
    have es : (pre ++ (x :: r) ++ v).set pre.length (turnCard x) = pre ++ [turnCard x] ++ r ++ v := by rw [e, set_mid]; simp
    simp only [impl_moved.l0]
    rw [if_pos (by omega), if_pos (by omega), if_pos (by simp <;> omega), er, impl_TurnCard_eq x (bd64 (hw x (by simp))).1]
    simp only [Option.bind_some]
    rw [Int.toNat_natCast, es, snoc_len (turnCard x) (by omega)]
theorem impl_moved_cut (l : List Int) (a : Nat) (hl : l.length ≤ 12) (ha : a ≤ l.length) : Ev (fun j => impl_moved.f j l 1 (a : Int)) (doMove l 1 (a : Nat)) := by
  have ed : doMove l 1 (a : Nat) = l.drop a ++ l.take a := by
    unfold doMove
    rw [if_pos rfl, Int.toNat_natCast]
  rw [ed]
  unfold impl_moved.f
  have hc := slices_Concat_int_int_ev [l.drop a, l.take a] (by simp) (by simp <;> omega)
  simp only [if_true, Int.toNat_natCast]
  refine ev_ite_true (by omega) (ev_ite_true (by omega) (Ev.bind hc ?_))
  simp only [List.flatten_cons, List.flatten_nil, List.append_nil]
  exact Ev.now _
theorem impl_moved_flip (l : List Int) (hw : ∀ x ∈ l, (Lit.int .i64 x).wf = true) (hl : l.length ≤ 12) (ha : 2 ≤ l.length) : Ev (fun j => impl_moved.f j l 3 2) (doMove l 3 2) := by
  have ed : doMove l 3 2 = ((l.take 2).map turnCard).reverse ++ l.drop 2 := by
    unfold doMove
    rw [if_neg (by omega), if_neg (by omega), if_pos rfl]
    rfl
  rw [ed]
  unfold impl_moved.f
  have hc := slices_Concat_int_int_ev [(l.take 2).reverse, l.drop 2] (by simp) (by simp <;> omega)
  refine ev_ite_false (by omega) (ev_ite_false (by omega) (ev_ite_true rfl (ev_ite_true (by omega) (ev_ite_true (by omega) (Ev.bind (impl_reversed_ev _ (by simp; omega)) (Ev.bind hc ?_))))))
  simp only [List.flatten_cons, List.flatten_nil, List.append_nil]
  have hm := impl_moved_loop 2 (l.drop 2) (by simp; omega) (l.take 2).reverse [] (fun x hx => hw x (List.mem_of_mem_take (List.mem_reverse.1 hx))) (by simp <;> omega) (by omega)
  rw [List.nil_append, List.nil_append, List.map_reverse] at hm
  exact hm

theorem bit_lt' : ∀ a, a < 64 → ∀ b, b < 64 → Go.bits .and .i64 ((64 * a + b : Nat) : Int) 1 = (((64 * a + b) % 2 : Nat) : Int) := by decide +kernel
theorem bit_lt (y : Nat) (h : y < 4096) : Go.bits .and .i64 (y : Int) 1 = ((y % 2 : Nat) : Int) := by
  have := bit_lt' (y / 64) (by omega) (y % 64) (by omega)
  rw [Nat.div_add_mod] at this
  exact this
theorem bit_at (w i : Nat) (hw : w < 4096) (hi : i < 13) : Go.bits .and .i64 (Go.Proofs.YtbghkcgglhoopaaW.PrintWords.shr .i64 (w : Int) (i : Int)) 1 = ((w / 2 ^ i % 2 : Nat) : Int) := by
  have e : Go.Proofs.YtbghkcgglhoopaaW.PrintWords.shr .i64 (w : Int) (i : Int) = ((w / 2 ^ i : Nat) : Int) := by
    unfold Go.Proofs.YtbghkcgglhoopaaW.PrintWords.shr
    rw [Int.toNat_natCast, Nat.min_eq_left (by simp [IntKind.bits]; omega)]
    rw [Int.natCast_ediv, Int.natCast_pow]
    rfl
  rw [e]
  exact bit_lt _ (Nat.lt_of_le_of_lt (Nat.div_le_self _ _) hw)
theorem two_shl : ∀ n : Nat, n < 13 → Go.Proofs.YtbghkcgglhoopaaW.PrintWords.shl .i64 1 (n : Nat) = ((2 ^ n : Nat) : Int) := by decide +kernel
theorem bits_div (w i d : Nat) : bitsOf (d + 1) (w / 2 ^ i) = decide (w / 2 ^ i % 2 = 1) :: bitsOf d (w / 2 ^ (i + 1)) := by
  rw [bitsOf, Nat.div_div_eq_div_mul, Nat.pow_succ]
theorem riffled_two (p : List Int) (w : Nat) (hw : w < 4096) (hp : p.length ≤ 12) : ∀ (d i f s : Nat) (out : List Int), i + d = p.length → f + (bitsOf d (w / 2 ^ i)).count false ≤ p.length → s + (bitsOf d (w / 2 ^ i)).count true ≤ p.length → out.length ≤ 100 - d →
    Ev (fun k => impl_riffled.l1 k p (w : Int) (f : Int) (s : Int) out (p.length : Int) (i : Int)) (out ++ wv (bitsOf d (w / 2 ^ i)) (p.drop f) (p.drop s)) := by
  intro d
  induction d with
  | zero =>
    intro i f s out hi _ _ _
    refine Ev.step (f := fun _ => some _) (fun k => ?_) (Ev.now _)
    simp only [impl_riffled.l1]
    rw [if_neg (by omega)]
    simp [bitsOf, wv]
  | succ d ih =>
    intro i f s out hi hf hs ho
    rw [bits_div] at hf hs ⊢
    by_cases c : w / 2 ^ i % 2 = 1
    · simp only [c, decide_true, List.count_cons_self] at hf hs
      rw [List.count_cons_of_ne (by simp)] at hf
      have hlt : s < p.length := by omega
      have hi' := ih (i + 1) f (s + 1) (out ++ [rd p s]) (by omega) hf (by omega) (by simp; omega)
      have e : out ++ wv (decide (w / 2 ^ i % 2 = 1) :: bitsOf d (w / 2 ^ (i + 1))) (p.drop f) (p.drop s) = out ++ [rd p s] ++ wv (bitsOf d (w / 2 ^ (i + 1))) (p.drop f) (p.drop (s + 1)) := by
        simp only [c, decide_true, wv]
        rw [List.drop_eq_getElem_cons hlt, rd_lt hlt]
        simp [hlt]
      rw [e]
      refine Ev.step (fun k => ?_) hi'
      simp only [impl_riffled.l1]
      rw [if_pos (by omega), if_pos (by omega), bit_at w i hw (by omega), c, if_pos (by rfl), if_pos (by omega), if_pos (by omega), if_pos (by omega), w64 (by omega) (by omega), w64 (by omega) (by omega)]
      rfl
    · have c0 : w / 2 ^ i % 2 = 0 := by omega
      have hf' : decide (w / 2 ^ i % 2 = 1) = false := by simp [c0]
      rw [hf'] at hf hs ⊢
      rw [List.count_cons_self] at hf
      rw [List.count_cons_of_ne (by simp)] at hs
      have hlt : f < p.length := by omega
      have hi' := ih (i + 1) (f + 1) s (out ++ [rd p f]) (by omega) (by omega) hs (by simp; omega)
      have e : out ++ wv (false :: bitsOf d (w / 2 ^ (i + 1))) (p.drop f) (p.drop s) = out ++ [rd p f] ++ wv (bitsOf d (w / 2 ^ (i + 1))) (p.drop (f + 1)) (p.drop s) := by
        simp only [wv]
        rw [List.drop_eq_getElem_cons hlt, rd_lt hlt]
        simp [hlt]
      rw [e]
      refine Ev.step (fun k => ?_) hi'
      simp only [impl_riffled.l1]
      rw [if_pos (by omega), if_pos (by omega), bit_at w i hw (by omega), c0, if_neg (by decide), if_pos (by omega), if_pos (by omega), if_pos (by omega), w64 (by omega) (by omega), w64 (by omega) (by omega)]
      rfl
theorem riffled_one (p : List Int) (w : Nat) (hw : w < 4096) (hp : p.length ≤ 12) (R : List Int) : ∀ (d i c : Nat), i + d = p.length → c + d ≤ 100 →
    Ev (fun k => impl_riffled.l1 k p (w : Int) 0 ((c + (bitsOf d (w / 2 ^ i)).count false : Nat) : Int) [] (p.length : Int) 0) R → Ev (fun k => impl_riffled.l0 k p (w : Int) 0 (c : Int) (p.length : Int) (i : Int)) R := by
  intro d
  induction d with
  | zero =>
    intro i c hi hc h
    refine Ev.step (fun k => ?_) h
    simp only [impl_riffled.l0]
    rw [if_neg (by omega)]
    simp [bitsOf]
  | succ d ih =>
    intro i c hi hc h
    rw [bits_div] at h
    by_cases g : w / 2 ^ i % 2 = 1
    · rw [List.count_cons_of_ne (by simp [g])] at h
      refine Ev.step (fun k => ?_) (ih (i + 1) c (by omega) (by omega) h)
      simp only [impl_riffled.l0]
      rw [if_pos (by omega), if_pos (by omega), bit_at w i hw (by omega), g, show wrap64 (1 - ((1 : Nat) : Int)) = 0 by rw [w64 (by omega) (by omega)]; rfl, Int.add_zero, w64 (by omega) (by omega), w64 (by omega) (by omega)]
      rfl
    · have c0 : w / 2 ^ i % 2 = 0 := by omega
      have hf' : decide (w / 2 ^ i % 2 = 1) = false := by simp [c0]
      rw [hf', List.count_cons_self] at h
      refine Ev.step (fun k => ?_) (ih (i + 1) (c + 1) (by omega) (by omega) (by rw [show c + 1 + (bitsOf d (w / 2 ^ (i + 1))).count false = c + ((bitsOf d (w / 2 ^ (i + 1))).count false + 1) by omega]; exact h))
      simp only [impl_riffled.l0]
      rw [if_pos (by omega), if_pos (by omega), bit_at w i hw (by omega), c0, show wrap64 (1 - ((0 : Nat) : Int)) = 1 by rw [w64 (by omega) (by omega)]; rfl, w64 (by omega) (by omega), w64 (by omega) (by omega)]
      rfl
theorem impl_riffled_ev (p : List Int) (w : Nat) (hw : w < 4096) (hp : p.length ≤ 12) : Ev (fun k => impl_riffled.f k p (w : Int)) (rif p (bitsOf p.length w)) := by
  unfold impl_riffled.f
  have hb := bitsOf_length p.length w
  have hc := count_tf (bitsOf p.length w)
  have h2 := riffled_two p w hw hp p.length 0 0 ((bitsOf p.length w).count false) [] (by omega) (by simp <;> omega) (by simp <;> omega) (by simp <;> omega)
  simp only [Nat.pow_zero, Nat.div_one, List.drop_zero, List.nil_append] at h2
  rw [rif_whole p _ hb] at h2
  refine riffled_one p w hw hp _ p.length 0 0 (by omega) (by omega) ?_
  simp only [Nat.pow_zero, Nat.div_one, Nat.zero_add]
  exact h2
theorem impl_all_riffles (p : List Int) (hp : p.length ≤ 12) : ∀ (d w : Nat) (out : List (List Int)), w + d = 2 ^ p.length → out.length + d ≤ 100000 →
    Ev (fun k => impl_all.l0 k p out (w : Int)) (out ++ (List.range' w d).map (fun v => rif p (bitsOf p.length v)), true) := by
  have hpow : 2 ^ p.length ≤ 4096 := Nat.pow_le_pow_right (n := 2) (by omega) hp
  intro d
  induction d with
  | zero =>
    intro w out hw ho
    refine Ev.step (f := fun _ => some _) (fun k => ?_) (Ev.now _)
    simp only [impl_all.l0]
    rw [two_shl _ (by omega), if_neg (by omega)]
    simp
  | succ d ih =>
    intro w out hw ho
    have hi := ih (w + 1) (out ++ [rif p (bitsOf p.length w)]) (by omega) (by simp; omega)
    rw [List.range'_succ, List.map_cons, show out ++ rif p (bitsOf p.length w) :: List.map (fun v => rif p (bitsOf p.length v)) (List.range' (w + 1) d) = out ++ [rif p (bitsOf p.length w)] ++ List.map (fun v => rif p (bitsOf p.length v)) (List.range' (w + 1) d) by simp]
    refine Ev.step (f := fun k => (impl_riffled.f k p (w : Int)).bind fun t => impl_all.l0 k p (out ++ [t]) ((w + 1 : Nat) : Int)) (fun k => ?_) (Ev.bind (impl_riffled_ev p w (by omega) hp) hi)
    simp only [impl_all.l0]
    rw [two_shl _ (by omega), if_pos (by omega), w64 (by omega) (by omega)]
    simp only [if_pos (show out.length < 5864062014805 by omega)]
    rfl
theorem pick_concat (p : List Int) (i : Nat) (h : i < p.length) : (((p.take (i + 1)).drop i) :: (p.take i) :: [p.drop (i + 1)]).flatten = pickU p i := by
  have e1 : (p.take (i + 1)).drop i = [rd p (i : Int)] := by
    rw [List.take_succ_eq_append_getElem h, List.drop_append_of_le_length (by simp; omega), rd_lt h]
    simp
  rw [e1]
  simp [pickU]
theorem impl_all_picks (p : List Int) (hp : p.length ≤ 12) : ∀ (d i : Nat) (out : List (List Int)), i + d = p.length → out.length + d ≤ 100000 →
    Ev (fun k => impl_all.l1 k p out (p.length : Int) (i : Int)) (out ++ (List.range' i d).map (pickU p), true) := by
  intro d
  induction d with
  | zero =>
    intro i out hi ho
    refine Ev.step (f := fun _ => some _) (fun k => ?_) (Ev.now _)
    simp only [impl_all.l1]
    rw [if_neg (by omega)]
    simp
  | succ d ih =>
    intro i out hi ho
    have hh := ih (i + 1) (out ++ [pickU p i]) (by omega) (by simp; omega)
    rw [List.range'_succ, List.map_cons, show out ++ pickU p i :: List.map (pickU p) (List.range' (i + 1) d) = out ++ [pickU p i] ++ List.map (pickU p) (List.range' (i + 1) d) by simp]
    have hcc := slices_Concat_int_int_ev [((p.take (i + 1)).drop i), (p.take i), (p.drop (i + 1))] (by simp) (by simp; omega)
    rw [pick_concat p i (by omega)] at hcc
    refine Ev.step (f := fun k => (slices_Concat_int_int.f k [((p.take (i + 1)).drop i), (p.take i), (p.drop (i + 1))]).bind fun t => impl_all.l1 k p (out ++ [t]) (p.length : Int) ((i + 1 : Nat) : Int)) (fun k => ?_) (Ev.bind hcc hh)
    simp only [impl_all.l1]
    rw [w64 (by omega) (by omega), if_pos (by omega), if_pos (by omega), if_pos (by omega), if_pos (by omega), if_pos (by omega), if_pos (by omega)]
    simp only [if_pos (show out.length < 5864062014805 by omega), Int.toNat_natCast, show ((i : Int) + 1).toNat = i + 1 by omega]
    rfl
theorem impl_cuts_loop (p : List Int) (hp : p.length ≤ 12) (hw : ∀ x ∈ p, (Lit.int .i64 x).wf = true) : ∀ (d i : Nat) (out : List (List Int)), i + d = p.length → out.length + d ≤ 100000 →
    Ev (fun k => impl_cuts.l0 k p out (p.length : Int) (i : Int)) (out ++ (List.range' i d).map (fun k => doMove p 1 (k : Nat))) := by
  intro d
  induction d with
  | zero =>
    intro i out hi ho
    refine Ev.step (f := fun _ => some _) (fun k => ?_) (Ev.now _)
    simp only [impl_cuts.l0]
    rw [if_neg (by omega)]
    simp
  | succ d ih =>
    intro i out hi ho
    have hh := ih (i + 1) (out ++ [doMove p 1 (i : Nat)]) (by omega) (by simp; omega)
    rw [List.range'_succ, List.map_cons, show out ++ doMove p 1 (i : Nat) :: List.map (fun k => doMove p 1 (k : Nat)) (List.range' (i + 1) d) = out ++ [doMove p 1 (i : Nat)] ++ List.map (fun k => doMove p 1 (k : Nat)) (List.range' (i + 1) d) by simp]
    refine Ev.step (f := fun k => (impl_moved.f k p 1 (i : Int)).bind fun t => impl_cuts.l0 k p (out ++ [t]) (p.length : Int) ((i + 1 : Nat) : Int)) (fun k => ?_) (Ev.bind (impl_moved_cut p i hp (by omega)) hh)
    simp only [impl_cuts.l0]
    rw [if_pos (by omega), w64 (by omega) (by omega)]
    simp only [if_pos (show out.length < 5864062014805 by omega)]
    rfl
theorem impl_cuts_ev (p : List Int) (hp : p.length ≤ 12) (hw : ∀ x ∈ p, (Lit.int .i64 x).wf = true) : Ev (fun k => impl_cuts.f k p) (cutsU p) := by
  unfold impl_cuts.f
  exact impl_cuts_loop p hp hw p.length 0 [] (by omega) (by simp; omega)
theorem impl_all_ev (p : List Int) (kind : Int) (h : packetOk p = true) (h1 : 1 ≤ p.length) :
    Ev (fun k => impl_all.f k p kind) (if 0 ≤ kind ∧ kind ≤ 4 ∧ (kind = 3 → 2 ≤ p.length) then (choiceU p kind, true) else ([], false)) := by
  have hp := packetOk_length h
  have hw := packet_wf h
  unfold impl_all.f
  have ec : slices_Clone_int_int.f p = some p := by unfold slices_Clone_int_int.f; rw [if_pos (by omega)]
  by_cases k0 : kind = 0
  · rw [if_pos ⟨by omega, by omega, by omega⟩]
    simp only [if_pos k0]
    refine ev_some fun j => ?_
    rw [ec]
    simp [choiceU, k0]
  refine ev_ite_false k0 ?_
  by_cases k1 : kind = 1
  · rw [if_pos ⟨by omega, by omega, by omega⟩]
    refine ev_ite_true k1 (Ev.bind (impl_cuts_ev p hp hw) ?_)
    simp only [choiceU, if_pos k1]
    exact Ev.now _
  refine ev_ite_false k1 ?_
  by_cases k2 : kind = 2
  · rw [if_pos ⟨by omega, by omega, by omega⟩]
    refine ev_ite_true k2 ?_
    have := impl_all_riffles p hp (2 ^ p.length) 0 [] (by omega) (by have : 2 ^ p.length ≤ 4096 := Nat.pow_le_pow_right (n := 2) (by omega) hp; simp; omega)
    simp only [choiceU, if_neg k1, if_pos k2]
    rw [rifs, List.range_eq_range']
    exact this
  refine ev_ite_false k2 ?_
  by_cases k3 : kind = 3
  · refine ev_ite_true k3 ?_
    by_cases g : p.length < 2
    · rw [if_neg (fun h => by have := h.2.2 k3; omega)]
      exact ev_ite_true (by omega) (Ev.now _)
    · rw [if_pos ⟨by omega, by omega, fun _ => by omega⟩]
      refine ev_ite_false (by omega) (Ev.bind (impl_moved_flip p hw hp (by omega)) (Ev.bind (impl_cuts_ev _ (by rw [doMove3_length p (by omega)]; exact hp) (flip_wf h)) ?_))
      simp only [choiceU, if_neg k1, if_neg k2, if_pos k3]
      exact Ev.now _
  refine ev_ite_false k3 ?_
  by_cases k4 : kind = 4
  · rw [if_pos ⟨by omega, by omega, by omega⟩]
    refine ev_ite_true k4 ?_
    simp only [choiceU, if_neg k1, if_neg k2, if_neg k3, if_pos k4]
    exact impl_all_picks p hp p.length 0 [] (by omega) (by simp; omega)
  refine ev_ite_false k4 ?_
  rw [if_neg (by omega)]
  exact Ev.now _
theorem impl_SortPackets_small (l : List (List Int)) (hl : l.length ≤ 4194304) (hs : ∀ x ∈ l, x.length ≤ 4194304) : impl_SortPackets.f l = some (sortU l) := by
  unfold impl_SortPackets.f
  rw [if_pos ⟨by omega, fun x hx => by have := hs x hx; omega⟩]
theorem rifs_many {p : List Int} (h : packetOk p = true) (hp : p.length = 12) : 3000 < (sortU (rifs p)).length := by
  rw [rifs_count (packet_nodup h), hp]
  exact rifs12
theorem choiceU_few {p : List Int} {kind : Int} (h : packetOk p = true) (h1 : 1 ≤ p.length) (h3 : kind = 3 → 2 ≤ p.length) (hk : ¬ (kind = 2 ∧ 11 < p.length)) : (sortU (choiceU p kind)).length ≤ 3000 := by
  have hp := packetOk_length h
  refine Nat.le_trans (length_sortU _) ?_
  by_cases k2 : p.length ≤ 11
  · have := choiceU_count p kind h3 h1
    have := pow_le_2048 k2
    omega
  · have hn : kind ≠ 2 := fun e => hk ⟨e, by omega⟩
    by_cases e1 : kind = 1
    · simp only [choiceU, if_pos e1]; rw [cutsU_length]; omega
    by_cases e3 : kind = 3
    · simp only [choiceU, if_neg e1, if_neg hn, if_pos e3]; rw [cutsU_length, doMove3_length p (h3 e3)]; omega
    by_cases e4 : kind = 4
    · simp only [choiceU, if_neg e1, if_neg hn, if_neg e3, if_pos e4]; simp; omega
    · simp only [choiceU, if_neg e1, if_neg hn, if_neg e3, if_neg e4]; simp
theorem impl_ResultsOf_ev (p : List Int) (kind : Int) (hl : p.length ≤ 9223372036854775806) (hw : ∀ x ∈ p, (Lit.int .i64 x).wf = true) : Ev (fun k => impl_ResultsOf.f k p kind) (resultsOf p kind) := by
  unfold impl_ResultsOf.f
  refine Ev.bind (impl_PacketOk_ev p hl hw) ?_
  by_cases h : packetOk p = true
  · refine ev_ite_false (by rw [h]; simp) ?_
    have hp := packetOk_length h
    by_cases z : p.length = 0
    · refine ev_ite_true z ?_
      rw [resultsOf, if_neg (fun hc => hc.2.1 z)]
      exact Ev.now _
    · refine ev_ite_false z ?_
      have ha := impl_all_ev p kind h (by omega)
      by_cases g : 0 ≤ kind ∧ kind ≤ 4 ∧ (kind = 3 → 2 ≤ p.length)
      · rw [if_pos g] at ha
        have hs : impl_SortPackets.f (choiceU p kind) = some (sortU (choiceU p kind)) := by
          refine impl_SortPackets_small _ ?_ (fun x hx => by rw [choiceU_len p kind g.2.2 x hx]; omega)
          have := choiceU_count p kind g.2.2 (by omega)
          have : 2 ^ p.length ≤ 4096 := Nat.pow_le_pow_right (n := 2) (by omega) hp
          omega
        refine Ev.bind ha ?_
        simp only [hs, Option.bind_some, if_neg (show ¬ (true = false) by simp)]
        by_cases big : kind = 2 ∧ 11 < p.length
        · have er : resultsOf p kind = ([], false) := by rw [resultsOf, if_neg (fun hc => by have := hc.2.2.2.2.2 big.1; omega)]
          rw [er]
          have := rifs_many h (by omega)
          have e : choiceU p kind = rifs p := by simp [choiceU, big.1]
          rw [e]
          simp only [if_pos this]
          exact Ev.now _
        · have er : resultsOf p kind = (sortU (choiceU p kind), true) := by
            rw [resultsOf, if_pos ⟨h, z, g.1, g.2.1, g.2.2, fun e => by
              apply Decidable.byContradiction
              intro hh
              exact big ⟨e, by omega⟩⟩]
          rw [er]
          have := choiceU_few h (by omega) g.2.2 big
          simp only [if_neg (show ¬ 3000 < (sortU (choiceU p kind)).length by omega)]
          exact Ev.now _
      · rw [if_neg g] at ha
        have er : resultsOf p kind = ([], false) := by rw [resultsOf, if_neg (fun hc => g ⟨hc.2.2.1, hc.2.2.2.1, hc.2.2.2.2.1⟩)]
        rw [er]
        refine Ev.bind ha ?_
        simp only [impl_SortPackets_small [] (by simp) (by simp), Option.bind_some, if_true]
        exact Ev.now _
  · have hf : packetOk p = false := by simpa using h
    refine ev_ite_true hf ?_
    rw [resultsOf, if_neg (fun hc => h hc.1)]
    exact Ev.now _

theorem spec_l01In_eq (a b c : Int) : spec_l01In.f a b c = some (decide (b ≤ a ∧ a ≤ c)) := by
  unfold spec_l01In.f
  by_cases h : a ≥ b
  · rw [if_pos h]; simp; omega
  · rw [if_neg h]; simp; omega

theorem spec_CardOf_eq (x : Int) : spec_CardOf.f x = some (cardOf x) := by
  unfold spec_CardOf.f cardOf
  simp only [spec_l01In_eq, Option.bind_some, decide_eq_true_eq]
  by_cases h0 : 0 ≤ x
  · by_cases h1 : x ≤ 11
    · rw [if_pos ⟨h0, h1⟩, if_pos h0, if_pos h1]
    · rw [if_neg (by omega), if_neg (by omega), if_pos h0, if_neg h1]
  · by_cases h1 : -12 ≤ x
    · rw [if_neg (by omega), if_pos (by omega), if_neg h0, if_pos h1, w64 (by omega) (by omega)]
    · rw [if_neg (by omega), if_neg (by omega), if_neg h0, if_neg h1]

theorem spec_TurnCard_eq (x : Int) : spec_TurnCard.f x = some (turnCard x) := by
  unfold spec_TurnCard.f turnCard
  rw [spec_CardOf_eq x]
  simp only [Option.bind_some]
  by_cases h : cardOf x < 0
  · rw [if_pos h, if_pos h]
  · rw [if_neg h, if_neg h, w64]
    all_goals (unfold cardOf at h; split at h <;> split at h <;> omega)

theorem spec_l04Back_loop (l : List Int) (a : Nat) (b : Bool) (hl : l.length ≤ 12) (ha : a ≤ l.length) : ∀ (j : Nat) (out : List Int), j ≤ a → out.length + j ≤ 100 →
    Ev (fun k => spec_l04Back.l0 k l (a : Int) b out ((j : Int) - 1)) (out ++ ((l.take j).map (fun x => if b = true then turnCard x else x)).reverse ++ l.drop a) := by
  intro j
  induction j with
  | zero =>
    intro out hj ho
    refine Ev.step (f := fun _ => some _) (fun k => ?_) (Ev.now _)
    simp only [spec_l04Back.l0]
    rw [if_neg (by omega), if_pos (by omega), if_pos (by omega)]
    (try simp only [Option.bind_some])
    rw [if_pos (by simp <;> omega)]
    simp
  | succ j ih =>
    intro out hj ho
    have hlt : j < l.length := by omega
    have e : (((j + 1 : Nat) : Int) - 1) = (j : Int) := by omega
    have et : l.take (j + 1) = l.take j ++ [l[j]] := List.take_succ_eq_append_getElem hlt
    have ew : wrap64 ((j : Int) - 1) = (j : Int) - 1 := w64 (by omega) (by omega)
    have hi := ih (out ++ [if b = true then turnCard l[j] else l[j]]) (by omega) (by simp <;> omega)
    rw [et, List.map_append, List.reverse_append]
    simp only [List.map_cons, List.map_nil, List.reverse_cons, List.reverse_nil, List.nil_append]
    rw [show out ++ ([if b = true then turnCard l[j] else l[j]] ++ (List.map (fun x => if b = true then turnCard x else x) (l.take j)).reverse) ++ l.drop a = (out ++ [if b = true then turnCard l[j] else l[j]]) ++ ((l.take j).map (fun x => if b = true then turnCard x else x)).reverse ++ l.drop a by simp]
    refine Ev.step (fun k => ?_) hi
    simp only [spec_l04Back.l0]
    rw [e, if_pos (by omega), rd_lt hlt, spec_TurnCard_eq, ew]
    by_cases hb : b = true
    · rw [if_pos hb, if_pos hb, if_pos (by omega), if_pos (by omega)]
      (try simp only [Option.bind_some])
      rw [if_pos (by omega)]
    · rw [if_neg hb, if_neg hb, if_pos (by omega), if_pos (by omega), if_pos (by omega)]
theorem spec_l04Back_ev (l : List Int) (a : Int) (b : Bool) (hl : l.length ≤ 12) (h0 : 0 ≤ a) (ha : a ≤ l.length) :
    Ev (fun k => spec_l04Back.f k l a b) (((l.take a.toNat).map (fun x => if b = true then turnCard x else x)).reverse ++ l.drop a.toNat) := by
  have h := spec_l04Back_loop l a.toNat b hl (by omega) a.toNat [] (by omega) (by simp <;> omega)
  rw [Int.toNat_of_nonneg h0, List.nil_append] at h
  unfold spec_l04Back.f
  rw [w64 (by omega) (by omega)]
  exact h
theorem spec_l04Do_cut (l : List Int) (a : Nat) (hl : l.length ≤ 12) (ha : a ≤ l.length) : spec_l04Do.f l 1 (a : Int) = some (doMove l 1 (a : Nat)) := by
  unfold spec_l04Do.f doMove
  rw [if_pos rfl, if_pos rfl]
  simp only [Option.bind_some, List.length_nil, List.nil_append, Int.toNat_natCast]
  rw [if_pos (by omega), if_pos (by omega), if_pos (by simp; omega)]
  rw [if_pos (by simp; omega)]

theorem spec_l05Less_loop (a b : List Int) (ha : a.length ≤ 9223372036854775806) : ∀ (r pre : List Int), a = pre ++ r →
    Ev (fun k => spec_l05Less.l0 k a b a (a.length : Int) (pre.length : Int)) (lexLt r (b.drop pre.length)) := by
  intro r
  induction r with
  | nil =>
    intro pre h
    have hz : a.length = pre.length := by rw [h]; simp
    refine Ev.step (f := fun _ => some _) (fun k => ?_) (Ev.now _)
    simp only [spec_l05Less.l0]
    rw [if_neg (by omega)]
    congr 1
    by_cases c : pre.length < b.length
    · rw [List.drop_eq_getElem_cons c]
      exact decide_eq_true (by omega)
    · rw [List.drop_eq_nil_of_le (by omega)]
      exact decide_eq_false (by omega)
  | cons x r ih =>
    intro pre h
    have hz : a.length = pre.length + (r.length + 1) := by rw [h]; simp
    have hx : rd a (pre.length : Int) = x := by rw [h]; simp [rd]
    by_cases c : pre.length < b.length
    · have hy : rd b (pre.length : Int) = b[pre.length] := by simp [rd, c]
      rw [List.drop_eq_getElem_cons c]
      by_cases c1 : x = b[pre.length]
      · have ih2 := ih (pre ++ [x]) (by rw [h]; simp)
        rw [show (pre ++ [x]).length = pre.length + 1 by simp] at ih2
        have e : lexLt (x :: r) (b[pre.length] :: b.drop (pre.length + 1)) = lexLt r (b.drop (pre.length + 1)) := by
          simp only [lexLt]
          simp [← c1]
        rw [e]
        refine Ev.step (fun k => ?_) ih2
        simp only [spec_l05Less.l0]
        rw [if_pos (by omega), if_pos (by omega), if_pos (by omega), if_neg (by omega), if_pos (by omega), hx, hy, if_pos c1, show wrap64 ((pre.length : Int) + 1) = ((pre.length + 1 : Nat) : Int) by rw [w64 (by omega) (by omega)]; omega]
      · refine Ev.step (f := fun _ => some _) (fun k => ?_) (Ev.now _)
        simp only [spec_l05Less.l0]
        rw [if_pos (by omega), if_pos (by omega), if_pos (by omega), if_neg (by omega), if_pos (by omega), hx, hy, if_neg c1]
        congr 1
        simp only [lexLt]
        simp [c1]
    · rw [List.drop_eq_nil_of_le (by omega)]
      refine Ev.step (f := fun _ => some _) (fun k => ?_) (Ev.now _)
      simp only [spec_l05Less.l0]
      rw [if_pos (by omega), if_pos (by omega), if_pos (by omega), if_pos (by omega)]
      rfl
theorem spec_l05Less_ev (a b : List Int) (ha : a.length ≤ 9223372036854775806) : Ev (fun k => spec_l05Less.f k a b) (lexLt a b) := spec_l05Less_loop a b ha a [] rfl

theorem spec_SamePacket_loop (a b : List Int) (hab : a.length = b.length) (hl : a.length ≤ 9223372036854775806) : ∀ (r s pre qre : List Int), a = pre ++ r → b = qre ++ s → pre.length = qre.length →
    Ev (fun k => spec_SamePacket.l0 k b a (a.length : Int) (pre.length : Int)) (decide (r = s)) := by
  intro r
  induction r with
  | nil =>
    intro s pre qre h h' hp
    have e := lens h
    have e' := lens h'
    simp only [List.length_nil] at e
    have hs : s = [] := List.eq_nil_of_length_eq_zero (by omega)
    refine Ev.step (f := fun _ => some _) (fun k => ?_) (Ev.now _)
    simp only [spec_SamePacket.l0]
    rw [if_neg (by omega), hs]
    simp
  | cons x r ih =>
    intro s pre qre h h' hp
    have e := lens h
    have e' := lens h'
    simp only [List.length_cons] at e
    cases s with
    | nil => simp only [List.length_nil] at e'; omega
    | cons y s =>
      have hy := rd_mid' h'
      rw [← hp] at hy
      by_cases c : x = y
      · subst c
        have hi := ih s (pre ++ [x]) (qre ++ [x]) (snoc_eq h) (snoc_eq h') (by simp [hp])
        have ed : decide (x :: r = x :: s) = decide (r = s) := by simp
        rw [ed]
        refine Ev.step (fun k => ?_) hi
        simp only [spec_SamePacket.l0]
        rw [if_pos (by omega), if_pos (by omega), if_pos (by omega), if_pos (by omega), rd_mid' h, hy, if_pos rfl, snoc_len x (by omega)]
      · refine Ev.step (f := fun _ => some _) (fun k => ?_) (Ev.now _)
        simp only [spec_SamePacket.l0]
        rw [if_pos (by omega), if_pos (by omega), if_pos (by omega), if_pos (by omega), rd_mid' h, hy, if_neg c]
        simp [c]
theorem spec_SamePacket_ev (a b : List Int) (hl : a.length ≤ 9223372036854775806) : Ev (fun k => spec_SamePacket.f k a b) (decide (a = b)) := by
  unfold spec_SamePacket.f
  by_cases h : (a.length : Int) = (b.length : Int)
  · simp only [if_pos h]
    exact spec_SamePacket_loop a b (by omega) hl a b [] [] rfl rfl rfl
  · simp only [if_neg h]
    exact ev_some fun _ => by rw [decide_eq_false (fun e => h (by rw [e]))]

theorem put_ev {out : List (List Int)} {x : List Int} (g : Nat → List (List Int) → Option (List (List Int))) {r : List (List Int)} (hx : x.length ≤ 4194304) (hout : ∀ y ∈ out, y.length ≤ 4194304) (ho : out.length ≤ 8388608) (h : Ev (fun k => g k (putU out x)) r) :
    Ev (fun k => if (out.length : Int) = 0 then ((some (([] : List Int) : List Int)).bind fun y123 => (if y123.length + x.length < 17592186044416 then (if out.length < 5864062014805 then (g k (out ++ [(y123 ++ x)])) else (none)) else (none))) else (if 0 ≤ (wrap64 ((out.length : Int) - 1)) then (if (wrap64 ((out.length : Int) - 1)) < (out.length : Int) then ((spec_SamePacket.f k (rd_L1 out (wrap64 ((out.length : Int) - 1))) x).bind fun t133 => (if t133 = true then (g k out) else ((some (([] : List Int) : List Int)).bind fun y134 => (if y134.length + x.length < 17592186044416 then (if out.length < 5864062014805 then (g k (out ++ [(y134 ++ x)])) else (none)) else (none))))) else (none)) else (none))) r := by
  by_cases c : out = []
  · subst c
    have e : putU [] x = [] ++ [x] := by unfold putU; rw [if_pos (Or.inl rfl)]
    rw [e] at h
    simp only [List.length_nil, Option.bind_some, List.nil_append] at h ⊢
    simp only [if_pos (show ((0 : Nat) : Int) = 0 from rfl), if_pos (show 0 + x.length < 17592186044416 by omega), if_pos (show 0 < 5864062014805 by decide)]
    exact h
  · have hlen : 0 < out.length := List.length_pos_iff.mpr c
    have ew : wrap64 ((out.length : Int) - 1) = ((out.length - 1 : Nat) : Int) := by rw [w64 (by omega) (by omega)]; omega
    have hl : rd_L1 out ((out.length - 1 : Nat) : Int) = out.getLastD [] := by
      simp only [rd_L1, Int.toNat_natCast]
      rw [List.getD_eq_getElem?_getD, List.getLastD_eq_getLast?, List.getLast?_eq_getElem?]
    have hm : (out.getLastD []).length ≤ 4194304 := by
      rw [List.getLastD_eq_getLast?, List.getLast?_eq_some_getLast c]
      exact hout _ (List.getLast_mem c)
    simp only [if_neg (show ¬ (out.length : Int) = 0 by omega), ew, if_pos (show 0 ≤ ((out.length - 1 : Nat) : Int) by omega), if_pos (show ((out.length - 1 : Nat) : Int) < (out.length : Int) by omega), hl, Option.bind_some, List.nil_append, List.length_nil, if_pos (show 0 + x.length < 17592186044416 by omega), if_pos (show out.length < 5864062014805 by omega)]
    refine Ev.bind (spec_SamePacket_ev _ x (by omega)) ?_
    by_cases q : out.getLastD [] = x
    · have e : putU out x = out := by unfold putU; rw [if_neg (fun h => h.elim c (fun h2 => h2 q))]
      rw [e] at h
      simp only [decide_eq_true q, if_pos]
      exact h
    · have e : putU out x = out ++ [x] := by unfold putU; rw [if_pos (Or.inr q)]
      rw [e] at h
      simp only [decide_eq_false q, if_neg (show ¬ (false = true) by decide)]
      exact h
theorem j2_left {x : List Int} {a b out r : List (List Int)} (hx : x.length ≤ 4194304) (hout : ∀ y ∈ out, y.length ≤ 4194304) (ho : out.length ≤ 8388608) (h : Ev (fun k => spec_l05Merge.l0 k a b (putU out x)) r) : Ev (fun k => spec_l05Merge.j2 k (x :: a) b out true) r := by
  refine Ev.step (fun k => ?_) (put_ev (fun k o => spec_l05Merge.l0 k a b o) hx hout ho h)
  simp only [spec_l05Merge.j2]
  rw [if_pos trivial, if_pos (by simp <;> omega), if_pos (by simp <;> omega)]
  rfl
theorem j2_right {x : List Int} {a b out r : List (List Int)} (hx : x.length ≤ 4194304) (hout : ∀ y ∈ out, y.length ≤ 4194304) (ho : out.length ≤ 8388608) (h : Ev (fun k => spec_l05Merge.l0 k a b (putU out x)) r) : Ev (fun k => spec_l05Merge.j2 k a (x :: b) out false) r := by
  refine Ev.step (fun k => ?_) (put_ev (fun k o => spec_l05Merge.l0 k a b o) hx hout ho h)
  simp only [spec_l05Merge.j2]
  rw [if_neg (by decide), if_pos (by simp <;> omega), if_pos (by simp <;> omega)]
  rfl
theorem put_len (out : List (List Int)) (x : List Int) : (putU out x).length ≤ out.length + 1 := by
  unfold putU
  split
  · simp
  · omega
theorem put_mem (out : List (List Int)) (x y : List Int) (h : y ∈ putU out x) : y ∈ out ∨ y = x := by
  unfold putU at h
  split at h
  · simpa using h
  · exact Or.inl h
theorem merge_ev : ∀ (d : Nat) (a b out : List (List Int)), a.length + b.length ≤ d → out.length + d ≤ 8388608 → (∀ y ∈ a, y.length ≤ 4194304) → (∀ y ∈ b, y.length ≤ 4194304) → (∀ y ∈ out, y.length ≤ 4194304) →
    Ev (fun k => spec_l05Merge.l0 k a b out) (mergeU d out a b) := by
  intro d
  induction d with
  | zero =>
    intro a b out h _ _ _ _
    have ea : a = [] := List.length_eq_zero_iff.mp (by omega)
    have eb : b = [] := List.length_eq_zero_iff.mp (by omega)
    subst ea eb
    have hj : Ev (fun k => spec_l05Merge.j1 k [] [] out false) out := Ev.step (f := fun _ => some _) (fun k => by simp only [spec_l05Merge.j1]; rw [if_neg (by decide)]) (Ev.now _)
    exact Ev.step (fun k => by simp only [spec_l05Merge.l0]; rfl) hj
  | succ d ih =>
    intro a b out h ho hA hB hO
    have step : ∀ x y, y ∈ putU out x → x.length ≤ 4194304 → y.length ≤ 4194304 := fun x y hy hx => by
      rcases put_mem out x y hy with h1 | h1
      · exact hO y h1
      · rw [h1]; exact hx
    have hl := put_len out
    rw [mergeU]
    cases a with
    | nil =>
      cases b with
      | nil =>
        rw [if_pos ⟨rfl, rfl⟩]
        have hj : Ev (fun k => spec_l05Merge.j1 k [] [] out false) out := Ev.step (f := fun _ => some _) (fun k => by simp only [spec_l05Merge.j1]; rw [if_neg (by decide)]) (Ev.now _)
        exact Ev.step (fun k => by simp only [spec_l05Merge.l0]; rfl) hj
      | cons y b =>
        have hy : y.length ≤ 4194304 := hB y List.mem_cons_self
        rw [if_neg (by simp), if_neg (by simp)]
        have ih2 := ih [] b (putU out y) (by simp at h ⊢; omega) (by have := hl y; omega) (by simp) (fun z hz => hB z (List.mem_cons_of_mem _ hz)) (fun z hz => step y z hz hy)
        have hj : Ev (fun k => spec_l05Merge.j1 k [] (y :: b) out true) (mergeU d (putU out y) [] b) := by
          refine Ev.step (fun k => ?_) (j2_right hy hO (by omega) ih2)
          simp only [spec_l05Merge.j1]
          rw [if_pos trivial, if_neg (by simp <;> omega), if_neg (by simp)]
        refine Ev.step (fun k => ?_) hj
        simp only [spec_l05Merge.l0]
        rw [if_neg (by simp), decide_eq_true (by simp <;> omega)]
    | cons x a =>
      have hx : x.length ≤ 4194304 := hA x List.mem_cons_self
      cases b with
      | nil =>
        rw [if_neg (by simp), if_pos (Or.inl rfl)]
        have ih2 := ih a [] (putU out x) (by simp at h ⊢; omega) (by have := hl x; omega) (fun z hz => hA z (List.mem_cons_of_mem _ hz)) (by simp) (fun z hz => step x z hz hx)
        have hj : Ev (fun k => spec_l05Merge.j1 k (x :: a) [] out true) (mergeU d (putU out x) a []) := by
          refine Ev.step (fun k => ?_) (j2_left hx hO (by omega) ih2)
          simp only [spec_l05Merge.j1]
          rw [if_pos trivial, if_pos (by simp)]
        refine Ev.step (fun k => ?_) hj
        simp only [spec_l05Merge.l0]
        rw [if_pos (by simp <;> omega)]
      | cons y b =>
        have hy : y.length ≤ 4194304 := hB y List.mem_cons_self
        have hless := spec_l05Less_ev y x (by omega)
        have hfin : ∀ r, Ev (fun k => spec_l05Merge.j2 k (x :: a) (y :: b) out (!(lexLt y x))) r → Ev (fun k => spec_l05Merge.l0 k (x :: a) (y :: b) out) r := by
          intro r hr
          have hE : Ev (fun k => (spec_l05Less.f k y x).bind fun t116 => (spec_l05Merge.j2 k (x :: a) (y :: b) out (!t116))) r := Ev.bind hless hr
          have hj : Ev (fun k => spec_l05Merge.j1 k (x :: a) (y :: b) out true) r := by
            refine Ev.step (fun k => ?_) hE
            simp only [spec_l05Merge.j1]
            rw [if_pos trivial, if_neg (by simp <;> omega), if_pos (by simp <;> omega), if_pos (by simp <;> omega), if_pos (by simp <;> omega)]
            rfl
          refine Ev.step (fun k => ?_) hj
          simp only [spec_l05Merge.l0]
          rw [if_pos (by simp <;> omega)]
        apply hfin
        by_cases c : lexLt y x = true
        · rw [if_neg (by simp), if_neg (by simp [c])]
          have ih2 := ih (x :: a) b (putU out y) (by simp at h ⊢; omega) (by have := hl y; omega) hA (fun z hz => hB z (List.mem_cons_of_mem _ hz)) (fun z hz => step y z hz hy)
          simp only [c, Bool.not_true]
          exact j2_right hy hO (by omega) ih2
        · have cf : lexLt y x = false := by simpa using c
          rw [if_neg (by simp), if_pos (Or.inr ⟨by simp, by simp [cf]⟩)]
          have ih2 := ih a (y :: b) (putU out x) (by simp at h ⊢; omega) (by have := hl x; omega) (fun z hz => hA z (List.mem_cons_of_mem _ hz)) hB (fun z hz => step x z hz hx)
          simp only [cf, Bool.not_false]
          exact j2_left hx hO (by omega) ih2
theorem spec_SortPackets_ev : ∀ (n : Nat) (l : List (List Int)), l.length ≤ n → l.length ≤ 4194304 → (∀ y ∈ l, y.length ≤ 4194304) → Ev (fun k => spec_SortPackets.f k l) (sortU l) := by
  intro n
  induction n with
  | zero =>
    intro l hn hl hs
    have e : l = [] := List.length_eq_zero_iff.mp (by omega)
    subst e
    have hm := merge_ev 0 [] [] [] (by simp) (by simp) (by simp) (by simp) (by simp)
    have hE : Ev (fun k => (spec_l05Merge.f k [] []).bind fun t169 => some t169) (sortU []) := Ev.bind (show Ev (fun k => spec_l05Merge.f k [] []) (sortU []) from hm) (Ev.now _)
    refine Ev.step (fun k => ?_) hE
    simp only [spec_SortPackets.f]
    rw [if_pos (by simp)]
  | succ n ih =>
    intro l hn hl hs
    by_cases c : l.length < 2
    · have hm := merge_ev l.length l [] [] (by simp) (by simp; omega) hs (by simp) (by simp)
      have hq := mergeU_eq (d := l.length) (a := l) (b := []) (by simp) (strict_short c) (by simp [Strict])
      rw [hq, List.append_nil] at hm
      have hE : Ev (fun k => (spec_l05Merge.f k l []).bind fun t169 => some t169) (sortU l) := Ev.bind (show Ev (fun k => spec_l05Merge.f k l []) (sortU l) from hm) (Ev.now _)
      refine Ev.step (fun k => ?_) hE
      simp only [spec_SortPackets.f]
      rw [if_pos (by omega)]
    · have ew : wrap64 ((l.length : Int) / 2) = ((l.length / 2 : Nat) : Int) := by rw [w64 (by omega) (by omega)]; omega
      have hT : ∀ y ∈ l.take (l.length / 2), y.length ≤ 4194304 := fun y hy => hs y (List.mem_of_mem_take hy)
      have hD : ∀ y ∈ l.drop (l.length / 2), y.length ≤ 4194304 := fun y hy => hs y (List.mem_of_mem_drop hy)
      have i1 := ih (l.take (l.length / 2)) (by rw [List.length_take]; omega) (by rw [List.length_take]; omega) hT
      have i2 := ih (l.drop (l.length / 2)) (by rw [List.length_drop]; omega) (by rw [List.length_drop]; omega) hD
      have l1 := length_sortU (l.take (l.length / 2))
      have l2 := length_sortU (l.drop (l.length / 2))
      rw [List.length_take] at l1
      rw [List.length_drop] at l2
      have hm := merge_ev ((sortU (l.take (l.length / 2))).length + (sortU (l.drop (l.length / 2))).length) (sortU (l.take (l.length / 2))) (sortU (l.drop (l.length / 2))) [] (Nat.le_refl _) (by simp; omega) (fun y hy => hT y ((mem_sortU _ _).1 hy)) (fun y hy => hD y ((mem_sortU _ _).1 hy)) (by simp)
      rw [mergeU_eq (Nat.le_refl _) (strict_sortU _) (strict_sortU _)] at hm
      have hfin : sortU (sortU (l.take (l.length / 2)) ++ sortU (l.drop (l.length / 2))) = sortU l := sortU_congr (fun x => by
        rw [List.mem_append, mem_sortU, mem_sortU, ← List.mem_append, List.take_append_drop])
      rw [hfin] at hm
      have hE : Ev (fun k => (spec_SortPackets.f k (l.take (l.length / 2))).bind fun t176 => ((spec_SortPackets.f k (l.drop (l.length / 2))).bind fun t183 => ((spec_l05Merge.f k t176 t183).bind fun t186 => (some t186)))) (sortU l) := by
        refine Ev.bind i1 (Ev.bind i2 (Ev.bind ?_ (Ev.now _)))
        exact hm
      refine Ev.step (fun k => ?_) hE
      simp only [spec_SortPackets.f]
      rw [if_neg (by omega), ew, if_pos (by omega), if_pos (by omega), Int.toNat_natCast]

theorem weaveU_count : ∀ (d : Nat) (don a b : List Int), (weaveU d don a b).length ≤ 2 ^ d := by
  intro d
  induction d with
  | zero => intro don a b; simp [weaveU]
  | succ d ih =>
    intro don a b
    rw [weaveU, Nat.pow_succ]
    have hpos : 0 < 2 ^ d := Nat.two_pow_pos d
    split
    · simp; omega
    · rw [List.length_append]
      have h1 : (if a = [] then ([] : List (List Int)) else weaveU d (don ++ [a.headD 0]) a.tail b).length ≤ 2 ^ d := by
        split
        · simp
        · exact ih _ _ _
      have h2 : (if b = [] then ([] : List (List Int)) else weaveU d (don ++ [b.headD 0]) a b.tail).length ≤ 2 ^ d := by
        split
        · simp
        · exact ih _ _ _
      omega
theorem rd_zero (l : List Int) : rd l 0 = l.headD 0 := by
  cases l with
  | nil => rfl
  | cons x l => rfl
theorem spec_l05Weave_ev : ∀ (d : Nat) (out : List (List Int)) (don a b : List Int), a.length + b.length ≤ d → don.length + d ≤ 1000 → out.length + 2 ^ d ≤ 1000000 → Ev (fun k => spec_l05Weave.f k out don a b) (out ++ weaveU d don a b) := by
  intro d
  induction d with
  | zero =>
    intro out don a b h h1 h2
    refine Ev.step (f := fun _ => some _) (fun k => ?_) (Ev.now _)
    rw [spec_l05Weave.f, if_pos (by omega), if_pos (by omega)]
    rfl
  | succ d ih =>
    intro out don a b h h1 h2
    rw [Nat.pow_succ] at h2
    have hpos : 0 < 2 ^ d := Nat.two_pow_pos d
    by_cases c0 : a.length = 0 ∧ b.length = 0
    · refine Ev.step (f := fun _ => some _) (fun k => ?_) (Ev.now _)
      rw [spec_l05Weave.f, if_pos c0, if_pos (by omega), weaveU, if_pos ⟨List.length_eq_zero_iff.1 c0.1, List.length_eq_zero_iff.1 c0.2⟩]
    · have e : out ++ weaveU (d + 1) don a b = (out ++ (if a = [] then [] else weaveU d (don ++ [a.headD 0]) a.tail b)) ++ (if b = [] then [] else weaveU d (don ++ [b.headD 0]) a b.tail) := by
        rw [weaveU, if_neg (fun hh => c0 ⟨by rw [hh.1]; rfl, by rw [hh.2]; rfl⟩), List.append_assoc]
      rw [e]
      have hl : (out ++ (if a = [] then [] else weaveU d (don ++ [a.headD 0]) a.tail b)).length ≤ out.length + 2 ^ d := by
        rw [List.length_append]
        have : (if a = [] then ([] : List (List Int)) else weaveU d (don ++ [a.headD 0]) a.tail b).length ≤ 2 ^ d := by
          split
          · simp
          · exact weaveU_count _ _ _ _
        omega
      have e1 : Ev (fun k => if a.length = 0 then some out else spec_l05Weave.f k out (don ++ [rd a 0]) (a.drop 1) b) (out ++ (if a = [] then [] else weaveU d (don ++ [a.headD 0]) a.tail b)) := by
        by_cases ca : a = []
        · rw [if_pos ca]
          simp only [if_pos (show a.length = 0 by rw [ca]; rfl), List.append_nil]
          exact Ev.now _
        · rw [if_neg ca]
          have hne : ¬ a.length = 0 := fun hh => ca (List.length_eq_zero_iff.1 hh)
          simp only [if_neg hne, rd_zero, List.drop_one]
          exact ih out _ _ _ (by rw [List.length_tail]; omega) (by simp; omega) (by omega)
      have e2 : Ev (fun k => if b.length = 0 then some (out ++ (if a = [] then [] else weaveU d (don ++ [a.headD 0]) a.tail b)) else spec_l05Weave.f k (out ++ (if a = [] then [] else weaveU d (don ++ [a.headD 0]) a.tail b)) (don ++ [rd b 0]) a (b.drop 1)) ((out ++ (if a = [] then [] else weaveU d (don ++ [a.headD 0]) a.tail b)) ++ (if b = [] then [] else weaveU d (don ++ [b.headD 0]) a b.tail)) := by
        by_cases cb : b = []
        · have hb0 : b.length = 0 := by rw [cb]; rfl
          rw [if_pos cb]
          simp only [if_pos hb0, List.append_nil]
          exact Ev.now _
        · have hne : ¬ b.length = 0 := fun hh => cb (List.length_eq_zero_iff.1 hh)
          rw [if_neg cb]
          simp only [if_neg hne, rd_zero, List.drop_one]
          exact ih _ _ _ _ (by rw [List.length_tail]; omega) (by simp; omega) (by omega)
      refine Ev.step (f := fun k => (if a.length = 0 then some out else spec_l05Weave.f k out (don ++ [rd a 0]) (a.drop 1) b).bind fun o => if b.length = 0 then some o else spec_l05Weave.f k o (don ++ [rd b 0]) a (b.drop 1)) (fun k => ?_) (Ev.bind e1 e2)
      rw [spec_l05Weave.f, if_neg c0, if_pos (by omega)]
theorem spec_l05Of_riffles (p : List Int) (hp : p.length ≤ 11) : ∀ (d i : Nat) (out : List (List Int)), i + d = p.length + 1 → out.length + (d + 1) * 2048 ≤ 1000000 →
    Ev (fun k => spec_l05Of.l0 k p out (i : Int)) (out ++ (List.range' i d).flatMap (fun k => weaveU p.length [] (p.take k) (p.drop k))) := by
  intro d
  induction d with
  | zero =>
    intro i out hi ho
    refine Ev.step (f := fun _ => some _) (fun k => ?_) (Ev.now _)
    simp only [spec_l05Of.l0]
    rw [if_neg (by omega)]
    simp
  | succ d ih =>
    intro i out hi ho
    have hb := pow_le_2048 hp
    have hc := weaveU_count p.length [] (p.take i) (p.drop i)
    have hh := ih (i + 1) (out ++ weaveU p.length [] (p.take i) (p.drop i)) (by omega) (by rw [List.length_append]; omega)
    rw [List.range'_succ, List.flatMap_cons, ← List.append_assoc]
    refine Ev.step (f := fun k => (spec_l05Weave.f k out [] (p.take i) (p.drop i)).bind fun o => spec_l05Of.l0 k p o ((i + 1 : Nat) : Int)) (fun k => ?_) (Ev.bind (spec_l05Weave_ev p.length out [] (p.take i) (p.drop i) (by simp; omega) (by simp; omega) (by omega)) hh)
    simp only [spec_l05Of.l0]
    rw [if_pos (by omega), if_pos (by omega), w64 (by omega) (by omega), Int.toNat_natCast]
    rfl
theorem spec_l05Of_picks (p : List Int) (hp : p.length ≤ 12) : ∀ (d i : Nat) (out : List (List Int)), i + d = p.length → out.length + d ≤ 100000 →
    Ev (fun k => spec_l05Of.l1 k p out p (p.length : Int) (i : Int)) (out ++ (List.range' i d).map (pickU p)) := by
  intro d
  induction d with
  | zero =>
    intro i out hi ho
    refine Ev.step (f := fun _ => some _) (fun k => ?_) (Ev.now _)
    simp only [spec_l05Of.l1]
    rw [if_neg (by omega)]
    simp
  | succ d ih =>
    intro i out hi ho
    have hh := ih (i + 1) (out ++ [pickU p i]) (by omega) (by simp; omega)
    rw [List.range'_succ, List.map_cons, show out ++ pickU p i :: List.map (pickU p) (List.range' (i + 1) d) = out ++ [pickU p i] ++ List.map (pickU p) (List.range' (i + 1) d) by simp]
    have hc1 : (i : Int) + 1 = ((i + 1 : Nat) : Int) := by omega
    have l1 : ([] : List Int).length + (p.take i).length < 17592186044416 := by rw [List.length_nil, List.length_take]; omega
    have l2 : ([] ++ p.take i : List Int).length + (p.drop (i + 1)).length < 17592186044416 := by rw [List.nil_append, List.length_take, List.length_drop]; omega
    have l3 : [rd p (i : Int)].length + ([] ++ p.take i ++ p.drop (i + 1)).length < 17592186044416 := by rw [List.nil_append, List.length_append, List.length_take, List.length_drop, List.length_singleton]; omega
    have el : [rd p (i : Int)] ++ ([] ++ p.take i ++ p.drop (i + 1)) = pickU p i := by rw [pickU, List.nil_append, List.append_assoc]
    refine Ev.step (fun k => ?_) hh
    rw [spec_l05Of.l1, if_pos (by omega), if_pos (by omega), if_pos (by omega), Option.bind_some, Option.bind_some, if_pos (by omega), Option.bind_some, Int.toNat_natCast, if_pos l1, Option.bind_some, w64 (by omega) (by omega), hc1, if_pos (by omega), if_pos (by omega), Option.bind_some, Int.toNat_natCast, if_pos l2, Option.bind_some, if_pos l3, if_pos (by omega), el]
theorem spec_l05Cuts_loop (p : List Int) (hp : p.length ≤ 12) : ∀ (d i : Nat) (out : List (List Int)), i + d = p.length → out.length + d ≤ 100000 →
    Ev (fun k => spec_l05Cuts.l0 k p out (p.length : Int) (i : Int)) (out ++ (List.range' i d).map (fun k => doMove p 1 (k : Nat))) := by
  intro d
  induction d with
  | zero =>
    intro i out hi ho
    refine Ev.step (f := fun _ => some _) (fun k => ?_) (Ev.now _)
    simp only [spec_l05Cuts.l0]
    rw [if_neg (by omega)]
    simp
  | succ d ih =>
    intro i out hi ho
    have hh := ih (i + 1) (out ++ [doMove p 1 (i : Nat)]) (by omega) (by simp; omega)
    rw [List.range'_succ, List.map_cons, show out ++ doMove p 1 (i : Nat) :: List.map (fun k => doMove p 1 (k : Nat)) (List.range' (i + 1) d) = out ++ [doMove p 1 (i : Nat)] ++ List.map (fun k => doMove p 1 (k : Nat)) (List.range' (i + 1) d) by simp]
    refine Ev.step (fun k => ?_) hh
    simp only [spec_l05Cuts.l0]
    rw [if_pos (by omega), spec_l04Do_cut p i hp (by omega), Option.bind_some, w64 (by omega) (by omega)]
    simp only [if_pos (show out.length < 5864062014805 by omega)]
    rfl
theorem spec_l05Cuts_ev (p : List Int) (hp : p.length ≤ 12) : Ev (fun k => spec_l05Cuts.f k p) (cutsU p) := by
  unfold spec_l05Cuts.f
  exact spec_l05Cuts_loop p hp p.length 0 [] (by omega) (by simp; omega)
/-- The choice's results as the reference lists them. -/
def specAll (p : List Int) (kind : Int) : List (List Int) := if kind = 2 then (List.range' 0 (p.length + 1)).flatMap (fun k => weaveU p.length [] (p.take k) (p.drop k)) else choiceU p kind
theorem specAll_mem (p : List Int) (kind : Int) (x : List Int) : x ∈ specAll p kind ↔ x ∈ choiceU p kind := by
  unfold specAll
  by_cases h : kind = 2
  · rw [if_pos h]
    have e : choiceU p kind = rifs p := by simp [choiceU, h]
    rw [e, rifs, weaves_masks, List.range_eq_range']
  · rw [if_neg h]
theorem spec_l05Of_ev (p : List Int) (kind : Int) (h : choiceOk p kind) : Ev (fun k => spec_l05Of.f k p kind) (specAll p kind) := by
  obtain ⟨hpk, hz, h0, h4, h3, h2⟩ := h
  have hp := packetOk_length hpk
  unfold spec_l05Of.f
  simp only [Option.bind_some]
  by_cases k1 : kind = 1
  · refine ev_ite_true k1 (Ev.bind (spec_l05Cuts_ev p hp) ?_)
    simp only [specAll, choiceU, if_neg (show ¬ kind = 2 by omega), if_pos k1]
    exact Ev.now _
  refine ev_ite_false k1 ?_
  by_cases k2 : kind = 2
  · refine ev_ite_true k2 ?_
    simp only [specAll, if_pos k2]
    have hle := h2 k2
    exact spec_l05Of_riffles p (h2 k2) (p.length + 1) 0 [] (by omega) (by simp only [List.length_nil]; omega)
  refine ev_ite_false k2 ?_
  by_cases k3 : kind = 3
  · have h2' := h3 k3
    have e := spec_l04Back_ev p 2 true hp (by omega) (by omega)
    have ed : ((p.take (2 : Int).toNat).map (fun x => if true = true then turnCard x else x)).reverse ++ p.drop (2 : Int).toNat = doMove p 3 2 := by
      unfold doMove
      rw [if_neg (by omega), if_neg (by omega), if_pos rfl]
      simp
    rw [ed] at e
    refine ev_ite_true k3 (Ev.bind e (Ev.bind (spec_l05Cuts_ev _ (by rw [doMove3_length p h2']; exact hp)) ?_))
    simp only [specAll, choiceU, if_neg k1, if_neg k2, if_pos k3]
    exact Ev.now _
  refine ev_ite_false k3 ?_
  by_cases k4 : kind = 4
  · refine ev_ite_true k4 ?_
    simp only [specAll, choiceU, if_neg k1, if_neg k2, if_neg k3, if_pos k4]
    exact spec_l05Of_picks p hp p.length 0 [] (by omega) (by simp; omega)
  refine ev_ite_false k4 ?_
  simp only [specAll, choiceU, if_neg k1, if_neg k2, if_neg k3, if_neg k4]
  rw [if_pos (by simp)]
  exact Ev.now _
theorem spec_sorted_ev (p : List Int) (kind : Int) (h : choiceOk p kind) : Ev (fun k => spec_SortPackets.f k (specAll p kind)) (sortU (choiceU p kind)) := by
  obtain ⟨hpk, hz, h0, h4, h3, h2⟩ := id h
  have hp := packetOk_length hpk
  have hlen : ∀ x ∈ specAll p kind, x.length ≤ 4194304 := fun x hx => by rw [choiceU_len p kind h3 x ((specAll_mem p kind x).1 hx)]; omega
  have hcount : (specAll p kind).length ≤ 4194304 := by
    unfold specAll
    split
    · rename_i k2
      have hb := pow_le_2048 (h2 k2)
      have : ∀ (l : List Nat), (l.flatMap (fun k => weaveU p.length [] (p.take k) (p.drop k))).length ≤ l.length * 2048 := by
        intro l
        induction l with
        | nil => simp
        | cons x l ih =>
          rw [List.flatMap_cons, List.length_append, List.length_cons, Nat.succ_mul]
          have := weaveU_count p.length [] (p.take x) (p.drop x)
          omega
      have := this (List.range' 0 (p.length + 1))
      simp only [List.length_range'] at this
      have h11 := h2 k2
      have : (p.length + 1) * 2048 ≤ 12 * 2048 := Nat.mul_le_mul_right _ (by omega)
      omega
    · have := choiceU_count p kind h3 (by omega)
      have : 2 ^ p.length ≤ 4096 := Nat.pow_le_pow_right (n := 2) (by omega) hp
      omega
  have e := spec_SortPackets_ev _ (specAll p kind) (Nat.le_refl _) hcount hlen
  rw [sortU_congr (fun x => specAll_mem p kind x)] at e
  exact e

theorem spec_l02Has_loop (l : List Int) (v : Int) (hl : l.length ≤ 9223372036854775806) : ∀ (r pre : List Int), l = pre ++ r →
    Ev (fun k => spec_l02Has.l0 k v l (l.length : Int) (pre.length : Int)) (decide (v ∈ r)) := by
  intro r
  induction r with
  | nil =>
    intro pre h
    have e := lens h
    simp only [List.length_nil] at e
    refine Ev.step (f := fun _ => some _) (fun k => ?_) (Ev.now _)
    simp only [spec_l02Has.l0]
    rw [if_neg (by omega)]
    simp
  | cons x r ih =>
    intro pre h
    have e := lens h
    simp only [List.length_cons] at e
    by_cases c : x = v
    · refine Ev.step (f := fun _ => some _) (fun k => ?_) (Ev.now _)
      simp only [spec_l02Has.l0]
      rw [if_pos (by omega), if_pos (by omega), if_pos (by omega), rd_mid' h, if_pos c]
      simp [c]
    · have hi := ih (pre ++ [x]) (snoc_eq h)
      have ed : decide (v ∈ x :: r) = decide (v ∈ r) := by simp [show ¬ v = x from fun q => c q.symm]
      rw [ed]
      refine Ev.step (fun k => ?_) hi
      simp only [spec_l02Has.l0]
      rw [if_pos (by omega), if_pos (by omega), if_pos (by omega), rd_mid' h, if_neg c, snoc_len x (by omega)]
theorem spec_l02Has_ev (l : List Int) (v : Int) (hl : l.length ≤ 9223372036854775806) : Ev (fun k => spec_l02Has.f k l v) (decide (v ∈ l)) := by
  unfold spec_l02Has.f
  exact spec_l02Has_loop l v hl l [] rfl

theorem spec_PacketOk_loop (l : List Int) (hl : l.length ≤ 12) : ∀ (r pre seen : List Int), l = pre ++ r → seen.length = pre.length →
    Ev (fun k => spec_PacketOk.l0 k seen l (l.length : Int) (pre.length : Int)) (pktFrom seen r) := by
  intro r
  induction r with
  | nil =>
    intro pre seen h hs
    have e := lens h
    simp only [List.length_nil] at e
    refine Ev.step (f := fun _ => some _) (fun k => ?_) (Ev.now _)
    simp only [spec_PacketOk.l0]
    rw [if_neg (by omega)]
    simp [pktFrom]
  | cons x r ih =>
    intro pre seen h hs
    have e := lens h
    simp only [List.length_cons] at e
    by_cases c0 : cardOf x < 0
    · have e : pktFrom seen (x :: r) = false := by simp only [pktFrom]; rw [decide_eq_false (by omega)]; rfl
      rw [e]
      refine Ev.step (f := fun _ => some _) (fun k => ?_) (Ev.now _)
      simp only [spec_PacketOk.l0]
      rw [if_pos (by omega), if_pos (by omega), if_pos (by omega), rd_mid' h, spec_CardOf_eq]
      simp only [Option.bind_some]
      rw [if_pos c0]
    refine Ev.step (f := fun k => (spec_l02Has.f k seen (cardOf x)).bind fun t => if t = true then some false else spec_PacketOk.l0 k (seen ++ [cardOf x]) l (l.length : Int) ((pre ++ [x]).length : Int)) (fun k => ?_) ?_
    · simp only [spec_PacketOk.l0]
      rw [if_pos (by omega), if_pos (by omega), if_pos (by omega), rd_mid' h, spec_CardOf_eq]
      simp only [Option.bind_some]
      rw [if_neg c0, if_pos (by omega), snoc_len x (by omega)]
    · refine Ev.bind (spec_l02Has_ev seen (cardOf x) (by omega)) ?_
      by_cases c2 : cardOf x ∈ seen
      · have e : pktFrom seen (x :: r) = false := by simp only [pktFrom]; simp [c2]
        rw [e]
        exact ev_some fun _ => by simp [c2]
      · have e : pktFrom seen (x :: r) = pktFrom (seen ++ [cardOf x]) r := by simp only [pktFrom]; rw [decide_eq_true (by omega)]; simp [c2]
        rw [e]
        simp only [c2, decide_false, Bool.false_eq_true, if_false]
        exact ih (pre ++ [x]) (seen ++ [cardOf x]) (snoc_eq h) (by simp [hs])
theorem spec_PacketOk_ev (l : List Int) (ha : l.length ≤ 9223372036854775806) : Ev (fun k => spec_PacketOk.f k l) (packetOk l) := by
  unfold spec_PacketOk.f
  by_cases g : (l.length : Int) > 12
  · have e : packetOk l = false := by
      cases h : packetOk l
      · rfl
      · have := packetOk_length h; omega
    rw [e]
    exact ev_ite_true g (Ev.now _)
  · exact ev_ite_false g (spec_PacketOk_loop l (by omega) l [] [] rfl rfl)

theorem spec_l05Ok_ev (p : List Int) (kind : Int) (hl : p.length ≤ 9223372036854775806) : Ev (fun k => spec_l05Ok.f k p kind) (decide (choiceOk p kind)) := by
  unfold spec_l05Ok.f
  refine Ev.bind (spec_PacketOk_ev p hl) ?_
  by_cases h : packetOk p = true
  · refine ev_ite_true h ?_
    by_cases z : p.length = 0
    · refine ev_ite_true (by omega) ?_
      rw [decide_eq_false (fun hc => hc.2.1 z)]
      exact Ev.now _
    · refine ev_ite_false (by omega) ?_
      simp only [spec_l01In_eq, Option.bind_some]
      by_cases hr : 0 ≤ kind ∧ kind ≤ 4
      · refine ev_ite_true (by simp [hr.1, hr.2]) ?_
        by_cases k3 : kind = 3
        · refine ev_ite_true k3 ?_
          by_cases g : (p.length : Int) ≥ 2
          · refine ev_ite_true g (ev_ite_false (by omega) ?_)
            rw [decide_eq_true (show choiceOk p kind from ⟨h, z, hr.1, hr.2, fun _ => by omega, fun e => by omega⟩)]
            exact Ev.now _
          · refine ev_ite_false g ?_
            rw [decide_eq_false (fun hc : choiceOk p kind => by have := hc.2.2.2.2.1 k3; omega)]
            exact Ev.now _
        · refine ev_ite_false k3 ?_
          by_cases k2 : kind = 2
          · refine ev_ite_true k2 ?_
            have e : decide (choiceOk p kind) = decide ((p.length : Int) ≤ 11) := by
              apply decide_eq_decide.mpr
              constructor
              · intro hc; have := hc.2.2.2.2.2 k2; omega
              · intro hle; exact ⟨h, z, hr.1, hr.2, fun e => absurd e k3, fun _ => by omega⟩
            rw [e]
            exact Ev.now _
          · refine ev_ite_false k2 ?_
            rw [decide_eq_true (show choiceOk p kind from ⟨h, z, hr.1, hr.2, fun e => absurd e k3, fun e => absurd e k2⟩)]
            exact Ev.now _
      · refine ev_ite_false (by simp; omega) ?_
        rw [decide_eq_false (fun hc : choiceOk p kind => hr ⟨hc.2.2.1, hc.2.2.2.1⟩)]
        exact Ev.now _
  · refine ev_ite_false h ?_
    rw [decide_eq_false (fun hc => h hc.1)]
    exact Ev.now _

def allOf (l : List (List Int)) (kind : Int) : List (List Int) := l.flatMap fun p => choiceU p kind
/-- What a list of packets and a choice result in. -/
def after (l : List (List Int)) (kind : Int) : List (List Int) × Bool := if (∀ p ∈ l, choiceOk p kind) ∧ (sortU (allOf l kind)).length ≤ 3000 then (sortU (allOf l kind), true) else ([], false)
theorem allOf_snoc (l : List (List Int)) (p : List Int) (kind : Int) : allOf (l ++ [p]) kind = allOf l kind ++ choiceU p kind := by simp [allOf]
theorem sortU_more {l m : List (List Int)} (h : ∀ x ∈ l, x ∈ m) : (sortU l).length ≤ (sortU m).length :=
  length_le_sub _ _ (sortU_nodup l) (fun x hx => (mem_sortU x m).2 (h x ((mem_sortU x l).1 hx)))
theorem after_bad {l pre r : List (List Int)} {p : List Int} {kind : Int} (h : l = pre ++ p :: r) (hp : ¬ choiceOk p kind) : after l kind = ([], false) := by
  unfold after
  rw [if_neg (fun hc => hp (hc.1 p (by rw [h]; simp)))]
theorem after_big {l pre r : List (List Int)} {kind : Int} (h : l = pre ++ r) (hp : 3000 < (sortU (allOf pre kind)).length) : after l kind = ([], false) := by
  unfold after
  rw [if_neg (fun hc => ?_)]
  have := sortU_more (l := allOf pre kind) (m := allOf l kind) (fun x hx => by rw [h]; simp only [allOf, List.flatMap_append, List.mem_append]; exact .inl hx)
  omega
theorem rows_small {p : List Int} {kind : Int} (h : choiceOk p kind) : (∀ x ∈ sortU (choiceU p kind), x.length ≤ 12) ∧ (sortU (choiceU p kind)).length ≤ 4096 := by
  have h2 := resultsOf_small p kind
  unfold resultsOf at h2
  rw [if_pos h] at h2
  exact ⟨h2.2, h2.1⟩
theorem impl_ResultsAfter_loop (l : List (List Int)) (kind : Int) (hn : l.length ≤ 1048576) (hs : ∀ x ∈ l, x.length ≤ 1048576) (hw : ∀ x ∈ l, ∀ y ∈ x, (Lit.int .i64 y).wf = true) : ∀ (r pre out : List (List Int)), l = pre ++ r → (∀ p ∈ pre, choiceOk p kind) → (∀ x, x ∈ out ↔ x ∈ allOf pre kind) → (∀ x ∈ out, x.length ≤ 12) → out.length ≤ pre.length * 4096 →
    Ev (fun k => impl_ResultsAfter.l0 k kind out l (l.length : Int) (pre.length : Int)) (after l kind) := by
  intro r
  induction r with
  | nil =>
    intro pre out h hok hm h12 hlen
    have e : l.length = pre.length := by rw [h]; simp
    have hso : impl_SortPackets.f out = some (sortU (allOf l kind)) := by
      rw [List.append_nil] at h
      rw [show sortU (allOf l kind) = sortU out from sortU_congr (fun x => by rw [hm, h])]
      unfold impl_SortPackets.f
      rw [if_pos ⟨by have : pre.length * 4096 ≤ 1048576 * 4096 := Nat.mul_le_mul_right _ (by omega); omega, fun x hx => by have := h12 x hx; omega⟩]
    refine Ev.step (f := fun _ => some _) (fun k => ?_) (Ev.now _)
    simp only [impl_ResultsAfter.l0]
    rw [if_neg (by omega), hso, Option.bind_some]
    unfold after
    by_cases g : (sortU (allOf l kind)).length ≤ 3000
    · rw [if_neg (by omega), if_pos ⟨by rw [h, List.append_nil]; exact hok, g⟩]
    · rw [if_pos (by omega), if_neg (fun hc => g hc.2)]
  | cons p r ih =>
    intro pre out h hok hm h12 hlen
    have e : l.length = pre.length + (r.length + 1) := by rw [h]; simp
    have hp : p ∈ l := by rw [h]; simp
    have hrd : rd_L1 l (pre.length : Int) = p := by rw [h]; simp [rd_L1]
    have hpre : pre.length * 4096 ≤ 1048576 * 4096 := Nat.mul_le_mul_right _ (by omega)
    have ew : wrap64 ((pre.length : Int) + 1) = ((pre ++ [p]).length : Int) := by rw [w64 (by omega) (by omega)]; simp
    have hR := impl_ResultsOf_ev p kind (by have := hs p hp; omega) (hw p hp)
    refine Ev.step (f := fun k => (impl_ResultsOf.f k p kind).bind fun bt => (if bt.2 = true then (if out.length + bt.1.length < 5864062014805 then (if ((out ++ bt.1).length : Int) > 12000 then ((impl_SortPackets.f (out ++ bt.1)).bind fun t => impl_ResultsAfter.l0 k kind t l (l.length : Int) ((pre ++ [p]).length : Int)) else impl_ResultsAfter.l0 k kind (out ++ bt.1) l (l.length : Int) ((pre ++ [p]).length : Int)) else none) else some ([], false))) (fun k => ?_) (Ev.bind hR ?_)
    · rw [impl_ResultsAfter.l0, if_pos (by omega), if_pos (by omega), if_pos (by omega), hrd, ew]
      rfl
    · by_cases c : choiceOk p kind
      · have er : resultsOf p kind = (sortU (choiceU p kind), true) := by unfold resultsOf; rw [if_pos c]
        obtain ⟨r1, r2⟩ := rows_small c
        rw [er]
        simp only [if_true, if_pos (show out.length + (sortU (choiceU p kind)).length < 5864062014805 by omega)]
        have hok' : ∀ q ∈ pre ++ [p], choiceOk q kind := fun q hq => by
          rcases List.mem_append.1 hq with hq | hq
          · exact hok q hq
          · rw [List.mem_singleton.1 hq]; exact c
        have hmem : ∀ x, x ∈ out ++ sortU (choiceU p kind) ↔ x ∈ allOf (pre ++ [p]) kind := fun x => by
          rw [allOf_snoc, List.mem_append, List.mem_append, hm, mem_sortU]
        have h12' : ∀ x ∈ out ++ sortU (choiceU p kind), x.length ≤ 12 := fun x hx => by
          rcases List.mem_append.1 hx with hx | hx
          · exact h12 x hx
          · exact r1 x hx
        have hlen' : (out ++ sortU (choiceU p kind)).length ≤ (pre ++ [p]).length * 4096 := by
          rw [List.length_append, List.length_append, List.length_singleton, Nat.succ_mul]; omega
        have hlen2 : (pre ++ [p]).length * 4096 ≤ 1048576 * 4096 := Nat.mul_le_mul_right _ (by rw [List.length_append, List.length_singleton]; omega)
        by_cases g : ((out ++ sortU (choiceU p kind)).length : Int) > 12000
        · have hso : impl_SortPackets.f (out ++ sortU (choiceU p kind)) = some (sortU (out ++ sortU (choiceU p kind))) := by
            unfold impl_SortPackets.f
            rw [if_pos ⟨by omega, fun x hx => by have := h12' x hx; omega⟩]
          simp only [if_pos g, hso, Option.bind_some]
          exact ih (pre ++ [p]) _ (by rw [h]; simp) hok' (fun x => by rw [mem_sortU]; exact hmem x) (fun x hx => h12' x ((mem_sortU x _).1 hx)) (Nat.le_trans (length_sortU _) hlen')
        · simp only [if_neg g]
          exact ih (pre ++ [p]) _ (by rw [h]; simp) hok' hmem h12' hlen'
      · have er : resultsOf p kind = ([], false) := by unfold resultsOf; rw [if_neg c]
        rw [er, after_bad h c]
        exact ev_ite_false (by simp) (Ev.now _)
theorem spec_ResultsAfter_loop (l : List (List Int)) (kind : Int) (hn : l.length ≤ 1048576) (hs : ∀ x ∈ l, x.length ≤ 1048576) : ∀ (r pre : List (List Int)), l = pre ++ r → (∀ p ∈ pre, choiceOk p kind) → (sortU (allOf pre kind)).length ≤ 3000 →
    Ev (fun k => spec_ResultsAfter.l0 k kind (sortU (allOf pre kind)) l (l.length : Int) (pre.length : Int)) (after l kind) := by
  intro r
  induction r with
  | nil =>
    intro pre h hok hlen
    have e : l.length = pre.length := by rw [h]; simp
    rw [List.append_nil] at h
    refine Ev.step (f := fun _ => some _) (fun k => ?_) (Ev.now _)
    simp only [spec_ResultsAfter.l0]
    rw [if_neg (by omega)]
    unfold after
    rw [h, if_pos ⟨hok, hlen⟩]
  | cons p r ih =>
    intro pre h hok hlen
    have e : l.length = pre.length + (r.length + 1) := by rw [h]; simp
    have hp : p ∈ l := by rw [h]; simp
    have hrd : rd_L1 l (pre.length : Int) = p := by rw [h]; simp [rd_L1]
    have ew : wrap64 ((pre.length : Int) + 1) = ((pre ++ [p]).length : Int) := by rw [w64 (by omega) (by omega)]; simp
    refine Ev.step (f := fun k => (spec_l05Ok.f k p kind).bind fun t => (if t = true then ((spec_l05Of.f k p kind).bind fun a => ((spec_SortPackets.f k a).bind fun b => ((spec_l05Merge.f k (sortU (allOf pre kind)) b).bind fun c => (if (c.length : Int) > 3000 then some ([], false) else spec_ResultsAfter.l0 k kind c l (l.length : Int) ((pre ++ [p]).length : Int))))) else some ([], false))) (fun k => ?_) (Ev.bind (spec_l05Ok_ev p kind (by have := hs p hp; omega)) ?_)
    · rw [spec_ResultsAfter.l0, if_pos (by omega), if_pos (by omega), if_pos (by omega), hrd, ew]
    · by_cases c : choiceOk p kind
      · obtain ⟨r1, r2⟩ := rows_small c
        refine ev_ite_true (decide_eq_true c) (Ev.bind (spec_l05Of_ev p kind c) (Ev.bind (spec_sorted_ev p kind c) ?_))
        have hrows : ∀ y ∈ sortU (allOf pre kind), y.length ≤ 4194304 := fun y hy => by
          rw [mem_sortU] at hy
          obtain ⟨q, hq, hy⟩ := List.mem_flatMap.1 hy
          obtain ⟨q1, _⟩ := rows_small (hok q hq)
          have := q1 y ((mem_sortU y _).2 hy)
          omega
        have hmg := merge_ev ((sortU (allOf pre kind)).length + (sortU (choiceU p kind)).length) (sortU (allOf pre kind)) (sortU (choiceU p kind)) [] (Nat.le_refl _) (by simp; omega) hrows (fun y hy => by have := r1 y hy; omega) (by simp)
        rw [mergeU_eq (Nat.le_refl _) (strict_sortU _) (strict_sortU _)] at hmg
        have es : sortU (sortU (allOf pre kind) ++ sortU (choiceU p kind)) = sortU (allOf (pre ++ [p]) kind) := sortU_congr (fun x => by rw [allOf_snoc, List.mem_append, List.mem_append, mem_sortU, mem_sortU])
        rw [es] at hmg
        refine Ev.bind (show Ev (fun k => spec_l05Merge.f k (sortU (allOf pre kind)) (sortU (choiceU p kind))) (sortU (allOf (pre ++ [p]) kind)) from hmg) ?_
        have hok' : ∀ q ∈ pre ++ [p], choiceOk q kind := fun q hq => by
          rcases List.mem_append.1 hq with hq | hq
          · exact hok q hq
          · rw [List.mem_singleton.1 hq]; exact c
        by_cases g : ((sortU (allOf (pre ++ [p]) kind)).length : Int) > 3000
        · rw [after_big (l := l) (pre := pre ++ [p]) (r := r) (by rw [h]; simp) (by omega)]
          exact ev_ite_true g (Ev.now _)
        · exact ev_ite_false g (ih (pre ++ [p]) (by rw [h]; simp) hok' (by omega))
      · rw [after_bad h c]
        exact ev_ite_false (by simp [c]) (Ev.now _)
theorem FnExactResultsAfter_ : laws_FnExactResultsAfter.Pure := by
  intro l kind h1 h2 h3 wk
  obtain ⟨z, hz, h⟩ := laws_szIntSS_ev l h1 h2
  rcases h with h | ⟨h, hl, ht⟩
  · obtain ⟨k, hk⟩ := hz
    exact .inl ⟨k, z, hk k (Nat.le_refl _), h⟩
  refine .inr ?_
  have hs : ∀ x ∈ l, x.length ≤ 1048576 := fun x hx => by have := mem_total hx; omega
  have hI : Ev (fun k => impl_ResultsAfter.f k l kind) (after l kind) := by
    unfold impl_ResultsAfter.f
    exact impl_ResultsAfter_loop l kind hl hs h3 l [] [] rfl (by simp) (by simp [allOf]) (by simp) (by simp)
  have hS : Ev (fun k => spec_ResultsAfter.f k l kind) (after l kind) := by
    unfold spec_ResultsAfter.f
    exact spec_ResultsAfter_loop l kind hl hs l [] rfl (by simp) (by simp [allOf, sortU])
  have hsm : (after l kind).1.length ≤ 3000 ∧ ∀ x ∈ (after l kind).1, x.length ≤ 12 := by
    unfold after
    by_cases c : (∀ p ∈ l, choiceOk p kind) ∧ (sortU (allOf l kind)).length ≤ 3000
    · rw [if_pos c]
      refine ⟨c.2, fun x hx => ?_⟩
      have hx' := (mem_sortU x _).1 hx
      obtain ⟨q, hq, hy⟩ := List.mem_flatMap.1 hx'
      exact (rows_small (c.1 q hq)).1 x ((mem_sortU x _).2 hy)
    · rw [if_neg c]
      exact ⟨by simp, fun x hx => by simp at hx⟩
  have htot := total_le _ 12 hsm.2
  have htot' : total (after l kind).1 ≤ 3000 * 12 := Nat.le_trans htot (Nat.mul_le_mul_right _ hsm.1)
  obtain ⟨mm, r', hm, hr, E1⟩ := lists_held (after l kind).1 (by omega) (by omega)
  obtain ⟨K, E⟩ := and_at (laws_toIntSS_ev l hl (fun x hx => by have := hs x hx; omega)) (and_at hz (and_at hS (and_at hI (and_at E1 (and_at (laws_eqIntSS_ev l (fun x hx => by have := hs x hx; omega) (by omega)) (laws_markIntSS_ev l 1 (by omega) (by omega) (by omega)))))))
  obtain ⟨e1, e2, e3, e4, ⟨e5, e6, e7⟩, e8, e9⟩ := E K (Nat.le_refl _)
  exact ⟨K, (after l kind).1, r', (after l kind).2, mm, z, 1 + (total l : Int), markAll 1 l, e1, e2, e3, e4, e5, e8, e9, e6, e7, hr, hm, by omega, h⟩

end Go.Proofs.Ytbghkcgglhoopaa.Pure
