/- For all arguments, the program's GilbreathCut answers as the reference's does, and leaves its arguments alone. No conditions. -/
import Derived.Test.YtaeicjfkdkjplaaMFnExactGilbreathCutx0
import Derived.Test.YtaeicjfkdkjplaaMFnExactGilbreathCutx1
import Derived.Test.YtaeicjfkdkjplaaMFnExactGilbreathCutx2
import Derived.Test.YtaeicjfkdkjplaaMFnExactGilbreathCutx3
import Derived.OpenShut
namespace Go.Proofs.Ytaeicjfkdkjplaa.Pure
open Go.RowKit Go.Proofs.Ytaeicjfkdkjplaa.MFnExactGilbreathCut Go.Proofs.YtaeicjfkdkjplaaW.PrintWords Go.Proofs.YtaeicjfkdkjplaaW.PrintLast
set_option linter.unusedVariables false
set_option linter.unusedSimpArgs false

/-! ### base: numbers, reads, loops -/
theorem w64 {a : Int} (h0 : -9223372036854775808 ≤ a) (h1 : a ≤ 9223372036854775807) : wrap64 a = a := by
  unfold wrap64
  omega
theorem w64n {n : Nat} (h : n ≤ 9223372036854775807) : wrap64 (n : Int) = n := w64 (by omega) (by omega)
theorem bd64 {n : Int} (h : (Lit.int .i64 n).wf = true) : -9223372036854775808 ≤ n ∧ n ≤ 9223372036854775807 := Go.bounds_i64 h
theorem rd_nat (xs : List Int) (i : Nat) : rd xs (i : Int) = xs.getD i 0 := by simp [rd]
theorem rd_lt {xs : List Int} {i : Nat} (h : i < xs.length) : rd xs (i : Int) = xs[i] := by simp [rd, h]
theorem bt_nat {s : ByteArray} {i : Nat} (h : i < s.size) : bt s (i : Int) = (s[i].toNat : Int) := by simp [bt, h]
/-- Going up to n: what holds at n holds from i on. -/
theorem up_ind (n : Nat) (P : Nat → Prop) (h0 : P n) (hs : ∀ i, i < n → P (i + 1) → P i) : ∀ i, i ≤ n → P i := by
  have h : ∀ d i, i + d = n → P i := by
    intro d
    induction d with
    | zero => intro i hi; obtain rfl : i = n := by omega
              exact h0
    | succ d ih => intro i hi; exact hs i (by omega) (ih (i + 1) (by omega))
  intro i hi
  exact h (n - i) i (by omega)
theorem ev_some {α : Type} {g : Nat → Option α} {r : α} (h : ∀ k, g k = some r) : Ev g r := ⟨0, fun k _ => h k⟩
theorem ev_pair {α β : Type} {g : Nat → Option α} {f : Nat → Option β} {a : α} {b : β} {h : α → β → Option Bool} (hg : Ev g a) (hf : Ev f b) (hh : h a b = some true) : ∃ k, ((g k).bind fun x => (f k).bind fun y => h x y) = some true :=
  Ev.rounds (Ev.bind hg (Ev.bind hf (ev_some fun _ => hh)))

/-! ### lists -/
theorem rd_mid (pre : List Int) (x : Int) (r : List Int) : rd (pre ++ x :: r) (pre.length : Int) = x := by simp [rd]
theorem rd_mid' {l pre : List Int} {x : Int} {r : List Int} (h : l = pre ++ x :: r) : rd l (pre.length : Int) = x := by subst h; exact rd_mid _ _ _
theorem snoc_eq {l pre : List Int} {x : Int} {r : List Int} (h : l = pre ++ x :: r) : l = (pre ++ [x]) ++ r := by simp [h]
theorem snoc_len {pre : List Int} (x : Int) (h : pre.length ≤ 9223372036854775806) : wrap64 ((pre.length : Int) + 1) = ((pre ++ [x]).length : Int) := by
  rw [w64 (by omega) (by omega)]; simp
/-- The whole numbers from m on, n of them. -/
def upFrom (m : Int) : Nat → List Int
  | 0 => []
  | n + 1 => m :: upFrom (m + 1) n
theorem upFrom_length (n : Nat) : ∀ m, (upFrom m n).length = n := by
  induction n with
  | zero => intro m; rfl
  | succ n ih => intro m; simp [upFrom, ih]
theorem upFrom_get (n : Nat) : ∀ (m : Int) (i : Nat) (h : i < (upFrom m n).length), (upFrom m n)[i] = m + i := by
  induction n with
  | zero => intro m i h; simp [upFrom] at h
  | succ n ih =>
    intro m i h
    cases i with
    | zero => simp [upFrom]
    | succ i => simp only [upFrom, List.getElem_cons_succ]; rw [ih]; omega
theorem upFrom_snoc (n : Nat) : ∀ m, upFrom m (n + 1) = upFrom m n ++ [m + n] := by
  induction n with
  | zero => intro m; simp [upFrom]
  | succ n ih => intro m; rw [upFrom, ih]; simp [upFrom]; omega
theorem upFrom_mem (n : Nat) : ∀ (m x : Int), x ∈ upFrom m n ↔ m ≤ x ∧ x < m + n := by
  induction n with
  | zero => intro m x; simp only [upFrom, List.not_mem_nil, false_iff]; omega
  | succ n ih => intro m x; simp only [upFrom, List.mem_cons, ih]; omega
theorem upFrom_nodup (n : Nat) : ∀ m, (upFrom m n).Nodup := by
  induction n with
  | zero => intro m; simp [upFrom]
  | succ n ih => intro m; simp only [upFrom, List.nodup_cons, ih, and_true, upFrom_mem]; omega
theorem nodup_inj {l : List Int} (h : l.Nodup) (i j : Nat) (hi : i < l.length) (hj : j < l.length) (e : l[i] = l[j]) : i = j := by
  have hp := List.pairwise_iff_getElem.1 h
  rcases Nat.lt_trichotomy i j with c | c | c
  · exact absurd e (hp i j hi hj c)
  · exact c
  · exact absurd e.symm (hp j i hj hi c)
theorem set_mid (pre : List Int) (x y : Int) (r : List Int) : (pre ++ y :: r).set pre.length x = (pre ++ [x]) ++ r := by simp
theorem lens {l pre r : List Int} (h : l = pre ++ r) : l.length = pre.length + r.length := by rw [h]; simp
theorem snoc_cast (pre : List Int) (x : Int) : ((pre ++ [x]).length : Int) = (pre.length : Int) + 1 := by simp

theorem laws_toIntS_loop (l : List Int) (hl : l.length ≤ 17592186044415) : ∀ (r pre : List Int), l = pre ++ r →
    Ev (fun k => laws_toIntS.l0 k l (pre ++ List.replicate r.length 0) (pre.length : Int)) l := by
  intro r
  induction r with
  | nil =>
    intro pre h
    have e := lens h
    simp only [List.length_nil] at e
    refine Ev.step (f := fun _ => some _) (fun k => ?_) (Ev.now _)
    simp only [laws_toIntS.l0]
    rw [if_neg (by omega)]
    simp [h]
  | cons x r ih =>
    intro pre h
    have e := lens h
    simp only [List.length_cons] at e
    refine Ev.step (fun k => ?_) (ih (pre ++ [x]) (snoc_eq h))
    simp only [laws_toIntS.l0]
    rw [if_pos (by omega), if_pos (by omega), if_pos (by simp; omega), rd_mid' h, snoc_len x (by omega), List.length_cons, List.replicate_succ, Int.toNat_natCast, set_mid]
theorem laws_toIntS_ev (l : List Int) (hl : l.length ≤ 17592186044415) : Ev (fun k => laws_toIntS.f k l) l := by
  unfold laws_toIntS.f
  have h := laws_toIntS_loop l hl l [] rfl
  simp only [if_pos (show 0 ≤ (l.length : Int) by omega), if_pos (show ((l.length : Int) : Int).toNat ≤ 35184372088832 by omega)]
  simpa using h

theorem laws_eqIntS_loop (a b : List Int) (hab : a.length = b.length) (hl : a.length ≤ 9223372036854775806) : ∀ (r s pre qre : List Int), a = pre ++ r → b = qre ++ s → pre.length = qre.length →
    Ev (fun k => laws_eqIntS.l0 k a b (pre.length : Int)) (decide (r = s)) := by
  intro r
  induction r with
  | nil =>
    intro s pre qre h h' hp
    have e := lens h
    have e' := lens h'
    simp only [List.length_nil] at e
    have hs : s = [] := List.eq_nil_of_length_eq_zero (by omega)
    refine Ev.step (f := fun _ => some _) (fun k => ?_) (Ev.now _)
    simp only [laws_eqIntS.l0]
    rw [if_neg (by omega), hs]
    simp
  | cons x r ih =>
    intro s pre qre h h' hp
    have e := lens h
    have e' := lens h'
    simp only [List.length_cons] at e
    cases s with
    | nil => simp only [List.length_nil] at e'; omega
    | cons y s =>
      have hy := rd_mid' h'
      rw [← hp] at hy
      by_cases c : x = y
      · subst c
        have hi := ih s (pre ++ [x]) (qre ++ [x]) (snoc_eq h) (snoc_eq h') (by simp [hp])
        have ed : decide (x :: r = x :: s) = decide (r = s) := by simp
        rw [ed]
        refine Ev.step (fun k => ?_) hi
        simp only [laws_eqIntS.l0]
        rw [if_pos (by omega), if_pos (by omega), if_pos (by omega), rd_mid' h, hy, if_pos rfl, snoc_len x (by omega)]
      · refine Ev.step (f := fun _ => some _) (fun k => ?_) (Ev.now _)
        simp only [laws_eqIntS.l0]
        rw [if_pos (by omega), if_pos (by omega), if_pos (by omega), rd_mid' h, hy, if_neg c]
        simp [c]
theorem laws_eqIntS_ev (a b : List Int) (hl : a.length ≤ 9223372036854775806) : Ev (fun k => laws_eqIntS.f k a b) (decide (a = b)) := by
  unfold laws_eqIntS.f
  by_cases h : (a.length : Int) = (b.length : Int)
  · simp only [if_pos h]
    exact laws_eqIntS_loop a b (by omega) hl a b [] [] rfl rfl rfl
  · simp only [if_neg h]
    exact ev_some fun _ => by rw [decide_eq_false (fun e => h (by rw [e]))]

/-- What every law of one list does: it hands a copy to the reference and one to the program, compares, and looks at the copy. -/
theorem ev_ite_true {α : Type} {f g : Nat → Option α} {r : α} {c : Prop} [Decidable c] (h : c) (k : Ev f r) : Ev (fun n => if c then f n else g n) r := by simpa only [if_pos h] using k
theorem ev_ite_false {α : Type} {f g : Nat → Option α} {r : α} {c : Prop} [Decidable c] (h : ¬ c) (k : Ev g r) : Ev (fun n => if c then f n else g n) r := by simpa only [if_neg h] using k

/-! ### permutations -/
def pokFrom (n : Nat) : List Int → List Int → Bool
  | _, [] => true
  | seen, x :: r => decide (0 ≤ x ∧ x < n) && (!decide (x ∈ seen) && pokFrom n (seen ++ [x]) r)
/-- A list of whole numbers is a permutation of at most 12 positions. -/
def permOk (a : List Int) : Bool := pokFrom a.length [] a && decide (a.length ≤ 12)
theorem pokFrom_iff (n : Nat) (r : List Int) : ∀ seen, pokFrom n seen r = true ↔ (∀ x ∈ r, 0 ≤ x ∧ x < n) ∧ r.Nodup ∧ (∀ x ∈ r, x ∉ seen) := by
  induction r with
  | nil => intro seen; simp [pokFrom]
  | cons x r ih =>
    intro seen
    simp only [pokFrom, Bool.and_eq_true, decide_eq_true_eq, Bool.not_eq_true', decide_eq_false_iff_not, ih, List.mem_cons, forall_eq_or_imp, List.nodup_cons, List.mem_append, List.not_mem_nil, or_false, not_or]
    constructor
    · rintro ⟨h1, h2, h3, h4, h5⟩
      exact ⟨⟨h1, h3⟩, ⟨fun hx => (h5 x hx).2 rfl, h4⟩, h2, fun y hy => (h5 y hy).1⟩
    · rintro ⟨⟨h1, h3⟩, ⟨h6, h4⟩, h2, h5⟩
      exact ⟨h1, h2, h3, h4, fun y hy => ⟨h5 y hy, fun e => h6 (e ▸ hy)⟩⟩
theorem permOk_iff (a : List Int) : permOk a = true ↔ (∀ x ∈ a, 0 ≤ x ∧ x < a.length) ∧ a.Nodup ∧ a.length ≤ 12 := by
  simp only [permOk, Bool.and_eq_true, pokFrom_iff, decide_eq_true_eq]
  simp [and_assoc]

def mxs (x : Int) (l : List Int) : Int := l.foldl mx x
def mns (x : Int) (l : List Int) : Int := l.foldl mn x
/-- The first k entries are consecutive numbers. -/
def prefB (a : List Int) (k : Nat) : Bool := decide (wrap64 (mxs (rd a 0) ((a.take k).drop 1) - mns (rd a 0) ((a.take k).drop 1)) = wrap64 ((k : Int) - 1))
def gilFrom (a : List Int) : Nat → Nat → Bool
  | 0, _ => true
  | d + 1, k => prefB a k && gilFrom a d (k + 1)
def isGilbreath (a : List Int) : Bool := permOk a && gilFrom a a.length 1
theorem take_head {a : List Int} {k : Nat} (hk : 1 ≤ k) (ha : 1 ≤ a.length) : a.take k = rd a 0 :: (a.take k).drop 1 := by
  cases a with
  | nil => simp at ha
  | cons x r =>
    cases k with
    | zero => omega
    | succ k => simp [rd]

def gilbreathCut (a : List Int) : Int := if isGilbreath a = true ∧ ¬ a.length = 0 then wrap64 (rd a 0 + 1) else -1

theorem spec_l02Has_loop (l : List Int) (v : Int) (hl : l.length ≤ 9223372036854775806) : ∀ (r pre : List Int), l = pre ++ r →
    Ev (fun k => spec_l02Has.l0 k v l (l.length : Int) (pre.length : Int)) (decide (v ∈ r)) := by
  intro r
  induction r with
  | nil =>
    intro pre h
    have e := lens h
    simp only [List.length_nil] at e
    refine Ev.step (f := fun _ => some _) (fun k => ?_) (Ev.now _)
    simp only [spec_l02Has.l0]
    rw [if_neg (by omega)]
    simp
  | cons x r ih =>
    intro pre h
    have e := lens h
    simp only [List.length_cons] at e
    by_cases c : x = v
    · refine Ev.step (f := fun _ => some _) (fun k => ?_) (Ev.now _)
      simp only [spec_l02Has.l0]
      rw [if_pos (by omega), if_pos (by omega), if_pos (by omega), rd_mid' h, if_pos c]
      simp [c]
    · have hi := ih (pre ++ [x]) (snoc_eq h)
      have ed : decide (v ∈ x :: r) = decide (v ∈ r) := by simp [show ¬ v = x from fun q => c q.symm]
      rw [ed]
      refine Ev.step (fun k => ?_) hi
      simp only [spec_l02Has.l0]
      rw [if_pos (by omega), if_pos (by omega), if_pos (by omega), rd_mid' h, if_neg c, snoc_len x (by omega)]
theorem spec_l02Has_ev (l : List Int) (v : Int) (hl : l.length ≤ 9223372036854775806) : Ev (fun k => spec_l02Has.f k l v) (decide (v ∈ l)) := by
  unfold spec_l02Has.f
  exact spec_l02Has_loop l v hl l [] rfl

theorem spec_l01In_eq (a b c : Int) : spec_l01In.f a b c = some (decide (b ≤ a ∧ a ≤ c)) := by
  unfold spec_l01In.f
  by_cases h : a ≥ b
  · rw [if_pos h]; simp; omega
  · rw [if_neg h]; simp; omega

theorem spec_PermOk_loop (a : List Int) (ha : a.length ≤ 9223372036854775806) : ∀ (r pre : List Int), a = pre ++ r →
    Ev (fun k => spec_PermOk.l0 k a a (a.length : Int) (pre.length : Int)) (pokFrom a.length pre r) := by
  intro r
  induction r with
  | nil =>
    intro pre h
    have e := lens h
    simp only [List.length_nil] at e
    refine Ev.step (f := fun _ => some _) (fun k => ?_) (Ev.now _)
    simp only [spec_PermOk.l0, pokFrom]
    rw [if_neg (by omega)]
  | cons x r ih =>
    intro pre h
    have e := lens h
    simp only [List.length_cons] at e
    have ht : a.take ((pre.length : Int).toNat) = pre := by rw [h]; simp
    have hw : wrap64 ((a.length : Int) - 1) = (a.length : Int) - 1 := w64 (by omega) (by omega)
    by_cases c0 : 0 ≤ x ∧ x < a.length
    · refine Ev.step (f := fun k => (spec_l02Has.f k pre x).bind fun t => if t = true then some false else spec_PermOk.l0 k a a (a.length : Int) ((pre ++ [x]).length : Int)) (fun k => ?_) ?_
      · simp only [spec_PermOk.l0]
        rw [if_pos (by omega), if_pos (by omega), if_pos (by omega), rd_mid' h, hw, spec_l01In_eq]
        simp only [Option.bind_some, decide_eq_true_eq]
        rw [if_pos (by omega), if_pos (by omega), ht, snoc_len x (by omega)]
      · refine Ev.bind (spec_l02Has_ev pre x (by omega)) ?_
        by_cases c2 : x ∈ pre
        · have ep : pokFrom a.length pre (x :: r) = false := by simp only [pokFrom]; simp [c2]
          rw [ep]
          exact ev_some fun _ => by simp [c2]
        · have ep : pokFrom a.length pre (x :: r) = pokFrom a.length (pre ++ [x]) r := by simp only [pokFrom]; rw [decide_eq_true c0]; simp [c2]
          rw [ep]
          simp only [c2, decide_false, Bool.false_eq_true, if_false]
          exact ih (pre ++ [x]) (snoc_eq h)
    · have ep : pokFrom a.length pre (x :: r) = false := by simp only [pokFrom]; rw [decide_eq_false c0]; rfl
      rw [ep]
      refine Ev.step (f := fun _ => some _) (fun k => ?_) (Ev.now _)
      simp only [spec_PermOk.l0]
      rw [if_pos (by omega), if_pos (by omega), if_pos (by omega), rd_mid' h, hw, spec_l01In_eq]
      simp only [Option.bind_some, decide_eq_true_eq]
      rw [if_neg (by omega)]
theorem spec_PermOk_ev (a : List Int) (ha : a.length ≤ 9223372036854775806) : Ev (fun k => spec_PermOk.f k a) (permOk a) := by
  unfold spec_PermOk.f permOk
  by_cases h : (a.length : Int) > 12
  · simp only [if_pos h]
    rw [decide_eq_false (show ¬ a.length ≤ 12 by omega), Bool.and_false]
    exact Ev.now _
  · simp only [if_neg h]
    rw [decide_eq_true (show a.length ≤ 12 by omega), Bool.and_true]
    exact spec_PermOk_loop a ha a [] rfl

theorem spec_l07Prefix_loop (l : List Int) (n : Int) (hl : l.length ≤ 9223372036854775806) : ∀ (r pre : List Int) (lo hi : Int), l = pre ++ r →
    Ev (fun k => spec_l07Prefix.l0 k n lo hi l (l.length : Int) (pre.length : Int)) (wrap64 (mxs hi r - mns lo r) == wrap64 (n - 1)) := by
  intro r
  induction r with
  | nil =>
    intro pre lo hi h
    have e := lens h
    simp only [List.length_nil] at e
    refine Ev.step (f := fun _ => some _) (fun k => ?_) (Ev.now _)
    simp only [spec_l07Prefix.l0]
    rw [if_neg (by omega)]
    rfl
  | cons x r ih =>
    intro pre lo hi h
    have e := lens h
    simp only [List.length_cons] at e
    refine Ev.step (fun k => ?_) (ih (pre ++ [x]) (mn lo x) (mx hi x) (snoc_eq h))
    simp only [spec_l07Prefix.l0]
    rw [if_pos (by omega), if_pos (by omega), if_pos (by omega), rd_mid' h, snoc_len x (by omega)]
theorem mx_self (x : Int) : mx x x = x := by unfold mx; simp
theorem mn_self (x : Int) : mn x x = x := by unfold mn; simp
theorem spec_l07Prefix_ev (a : List Int) (k : Nat) (hk : 1 ≤ k) (hk' : k ≤ a.length) (ha : a.length ≤ 9223372036854775806) : Ev (fun n => spec_l07Prefix.f n a (k : Int)) (prefB a k) := by
  unfold spec_l07Prefix.f
  refine ev_ite_true (by omega) (ev_ite_true (by omega) (ev_ite_true (by omega) ?_))
  simp only [Option.bind_some, Int.toNat_natCast]
  have ht := take_head (a := a) hk (by omega)
  have h := spec_l07Prefix_loop (a.take k) (k : Int) (by rw [List.length_take]; omega) (a.take k) [] (rd a 0) (rd a 0) rfl
  have e1 : mxs (rd a 0) (a.take k) = mxs (rd a 0) ((a.take k).drop 1) := by rw [ht]; simp [mxs, mx_self]
  have e2 : mns (rd a 0) (a.take k) = mns (rd a 0) ((a.take k).drop 1) := by rw [ht]; simp [mns, mn_self]
  rw [e1, e2] at h
  have e3 : (wrap64 (mxs (rd a 0) ((a.take k).drop 1) - mns (rd a 0) ((a.take k).drop 1)) == wrap64 ((k : Int) - 1)) = prefB a k := by
    unfold prefB
    rw [Bool.eq_iff_iff]
    simp
  rw [e3] at h
  exact h
theorem spec_IsGilbreath_loop (a : List Int) (ha : a.length ≤ 9223372036854775800) : ∀ (d k : Nat), k + d = a.length + 1 → 1 ≤ k → Ev (fun n => spec_IsGilbreath.l0 n a (k : Int)) (gilFrom a d k) := by
  intro d
  induction d with
  | zero =>
    intro k hk h1
    refine Ev.step (fun n => by rw [spec_IsGilbreath.l0]) ?_
    exact ev_ite_false (by omega) (Ev.now _)
  | succ d ih =>
    intro k hk h1
    have hw : wrap64 ((k : Int) + 1) = ((k + 1 : Nat) : Int) := by rw [w64 (by omega) (by omega)]; omega
    refine Ev.step (fun n => by rw [spec_IsGilbreath.l0]) ?_
    refine ev_ite_true (by omega) (Ev.bind (spec_l07Prefix_ev a k h1 (by omega) (by omega)) ?_)
    rw [gilFrom, hw]
    by_cases c : prefB a k = true
    · refine ev_ite_true c ?_
      rw [c, Bool.true_and]
      exact ih (k + 1) (by omega) (by omega)
    · refine ev_ite_false c ?_
      rw [show prefB a k = false by simpa using c, Bool.false_and]
      exact Ev.now _
theorem spec_IsGilbreath_ev (a : List Int) (ha : a.length ≤ 9223372036854775806) : Ev (fun k => spec_IsGilbreath.f k a) (isGilbreath a) := by
  unfold spec_IsGilbreath.f isGilbreath
  refine Ev.bind (spec_PermOk_ev a ha) ?_
  by_cases h : permOk a = true
  · have h12 := ((permOk_iff a).1 h).2.2
    refine ev_ite_true h ?_
    rw [h, Bool.true_and]
    exact spec_IsGilbreath_loop a (by omega) a.length 1 (by omega) (by omega)
  · refine ev_ite_false h ?_
    rw [show permOk a = false by simpa using h, Bool.false_and]
    exact Ev.now _

theorem spec_GilbreathCut_ev (a : List Int) (ha : a.length ≤ 9223372036854775806) : Ev (fun k => spec_GilbreathCut.f k a) (gilbreathCut a) := by
  unfold spec_GilbreathCut.f gilbreathCut
  refine Ev.bind (spec_IsGilbreath_ev a ha) ?_
  by_cases h : isGilbreath a = true
  · refine ev_ite_true h ?_
    by_cases h0 : a.length = 0
    · refine ev_ite_true (by omega) ?_
      rw [if_neg (fun q => q.2 h0)]
      exact Ev.now _
    · refine ev_ite_false (by omega) (ev_ite_true (by omega) ?_)
      rw [if_pos ⟨h, h0⟩]
      exact Ev.now _
  · refine ev_ite_false h ?_
    rw [if_neg (fun q => h q.1)]
    exact Ev.now _

/-! ### slices.Index, slices.Contains -/
def findFrom (v : Int) : Int → List Int → Int
  | _, [] => -1
  | i, x :: r => if v = x then i else findFrom v (i + 1) r
theorem findFrom_nonneg (v : Int) (l : List Int) : ∀ i : Int, 0 ≤ i → (0 ≤ findFrom v i l ↔ v ∈ l) := by
  induction l with
  | nil => intro i hi; simp [findFrom]
  | cons x r ih =>
    intro i hi
    simp only [findFrom, List.mem_cons]
    by_cases c : v = x
    · rw [if_pos c]; simp [c, hi]
    · rw [if_neg c, ih (i + 1) (by omega)]; simp [c]
theorem slices_Index_loop (l : List Int) (v : Int) (hl : l.length ≤ 9223372036854775806) : ∀ (r pre : List Int), l = pre ++ r →
    Ev (fun k => slices_Index_int_int.l0 k l v (l.length : Int) (pre.length : Int)) (findFrom v pre.length r) := by
  intro r
  induction r with
  | nil =>
    intro pre h
    refine Ev.step (f := fun _ => some _) (fun k => ?_) (Ev.now _)
    subst h
    simp only [slices_Index_int_int.l0, findFrom]
    rw [if_neg (by simp)]
  | cons x r ih =>
    intro pre h
    have hlen : l.length = pre.length + (r.length + 1) := by rw [h]; simp
    have hx := rd_mid' h
    have e : ((pre ++ [x]).length : Int) = (pre.length : Int) + 1 := by simp
    simp only [findFrom]
    by_cases c : v = x
    · rw [if_pos c]
      refine Ev.step (f := fun _ => some _) (fun k => ?_) (Ev.now _)
      simp only [slices_Index_int_int.l0]
      rw [if_pos (by omega), if_pos (by omega), if_pos (by omega), hx, if_pos c]
    · rw [if_neg c, ← e]
      refine Ev.step (fun k => ?_) (ih (pre ++ [x]) (snoc_eq h))
      simp only [slices_Index_int_int.l0]
      rw [if_pos (by omega), if_pos (by omega), if_pos (by omega), hx, if_neg c, snoc_len x (by omega)]
theorem slices_Contains_ev (l : List Int) (v : Int) (hl : l.length ≤ 9223372036854775806) : Ev (fun k => slices_Contains_int_int.f k l v) (decide (v ∈ l)) := by
  unfold slices_Contains_int_int.f slices_Index_int_int.f
  refine Ev.bind (slices_Index_loop l v hl l [] rfl) (ev_some fun _ => ?_)
  have := findFrom_nonneg v l 0 (by omega)
  simp only [List.length_nil, Int.ofNat_zero, Option.some.injEq, decide_eq_decide]
  exact this

theorem impl_PermOk_loop (a : List Int) (ha : a.length ≤ 9223372036854775806) : ∀ (r pre : List Int), a = pre ++ r →
    Ev (fun k => impl_PermOk.l0 k a a (a.length : Int) (pre.length : Int)) (pokFrom a.length pre r && decide (a.length ≤ 12)) := by
  intro r
  induction r with
  | nil =>
    intro pre h
    refine Ev.step (f := fun _ => some _) (fun k => ?_) (Ev.now _)
    have hlen : a.length = pre.length := by rw [h]; simp
    simp only [impl_PermOk.l0, pokFrom, Bool.true_and]
    rw [if_neg (by omega)]
    simp; omega
  | cons x r ih =>
    intro pre h
    have hlen : a.length = pre.length + (r.length + 1) := by rw [h]; simp
    have hx := rd_mid' h
    have ht : a.take ((pre.length : Int).toNat) = pre := by rw [h]; simp
    by_cases c0 : x < 0
    · have e : pokFrom a.length pre (x :: r) = false := by simp only [pokFrom]; rw [decide_eq_false (by omega)]; rfl
      rw [e, Bool.false_and]
      refine Ev.step (f := fun _ => some _) (fun k => ?_) (Ev.now _)
      simp only [impl_PermOk.l0]
      rw [if_pos (by omega), if_pos (by omega), if_pos (by omega), hx, if_pos c0]
    by_cases c1 : x ≥ (a.length : Int)
    · have e : pokFrom a.length pre (x :: r) = false := by simp only [pokFrom]; rw [decide_eq_false (by omega)]; rfl
      rw [e, Bool.false_and]
      refine Ev.step (f := fun _ => some _) (fun k => ?_) (Ev.now _)
      simp only [impl_PermOk.l0]
      rw [if_pos (by omega), if_pos (by omega), if_pos (by omega), hx, if_neg c0, if_pos c1]
    refine Ev.step (f := fun k => (slices_Contains_int_int.f k pre x).bind fun t => if t = true then some false else impl_PermOk.l0 k a a (a.length : Int) ((pre ++ [x]).length : Int)) (fun k => ?_) ?_
    · simp only [impl_PermOk.l0]
      rw [if_pos (by omega), if_pos (by omega), if_pos (by omega), hx, if_neg c0, if_neg c1, if_pos (by omega), ht, snoc_len x (by omega)]
    · refine Ev.bind (slices_Contains_ev pre x (by omega)) ?_
      by_cases c2 : x ∈ pre
      · have e : pokFrom a.length pre (x :: r) = false := by simp only [pokFrom]; simp [c2]
        rw [e, Bool.false_and]
        exact ev_some fun _ => by simp [c2]
      · have e : pokFrom a.length pre (x :: r) = pokFrom a.length (pre ++ [x]) r := by simp only [pokFrom]; rw [decide_eq_true (by omega)]; simp [c2]
        rw [e]
        simp only [c2, decide_false, Bool.false_eq_true, if_false]
        exact ih (pre ++ [x]) (snoc_eq h)
theorem impl_PermOk_ev (a : List Int) (ha : a.length ≤ 9223372036854775806) : Ev (fun k => impl_PermOk.f k a) (permOk a) := by
  unfold impl_PermOk.f permOk
  exact impl_PermOk_loop a ha a [] rfl

theorem slices_Max_loop (l : List Int) (hl : l.length ≤ 9223372036854775806) : ∀ (r pre : List Int) (m : Int), l = pre ++ r → Ev (fun k => slices_Max_int_int.l0 k l m (pre.length : Int)) (mxs m r) := by
  intro r
  induction r with
  | nil =>
    intro pre m h
    have e := lens h
    simp only [List.length_nil] at e
    refine Ev.step (f := fun _ => some _) (fun k => ?_) (Ev.now _)
    simp only [slices_Max_int_int.l0]
    rw [if_neg (by omega)]
    rfl
  | cons x r ih =>
    intro pre m h
    have e := lens h
    simp only [List.length_cons] at e
    refine Ev.step (fun k => ?_) (ih (pre ++ [x]) (mx m x) (snoc_eq h))
    simp only [slices_Max_int_int.l0]
    rw [if_pos (by omega), if_pos (by omega), rd_mid' h, snoc_len x (by omega)]
theorem slices_Min_loop (l : List Int) (hl : l.length ≤ 9223372036854775806) : ∀ (r pre : List Int) (m : Int), l = pre ++ r → Ev (fun k => slices_Min_int_int.l0 k l m (pre.length : Int)) (mns m r) := by
  intro r
  induction r with
  | nil =>
    intro pre m h
    have e := lens h
    simp only [List.length_nil] at e
    refine Ev.step (f := fun _ => some _) (fun k => ?_) (Ev.now _)
    simp only [slices_Min_int_int.l0]
    rw [if_neg (by omega)]
    rfl
  | cons x r ih =>
    intro pre m h
    have e := lens h
    simp only [List.length_cons] at e
    refine Ev.step (fun k => ?_) (ih (pre ++ [x]) (mn m x) (snoc_eq h))
    simp only [slices_Min_int_int.l0]
    rw [if_pos (by omega), if_pos (by omega), rd_mid' h, snoc_len x (by omega)]
theorem slices_Max_ev (x : Int) (r : List Int) (hl : (x :: r).length ≤ 9223372036854775806) : Ev (fun k => slices_Max_int_int.f k (x :: r)) (mxs x r) := by
  unfold slices_Max_int_int.f
  refine ev_ite_false (by simp only [List.length_cons]; omega) (ev_ite_true (by simp only [List.length_cons]; omega) ?_)
  exact slices_Max_loop (x :: r) hl r [x] x rfl
theorem slices_Min_ev (x : Int) (r : List Int) (hl : (x :: r).length ≤ 9223372036854775806) : Ev (fun k => slices_Min_int_int.f k (x :: r)) (mns x r) := by
  unfold slices_Min_int_int.f
  refine ev_ite_false (by simp only [List.length_cons]; omega) (ev_ite_true (by simp only [List.length_cons]; omega) ?_)
  exact slices_Min_loop (x :: r) hl r [x] x rfl
theorem impl_IsGilbreath_loop (a : List Int) (ha : a.length ≤ 9223372036854775806) (h : permOk a = true) : ∀ (d k : Nat), k + d = a.length + 1 → 1 ≤ k → Ev (fun n => impl_IsGilbreath.l0 n a (k : Int)) (gilFrom a d k) := by
  have h12 := ((permOk_iff a).1 h).2.2
  have hp := impl_PermOk_ev a ha
  rw [h] at hp
  intro d
  induction d with
  | zero =>
    intro k hk h1
    refine Ev.step (fun n => by rw [impl_IsGilbreath.l0]) ?_
    refine ev_ite_false (by omega) ?_
    refine Ev.step (fun n => by rw [impl_IsGilbreath.j1]) ?_
    refine ev_ite_false (by simp) (Ev.bind hp (Ev.now _))
  | succ d ih =>
    intro k hk h1
    have hw : wrap64 ((k : Int) + 1) = ((k + 1 : Nat) : Int) := by rw [w64 (by omega) (by omega)]; omega
    refine Ev.step (fun n => by rw [impl_IsGilbreath.l0]) ?_
    refine ev_ite_true (by omega) (Ev.bind hp ?_)
    refine Ev.step (fun n => by rw [impl_IsGilbreath.j1]) ?_
    refine ev_ite_true rfl (ev_ite_true (by omega) (ev_ite_true (by omega) ?_))
    simp only [Option.bind_some, Int.toNat_natCast]
    have ht := take_head (a := a) h1 (by omega)
    have hl : (a.take k).length ≤ 12 := by rw [List.length_take]; omega
    have hM := slices_Max_ev (rd a 0) ((a.take k).drop 1) (by rw [← ht]; omega)
    have hm := slices_Min_ev (rd a 0) ((a.take k).drop 1) (by rw [← ht]; omega)
    rw [← ht] at hM hm
    refine Ev.bind hM (Ev.bind hm ?_)
    rw [gilFrom]
    by_cases c : wrap64 (mxs (rd a 0) ((a.take k).drop 1) - mns (rd a 0) ((a.take k).drop 1)) = wrap64 ((k : Int) - 1)
    · refine ev_ite_true c ?_
      rw [hw, prefB, decide_eq_true c, Bool.true_and]
      exact ih (k + 1) (by omega) (by omega)
    · refine ev_ite_false c ?_
      rw [prefB, decide_eq_false c, Bool.false_and]
      exact Ev.now _
theorem impl_IsGilbreath_ev (a : List Int) (ha : a.length ≤ 9223372036854775806) : Ev (fun k => impl_IsGilbreath.f k a) (isGilbreath a) := by
  unfold impl_IsGilbreath.f isGilbreath
  by_cases h : permOk a = true
  · rw [h, Bool.true_and]
    exact impl_IsGilbreath_loop a ha h a.length 1 (by omega) (by omega)
  · have hf : permOk a = false := by simpa using h
    have hp := impl_PermOk_ev a ha
    rw [hf] at hp ⊢
    refine Ev.step (fun n => by rw [impl_IsGilbreath.l0]) ?_
    have hj : Ev (fun n => impl_IsGilbreath.j1 n a 1 false) false := by
      refine Ev.step (fun n => by rw [impl_IsGilbreath.j1]) ?_
      exact ev_ite_false (by simp) (Ev.bind hp (Ev.now _))
    by_cases c : (1 : Int) ≤ (a.length : Int)
    · exact ev_ite_true c (Ev.bind hp hj)
    · exact ev_ite_false c hj

theorem impl_GilbreathCut_ev (a : List Int) (ha : a.length ≤ 9223372036854775806) : Ev (fun k => impl_GilbreathCut.f k a) (gilbreathCut a) := by
  unfold impl_GilbreathCut.f gilbreathCut
  refine Ev.bind (impl_IsGilbreath_ev a ha) ?_
  by_cases h : isGilbreath a = true
  · refine ev_ite_true h ?_
    by_cases h0 : a.length = 0
    · refine ev_ite_true (by omega) ?_
      rw [if_neg (fun q => q.2 h0)]
      exact Ev.now _
    · refine ev_ite_false (by omega) (ev_ite_true (by omega) ?_)
      rw [if_pos ⟨h, h0⟩]
      exact Ev.now _
  · refine ev_ite_false h ?_
    rw [if_neg (fun q => h q.1)]
    exact Ev.now _

theorem FnExactGilbreathCut : laws_FnExactGilbreathCut.Pure := by
  intro a ha_ ha' wa
  unfold laws_FnExactGilbreathCut.f
  by_cases ga : (a.length : Int) > 1048576
  · exact ⟨0, by rw [if_pos ga]⟩
  simp only [if_neg ga]
  have ta := laws_toIntS_ev a (by omega)
  refine Ev.rounds ?_
  refine Ev.bind ta (Ev.bind (spec_GilbreathCut_ev a (by omega)) (Ev.bind ta (Ev.bind (impl_GilbreathCut_ev a (by omega)) ?_)))
  simp only [if_true]
  refine Ev.bind ta (Ev.bind (laws_eqIntS_ev _ _ (by omega)) ?_)
  simp only [decide_true, if_true]
  exact Ev.now _

end Go.Proofs.Ytaeicjfkdkjplaa.Pure
