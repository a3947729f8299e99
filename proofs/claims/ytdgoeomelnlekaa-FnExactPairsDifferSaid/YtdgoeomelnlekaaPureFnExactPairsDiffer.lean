/- For all arguments, the program's PairsDiffer answers as the reference's does, and leaves its arguments alone. No conditions. -/
import Derived.Test.YtdgoeomelnlekaaMFnExactPairsDifferx0
import Derived.Test.YtdgoeomelnlekaaMFnExactPairsDifferx1
import Derived.Test.YtdgoeomelnlekaaMFnExactPairsDifferx2
import Derived.OpenShut
namespace Go.Proofs.Ytdgoeomelnlekaa.Pure
open Go.RowKit Go.Proofs.Ytdgoeomelnlekaa.MFnExactPairsDiffer Go.Proofs.YtdgoeomelnlekaaW.PrintWords Go.Proofs.YtdgoeomelnlekaaW.PrintLast
set_option linter.unusedVariables false
set_option linter.unusedSimpArgs false

/-! ### base: numbers, reads, loops -/
theorem w64 {a : Int} (h0 : -9223372036854775808 ≤ a) (h1 : a ≤ 9223372036854775807) : wrap64 a = a := by
  unfold wrap64
  omega
theorem w64n {n : Nat} (h : n ≤ 9223372036854775807) : wrap64 (n : Int) = n := w64 (by omega) (by omega)
theorem bd64 {n : Int} (h : (Lit.int .i64 n).wf = true) : -9223372036854775808 ≤ n ∧ n ≤ 9223372036854775807 := Go.bounds_i64 h
theorem rd_nat (xs : List Int) (i : Nat) : rd xs (i : Int) = xs.getD i 0 := by simp [rd]
theorem rd_lt {xs : List Int} {i : Nat} (h : i < xs.length) : rd xs (i : Int) = xs[i] := by simp [rd, h]
theorem bt_nat {s : ByteArray} {i : Nat} (h : i < s.size) : bt s (i : Int) = (s[i].toNat : Int) := by simp [bt, h]
/-- Going up to n: what holds at n holds from i on. -/
theorem up_ind (n : Nat) (P : Nat → Prop) (h0 : P n) (hs : ∀ i, i < n → P (i + 1) → P i) : ∀ i, i ≤ n → P i := by
  have h : ∀ d i, i + d = n → P i := by
    intro d
    induction d with
    | zero => intro i hi; obtain rfl : i = n := by omega
              exact h0
    | succ d ih => intro i hi; exact hs i (by omega) (ih (i + 1) (by omega))
  intro i hi
  exact h (n - i) i (by omega)
theorem ev_some {α : Type} {g : Nat → Option α} {r : α} (h : ∀ k, g k = some r) : Ev g r := ⟨0, fun k _ => h k⟩
theorem ev_pair {α β : Type} {g : Nat → Option α} {f : Nat → Option β} {a : α} {b : β} {h : α → β → Option Bool} (hg : Ev g a) (hf : Ev f b) (hh : h a b = some true) : ∃ k, ((g k).bind fun x => (f k).bind fun y => h x y) = some true :=
  Ev.rounds (Ev.bind hg (Ev.bind hf (ev_some fun _ => hh)))

/-! ### lists -/
theorem rd_mid (pre : List Int) (x : Int) (r : List Int) : rd (pre ++ x :: r) (pre.length : Int) = x := by simp [rd]
theorem rd_mid' {l pre : List Int} {x : Int} {r : List Int} (h : l = pre ++ x :: r) : rd l (pre.length : Int) = x := by subst h; exact rd_mid _ _ _
theorem snoc_eq {l pre : List Int} {x : Int} {r : List Int} (h : l = pre ++ x :: r) : l = (pre ++ [x]) ++ r := by simp [h]
theorem snoc_len {pre : List Int} (x : Int) (h : pre.length ≤ 9223372036854775806) : wrap64 ((pre.length : Int) + 1) = ((pre ++ [x]).length : Int) := by
  rw [w64 (by omega) (by omega)]; simp
/-- The whole numbers from m on, n of them. -/
def upFrom (m : Int) : Nat → List Int
  | 0 => []
  | n + 1 => m :: upFrom (m + 1) n
theorem upFrom_length (n : Nat) : ∀ m, (upFrom m n).length = n := by
  induction n with
  | zero => intro m; rfl
  | succ n ih => intro m; simp [upFrom, ih]
theorem upFrom_get (n : Nat) : ∀ (m : Int) (i : Nat) (h : i < (upFrom m n).length), (upFrom m n)[i] = m + i := by
  induction n with
  | zero => intro m i h; simp [upFrom] at h
  | succ n ih =>
    intro m i h
    cases i with
    | zero => simp [upFrom]
    | succ i => simp only [upFrom, List.getElem_cons_succ]; rw [ih]; omega
theorem upFrom_snoc (n : Nat) : ∀ m, upFrom m (n + 1) = upFrom m n ++ [m + n] := by
  induction n with
  | zero => intro m; simp [upFrom]
  | succ n ih => intro m; rw [upFrom, ih]; simp [upFrom]; omega
theorem upFrom_mem (n : Nat) : ∀ (m x : Int), x ∈ upFrom m n ↔ m ≤ x ∧ x < m + n := by
  induction n with
  | zero => intro m x; simp only [upFrom, List.not_mem_nil, false_iff]; omega
  | succ n ih => intro m x; simp only [upFrom, List.mem_cons, ih]; omega
theorem upFrom_nodup (n : Nat) : ∀ m, (upFrom m n).Nodup := by
  induction n with
  | zero => intro m; simp [upFrom]
  | succ n ih => intro m; simp only [upFrom, List.nodup_cons, ih, and_true, upFrom_mem]; omega
theorem nodup_inj {l : List Int} (h : l.Nodup) (i j : Nat) (hi : i < l.length) (hj : j < l.length) (e : l[i] = l[j]) : i = j := by
  have hp := List.pairwise_iff_getElem.1 h
  rcases Nat.lt_trichotomy i j with c | c | c
  · exact absurd e (hp i j hi hj c)
  · exact c
  · exact absurd e.symm (hp j i hj hi c)
theorem set_mid (pre : List Int) (x y : Int) (r : List Int) : (pre ++ y :: r).set pre.length x = (pre ++ [x]) ++ r := by simp
theorem lens {l pre r : List Int} (h : l = pre ++ r) : l.length = pre.length + r.length := by rw [h]; simp
theorem snoc_cast (pre : List Int) (x : Int) : ((pre ++ [x]).length : Int) = (pre.length : Int) + 1 := by simp

theorem laws_toIntS_loop (l : List Int) (hl : l.length ≤ 17592186044415) : ∀ (r pre : List Int), l = pre ++ r →
    Ev (fun k => laws_toIntS.l0 k l (pre ++ List.replicate r.length 0) (pre.length : Int)) l := by
  intro r
  induction r with
  | nil =>
    intro pre h
    have e := lens h
    simp only [List.length_nil] at e
    refine Ev.step (f := fun _ => some _) (fun k => ?_) (Ev.now _)
    simp only [laws_toIntS.l0]
    rw [if_neg (by omega)]
    simp [h]
  | cons x r ih =>
    intro pre h
    have e := lens h
    simp only [List.length_cons] at e
    refine Ev.step (fun k => ?_) (ih (pre ++ [x]) (snoc_eq h))
    simp only [laws_toIntS.l0]
    rw [if_pos (by omega), if_pos (by omega), if_pos (by simp; omega), rd_mid' h, snoc_len x (by omega), List.length_cons, List.replicate_succ, Int.toNat_natCast, set_mid]
theorem laws_toIntS_ev (l : List Int) (hl : l.length ≤ 17592186044415) : Ev (fun k => laws_toIntS.f k l) l := by
  unfold laws_toIntS.f
  have h := laws_toIntS_loop l hl l [] rfl
  simp only [if_pos (show 0 ≤ (l.length : Int) by omega), if_pos (show ((l.length : Int) : Int).toNat ≤ 35184372088832 by omega)]
  simpa using h

theorem laws_eqIntS_loop (a b : List Int) (hab : a.length = b.length) (hl : a.length ≤ 9223372036854775806) : ∀ (r s pre qre : List Int), a = pre ++ r → b = qre ++ s → pre.length = qre.length →
    Ev (fun k => laws_eqIntS.l0 k a b (pre.length : Int)) (decide (r = s)) := by
  intro r
  induction r with
  | nil =>
    intro s pre qre h h' hp
    have e := lens h
    have e' := lens h'
    simp only [List.length_nil] at e
    have hs : s = [] := List.eq_nil_of_length_eq_zero (by omega)
    refine Ev.step (f := fun _ => some _) (fun k => ?_) (Ev.now _)
    simp only [laws_eqIntS.l0]
    rw [if_neg (by omega), hs]
    simp
  | cons x r ih =>
    intro s pre qre h h' hp
    have e := lens h
    have e' := lens h'
    simp only [List.length_cons] at e
    cases s with
    | nil => simp only [List.length_nil] at e'; omega
    | cons y s =>
      have hy := rd_mid' h'
      rw [← hp] at hy
      by_cases c : x = y
      · subst c
        have hi := ih s (pre ++ [x]) (qre ++ [x]) (snoc_eq h) (snoc_eq h') (by simp [hp])
        have ed : decide (x :: r = x :: s) = decide (r = s) := by simp
        rw [ed]
        refine Ev.step (fun k => ?_) hi
        simp only [laws_eqIntS.l0]
        rw [if_pos (by omega), if_pos (by omega), if_pos (by omega), rd_mid' h, hy, if_pos rfl, snoc_len x (by omega)]
      · refine Ev.step (f := fun _ => some _) (fun k => ?_) (Ev.now _)
        simp only [laws_eqIntS.l0]
        rw [if_pos (by omega), if_pos (by omega), if_pos (by omega), rd_mid' h, hy, if_neg c]
        simp [c]
theorem laws_eqIntS_ev (a b : List Int) (hl : a.length ≤ 9223372036854775806) : Ev (fun k => laws_eqIntS.f k a b) (decide (a = b)) := by
  unfold laws_eqIntS.f
  by_cases h : (a.length : Int) = (b.length : Int)
  · simp only [if_pos h]
    exact laws_eqIntS_loop a b (by omega) hl a b [] [] rfl rfl rfl
  · simp only [if_neg h]
    exact ev_some fun _ => by rw [decide_eq_false (fun e => h (by rw [e]))]

/-- What every law of one list does: it hands a copy to the reference and one to the program, compares, and looks at the copy. -/
theorem ev_ite_true {α : Type} {f g : Nat → Option α} {r : α} {c : Prop} [Decidable c] (h : c) (k : Ev f r) : Ev (fun n => if c then f n else g n) r := by simpa only [if_pos h] using k
theorem ev_ite_false {α : Type} {f g : Nat → Option α} {r : α} {c : Prop} [Decidable c] (h : ¬ c) (k : Ev g r) : Ev (fun n => if c then f n else g n) r := by simpa only [if_neg h] using k

/-- The reds and blacks, at most twelve. -/
def colorsOk (l : List Int) : Bool := decide (l.length ≤ 12) && l.all (fun c => c == 0 || c == 1)

/-- No neighbour (of the looked-at ones) is of the same color, from i on. -/
def prsFrom (l : List Int) : Nat → Nat → Bool
  | 0, _ => true
  | d + 1, i => if i < l.length then (if rd l i = rd l ((i : Int) - 1) then false else prsFrom l d (i + 2)) else true
def prsOk (l : List Int) : Bool := colorsOk l && prsFrom l l.length 1

theorem spec_l07Colors_loop (l : List Int) (hl : l.length ≤ 9223372036854775806) : ∀ (r pre : List Int), l = pre ++ r →
    Ev (fun k => spec_l07Colors.l0 k l (l.length : Int) (pre.length : Int)) (r.all (fun c => c == 0 || c == 1)) := by
  intro r
  induction r with
  | nil =>
    intro pre h
    have e := lens h
    simp only [List.length_nil] at e
    refine Ev.step (f := fun _ => some _) (fun k => ?_) (Ev.now _)
    simp only [spec_l07Colors.l0]
    rw [if_neg (by omega)]
    simp
  | cons x r ih =>
    intro pre h
    have e := lens h
    simp only [List.length_cons] at e
    have hi := ih (pre ++ [x]) (snoc_eq h)
    by_cases c0 : x = 0
    · have ed : (x :: r).all (fun c => c == 0 || c == 1) = r.all (fun c => c == 0 || c == 1) := by simp [c0]
      rw [ed]
      refine Ev.step (fun k => ?_) hi
      simp only [spec_l07Colors.l0]
      rw [if_pos (by omega), if_pos (by omega), if_pos (by omega), rd_mid' h, if_pos c0, snoc_len x (by omega)]
    · by_cases c1 : x = 1
      · have ed : (x :: r).all (fun c => c == 0 || c == 1) = r.all (fun c => c == 0 || c == 1) := by simp [c1]
        rw [ed]
        refine Ev.step (fun k => ?_) hi
        simp only [spec_l07Colors.l0]
        rw [if_pos (by omega), if_pos (by omega), if_pos (by omega), rd_mid' h, if_neg c0, if_pos c1, snoc_len x (by omega)]
      · have ed : (x :: r).all (fun c => c == 0 || c == 1) = false := by simp [c0, c1]
        rw [ed]
        refine Ev.step (f := fun _ => some _) (fun k => ?_) (Ev.now _)
        simp only [spec_l07Colors.l0]
        rw [if_pos (by omega), if_pos (by omega), if_pos (by omega), rd_mid' h, if_neg c0, if_neg c1]
theorem spec_l07Colors_ev (l : List Int) (hl : l.length ≤ 9223372036854775806) : Ev (fun k => spec_l07Colors.f k l) (colorsOk l) := by
  unfold spec_l07Colors.f colorsOk
  by_cases g : (l.length : Int) > 12
  · refine ev_ite_true g ?_
    rw [decide_eq_false (by omega)]
    exact Ev.now _
  · refine ev_ite_false g ?_
    rw [decide_eq_true (by omega), Bool.true_and]
    exact spec_l07Colors_loop l hl l [] rfl

theorem spec_PairsDiffer_loop (l : List Int) (hl : l.length ≤ 4611686018427387904) : ∀ (d i : Nat), l.length ≤ i + d → 1 ≤ i → i ≤ l.length + 2 →
    Ev (fun k => spec_PairsDiffer.l0 k l (i : Int)) (prsFrom l d i) := by
  intro d
  induction d with
  | zero =>
    intro i h hi hj
    refine Ev.step (f := fun _ => some _) (fun k => ?_) (Ev.now _)
    simp only [spec_PairsDiffer.l0, prsFrom]
    rw [if_neg (by omega)]
  | succ d ih =>
    intro i h hi hj
    by_cases c : i < l.length
    · have ew : wrap64 ((i : Int) - 1) = (i : Int) - 1 := w64 (by omega) (by omega)
      have en : wrap64 ((i : Int) + 2) = ((i + 2 : Nat) : Int) := by rw [w64 (by omega) (by omega)]; omega
      by_cases e : rd l (i : Int) = rd l ((i : Int) - 1)
      · refine Ev.step (f := fun _ => some _) (fun k => ?_) (Ev.now _)
        simp only [spec_PairsDiffer.l0, prsFrom]
        rw [ew, if_pos (by omega), if_pos (by omega), if_pos (by omega), if_pos (by omega), if_pos e, if_pos c, if_pos e]
      · rw [prsFrom, if_pos c, if_neg e]
        refine Ev.step (fun k => ?_) (ih (i + 2) (by omega) (by omega) (by omega))
        simp only [spec_PairsDiffer.l0]
        rw [ew, en, if_pos (by omega), if_pos (by omega), if_pos (by omega), if_pos (by omega), if_neg e]
    · refine Ev.step (f := fun _ => some _) (fun k => ?_) (Ev.now _)
      simp only [spec_PairsDiffer.l0, prsFrom]
      rw [if_neg (by omega), if_neg c]
theorem spec_PairsDiffer_ev (l : List Int) (hl : l.length ≤ 4611686018427387904) : Ev (fun k => spec_PairsDiffer.f k l) (prsOk l) := by
  unfold spec_PairsDiffer.f prsOk
  refine Ev.bind (spec_l07Colors_ev l (by omega)) ?_
  by_cases c : colorsOk l = true
  · refine ev_ite_true c ?_
    rw [c, Bool.true_and]
    exact spec_PairsDiffer_loop l hl l.length 1 (by omega) (by omega) (by omega)
  · refine ev_ite_false c ?_
    rw [Bool.not_eq_true] at c
    rw [c, Bool.false_and]
    exact Ev.now _

theorem impl_areColors_eq (l : List Int) : impl_areColors.f l 12 = some (colorsOk l) := by
  unfold impl_areColors.f colorsOk
  have e : (!l.any noColor) = l.all (fun c => c == 0 || c == 1) := by
    rw [List.not_any_eq_all_not]
    congr 1
    funext c
    simp only [noColor, bne, Bool.not_and, Bool.not_not]
  rw [e]
  by_cases g : l.length ≤ 12
  · rw [if_pos (by omega), decide_eq_true g, Bool.true_and]
  · rw [if_neg (by omega), decide_eq_false g, Bool.false_and]

theorem impl_PairsDiffer_loop (l : List Int) (hl : l.length ≤ 4611686018427387904) : ∀ (d i : Nat), l.length ≤ i + d → 1 ≤ i → i ≤ l.length + 2 →
    Ev (fun k => impl_PairsDiffer.l0 k l (i : Int)) (colorsOk l && prsFrom l d i) := by
  intro d
  induction d with
  | zero =>
    intro i h hi hj
    refine Ev.step (f := fun _ => some _) (fun k => ?_) (Ev.now _)
    simp only [impl_PairsDiffer.l0, prsFrom, impl_areColors_eq, Option.bind_some]
    rw [if_neg (by omega), Bool.and_true]
  | succ d ih =>
    intro i h hi hj
    by_cases c : i < l.length
    · have ew : wrap64 ((i : Int) - 1) = (i : Int) - 1 := w64 (by omega) (by omega)
      have en : wrap64 ((i : Int) + 2) = ((i + 2 : Nat) : Int) := by rw [w64 (by omega) (by omega)]; omega
      by_cases e : rd l (i : Int) = rd l ((i : Int) - 1)
      · refine Ev.step (f := fun _ => some _) (fun k => ?_) (Ev.now _)
        simp only [impl_PairsDiffer.l0, prsFrom]
        rw [ew, if_pos (by omega), if_pos (by omega), if_pos (by omega), if_pos (by omega), if_pos e.symm, if_pos c, if_pos e, Bool.and_false]
      · rw [prsFrom, if_pos c, if_neg e]
        refine Ev.step (fun k => ?_) (ih (i + 2) (by omega) (by omega) (by omega))
        simp only [impl_PairsDiffer.l0]
        rw [ew, en, if_pos (by omega), if_pos (by omega), if_pos (by omega), if_pos (by omega), if_neg (fun q => e q.symm)]
    · refine Ev.step (f := fun _ => some _) (fun k => ?_) (Ev.now _)
      simp only [impl_PairsDiffer.l0, prsFrom, impl_areColors_eq, Option.bind_some]
      rw [if_neg (by omega), if_neg c, Bool.and_true]
theorem impl_PairsDiffer_ev (l : List Int) (hl : l.length ≤ 4611686018427387904) : Ev (fun k => impl_PairsDiffer.f k l) (prsOk l) := impl_PairsDiffer_loop l hl l.length 1 (by omega) (by omega) (by omega)

theorem FnExactPairsDiffer : laws_FnExactPairsDiffer.Pure := by
  intro a ha_ ha' wa
  unfold laws_FnExactPairsDiffer.f
  by_cases ga : (a.length : Int) > 1048576
  · exact ⟨0, by rw [if_pos ga]⟩
  simp only [if_neg ga]
  have ta := laws_toIntS_ev a (by omega)
  refine Ev.rounds ?_
  refine Ev.bind ta (Ev.bind (spec_PairsDiffer_ev a (by omega)) (Ev.bind ta (Ev.bind (impl_PairsDiffer_ev a (by omega)) ?_)))
  simp only [bne_self_eq_false, Bool.false_eq_true, if_false]
  refine Ev.bind ta (Ev.bind (laws_eqIntS_ev _ _ (by omega)) ?_)
  simp only [decide_true, if_true]
  exact Ev.now _

end Go.Proofs.Ytdgoeomelnlekaa.Pure
