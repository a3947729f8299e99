/- For all arguments, the program's UnshuffleTo answers as the reference's does, leaves its arguments alone, and answers in memory of its own. No conditions. -/
import Derived.Test.YtojbjofngpcjaaaMFnExactUnshuffleTox0
import Derived.Test.YtojbjofngpcjaaaMFnExactUnshuffleTox1
import Derived.Test.YtojbjofngpcjaaaMFnExactUnshuffleTox2
import Derived.Test.YtojbjofngpcjaaaMFnExactUnshuffleTox3
import Derived.Test.YtojbjofngpcjaaaMFnExactUnshuffleTox4
import Derived.Test.YtojbjofngpcjaaaMFnExactUnshuffleTox5
import Derived.Test.YtojbjofngpcjaaaMFnExactUnshuffleTox6
import Derived.OpenShut
namespace Go.Proofs.Ytojbjofngpcjaaa.Pure
open Go.RowKit Go.Proofs.Ytojbjofngpcjaaa.MFnExactUnshuffleTo Go.Proofs.YtojbjofngpcjaaaW.PrintWords Go.Proofs.YtojbjofngpcjaaaW.PrintLast
set_option linter.unusedVariables false
set_option linter.unusedSimpArgs false

/-! ### base: numbers, reads, loops -/
theorem w64 {a : Int} (h0 : -9223372036854775808 ≤ a) (h1 : a ≤ 9223372036854775807) : wrap64 a = a := by
  unfold wrap64
  omega
theorem w64n {n : Nat} (h : n ≤ 9223372036854775807) : wrap64 (n : Int) = n := w64 (by omega) (by omega)
theorem bd64 {n : Int} (h : (Lit.int .i64 n).wf = true) : -9223372036854775808 ≤ n ∧ n ≤ 9223372036854775807 := Go.bounds_i64 h
theorem rd_nat (xs : List Int) (i : Nat) : rd xs (i : Int) = xs.getD i 0 := by simp [rd]
theorem rd_lt {xs : List Int} {i : Nat} (h : i < xs.length) : rd xs (i : Int) = xs[i] := by simp [rd, h]
theorem bt_nat {s : ByteArray} {i : Nat} (h : i < s.size) : bt s (i : Int) = (s[i].toNat : Int) := by simp [bt, h]
/-- Going up to n: what holds at n holds from i on. -/
theorem up_ind (n : Nat) (P : Nat → Prop) (h0 : P n) (hs : ∀ i, i < n → P (i + 1) → P i) : ∀ i, i ≤ n → P i := by
  have h : ∀ d i, i + d = n → P i := by
    intro d
    induction d with
    | zero => intro i hi; obtain rfl : i = n := by omega
              exact h0
    | succ d ih => intro i hi; exact hs i (by omega) (ih (i + 1) (by omega))
  intro i hi
  exact h (n - i) i (by omega)
theorem ev_some {α : Type} {g : Nat → Option α} {r : α} (h : ∀ k, g k = some r) : Ev g r := ⟨0, fun k _ => h k⟩
theorem ev_pair {α β : Type} {g : Nat → Option α} {f : Nat → Option β} {a : α} {b : β} {h : α → β → Option Bool} (hg : Ev g a) (hf : Ev f b) (hh : h a b = some true) : ∃ k, ((g k).bind fun x => (f k).bind fun y => h x y) = some true :=
  Ev.rounds (Ev.bind hg (Ev.bind hf (ev_some fun _ => hh)))

/-! ### lists -/
theorem rd_mid (pre : List Int) (x : Int) (r : List Int) : rd (pre ++ x :: r) (pre.length : Int) = x := by simp [rd]
theorem rd_mid' {l pre : List Int} {x : Int} {r : List Int} (h : l = pre ++ x :: r) : rd l (pre.length : Int) = x := by subst h; exact rd_mid _ _ _
theorem snoc_eq {l pre : List Int} {x : Int} {r : List Int} (h : l = pre ++ x :: r) : l = (pre ++ [x]) ++ r := by simp [h]
theorem snoc_len {pre : List Int} (x : Int) (h : pre.length ≤ 9223372036854775806) : wrap64 ((pre.length : Int) + 1) = ((pre ++ [x]).length : Int) := by
  rw [w64 (by omega) (by omega)]; simp
/-- The whole numbers from m on, n of them. -/
def upFrom (m : Int) : Nat → List Int
  | 0 => []
  | n + 1 => m :: upFrom (m + 1) n
theorem upFrom_length (n : Nat) : ∀ m, (upFrom m n).length = n := by
  induction n with
  | zero => intro m; rfl
  | succ n ih => intro m; simp [upFrom, ih]
theorem upFrom_get (n : Nat) : ∀ (m : Int) (i : Nat) (h : i < (upFrom m n).length), (upFrom m n)[i] = m + i := by
  induction n with
  | zero => intro m i h; simp [upFrom] at h
  | succ n ih =>
    intro m i h
    cases i with
    | zero => simp [upFrom]
    | succ i => simp only [upFrom, List.getElem_cons_succ]; rw [ih]; omega
theorem upFrom_snoc (n : Nat) : ∀ m, upFrom m (n + 1) = upFrom m n ++ [m + n] := by
  induction n with
  | zero => intro m; simp [upFrom]
  | succ n ih => intro m; rw [upFrom, ih]; simp [upFrom]; omega
theorem upFrom_mem (n : Nat) : ∀ (m x : Int), x ∈ upFrom m n ↔ m ≤ x ∧ x < m + n := by
  induction n with
  | zero => intro m x; simp only [upFrom, List.not_mem_nil, false_iff]; omega
  | succ n ih => intro m x; simp only [upFrom, List.mem_cons, ih]; omega
theorem upFrom_nodup (n : Nat) : ∀ m, (upFrom m n).Nodup := by
  induction n with
  | zero => intro m; simp [upFrom]
  | succ n ih => intro m; simp only [upFrom, List.nodup_cons, ih, and_true, upFrom_mem]; omega
theorem nodup_inj {l : List Int} (h : l.Nodup) (i j : Nat) (hi : i < l.length) (hj : j < l.length) (e : l[i] = l[j]) : i = j := by
  have hp := List.pairwise_iff_getElem.1 h
  rcases Nat.lt_trichotomy i j with c | c | c
  · exact absurd e (hp i j hi hj c)
  · exact c
  · exact absurd e.symm (hp j i hj hi c)
theorem set_mid (pre : List Int) (x y : Int) (r : List Int) : (pre ++ y :: r).set pre.length x = (pre ++ [x]) ++ r := by simp
theorem lens {l pre r : List Int} (h : l = pre ++ r) : l.length = pre.length + r.length := by rw [h]; simp
theorem snoc_cast (pre : List Int) (x : Int) : ((pre ++ [x]).length : Int) = (pre.length : Int) + 1 := by simp

theorem laws_toIntS_loop (l : List Int) (hl : l.length ≤ 17592186044415) : ∀ (r pre : List Int), l = pre ++ r →
    Ev (fun k => laws_toIntS.l0 k l (pre ++ List.replicate r.length 0) (pre.length : Int)) l := by
  intro r
  induction r with
  | nil =>
    intro pre h
    have e := lens h
    simp only [List.length_nil] at e
    refine Ev.step (f := fun _ => some _) (fun k => ?_) (Ev.now _)
    simp only [laws_toIntS.l0]
    rw [if_neg (by omega)]
    simp [h]
  | cons x r ih =>
    intro pre h
    have e := lens h
    simp only [List.length_cons] at e
    refine Ev.step (fun k => ?_) (ih (pre ++ [x]) (snoc_eq h))
    simp only [laws_toIntS.l0]
    rw [if_pos (by omega), if_pos (by omega), if_pos (by simp; omega), rd_mid' h, snoc_len x (by omega), List.length_cons, List.replicate_succ, Int.toNat_natCast, set_mid]
theorem laws_toIntS_ev (l : List Int) (hl : l.length ≤ 17592186044415) : Ev (fun k => laws_toIntS.f k l) l := by
  unfold laws_toIntS.f
  have h := laws_toIntS_loop l hl l [] rfl
  simp only [if_pos (show 0 ≤ (l.length : Int) by omega), if_pos (show ((l.length : Int) : Int).toNat ≤ 35184372088832 by omega)]
  simpa using h

theorem laws_eqIntS_loop (a b : List Int) (hab : a.length = b.length) (hl : a.length ≤ 9223372036854775806) : ∀ (r s pre qre : List Int), a = pre ++ r → b = qre ++ s → pre.length = qre.length →
    Ev (fun k => laws_eqIntS.l0 k a b (pre.length : Int)) (decide (r = s)) := by
  intro r
  induction r with
  | nil =>
    intro s pre qre h h' hp
    have e := lens h
    have e' := lens h'
    simp only [List.length_nil] at e
    have hs : s = [] := List.eq_nil_of_length_eq_zero (by omega)
    refine Ev.step (f := fun _ => some _) (fun k => ?_) (Ev.now _)
    simp only [laws_eqIntS.l0]
    rw [if_neg (by omega), hs]
    simp
  | cons x r ih =>
    intro s pre qre h h' hp
    have e := lens h
    have e' := lens h'
    simp only [List.length_cons] at e
    cases s with
    | nil => simp only [List.length_nil] at e'; omega
    | cons y s =>
      have hy := rd_mid' h'
      rw [← hp] at hy
      by_cases c : x = y
      · subst c
        have hi := ih s (pre ++ [x]) (qre ++ [x]) (snoc_eq h) (snoc_eq h') (by simp [hp])
        have ed : decide (x :: r = x :: s) = decide (r = s) := by simp
        rw [ed]
        refine Ev.step (fun k => ?_) hi
        simp only [laws_eqIntS.l0]
        rw [if_pos (by omega), if_pos (by omega), if_pos (by omega), rd_mid' h, hy, if_pos rfl, snoc_len x (by omega)]
      · refine Ev.step (f := fun _ => some _) (fun k => ?_) (Ev.now _)
        simp only [laws_eqIntS.l0]
        rw [if_pos (by omega), if_pos (by omega), if_pos (by omega), rd_mid' h, hy, if_neg c]
        simp [c]
theorem laws_eqIntS_ev (a b : List Int) (hl : a.length ≤ 9223372036854775806) : Ev (fun k => laws_eqIntS.f k a b) (decide (a = b)) := by
  unfold laws_eqIntS.f
  by_cases h : (a.length : Int) = (b.length : Int)
  · simp only [if_pos h]
    exact laws_eqIntS_loop a b (by omega) hl a b [] [] rfl rfl rfl
  · simp only [if_neg h]
    exact ev_some fun _ => by rw [decide_eq_false (fun e => h (by rw [e]))]

theorem laws_markIntS_loop : ∀ (r pre : List Int) (m : Int), 0 ≤ m → m + r.length ≤ 9223372036854775806 → pre.length + r.length ≤ 9223372036854775806 →
    Ev (fun k => laws_markIntS.l0 k (pre ++ r) m (pre.length : Int)) (m + r.length, pre ++ upFrom m r.length) := by
  intro r
  induction r with
  | nil =>
    intro pre m h0 h1 h2
    refine Ev.step (f := fun _ => some _) (fun k => ?_) (Ev.now _)
    simp only [laws_markIntS.l0]
    rw [if_neg (by simp)]
    simp [upFrom]
  | cons x r ih =>
    intro pre m h0 h1 h2
    simp only [List.length_cons] at h1 h2
    have hi := ih (pre ++ [m]) (m + 1) (by omega) (by omega) (by simp; omega)
    have er : ((m + 1 + r.length : Int), (pre ++ [m]) ++ upFrom (m + 1) r.length) = (m + (x :: r).length, pre ++ upFrom m (x :: r).length) := by
      simp [upFrom]; omega
    rw [er] at hi
    refine Ev.step (fun k => ?_) hi
    simp only [laws_markIntS.l0]
    rw [if_pos (by simp; omega), if_pos (by omega), w64 (by omega) (by omega), snoc_len m (by omega), Int.toNat_natCast, set_mid]
theorem laws_markIntS_ev (l : List Int) (m : Int) (h0 : 0 ≤ m) (h1 : m + l.length ≤ 9223372036854775806) :
    Ev (fun k => laws_markIntS.f k l m) (m + l.length, upFrom m l.length) := by
  unfold laws_markIntS.f
  exact laws_markIntS_loop l [] m h0 h1 (by simp; omega)
theorem laws_heldIntS_loop (l : List Int) (hl : l.length ≤ 9223372036854775806) : ∀ (n : Nat) (pre : List Int) (m : Int), 0 ≤ m → m + n ≤ 9223372036854775806 → l = pre ++ upFrom m n →
    Ev (fun k => laws_heldIntS.l0 k l m (pre.length : Int)) (m + n) := by
  intro n
  induction n with
  | zero =>
    intro pre m h0 h1 h
    have e := lens h
    simp only [upFrom_length] at e
    refine Ev.step (f := fun _ => some _) (fun k => ?_) (Ev.now _)
    simp only [laws_heldIntS.l0]
    rw [if_neg (by omega)]
    simp
  | succ n ih =>
    intro pre m h0 h1 h
    have e := lens h
    simp only [upFrom_length] at e
    have hi := ih (pre ++ [m]) (m + 1) (by omega) (by omega) (by rw [h]; simp [upFrom])
    have er : m + 1 + (n : Int) = m + (n + 1 : Nat) := by omega
    rw [er] at hi
    refine Ev.step (fun k => ?_) hi
    simp only [laws_heldIntS.l0]
    rw [if_pos (by omega), if_pos (by omega), rd_mid' (by rw [h, upFrom]), if_pos rfl, w64 (by omega) (by omega), snoc_len m (by omega)]
theorem laws_heldIntS_ev (m : Int) (n : Nat) (h0 : 0 ≤ m) (h1 : m + n ≤ 9223372036854775806) :
    Ev (fun k => laws_heldIntS.f k (upFrom m n) m) (m + n) := by
  unfold laws_heldIntS.f
  exact laws_heldIntS_loop (upFrom m n) (by rw [upFrom_length]; omega) n [] m h0 h1 rfl

def total (r : List (List Int)) : Nat := (r.map List.length).sum
def markAll : Int → List (List Int) → List (List Int)
  | _, [] => []
  | m, l :: r => upFrom m l.length :: markAll (m + l.length) r
theorem markAll_length (r : List (List Int)) : ∀ m, (markAll m r).length = r.length := by
  induction r with
  | nil => intro m; rfl
  | cons l r ih => intro m; simp [markAll, ih]
theorem total_cons (l : List Int) (r : List (List Int)) : total (l :: r) = l.length + total r := by simp [total]
theorem getD_mid (pre : List (List Int)) (x : List Int) (r : List (List Int)) : (pre ++ x :: r).getD pre.length [] = x := by simp
theorem set_midL (pre : List (List Int)) (x y : List Int) (r : List (List Int)) : (pre ++ y :: r).set pre.length x = (pre ++ [x]) ++ r := by simp
theorem laws_markIntSS_loop : ∀ (r pre : List (List Int)) (m : Int), 0 ≤ m → m + total r ≤ 9223372036854775806 → pre.length + r.length ≤ 9223372036854775806 →
    Ev (fun k => laws_markIntSS.l0 k (pre ++ r) m (pre.length : Int)) (m + total r, pre ++ markAll m r) := by
  intro r
  induction r with
  | nil =>
    intro pre m h0 h1 h2
    refine Ev.step (f := fun _ => some _) (fun k => ?_) (Ev.now _)
    simp only [laws_markIntSS.l0]
    rw [if_neg (by simp)]
    simp [markAll, total]
  | cons l r ih =>
    intro pre m h0 h1 h2
    rw [total_cons] at h1
    simp only [List.length_cons] at h2
    have hi := ih (pre ++ [upFrom m l.length]) (m + l.length) (by omega) (by omega) (by simp; omega)
    have er : ((m + l.length + total r : Int), (pre ++ [upFrom m l.length]) ++ markAll (m + l.length) r) = (m + (total (l :: r) : Nat), pre ++ markAll m (l :: r)) := by
      rw [total_cons]; simp [markAll]; omega
    rw [er] at hi
    refine Ev.step (f := fun k => (laws_markIntS.f k l m).bind fun b => laws_markIntSS.l0 k ((pre ++ l :: r).set pre.length b.2) b.1 (wrap64 ((pre.length : Int) + 1))) (fun k => ?_) (Ev.bind (laws_markIntS_ev l m h0 (by omega)) ?_)
    · simp only [laws_markIntSS.l0]
      rw [if_pos (by simp; omega), if_pos (by omega), Int.toNat_natCast, getD_mid]
    · have ew : wrap64 ((pre.length : Int) + 1) = ((pre ++ [upFrom m l.length]).length : Int) := by rw [w64 (by omega) (by omega)]; simp
      simp only [set_midL, ew]
      exact hi
theorem laws_markIntSS_ev (r : List (List Int)) (m : Int) (h0 : 0 ≤ m) (h1 : m + total r ≤ 9223372036854775806) (h2 : r.length ≤ 9223372036854775806) :
    Ev (fun k => laws_markIntSS.f k r m) (m + total r, markAll m r) := by
  unfold laws_markIntSS.f
  exact laws_markIntSS_loop r [] m h0 h1 (by simp; omega)
theorem laws_heldIntSS_loop (l : List (List Int)) : ∀ (r pre : List (List Int)) (m : Int), 0 ≤ m → m + total r ≤ 9223372036854775806 → pre.length + r.length ≤ 9223372036854775806 → l = pre ++ markAll m r →
    Ev (fun k => laws_heldIntSS.l0 k l m (pre.length : Int)) (m + total r) := by
  intro r
  induction r with
  | nil =>
    intro pre m h0 h1 h2 h
    refine Ev.step (f := fun _ => some _) (fun k => ?_) (Ev.now _)
    simp only [laws_heldIntSS.l0]
    rw [if_neg (by rw [h]; simp [markAll])]
    simp [total]
  | cons x r ih =>
    intro pre m h0 h1 h2 h
    rw [total_cons] at h1
    simp only [List.length_cons] at h2
    have hl : l.length = pre.length + (r.length + 1) := by rw [h]; simp [markAll, markAll_length]
    have hi := ih (pre ++ [upFrom m x.length]) (m + x.length) (by omega) (by omega) (by simp; omega) (by rw [h]; simp [markAll])
    have er : m + (x.length : Int) + (total r : Int) = m + (total (x :: r) : Nat) := by rw [total_cons]; omega
    rw [er] at hi
    have hrd : rd_L1 l (pre.length : Int) = upFrom m x.length := by rw [h, markAll]; simp [rd_L1]
    refine Ev.step (f := fun k => (laws_heldIntS.f k (upFrom m x.length) m).bind fun t => if t < 0 then some (-1) else laws_heldIntSS.l0 k l t (wrap64 ((pre.length : Int) + 1))) (fun k => ?_) (Ev.bind (laws_heldIntS_ev m x.length h0 (by omega)) ?_)
    · simp only [laws_heldIntSS.l0]
      rw [if_pos (by omega), if_pos (by omega), hrd]
    · have ew : wrap64 ((pre.length : Int) + 1) = ((pre ++ [upFrom m x.length]).length : Int) := by rw [w64 (by omega) (by omega)]; simp
      simp only [if_neg (show ¬ (m + (x.length : Int) < 0) by omega), ew]
      exact hi
theorem laws_heldIntSS_ev (r : List (List Int)) (m : Int) (h0 : 0 ≤ m) (h1 : m + total r ≤ 9223372036854775806) (h2 : r.length ≤ 9223372036854775806) :
    Ev (fun k => laws_heldIntSS.f k (markAll m r) m) (m + total r) := by
  unfold laws_heldIntSS.f
  exact laws_heldIntSS_loop (markAll m r) r [] m h0 h1 (by simp; omega) rfl
theorem laws_eqIntSS_loop (l : List (List Int)) (hs : ∀ x ∈ l, x.length ≤ 9223372036854775806) (hl : l.length ≤ 9223372036854775806) : ∀ (r pre : List (List Int)), l = pre ++ r →
    Ev (fun k => laws_eqIntSS.l0 k l l (pre.length : Int)) true := by
  intro r
  induction r with
  | nil =>
    intro pre h
    refine Ev.step (f := fun _ => some _) (fun k => ?_) (Ev.now _)
    simp only [laws_eqIntSS.l0]
    rw [if_neg (by rw [h]; simp)]
  | cons x r ih =>
    intro pre h
    have e : l.length = pre.length + (r.length + 1) := by rw [h]; simp
    have hi := ih (pre ++ [x]) (by rw [h]; simp)
    have hrd : rd_L1 l (pre.length : Int) = x := by rw [h]; simp [rd_L1]
    refine Ev.step (f := fun k => (laws_eqIntS.f k x x).bind fun t => if t = true then laws_eqIntSS.l0 k l l (wrap64 ((pre.length : Int) + 1)) else some false) (fun k => ?_) (Ev.bind (laws_eqIntS_ev x x (hs x (by rw [h]; simp))) ?_)
    · simp only [laws_eqIntSS.l0]
      rw [if_pos (by omega), if_pos (by omega), if_pos (by omega), hrd]
    · have ew : wrap64 ((pre.length : Int) + 1) = ((pre ++ [x]).length : Int) := by rw [w64 (by omega) (by omega)]; simp
      simp only [decide_true, if_true, ew]
      exact hi
theorem laws_eqIntSS_ev (l : List (List Int)) (hs : ∀ x ∈ l, x.length ≤ 9223372036854775806) (hl : l.length ≤ 9223372036854775806) : Ev (fun k => laws_eqIntSS.f k l l) true := by
  unfold laws_eqIntSS.f
  simp only [if_true]
  exact laws_eqIntSS_loop l hs hl l [] rfl
theorem total_le (r : List (List Int)) (b : Nat) (h : ∀ l ∈ r, l.length ≤ b) : total r ≤ r.length * b := by
  induction r with
  | nil => simp [total]
  | cons l r ih =>
    rw [total_cons, List.length_cons, Nat.succ_mul]
    have := ih (fun x hx => h x (by simp [hx]))
    have := h l (by simp)
    omega
theorem mem_total {r : List (List Int)} {l : List Int} (h : l ∈ r) : l.length ≤ total r := by
  induction r with
  | nil => simp at h
  | cons x r ih =>
    rw [total_cons]
    rcases List.mem_cons.1 h with rfl | h
    · omega
    · have := ih h; omega
/-- What a law asks of lists that were handed out, at one number of rounds. -/
theorem all_at {α β : Type} {f : Nat → Option α} {g : Nat → Option β} {a : α} {b : β} (hf : Ev f a) (hg : Ev g b) : ∃ K, ∀ k, K ≤ k → f k = some a ∧ g k = some b := by
  obtain ⟨K, h⟩ := hf
  obtain ⟨M, i⟩ := hg
  exact ⟨K + M, fun k hk => ⟨h k (by omega), i k (by omega)⟩⟩
theorem and_at {p q : Nat → Prop} (hp : ∃ K, ∀ k, K ≤ k → p k) (hq : ∃ K, ∀ k, K ≤ k → q k) : ∃ K, ∀ k, K ≤ k → p k ∧ q k := by
  obtain ⟨K, h⟩ := hp
  obtain ⟨M, i⟩ := hq
  exact ⟨K + M, fun k hk => ⟨h k (by omega), i k (by omega)⟩⟩
/-- Marked and held: the lists that were handed out are the law's own. -/
theorem lists_held (r : List (List Int)) (h2 : r.length ≤ 1048576) (h1 : total r ≤ 1048576) : ∃ mm r', 0 ≤ mm ∧ r'.length = r.length ∧ (∃ K, ∀ k, K ≤ k → laws_eqIntSS.f k r r = some true ∧ laws_markIntSS.f k r 1 = some (mm, r') ∧ laws_heldIntSS.f k r' 1 = some mm) :=
  ⟨1 + total r, markAll 1 r, by omega, markAll_length r 1, and_at (laws_eqIntSS_ev r (fun x hx => by have := mem_total hx; omega) (by omega)) (all_at (laws_markIntSS_ev r 1 (by omega) (by omega) (by omega)) (laws_heldIntSS_ev r 1 (by omega) (by omega) (by omega)))⟩

/-- What every law of one list does: it hands a copy to the reference and one to the program, compares, and looks at the copy. -/
theorem ev_ite_true {α : Type} {f g : Nat → Option α} {r : α} {c : Prop} [Decidable c] (h : c) (k : Ev f r) : Ev (fun n => if c then f n else g n) r := by simpa only [if_pos h] using k
theorem ev_ite_false {α : Type} {f g : Nat → Option α} {r : α} {c : Prop} [Decidable c] (h : ¬ c) (k : Ev g r) : Ev (fun n => if c then f n else g n) r := by simpa only [if_neg h] using k

/-! ### permutations -/
def pokFrom (n : Nat) : List Int → List Int → Bool
  | _, [] => true
  | seen, x :: r => decide (0 ≤ x ∧ x < n) && (!decide (x ∈ seen) && pokFrom n (seen ++ [x]) r)
/-- A list of whole numbers is a permutation of at most 12 positions. -/
def permOk (a : List Int) : Bool := pokFrom a.length [] a && decide (a.length ≤ 12)
theorem pokFrom_iff (n : Nat) (r : List Int) : ∀ seen, pokFrom n seen r = true ↔ (∀ x ∈ r, 0 ≤ x ∧ x < n) ∧ r.Nodup ∧ (∀ x ∈ r, x ∉ seen) := by
  induction r with
  | nil => intro seen; simp [pokFrom]
  | cons x r ih =>
    intro seen
    simp only [pokFrom, Bool.and_eq_true, decide_eq_true_eq, Bool.not_eq_true', decide_eq_false_iff_not, ih, List.mem_cons, forall_eq_or_imp, List.nodup_cons, List.mem_append, List.not_mem_nil, or_false, not_or]
    constructor
    · rintro ⟨h1, h2, h3, h4, h5⟩
      exact ⟨⟨h1, h3⟩, ⟨fun hx => (h5 x hx).2 rfl, h4⟩, h2, fun y hy => (h5 y hy).1⟩
    · rintro ⟨⟨h1, h3⟩, ⟨h6, h4⟩, h2, h5⟩
      exact ⟨h1, h2, h3, h4, fun y hy => ⟨h5 y hy, fun e => h6 (e ▸ hy)⟩⟩
theorem permOk_iff (a : List Int) : permOk a = true ↔ (∀ x ∈ a, 0 ≤ x ∧ x < a.length) ∧ a.Nodup ∧ a.length ≤ 12 := by
  simp only [permOk, Bool.and_eq_true, pokFrom_iff, decide_eq_true_eq]
  simp [and_assoc]

def invFrom : List Int → Int → List Int → List Int
  | m, _, [] => m
  | m, i, x :: r => invFrom (m.set x.toNat i) (i + 1) r
/-- The inverse of a permutation. -/
def inverse (a : List Int) : List Int := invFrom (List.replicate a.length 0) 0 a
theorem invFrom_length (r : List Int) : ∀ m i, (invFrom m i r).length = m.length := by
  induction r with
  | nil => intro m i; rfl
  | cons x r ih => intro m i; simp [invFrom, ih]
theorem inverse_length (a : List Int) : (inverse a).length = a.length := by simp [inverse, invFrom_length]
theorem rd_set_ne {m : List Int} {x y i : Int} (hx : 0 ≤ x) (hy : 0 ≤ y) (h : x ≠ y) : rd (m.set x.toNat i) y = rd m y := by
  have : x.toNat ≠ y.toNat := by omega
  simp [rd, List.getElem?_set, this]
theorem rd_set_eq {m : List Int} {x i : Int} (hx : 0 ≤ x) (h : x < m.length) : rd (m.set x.toNat i) x = i := by
  have : x.toNat < m.length := by omega
  simp [rd, List.getElem?_set, this]
theorem invFrom_keep (r : List Int) : ∀ (m : List Int) (i y : Int), 0 ≤ y → y ∉ r → (∀ x ∈ r, 0 ≤ x) → rd (invFrom m i r) y = rd m y := by
  induction r with
  | nil => intro m i y _ _ _; rfl
  | cons x r ih =>
    intro m i y hy hn hp
    simp only [List.mem_cons, not_or] at hn
    have hx := hp x (by simp)
    rw [invFrom, ih _ _ y hy hn.2 (fun z hz => hp z (by simp [hz])), rd_set_ne hx hy (fun e => hn.1 e.symm)]
theorem invFrom_get (r : List Int) : ∀ (m : List Int) (i : Int), (∀ x ∈ r, 0 ≤ x ∧ x < m.length) → r.Nodup → ∀ (j : Nat) (h : j < r.length), rd (invFrom m i r) (r[j]) = i + j := by
  induction r with
  | nil => intro m i _ _ j h; simp at h
  | cons x r ih =>
    intro m i hp hn j h
    simp only [List.nodup_cons] at hn
    have hx := hp x (by simp)
    cases j with
    | zero =>
      simp only [List.getElem_cons_zero]
      rw [invFrom, invFrom_keep r _ _ x hx.1 hn.1 (fun z hz => (hp z (by simp [hz])).1), rd_set_eq hx.1 hx.2]
      simp
    | succ j =>
      simp only [List.getElem_cons_succ]
      rw [invFrom, ih _ _ (fun z hz => by rw [List.length_set]; exact hp z (by simp [hz])) hn.2 j (by simpa using h)]
      omega
theorem inverse_get {a : List Int} (hp : ∀ x ∈ a, 0 ≤ x ∧ x < a.length) (hn : a.Nodup) (j : Nat) (h : j < a.length) : rd (inverse a) (a[j]) = j := by
  unfold inverse
  rw [invFrom_get a _ 0 (fun x hx => by simpa using hp x hx) hn j h]
  omega

theorem nodup_le (l : List Int) : ∀ m : List Int, l.Nodup → (∀ x ∈ l, x ∈ m) → l.length ≤ m.length := by
  induction l with
  | nil => intro m _ _; simp
  | cons x l ih =>
    intro m hn hs
    simp only [List.nodup_cons] at hn
    have hx : x ∈ m := hs x (by simp)
    have h := ih (m.erase x) hn.2 (fun y hy => (List.mem_erase_of_ne (fun e => hn.1 (by rw [← e]; exact hy))).2 (hs y (by simp [hy])))
    rw [List.length_erase_of_mem hx] at h
    have := List.length_pos_of_mem hx
    simp only [List.length_cons]
    omega
theorem perm_surj {a : List Int} (hp : ∀ x ∈ a, 0 ≤ x ∧ x < a.length) (hn : a.Nodup) (v : Int) (h0 : 0 ≤ v) (h1 : v < a.length) : v ∈ a := by
  apply Decidable.byContradiction
  intro hv
  have h := nodup_le (v :: a) (upFrom 0 a.length) (by simp [hv, hn]) (fun y hy => by
    rw [upFrom_mem]
    rcases List.mem_cons.1 hy with rfl | hy
    · omega
    · have := hp y hy; omega)
  rw [upFrom_length] at h
  simp only [List.length_cons] at h
  omega
/-- Where a value of a permutation stands. -/
theorem perm_at {a : List Int} (hp : ∀ x ∈ a, 0 ≤ x ∧ x < a.length) (hn : a.Nodup) (v : Int) (h0 : 0 ≤ v) (h1 : v < a.length) : ∃ j : Nat, ∃ h : j < a.length, a[j] = v ∧ rd (inverse a) v = j := by
  obtain ⟨j, h, e⟩ := List.getElem_of_mem (perm_surj hp hn v h0 h1)
  exact ⟨j, h, e, by rw [← e]; exact inverse_get hp hn j h⟩

/-- The card of a cell, or -1. -/
def cardOf (x : Int) : Int := if 0 ≤ x then (if x ≤ 11 then x else -1) else (if -12 ≤ x then -1 - x else -1)

def posFrom (c : Int) : Int → List Int → Int
  | _, [] => -1
  | i, x :: r => if cardOf x = c then i else posFrom c (i + 1) r
/-- Where a card lies in a packet, or -1. -/
def positionOf (l : List Int) (c : Int) : Int := if 0 ≤ c then posFrom c 0 l else -1
theorem posFrom_get (c : Int) (l : List Int) : ∀ (i : Int) (j : Nat) (h : j < l.length), cardOf (l[j]) = c → (∀ (m : Nat) (h' : m < l.length), m < j → cardOf (l[m]) ≠ c) → posFrom c i l = i + j := by
  induction l with
  | nil => intro i j h; simp at h
  | cons x r ih =>
    intro i j h hc hm
    rw [posFrom]
    cases j with
    | zero => rw [if_pos (show cardOf x = c from hc)]; simp
    | succ j =>
      rw [if_neg (show ¬ cardOf x = c from hm 0 (by simp) (by omega)), ih (i + 1) j (by simpa using h) hc (fun m h' hl => hm (m + 1) (by simpa using h') (by omega))]
      omega
theorem posFrom_nonneg (c : Int) (l : List Int) : ∀ i : Int, 0 ≤ i → (0 ≤ posFrom c i l ↔ ∃ x ∈ l, cardOf x = c) := by
  induction l with
  | nil => intro i hi; simp [posFrom]
  | cons x r ih =>
    intro i hi
    rw [posFrom]
    by_cases h : cardOf x = c
    · rw [if_pos h]; simp [h, hi]
    · rw [if_neg h, ih (i + 1) (by omega)]; simp [h]

/-! ### rising sequences -/
def addLast (out : List (List Int)) (v : Int) : List (List Int) := out.set (out.length - 1) (out.getD (out.length - 1) [] ++ [v])
def riseFrom (at_ : Int → Int) : Nat → List (List Int) → Int → List (List Int)
  | 0, out, _ => out
  | n + 1, out, v => riseFrom at_ n (if v = 0 ∨ at_ v < at_ (v - 1) then out ++ [[v]] else addLast out v) (v + 1)
/-- The rising sequences of a permutation. -/
def rising (a : List Int) : List (List Int) := if permOk a = true then riseFrom (fun v => rd (inverse a) v) a.length [] 0 else []
theorem addLast_length (out : List (List Int)) (v : Int) : (addLast out v).length = out.length := by simp [addLast]
/-- No more and no longer than so. -/
def Small (out : List (List Int)) (n : Nat) : Prop := out.length ≤ n ∧ ∀ l ∈ out, l.length ≤ n
theorem Small.last {out : List (List Int)} {n : Nat} (h : Small out n) : (out.getD (out.length - 1) []).length ≤ n := by
  by_cases hl : out.length - 1 < out.length
  · have e : out.getD (out.length - 1) [] = out[out.length - 1] := by simp [hl]
    rw [e]
    exact h.2 _ (List.getElem_mem hl)
  · have e : out = [] := List.eq_nil_of_length_eq_zero (by omega)
    subst e
    simp
theorem Small.new {out : List (List Int)} {n : Nat} (h : Small out n) (v : Int) : Small (out ++ [[v]]) (n + 1) := by
  refine ⟨by simp; exact h.1, fun l hl => ?_⟩
  rcases List.mem_append.1 hl with hl | hl
  · have := h.2 l hl; omega
  · simp at hl; subst hl; simp
theorem Small.more {out : List (List Int)} {n : Nat} (h : Small out n) (v : Int) : Small (addLast out v) (n + 1) := by
  refine ⟨by rw [addLast_length]; have := h.1; omega, fun l hl => ?_⟩
  rcases List.mem_or_eq_of_mem_set hl with hl | hl
  · have := h.2 l hl; omega
  · have := h.last
    rw [hl, List.length_append]
    simp only [List.length_cons, List.length_nil]
    omega
theorem riseFrom_small (at_ : Int → Int) (n : Nat) : ∀ (m : Nat) (out : List (List Int)) (v : Int), Small out m → Small (riseFrom at_ n out v) (m + n) := by
  induction n with
  | zero => intro m out v h; exact h
  | succ n ih =>
    intro m out v h
    rw [riseFrom]
    have e : m + (n + 1) = (m + 1) + n := by omega
    rw [e]
    by_cases c : v = 0 ∨ at_ v < at_ (v - 1)
    · rw [if_pos c]; exact ih _ _ _ (h.new v)
    · rw [if_neg c]; exact ih _ _ _ (h.more v)
theorem rising_small (a : List Int) : Small (rising a) 12 := by
  unfold rising
  by_cases h : permOk a = true
  · rw [if_pos h]
    have h3 := ((permOk_iff a).1 h).2.2
    have hs := riseFrom_small (fun v => rd (inverse a) v) a.length 0 [] 0 ⟨by simp, by simp⟩
    refine ⟨by have := hs.1; omega, fun l hl => by have := hs.2 l hl; omega⟩
  · rw [if_neg h]
    exact ⟨by simp, by simp⟩
theorem set_new (out : List (List Int)) (v : Int) : (out ++ [[]]).set out.length (((out ++ [[]]).getD out.length []) ++ [v]) = out ++ [[v]] := by simp

def fillRow {α : Type} (v : α) : List α → List Int → List α
  | m, [] => m
  | m, x :: r => fillRow v (m.set x.toNat v) r
def fillAll {α : Type} (g : Nat → α) : Nat → List α → List (List Int) → List α
  | _, m, [] => m
  | i, m, l :: r => fillAll g (i + 1) (fillRow (g i) m l) r
theorem fillRow_length {α : Type} (v : α) (r : List Int) : ∀ m : List α, (fillRow v m r).length = m.length := by
  induction r with
  | nil => intro m; rfl
  | cons x r ih => intro m; rw [fillRow, ih, List.length_set]
theorem fillAll_length {α : Type} (g : Nat → α) (r : List (List Int)) : ∀ (i : Nat) (m : List α), (fillAll g i m r).length = m.length := by
  induction r with
  | nil => intro i m; rfl
  | cons l r ih => intro i m; rw [fillAll, ih, fillRow_length]
theorem fillRow_map {α β : Type} (h : α → β) (v : α) (r : List Int) : ∀ m : List α, (fillRow v m r).map h = fillRow (h v) (m.map h) r := by
  induction r with
  | nil => intro m; rfl
  | cons x r ih => intro m; rw [fillRow, ih, fillRow, List.map_set]
theorem fillAll_map {α β : Type} (h : α → β) (g : Nat → α) (r : List (List Int)) : ∀ (i : Nat) (m : List α), (fillAll g i m r).map h = fillAll (fun j => h (g j)) i (m.map h) r := by
  induction r with
  | nil => intro i m; rfl
  | cons l r ih => intro i m; rw [fillAll, ih, fillAll, fillRow_map]
/-- For each card the index of its rising sequence. -/
def partsOf (a : List Int) : List Int := fillAll (fun i => (i : Int)) 0 (List.replicate a.length 0) (rising a)
def oddOf (a : List Int) : List Bool := fillAll (fun i => Int.tmod (i : Int) 2 == 1) 0 (List.replicate a.length false) (rising a)
theorem oddOf_parts (a : List Int) : oddOf a = (partsOf a).map (fun p => Int.tmod p 2 == 1) := by
  rw [partsOf, fillAll_map, List.map_replicate]
  rfl
theorem partsOf_length (a : List Int) : (partsOf a).length = a.length := by rw [partsOf, fillAll_length, List.length_replicate]
theorem oddOf_length (a : List Int) : (oddOf a).length = a.length := by rw [oddOf, fillAll_length, List.length_replicate]
theorem fillRow_mem {α : Type} (v : α) (r : List Int) : ∀ (m : List α) (y : α), y ∈ fillRow v m r → y = v ∨ y ∈ m := by
  induction r with
  | nil => intro m y h; exact .inr h
  | cons x r ih =>
    intro m y h
    rcases ih _ y h with h | h
    · exact .inl h
    · rcases List.mem_or_eq_of_mem_set h with h | h
      · exact .inr h
      · exact .inl h
theorem fillAll_mem {α : Type} (g : Nat → α) (r : List (List Int)) : ∀ (i : Nat) (m : List α) (y : α), y ∈ fillAll g i m r → y ∈ m ∨ ∃ j, i ≤ j ∧ j < i + r.length ∧ y = g j := by
  induction r with
  | nil => intro i m y h; exact .inl h
  | cons l r ih =>
    intro i m y h
    rcases ih _ _ y h with h | ⟨j, h1, h2, h3⟩
    · rcases fillRow_mem _ _ _ _ h with h | h
      · exact .inr ⟨i, Nat.le_refl _, by simp, h⟩
      · exact .inl h
    · exact .inr ⟨j, by omega, by simp; omega, h3⟩
theorem partsOf_bound (a : List Int) : ∀ y ∈ partsOf a, 0 ≤ y ∧ y ≤ 12 := by
  intro y h
  have hs := (rising_small a).1
  rcases fillAll_mem _ _ _ _ _ h with h | ⟨j, h1, h2, h3⟩
  · have := List.eq_of_mem_replicate h; omega
  · omega
/-- Whether a card's rising sequence has an odd index. -/
def oddAt (a : List Int) (x : Int) : Bool := Int.tmod (rd (partsOf a) x) 2 == 1
theorem oddAt_odd {a : List Int} {x : Int} (h0 : 0 ≤ x) (h1 : x < a.length) : rdOf false (oddOf a) x = oddAt a x := by
  have hl := partsOf_length a
  have hn : x.toNat < (partsOf a).length := by omega
  have e : rdOf false ((partsOf a).map (fun p => Int.tmod p 2 == 1)) x = (Int.tmod ((partsOf a)[x.toNat]) 2 == 1) := by
    simp [rdOf, hn]
  have e2 : rd (partsOf a) x = (partsOf a)[x.toNat] := by
    have := rd_lt (xs := partsOf a) (i := x.toNat) hn
    rwa [Int.toNat_of_nonneg h0] at this
  rw [oddOf_parts, e, oddAt, e2]
theorem parts_two {a : List Int} {x : Int} (h0 : 0 ≤ x) (h1 : x < a.length) : Int.tmod (rd (partsOf a) x) 2 = if oddAt a x = true then 1 else 0 := by
  have hl := partsOf_length a
  have hn : x.toNat < (partsOf a).length := by omega
  have e2 : rd (partsOf a) x = (partsOf a)[x.toNat] := by
    have := rd_lt (xs := partsOf a) (i := x.toNat) hn
    rwa [Int.toNat_of_nonneg h0] at this
  have hb := partsOf_bound a _ (List.getElem_mem hn)
  unfold oddAt
  rw [e2, Int.tmod_eq_emod_of_nonneg hb.1]
  by_cases c : (partsOf a)[x.toNat] % 2 = 1
  · rw [c]; rfl
  · have : (partsOf a)[x.toNat] % 2 = 0 := by omega
    rw [this]; rfl
/-- The permutation before the last riffle. -/
def beforeP (a : List Int) : List Int := a.filter (fun x => !oddAt a x) ++ a.filter (fun x => oddAt a x)
theorem filter_two_perm (p : Int → Bool) (l : List Int) : (l.filter (fun x => !p x) ++ l.filter p).Perm l := by
  induction l with
  | nil => exact List.Perm.refl _
  | cons x l ih =>
    cases h : p x with
    | true =>
      rw [List.filter_cons_of_neg (by simp [h]), List.filter_cons_of_pos h]
      exact List.perm_middle.trans (List.Perm.cons x ih)
    | false =>
      rw [List.filter_cons_of_pos (by simp [h]), List.filter_cons_of_neg (by simp [h])]
      exact List.Perm.cons x ih
theorem beforeP_perm (a : List Int) : (beforeP a).Perm a := filter_two_perm _ a
theorem beforeP_length (a : List Int) : (beforeP a).length = a.length := (beforeP_perm a).length_eq
theorem permOk_perm {a b : List Int} (h : b.Perm a) (ha : permOk a = true) : permOk b = true := by
  obtain ⟨p1, p2, p3⟩ := (permOk_iff a).1 ha
  have hl := h.length_eq
  exact (permOk_iff b).2 ⟨fun x hx => by rw [hl]; exact p1 x (h.mem_iff.1 hx), h.nodup_iff.2 p2, by omega⟩
theorem riseFrom_range (at_ : Int → Int) (n : Nat) : ∀ (d : Nat) (out : List (List Int)) (v : Int), 0 ≤ v → v + d ≤ n → (∀ l ∈ out, ∀ x ∈ l, 0 ≤ x ∧ x < n) → ∀ l ∈ riseFrom at_ d out v, ∀ x ∈ l, 0 ≤ x ∧ x < n := by
  intro d
  induction d with
  | zero => intro out v _ _ h; exact h
  | succ d ih =>
    intro out v h0 h1 h
    rw [riseFrom]
    refine ih _ _ (by omega) (by omega) ?_
    intro l hl x hx
    split at hl
    · rcases List.mem_append.1 hl with hl | hl
      · exact h l hl x hx
      · rw [List.mem_singleton.1 hl] at hx; rw [List.mem_singleton.1 hx]; omega
    · rcases List.mem_or_eq_of_mem_set hl with hl | hl
      · exact h l hl x hx
      · rw [hl] at hx
        rcases List.mem_append.1 hx with hx | hx
        · by_cases hq : out.length - 1 < out.length
          · have e : out.getD (out.length - 1) [] = out[out.length - 1] := by simp [hq]
            rw [e] at hx
            exact h _ (List.getElem_mem hq) x hx
          · have e : out = [] := List.eq_nil_of_length_eq_zero (by omega)
            subst e
            simp at hx
        · rw [List.mem_singleton.1 hx]; omega
theorem rising_range (a : List Int) : ∀ l ∈ rising a, ∀ x ∈ l, 0 ≤ x ∧ x < a.length := by
  unfold rising
  by_cases h : permOk a = true
  · rw [if_pos h]
    exact riseFrom_range _ a.length a.length [] 0 (by omega) (by omega) (by simp)
  · rw [if_neg h]; simp

/-- The least k with 2 to the power of k at least r, for r to 16. -/
def leastOf (r : Int) : Int := if 1 < r then (if 2 < r then (if 4 < r then (if 8 < r then 4 else 3) else 2) else 1) else 0
def leastRiffles (a : List Int) : Int := if permOk a = true ∧ ¬ a.length = 0 then leastOf (rising a).length else -1

def unS : Nat → List (List Int) → List (List Int)
  | 0, out => out
  | d + 1, out => unS d (beforeP (out.headD []) :: out)
def unshuffleTo (a : List Int) : List (List Int) × Bool := if permOk a = true ∧ ¬ a.length = 0 then (unS (leastRiffles a).toNat [a], true) else ([], false)
theorem leastOf_bound (r : Int) : 0 ≤ leastOf r ∧ leastOf r ≤ 4 := by unfold leastOf; repeat' split <;> omega
theorem unS_small (n : Nat) : ∀ (d : Nat) (out : List (List Int)), (∀ l ∈ out, l.length ≤ n) → (unS d out).length = out.length + d ∧ ∀ l ∈ unS d out, l.length ≤ n := by
  intro d
  induction d with
  | zero => intro out h; exact ⟨rfl, h⟩
  | succ d ih =>
    intro out h
    rw [unS]
    have := ih (beforeP (out.headD []) :: out) (fun l hl => by
      rcases List.mem_cons.1 hl with rfl | hl
      · rw [beforeP_length]
        cases out with
        | nil => simp
        | cons x out => exact h x (by simp)
      · exact h l hl)
    refine ⟨by rw [this.1, List.length_cons]; omega, this.2⟩
theorem unshuffleTo_small (a : List Int) : (unshuffleTo a).1.length ≤ 5 ∧ ∀ l ∈ (unshuffleTo a).1, l.length ≤ 12 := by
  unfold unshuffleTo
  by_cases h : permOk a = true ∧ ¬ a.length = 0
  · rw [if_pos h]
    have h3 := ((permOk_iff a).1 h.1).2.2
    have hb := leastOf_bound (rising a).length
    have hs := unS_small 12 (leastRiffles a).toNat [a] (fun l hl => by rw [List.mem_singleton.1 hl]; exact h3)
    refine ⟨?_, hs.2⟩
    rw [hs.1]
    unfold leastRiffles
    rw [if_pos h, List.length_singleton]
    omega
  · rw [if_neg h]; simp

theorem cardOf_small {x : Int} (h0 : 0 ≤ x) (h1 : x < 12) : cardOf x = x := by unfold cardOf; rw [if_pos h0, if_pos (by omega)]

theorem positionOf_perm {a : List Int} (h : permOk a = true) (v : Int) (h0 : 0 ≤ v) (h1 : v < a.length) : positionOf a v = rd (inverse a) v := by
  obtain ⟨p1, p2, p3⟩ := (permOk_iff a).1 h
  obtain ⟨j, hj, e, e'⟩ := perm_at p1 p2 v h0 h1
  have hc : ∀ (m : Nat) (hm : m < a.length), cardOf (a[m]) = a[m] := fun m hm => by have := p1 _ (List.getElem_mem hm); exact cardOf_small this.1 (by omega)
  unfold positionOf
  rw [if_pos h0, e', posFrom_get v a 0 j hj (by rw [hc, e]) (fun m hm hl he => ?_)]
  · omega
  · rw [hc, ← e] at he
    have := nodup_inj p2 m j hm hj he
    omega
theorem inverse_ne {a : List Int} (h : permOk a = true) (v u : Int) (h0 : 0 ≤ v) (h1 : v < a.length) (g0 : 0 ≤ u) (g1 : u < a.length) (hne : v ≠ u) : rd (inverse a) v ≠ rd (inverse a) u := by
  obtain ⟨p1, p2, p3⟩ := (permOk_iff a).1 h
  obtain ⟨j, hj, e, e'⟩ := perm_at p1 p2 v h0 h1
  obtain ⟨i, hi, f, f'⟩ := perm_at p1 p2 u g0 g1
  intro q
  rw [e', f'] at q
  have : j = i := by omega
  subst this
  exact hne (e.symm.trans f)

theorem spec_l02Has_loop (l : List Int) (v : Int) (hl : l.length ≤ 9223372036854775806) : ∀ (r pre : List Int), l = pre ++ r →
    Ev (fun k => spec_l02Has.l0 k v l (l.length : Int) (pre.length : Int)) (decide (v ∈ r)) := by
  intro r
  induction r with
  | nil =>
    intro pre h
    have e := lens h
    simp only [List.length_nil] at e
    refine Ev.step (f := fun _ => some _) (fun k => ?_) (Ev.now _)
    simp only [spec_l02Has.l0]
    rw [if_neg (by omega)]
    simp
  | cons x r ih =>
    intro pre h
    have e := lens h
    simp only [List.length_cons] at e
    by_cases c : x = v
    · refine Ev.step (f := fun _ => some _) (fun k => ?_) (Ev.now _)
      simp only [spec_l02Has.l0]
      rw [if_pos (by omega), if_pos (by omega), if_pos (by omega), rd_mid' h, if_pos c]
      simp [c]
    · have hi := ih (pre ++ [x]) (snoc_eq h)
      have ed : decide (v ∈ x :: r) = decide (v ∈ r) := by simp [show ¬ v = x from fun q => c q.symm]
      rw [ed]
      refine Ev.step (fun k => ?_) hi
      simp only [spec_l02Has.l0]
      rw [if_pos (by omega), if_pos (by omega), if_pos (by omega), rd_mid' h, if_neg c, snoc_len x (by omega)]
theorem spec_l02Has_ev (l : List Int) (v : Int) (hl : l.length ≤ 9223372036854775806) : Ev (fun k => spec_l02Has.f k l v) (decide (v ∈ l)) := by
  unfold spec_l02Has.f
  exact spec_l02Has_loop l v hl l [] rfl

theorem spec_l01In_eq (a b c : Int) : spec_l01In.f a b c = some (decide (b ≤ a ∧ a ≤ c)) := by
  unfold spec_l01In.f
  by_cases h : a ≥ b
  · rw [if_pos h]; simp; omega
  · rw [if_neg h]; simp; omega

theorem spec_PermOk_loop (a : List Int) (ha : a.length ≤ 9223372036854775806) : ∀ (r pre : List Int), a = pre ++ r →
    Ev (fun k => spec_PermOk.l0 k a a (a.length : Int) (pre.length : Int)) (pokFrom a.length pre r) := by
  intro r
  induction r with
  | nil =>
    intro pre h
    have e := lens h
    simp only [List.length_nil] at e
    refine Ev.step (f := fun _ => some _) (fun k => ?_) (Ev.now _)
    simp only [spec_PermOk.l0, pokFrom]
    rw [if_neg (by omega)]
  | cons x r ih =>
    intro pre h
    have e := lens h
    simp only [List.length_cons] at e
    have ht : a.take ((pre.length : Int).toNat) = pre := by rw [h]; simp
    have hw : wrap64 ((a.length : Int) - 1) = (a.length : Int) - 1 := w64 (by omega) (by omega)
    by_cases c0 : 0 ≤ x ∧ x < a.length
    · refine Ev.step (f := fun k => (spec_l02Has.f k pre x).bind fun t => if t = true then some false else spec_PermOk.l0 k a a (a.length : Int) ((pre ++ [x]).length : Int)) (fun k => ?_) ?_
      · simp only [spec_PermOk.l0]
        rw [if_pos (by omega), if_pos (by omega), if_pos (by omega), rd_mid' h, hw, spec_l01In_eq]
        simp only [Option.bind_some, decide_eq_true_eq]
        rw [if_pos (by omega), if_pos (by omega), ht, snoc_len x (by omega)]
      · refine Ev.bind (spec_l02Has_ev pre x (by omega)) ?_
        by_cases c2 : x ∈ pre
        · have ep : pokFrom a.length pre (x :: r) = false := by simp only [pokFrom]; simp [c2]
          rw [ep]
          exact ev_some fun _ => by simp [c2]
        · have ep : pokFrom a.length pre (x :: r) = pokFrom a.length (pre ++ [x]) r := by simp only [pokFrom]; rw [decide_eq_true c0]; simp [c2]
          rw [ep]
          simp only [c2, decide_false, Bool.false_eq_true, if_false]
          exact ih (pre ++ [x]) (snoc_eq h)
    · have ep : pokFrom a.length pre (x :: r) = false := by simp only [pokFrom]; rw [decide_eq_false c0]; rfl
      rw [ep]
      refine Ev.step (f := fun _ => some _) (fun k => ?_) (Ev.now _)
      simp only [spec_PermOk.l0]
      rw [if_pos (by omega), if_pos (by omega), if_pos (by omega), rd_mid' h, hw, spec_l01In_eq]
      simp only [Option.bind_some, decide_eq_true_eq]
      rw [if_neg (by omega)]
theorem spec_PermOk_ev (a : List Int) (ha : a.length ≤ 9223372036854775806) : Ev (fun k => spec_PermOk.f k a) (permOk a) := by
  unfold spec_PermOk.f permOk
  by_cases h : (a.length : Int) > 12
  · simp only [if_pos h]
    rw [decide_eq_false (show ¬ a.length ≤ 12 by omega), Bool.and_false]
    exact Ev.now _
  · simp only [if_neg h]
    rw [decide_eq_true (show a.length ≤ 12 by omega), Bool.and_true]
    exact spec_PermOk_loop a ha a [] rfl

theorem spec_CardOf_eq (x : Int) : spec_CardOf.f x = some (cardOf x) := by
  unfold spec_CardOf.f cardOf
  simp only [spec_l01In_eq, Option.bind_some, decide_eq_true_eq]
  by_cases h0 : 0 ≤ x
  · by_cases h1 : x ≤ 11
    · rw [if_pos ⟨h0, h1⟩, if_pos h0, if_pos h1]
    · rw [if_neg (by omega), if_neg (by omega), if_pos h0, if_neg h1]
  · by_cases h1 : -12 ≤ x
    · rw [if_neg (by omega), if_pos (by omega), if_neg h0, if_pos h1, w64 (by omega) (by omega)]
    · rw [if_neg (by omega), if_neg (by omega), if_neg h0, if_neg h1]

theorem spec_PositionOf_loop (l : List Int) (c : Int) (hl : l.length ≤ 9223372036854775806) : ∀ (r pre : List Int), l = pre ++ r →
    Ev (fun k => spec_PositionOf.l0 k c l (l.length : Int) (pre.length : Int)) (if 0 ≤ c then posFrom c pre.length r else -1) := by
  intro r
  induction r with
  | nil =>
    intro pre h
    have e := lens h
    simp only [List.length_nil] at e
    refine Ev.step (f := fun _ => some _) (fun k => ?_) (Ev.now _)
    simp only [spec_PositionOf.l0]
    rw [if_neg (by omega)]
    simp [posFrom]
  | cons x r ih =>
    intro pre h
    have e := lens h
    simp only [List.length_cons] at e
    have hi := ih (pre ++ [x]) (snoc_eq h)
    by_cases h1 : cardOf x = c
    · by_cases h0 : 0 ≤ c
      · refine Ev.step (f := fun _ => some _) (fun k => ?_) (Ev.now _)
        simp only [spec_PositionOf.l0]
        rw [if_pos (by omega), if_pos (by omega), if_pos (by omega), rd_mid' h, spec_CardOf_eq]
        simp only [Option.bind_some]
        rw [if_pos h1, if_pos h0, if_pos h0, posFrom, if_pos h1]
      · rw [if_neg h0] at hi ⊢
        refine Ev.step (fun k => ?_) hi
        simp only [spec_PositionOf.l0]
        rw [if_pos (by omega), if_pos (by omega), if_pos (by omega), rd_mid' h, spec_CardOf_eq]
        simp only [Option.bind_some]
        rw [if_pos h1, if_neg h0, snoc_len x (by omega)]
    · have er : (if 0 ≤ c then posFrom c (pre.length : Int) (x :: r) else -1) = (if 0 ≤ c then posFrom c ((pre ++ [x]).length : Int) r else -1) := by
        rw [posFrom, if_neg h1, snoc_cast]
      rw [er]
      refine Ev.step (fun k => ?_) hi
      simp only [spec_PositionOf.l0]
      rw [if_pos (by omega), if_pos (by omega), if_pos (by omega), rd_mid' h, spec_CardOf_eq]
      simp only [Option.bind_some]
      rw [if_neg h1, snoc_len x (by omega)]
theorem spec_PositionOf_ev (l : List Int) (c : Int) (hl : l.length ≤ 9223372036854775806) : Ev (fun k => spec_PositionOf.f k l c) (positionOf l c) := by
  unfold spec_PositionOf.f positionOf
  exact spec_PositionOf_loop l c hl l [] rfl

theorem spec_RisingSequences_loop (a : List Int) (h : permOk a = true) : ∀ (d i : Nat) (out : List (List Int)) (last : Int), i + d = a.length → Small out i → (0 < i → 0 < out.length) → (i = 0 → out = [] ∧ last = -1) → (0 < i → last = rd (inverse a) ((i : Int) - 1)) →
    Ev (fun k => spec_RisingSequences.l0 k a out last (a.length : Int) (i : Int)) (riseFrom (fun v => rd (inverse a) v) d out (i : Int)) := by
  obtain ⟨p1, p2, p3⟩ := (permOk_iff a).1 h
  intro d
  induction d with
  | zero =>
    intro i out last hi hs hp h0 h1
    refine Ev.step (f := fun _ => some _) (fun k => ?_) (Ev.now _)
    simp only [spec_RisingSequences.l0]
    rw [if_neg (by omega)]
    rfl
  | succ d ih =>
    intro i out last hi hs hp h0 h1
    have hs1 := hs.1
    have hw : wrap64 ((i : Int) + 1) = ((i + 1 : Nat) : Int) := by rw [w64 (by omega) (by omega)]; omega
    have hlast : ((i + 1 : Nat) : Int) - 1 = (i : Int) := by omega
    have hpo : positionOf a (i : Int) = rd (inverse a) (i : Int) := positionOf_perm h _ (by omega) (by omega)
    have hpe := spec_PositionOf_ev a (i : Int) (by omega)
    rw [hpo] at hpe
    have hnew := ih (i + 1) (out ++ [[(i : Int)]]) (rd (inverse a) (i : Int)) (by omega) (hs.new _) (fun _ => by simp) (by omega) (fun _ => by rw [hlast])
    rw [riseFrom]
    refine Ev.step (fun k => by rw [spec_RisingSequences.l0]) ?_
    refine ev_ite_true (by omega) (Ev.bind hpe ?_)
    rw [hw]
    by_cases c0 : i = 0
    · obtain ⟨ho, hl⟩ := h0 c0
      rw [if_pos (.inl (by omega))]
      obtain ⟨j, hj, e, e'⟩ := perm_at p1 p2 (i : Int) (by omega) (by omega)
      refine ev_ite_true (by rw [hl, e']; omega) (ev_ite_false (by rw [ho]; simp) (ev_ite_true (by omega) hnew))
    · have hq := hp (by omega)
      have hla := h1 (by omega)
      have hne := inverse_ne h (i : Int) ((i : Int) - 1) (by omega) (by omega) (by omega) (by omega) (by omega)
      by_cases c1 : rd (inverse a) (i : Int) < rd (inverse a) ((i : Int) - 1)
      · rw [if_pos (.inr c1)]
        refine ev_ite_false (by omega) (ev_ite_true (by omega) hnew)
      · rw [if_neg (fun q => q.elim (by omega) c1)]
        have hmore := ih (i + 1) (addLast out i) (rd (inverse a) (i : Int)) (by omega) (hs.more _) (fun _ => by rw [addLast_length]; exact hq) (by omega) (fun _ => by rw [hlast])
        have hl := hs.last
        have hL : wrap64 ((out.length : Int) - 1) = ((out.length - 1 : Nat) : Int) := by rw [w64 (by omega) (by omega)]; omega
        have hrd2 : rd_L1 out ((out.length - 1 : Nat) : Int) = out.getD (out.length - 1) [] := by simp [rd_L1]
        simp only [hL, hrd2, Int.toNat_natCast]
        exact ev_ite_true (by omega) (ev_ite_true (by omega) (ev_ite_true (by omega) (ev_ite_true (by omega) (ev_ite_true (by omega) hmore))))
theorem spec_RisingSequences_ev (a : List Int) (ha : a.length ≤ 9223372036854775806) : Ev (fun k => spec_RisingSequences.f k a) (rising a) := by
  unfold spec_RisingSequences.f rising
  refine Ev.bind (spec_PermOk_ev a ha) ?_
  by_cases h : permOk a = true
  · refine ev_ite_true h ?_
    rw [if_pos h]
    exact spec_RisingSequences_loop a h a.length 0 [] (-1) (by omega) ⟨by simp, by simp⟩ (by omega) (fun _ => ⟨rfl, rfl⟩) (by omega)
  · refine ev_ite_false h ?_
    rw [if_neg h]
    exact Ev.now _

theorem spec_l06Parts_in (a : List Int) (i : Nat) (R : List (List Int)) (B : List Int) (l : List Int) (hl : l.length ≤ 1000) (hr : ∀ x ∈ l, 0 ≤ x ∧ x < a.length) (hn : R.length ≤ 1000) : ∀ (r pre : List Int) (m : List Int), l = pre ++ r → m.length = a.length →
    Ev (fun k => spec_l06Parts.l0 k (fillRow (i : Int) m r) R (R.length : Int) (wrap64 ((i : Int) + 1))) B →
    Ev (fun k => spec_l06Parts.l1 k m (i : Int) R (R.length : Int) (i : Int) l (l.length : Int) (pre.length : Int)) B := by
  intro r
  induction r with
  | nil =>
    intro pre m h hm hk
    refine Ev.step (fun k => ?_) hk
    simp only [spec_l06Parts.l1]
    rw [if_neg (by rw [h]; simp)]
    rfl
  | cons x r ih =>
    intro pre m h hm hk
    have hx := hr x (by rw [h]; simp)
    have e : l.length = pre.length + (r.length + 1) := by rw [h]; simp
    have hrd : rd l (pre.length : Int) = x := rd_mid' h
    refine Ev.step (fun k => ?_) (ih (pre ++ [x]) (m.set x.toNat (i : Int)) (snoc_eq h) (by simpa using hm) hk)
    simp only [spec_l06Parts.l1]
    rw [if_pos (by omega), if_pos (by omega), if_pos (by omega), hrd, if_pos hx.1, if_pos (by omega), snoc_len x (by omega)]
theorem spec_l06Parts_out (a : List Int) (R : List (List Int)) (hn : R.length ≤ 1000) (hR : ∀ l ∈ R, l.length ≤ 1000 ∧ ∀ x ∈ l, 0 ≤ x ∧ x < a.length) : ∀ (r pre : List (List Int)) (m : List Int), R = pre ++ r → m.length = a.length →
    Ev (fun k => spec_l06Parts.l0 k m R (R.length : Int) (pre.length : Int)) (fillAll (fun i => (i : Int)) pre.length m r) := by
  intro r
  induction r with
  | nil =>
    intro pre m h hm
    refine Ev.step (f := fun _ => some _) (fun k => ?_) (Ev.now _)
    simp only [spec_l06Parts.l0]
    rw [if_neg (by rw [h]; simp)]
    rfl
  | cons l r ih =>
    intro pre m h hm
    have e : R.length = pre.length + (r.length + 1) := by rw [h]; simp
    have hrd : rd_L1 R (pre.length : Int) = l := by rw [h]; simp [rd_L1]
    have hl := hR l (by rw [h]; simp)
    have e2 : (pre.length : Int) + 1 = ((pre ++ [l]).length : Int) := by simp
    have hi := ih (pre ++ [l]) (fillRow (pre.length : Int) m l) (by rw [h]; simp) (by rw [fillRow_length]; exact hm)
    rw [List.length_append, List.length_singleton] at hi
    rw [fillAll]
    refine Ev.step (fun k => ?_) (spec_l06Parts_in a pre.length R _ l hl.1 hl.2 hn l [] m rfl hm (by rw [w64 (by omega) (by omega), e2, List.length_append, List.length_singleton]; exact hi))
    simp only [spec_l06Parts.l0]
    rw [if_pos (by omega), if_pos (by omega), if_pos (by omega), hrd]
    rfl
theorem spec_l06Parts_ev (a : List Int) (ha : permOk a = true) : Ev (fun k => spec_l06Parts.f k a) (partsOf a) := by
  obtain ⟨p1, p2, p3⟩ := (permOk_iff a).1 ha
  have hs := rising_small a
  unfold spec_l06Parts.f
  refine ev_ite_true (by omega) (ev_ite_true (by omega) (Ev.bind (spec_RisingSequences_ev a (by omega)) ?_))
  rw [Int.toNat_natCast]
  exact spec_l06Parts_out a (rising a) (by have := hs.1; omega) (fun l hl => ⟨by have := hs.2 l hl; omega, rising_range a l hl⟩) (rising a) [] (List.replicate a.length 0) rfl (by simp)
theorem spec_l06Back_in (a : List Int) (ha : a.length ≤ 1000) (hp : ∀ x ∈ a, 0 ≤ x ∧ x < a.length) (b : Bool) (B : List Int) : ∀ (r pre : List Int) (o : List Int), a = pre ++ r → o.length ≤ 2000 + pre.length →
    Ev (fun k => spec_l06Back.l0 k a (partsOf a) (o ++ r.filter (fun x => oddAt a x == b)) (wrap64 ((if b = true then 1 else 0) + 1))) B →
    Ev (fun k => spec_l06Back.l1 k a (partsOf a) o (if b = true then 1 else 0) a (a.length : Int) (pre.length : Int)) B := by
  have ho := partsOf_length a
  intro r
  induction r with
  | nil =>
    intro pre o h hl hk
    refine Ev.step (fun k => ?_) (by simpa using hk)
    simp only [spec_l06Back.l1]
    rw [if_neg (by rw [show a.length = pre.length by rw [h]; simp]; omega)]
  | cons x r ih =>
    intro pre o h hl hk
    have e : a.length = pre.length + (r.length + 1) := lens h
    have hx := hp x (by rw [h]; simp)
    have hrd : rd a (pre.length : Int) = x := rd_mid' h
    have h2 := parts_two hx.1 hx.2
    by_cases c : oddAt a x = b
    · rw [List.filter_cons_of_pos (by simp [c])] at hk
      have e2 : o ++ x :: List.filter (fun x => oddAt a x == b) r = (o ++ [x]) ++ List.filter (fun x => oddAt a x == b) r := by simp
      rw [e2] at hk
      refine Ev.step (fun k => ?_) (ih (pre ++ [x]) (o ++ [x]) (snoc_eq h) (by simp; omega) hk)
      simp only [spec_l06Back.l1]
      rw [if_pos (by omega), if_pos (by omega), if_pos (by omega), hrd, if_pos hx.1, if_pos (by omega), if_pos (by rw [h2, c]), if_pos (by omega), snoc_len x (by omega)]
    · rw [List.filter_cons_of_neg (by simp [c])] at hk
      refine Ev.step (fun k => ?_) (ih (pre ++ [x]) o (snoc_eq h) (by simp; omega) hk)
      have hne : ¬ (if oddAt a x = true then (1 : Int) else 0) = (if b = true then 1 else 0) := by
        cases hb : b <;> cases hq : oddAt a x <;> simp_all
      simp only [spec_l06Back.l1]
      rw [if_pos (by omega), if_pos (by omega), if_pos (by omega), hrd, if_pos hx.1, if_pos (by omega), if_neg (by rw [h2]; exact hne), snoc_len x (by omega)]
theorem spec_l06Back_ev (a : List Int) (ha : permOk a = true) : Ev (fun k => spec_l06Back.f k a) (beforeP a) := by
  obtain ⟨p1, p2, p3⟩ := (permOk_iff a).1 ha
  unfold spec_l06Back.f
  refine Ev.bind (spec_l06Parts_ev a ha) ?_
  have f0 := fun (l : List Int) => List.length_filter_le (fun x => oddAt a x == false) l
  have h2 : Ev (fun k => spec_l06Back.l0 k a (partsOf a) (beforeP a) 2) (beforeP a) := by
    refine Ev.step (f := fun _ => some _) (fun k => ?_) (Ev.now _)
    simp only [spec_l06Back.l0]
    rw [if_neg (by omega)]
  have e0 : a.filter (fun x => oddAt a x == false) = a.filter (fun x => !oddAt a x) := List.filter_congr (fun x _ => by cases oddAt a x <;> rfl)
  have e1 : a.filter (fun x => oddAt a x == true) = a.filter (fun x => oddAt a x) := List.filter_congr (fun x _ => by cases oddAt a x <;> rfl)
  have hin1 := spec_l06Back_in a (by omega) p1 true (beforeP a) a [] (a.filter (fun x => !oddAt a x)) rfl (by have := List.length_filter_le (fun x => !oddAt a x) a; simp; omega) (by
    rw [e1, show a.filter (fun x => !oddAt a x) ++ a.filter (fun x => oddAt a x) = beforeP a from rfl, if_pos rfl, w64 (by omega) (by omega)]
    exact h2)
  have h1 : Ev (fun k => spec_l06Back.l0 k a (partsOf a) (a.filter (fun x => !oddAt a x)) 1) (beforeP a) := by
    refine Ev.step (fun k => ?_) hin1
    simp only [spec_l06Back.l0]
    rw [if_pos (by omega)]
    rfl
  have hin0 := spec_l06Back_in a (by omega) p1 false (beforeP a) a [] [] rfl (by simp) (by
    rw [e0, List.nil_append, if_neg (by simp), w64 (by omega) (by omega)]
    exact h1)
  refine Ev.step (fun k => ?_) hin0
  simp only [spec_l06Back.l0]
  rw [if_pos (by omega)]
  rfl

theorem spec_l06Least_ev (r : Int) (hr : r ≤ 16) : Ev (fun k => spec_l06Least.f k r) (leastOf r) := by
  unfold spec_l06Least.f leastOf
  have f4 : Ev (fun k => spec_l06Least.l0 k r 4 16) 4 := Ev.step (fun k => by rw [spec_l06Least.l0]) (ev_ite_false (by omega) (Ev.now _))
  have f3 : Ev (fun k => spec_l06Least.l0 k r 3 8) (if 8 < r then 4 else 3) := by
    refine Ev.step (fun k => by rw [spec_l06Least.l0, w64 (by omega) (by omega), w64 (by omega) (by omega)]) ?_
    by_cases h : 8 < r
    · rw [if_pos h]; exact ev_ite_true h f4
    · rw [if_neg h]; exact ev_ite_false h (Ev.now _)
  have f2 : Ev (fun k => spec_l06Least.l0 k r 2 4) (if 4 < r then (if 8 < r then 4 else 3) else 2) := by
    refine Ev.step (fun k => by rw [spec_l06Least.l0, w64 (by omega) (by omega), w64 (by omega) (by omega)]) ?_
    by_cases h : 4 < r
    · rw [if_pos h]; exact ev_ite_true h f3
    · rw [if_neg h]; exact ev_ite_false h (Ev.now _)
  have f1 : Ev (fun k => spec_l06Least.l0 k r 1 2) (if 2 < r then (if 4 < r then (if 8 < r then 4 else 3) else 2) else 1) := by
    refine Ev.step (fun k => by rw [spec_l06Least.l0, w64 (by omega) (by omega), w64 (by omega) (by omega)]) ?_
    by_cases h : 2 < r
    · rw [if_pos h]; exact ev_ite_true h f2
    · rw [if_neg h]; exact ev_ite_false h (Ev.now _)
  refine Ev.step (fun k => by rw [spec_l06Least.l0, w64 (by omega) (by omega), w64 (by omega) (by omega)]) ?_
  by_cases h : 1 < r
  · rw [if_pos h]; exact ev_ite_true h f1
  · rw [if_neg h]; exact ev_ite_false h (Ev.now _)
theorem spec_LeastRiffles_ev (a : List Int) (ha : a.length ≤ 9223372036854775806) : Ev (fun k => spec_LeastRiffles.f k a) (leastRiffles a) := by
  unfold spec_LeastRiffles.f leastRiffles
  have hj : Ev (fun n => spec_LeastRiffles.j0 n a true) (-1) := Ev.step (fun n => by rw [spec_LeastRiffles.j0]) (ev_ite_true rfl (Ev.now _))
  refine Ev.bind (spec_PermOk_ev a ha) ?_
  by_cases h : permOk a = true
  · refine ev_ite_true h ?_
    by_cases h0 : a.length = 0
    · rw [if_neg (fun q => q.2 h0)]
      simp only [h0]
      exact hj
    · rw [if_pos ⟨h, h0⟩, show ((a.length : Int) == 0) = false from beq_eq_false_iff_ne.mpr (by omega)]
      refine Ev.step (fun n => by rw [spec_LeastRiffles.j0]) (ev_ite_false (by simp) ?_)
      have hs := (rising_small a).1
      exact Ev.bind (spec_RisingSequences_ev a ha) (Ev.bind (spec_l06Least_ev _ (by omega)) (Ev.now _))
  · refine ev_ite_false h ?_
    rw [if_neg (fun q => h q.1)]
    exact hj

theorem spec_UnshuffleTo_loop : ∀ (d : Nat) (x0 : List Int) (out : List (List Int)), d + out.length ≤ 50 → permOk x0 = true →
    Ev (fun k => spec_UnshuffleTo.l0 k (x0 :: out) (d : Int)) (unS d (x0 :: out), true) := by
  intro d
  induction d with
  | zero =>
    intro x0 out h hp
    refine Ev.step (f := fun _ => some _) (fun k => ?_) (Ev.now _)
    simp only [spec_UnshuffleTo.l0]
    rw [if_neg (by omega), unS]
  | succ d ih =>
    intro x0 out h hp
    have hi := ih (beforeP x0) (x0 :: out) (by simp; omega) (permOk_perm (beforeP_perm x0) hp)
    rw [unS]
    refine Ev.step (f := fun k => (spec_l06Back.f k x0).bind fun t => spec_UnshuffleTo.l0 k ([t] ++ x0 :: out) (d : Int)) (fun k => ?_) (Ev.bind (spec_l06Back_ev x0 hp) hi)
    simp only [spec_UnshuffleTo.l0, Option.bind_some]
    have er : rd_L1 (x0 :: out) 0 = x0 := by simp [rd_L1]
    have e : wrap64 (((d + 1 : Nat) : Int) - 1) = d := by rw [w64 (by omega) (by omega)]; omega
    rw [if_pos (by omega), if_pos (show (0 : Int) < ((x0 :: out).length : Int) by rw [List.length_cons]; omega), er, e]
    have hc : ∀ t : List Int, ([t] : List (List Int)).length + (x0 :: out).length < 5864062014805 := fun t => by simp; omega
    simp only [if_pos (hc _)]
theorem spec_UnshuffleTo_ev (a : List Int) (ha : a.length ≤ 1048576) : Ev (fun k => spec_UnshuffleTo.f k a) (unshuffleTo a) := by
  unfold spec_UnshuffleTo.f unshuffleTo
  have hj : Ev (fun k => spec_UnshuffleTo.j0 k a true) ([], false) := Ev.step (fun k => by rw [spec_UnshuffleTo.j0]) (ev_ite_true rfl (Ev.now _))
  refine Ev.bind (spec_PermOk_ev a (by omega)) ?_
  by_cases h1 : permOk a = true
  · refine ev_ite_true h1 ?_
    by_cases h0 : a.length = 0
    · rw [if_neg (fun q => q.2 h0)]
      simp only [h0]
      exact hj
    · rw [if_pos ⟨h1, h0⟩, show ((a.length : Int) == 0) = false from beq_eq_false_iff_ne.mpr (by omega)]
      have hb := leastOf_bound (rising a).length
      have e : leastRiffles a = leastOf (rising a).length := by unfold leastRiffles; rw [if_pos ⟨h1, h0⟩]
      refine Ev.step (fun k => by rw [spec_UnshuffleTo.j0]) (ev_ite_false (by simp) ?_)
      simp only [Option.bind_some, List.nil_append, List.length_nil, Nat.zero_add]
      refine ev_ite_true (by omega) (Ev.bind (spec_LeastRiffles_ev a (by omega)) ?_)
      have := spec_UnshuffleTo_loop (leastRiffles a).toNat a [] (by simp; omega) h1
      rw [Int.toNat_of_nonneg (by omega)] at this
      exact this
  · refine ev_ite_false h1 ?_
    rw [if_neg (fun q => h1 q.1)]
    exact hj

/-! ### slices.Index, slices.Contains -/
def findFrom (v : Int) : Int → List Int → Int
  | _, [] => -1
  | i, x :: r => if v = x then i else findFrom v (i + 1) r
theorem findFrom_nonneg (v : Int) (l : List Int) : ∀ i : Int, 0 ≤ i → (0 ≤ findFrom v i l ↔ v ∈ l) := by
  induction l with
  | nil => intro i hi; simp [findFrom]
  | cons x r ih =>
    intro i hi
    simp only [findFrom, List.mem_cons]
    by_cases c : v = x
    · rw [if_pos c]; simp [c, hi]
    · rw [if_neg c, ih (i + 1) (by omega)]; simp [c]
theorem slices_Index_loop (l : List Int) (v : Int) (hl : l.length ≤ 9223372036854775806) : ∀ (r pre : List Int), l = pre ++ r →
    Ev (fun k => slices_Index_int_int.l0 k l v (l.length : Int) (pre.length : Int)) (findFrom v pre.length r) := by
  intro r
  induction r with
  | nil =>
    intro pre h
    refine Ev.step (f := fun _ => some _) (fun k => ?_) (Ev.now _)
    subst h
    simp only [slices_Index_int_int.l0, findFrom]
    rw [if_neg (by simp)]
  | cons x r ih =>
    intro pre h
    have hlen : l.length = pre.length + (r.length + 1) := by rw [h]; simp
    have hx := rd_mid' h
    have e : ((pre ++ [x]).length : Int) = (pre.length : Int) + 1 := by simp
    simp only [findFrom]
    by_cases c : v = x
    · rw [if_pos c]
      refine Ev.step (f := fun _ => some _) (fun k => ?_) (Ev.now _)
      simp only [slices_Index_int_int.l0]
      rw [if_pos (by omega), if_pos (by omega), if_pos (by omega), hx, if_pos c]
    · rw [if_neg c, ← e]
      refine Ev.step (fun k => ?_) (ih (pre ++ [x]) (snoc_eq h))
      simp only [slices_Index_int_int.l0]
      rw [if_pos (by omega), if_pos (by omega), if_pos (by omega), hx, if_neg c, snoc_len x (by omega)]
theorem slices_Contains_ev (l : List Int) (v : Int) (hl : l.length ≤ 9223372036854775806) : Ev (fun k => slices_Contains_int_int.f k l v) (decide (v ∈ l)) := by
  unfold slices_Contains_int_int.f slices_Index_int_int.f
  refine Ev.bind (slices_Index_loop l v hl l [] rfl) (ev_some fun _ => ?_)
  have := findFrom_nonneg v l 0 (by omega)
  simp only [List.length_nil, Int.ofNat_zero, Option.some.injEq, decide_eq_decide]
  exact this

theorem impl_PermOk_loop (a : List Int) (ha : a.length ≤ 9223372036854775806) : ∀ (r pre : List Int), a = pre ++ r →
    Ev (fun k => impl_PermOk.l0 k a a (a.length : Int) (pre.length : Int)) (pokFrom a.length pre r && decide (a.length ≤ 12)) := by
  intro r
  induction r with
  | nil =>
    intro pre h
    refine Ev.step (f := fun _ => some _) (fun k => ?_) (Ev.now _)
    have hlen : a.length = pre.length := by rw [h]; simp
    simp only [impl_PermOk.l0, pokFrom, Bool.true_and]
    rw [if_neg (by omega)]
    simp; omega
  | cons x r ih =>
    intro pre h
    have hlen : a.length = pre.length + (r.length + 1) := by rw [h]; simp
    have hx := rd_mid' h
    have ht : a.take ((pre.length : Int).toNat) = pre := by rw [h]; simp
    by_cases c0 : x < 0
    · have e : pokFrom a.length pre (x :: r) = false := by simp only [pokFrom]; rw [decide_eq_false (by omega)]; rfl
      rw [e, Bool.false_and]
      refine Ev.step (f := fun _ => some _) (fun k => ?_) (Ev.now _)
      simp only [impl_PermOk.l0]
      rw [if_pos (by omega), if_pos (by omega), if_pos (by omega), hx, if_pos c0]
    by_cases c1 : x ≥ (a.length : Int)
    · have e : pokFrom a.length pre (x :: r) = false := by simp only [pokFrom]; rw [decide_eq_false (by omega)]; rfl
      rw [e, Bool.false_and]
      refine Ev.step (f := fun _ => some _) (fun k => ?_) (Ev.now _)
      simp only [impl_PermOk.l0]
      rw [if_pos (by omega), if_pos (by omega), if_pos (by omega), hx, if_neg c0, if_pos c1]
    refine Ev.step (f := fun k => (slices_Contains_int_int.f k pre x).bind fun t => if t = true then some false else impl_PermOk.l0 k a a (a.length : Int) ((pre ++ [x]).length : Int)) (fun k => ?_) ?_
    · simp only [impl_PermOk.l0]
      rw [if_pos (by omega), if_pos (by omega), if_pos (by omega), hx, if_neg c0, if_neg c1, if_pos (by omega), ht, snoc_len x (by omega)]
    · refine Ev.bind (slices_Contains_ev pre x (by omega)) ?_
      by_cases c2 : x ∈ pre
      · have e : pokFrom a.length pre (x :: r) = false := by simp only [pokFrom]; simp [c2]
        rw [e, Bool.false_and]
        exact ev_some fun _ => by simp [c2]
      · have e : pokFrom a.length pre (x :: r) = pokFrom a.length (pre ++ [x]) r := by simp only [pokFrom]; rw [decide_eq_true (by omega)]; simp [c2]
        rw [e]
        simp only [c2, decide_false, Bool.false_eq_true, if_false]
        exact ih (pre ++ [x]) (snoc_eq h)
theorem impl_PermOk_ev (a : List Int) (ha : a.length ≤ 9223372036854775806) : Ev (fun k => impl_PermOk.f k a) (permOk a) := by
  unfold impl_PermOk.f permOk
  exact impl_PermOk_loop a ha a [] rfl

theorem impl_inverse_loop (a : List Int) (ha : a.length ≤ 9223372036854775806) : ∀ (r pre m : List Int), a = pre ++ r → (∀ x ∈ r, 0 ≤ x ∧ x < m.length) →
    Ev (fun k => impl_inverse.l0 k m a (a.length : Int) (pre.length : Int)) (invFrom m pre.length r) := by
  intro r
  induction r with
  | nil =>
    intro pre m h _
    have e := lens h
    simp only [List.length_nil] at e
    refine Ev.step (f := fun _ => some _) (fun k => ?_) (Ev.now _)
    simp only [impl_inverse.l0]
    rw [if_neg (by omega)]
    rfl
  | cons x r ih =>
    intro pre m h hp
    have e := lens h
    simp only [List.length_cons] at e
    have hx := hp x (by simp)
    have hi := ih (pre ++ [x]) (m.set x.toNat pre.length) (snoc_eq h) (fun z hz => by rw [List.length_set]; exact hp z (by simp [hz]))
    rw [snoc_cast] at hi
    refine Ev.step (fun k => ?_) hi
    simp only [impl_inverse.l0]
    rw [if_pos (by omega), if_pos (by omega), if_pos (by omega), rd_mid' h, if_pos hx.1, if_pos hx.2, w64 (by omega) (by omega)]
theorem impl_inverse_ev (a : List Int) (ha : a.length ≤ 17592186044415) (hp : ∀ x ∈ a, 0 ≤ x ∧ x < a.length) : Ev (fun k => impl_inverse.f k a) (inverse a) := by
  unfold impl_inverse.f inverse
  refine ev_ite_true (by omega) (ev_ite_true (by omega) ?_)
  simp only [Int.toNat_natCast]
  exact impl_inverse_loop a (by omega) a [] _ rfl (fun x hx => by simpa using hp x hx)

theorem impl_RisingSequences_loop (m : List Int) (n : Nat) (hm : m.length = n) (hn : n ≤ 12) : ∀ (d i : Nat) (out : List (List Int)), i + d = n → Small out i → (0 < i → 0 < out.length) →
    Ev (fun k => impl_RisingSequences.l0 k out m (n : Int) (i : Int)) (riseFrom (fun v => rd m v) d out (i : Int)) := by
  intro d
  induction d with
  | zero =>
    intro i out hi hs hp
    refine Ev.step (f := fun _ => some _) (fun k => ?_) (Ev.now _)
    simp only [impl_RisingSequences.l0]
    rw [if_neg (by omega)]
    rfl
  | succ d ih =>
    intro i out hi hs hp
    have hs1 := hs.1
    have hw : wrap64 ((i : Int) + 1) = ((i + 1 : Nat) : Int) := by rw [w64 (by omega) (by omega)]; omega
    have hlen : ((out ++ [[]]).length : Int) - 1 = out.length := by simp
    have hl1 : (out ++ [[]]).length = out.length + 1 := by simp
    have hrd : rd_L1 (out ++ [[]]) (out.length : Int) = [] := by simp [rd_L1]
    have hset : (out ++ [[]]).set ((out.length : Int)).toNat ([] ++ [(i : Int)]) = out ++ [[(i : Int)]] := by simp
    rw [riseFrom]
    by_cases c0 : i = 0
    · have hc : (i : Int) = 0 ∨ (fun v => rd m v) (i : Int) < (fun v => rd m v) ((i : Int) - 1) := .inl (by omega)
      rw [if_pos hc]
      have hi2 := ih (i + 1) (out ++ [[(i : Int)]]) (by omega) (hs.new _) (fun _ => by simp)
      refine Ev.step (fun k => ?_) hi2
      simp only [impl_RisingSequences.l0]
      rw [if_pos (by omega), if_pos (by omega), if_pos (by omega)]
      simp only [Option.bind_some]
      rw [hlen, w64 (by omega) (by omega), if_pos (by omega), if_pos (by omega), hrd, if_pos (by simp), hset, hw]
    · have hq := hp (by omega)
      have hv : wrap64 ((i : Int) - 1) = (i : Int) - 1 := w64 (by omega) (by omega)
      by_cases c1 : rd m (i : Int) < rd m ((i : Int) - 1)
      · rw [if_pos (.inr c1)]
        have hi2 := ih (i + 1) (out ++ [[(i : Int)]]) (by omega) (hs.new _) (fun _ => by simp)
        refine Ev.step (fun k => ?_) hi2
        simp only [impl_RisingSequences.l0]
        rw [if_pos (by omega), if_neg (by omega), if_pos (by omega), if_pos (by omega), hv, if_pos (by omega), if_pos (by omega), if_pos c1, if_pos (by omega)]
        simp only [Option.bind_some]
        rw [hlen, w64 (by omega) (by omega), if_pos (by omega), if_pos (by omega), hrd, if_pos (by simp), hset, hw]
      · rw [if_neg (fun h => h.elim (by omega) c1)]
        have hi2 := ih (i + 1) (addLast out i) (by omega) (hs.more _) (fun _ => by rw [addLast_length]; exact hq)
        have hl := hs.last
        have hL : wrap64 ((out.length : Int) - 1) = ((out.length - 1 : Nat) : Int) := by rw [w64 (by omega) (by omega)]; omega
        have hrd2 : rd_L1 out ((out.length - 1 : Nat) : Int) = out.getD (out.length - 1) [] := by simp [rd_L1]
        refine Ev.step (fun k => ?_) hi2
        simp only [impl_RisingSequences.l0]
        rw [if_pos (by omega), if_neg (by omega), if_pos (by omega), if_pos (by omega), hv, if_pos (by omega), if_pos (by omega), if_neg c1, hL, if_pos (by omega), if_pos (by omega), hrd2, if_pos (by omega), hw, Int.toNat_natCast]
        rfl
theorem impl_RisingSequences_ev (a : List Int) (ha : a.length ≤ 9223372036854775806) : Ev (fun k => impl_RisingSequences.f k a) (rising a) := by
  unfold impl_RisingSequences.f rising
  refine Ev.bind (impl_PermOk_ev a ha) ?_
  by_cases h : permOk a = true
  · obtain ⟨p1, p2, p3⟩ := (permOk_iff a).1 h
    refine ev_ite_true h ?_
    rw [if_pos h]
    refine Ev.bind (impl_inverse_ev a (by omega) p1) ?_
    exact impl_RisingSequences_loop (inverse a) a.length (inverse_length a) p3 a.length 0 [] (by omega) ⟨by simp, by simp⟩ (by omega)
  · refine ev_ite_false h ?_
    rw [if_neg h]
    exact Ev.now _

theorem impl_before_in (a : List Int) (i : Nat) (R : List (List Int)) (B : List Int) (l : List Int) (hl : l.length ≤ 1000) (hr : ∀ x ∈ l, 0 ≤ x ∧ x < a.length) (hn : R.length ≤ 1000) : ∀ (r pre : List Int) (m : List Bool), l = pre ++ r → m.length = a.length →
    Ev (fun k => impl_before.l0 k a (fillRow (Int.tmod (i : Int) 2 == 1) m r) R (R.length : Int) (wrap64 ((i : Int) + 1))) B →
    Ev (fun k => impl_before.l1 k a m (i : Int) R (R.length : Int) (i : Int) l (l.length : Int) (pre.length : Int)) B := by
  intro r
  induction r with
  | nil =>
    intro pre m h hm hk
    refine Ev.step (fun k => ?_) hk
    simp only [impl_before.l1]
    rw [if_neg (by rw [h]; simp)]
    rfl
  | cons x r ih =>
    intro pre m h hm hk
    have hx := hr x (by rw [h]; simp)
    have e : l.length = pre.length + (r.length + 1) := by rw [h]; simp
    have hrd : rd l (pre.length : Int) = x := rd_mid' h
    refine Ev.step (fun k => ?_) (ih (pre ++ [x]) (m.set x.toNat (Int.tmod (i : Int) 2 == 1)) (snoc_eq h) (by simpa using hm) hk)
    simp only [impl_before.l1]
    rw [if_pos (by omega), if_pos (by omega), if_pos (by omega), hrd, if_pos hx.1, if_pos (by omega), snoc_len x (by omega)]
theorem impl_before_out (a : List Int) (R : List (List Int)) (B : List Int) (hn : R.length ≤ 1000) (hR : ∀ l ∈ R, l.length ≤ 1000 ∧ ∀ x ∈ l, 0 ≤ x ∧ x < a.length) : ∀ (r pre : List (List Int)) (m : List Bool), R = pre ++ r → m.length = a.length →
    Ev (fun k => impl_before.l2 k (fillAll (fun i => Int.tmod (i : Int) 2 == 1) pre.length m r) [] [] a (a.length : Int) 0) B →
    Ev (fun k => impl_before.l0 k a m R (R.length : Int) (pre.length : Int)) B := by
  intro r
  induction r with
  | nil =>
    intro pre m h hm hk
    refine Ev.step (fun k => ?_) hk
    simp only [impl_before.l0]
    rw [if_neg (by rw [h]; simp)]
    rfl
  | cons l r ih =>
    intro pre m h hm hk
    have e : R.length = pre.length + (r.length + 1) := by rw [h]; simp
    have hrd : rd_L1 R (pre.length : Int) = l := by rw [h]; simp [rd_L1]
    have hl := hR l (by rw [h]; simp)
    have e2 : (pre.length : Int) + 1 = ((pre ++ [l]).length : Int) := by simp
    have hi := ih (pre ++ [l]) (fillRow (Int.tmod (pre.length : Int) 2 == 1) m l) (by rw [h]; simp) (by rw [fillRow_length]; exact hm) (by rw [List.length_append, List.length_singleton]; exact hk)
    refine Ev.step (fun k => ?_) (impl_before_in a pre.length R B l hl.1 hl.2 hn l [] m rfl hm (by rw [w64 (by omega) (by omega), e2]; exact hi))
    simp only [impl_before.l0]
    rw [if_pos (by omega), if_pos (by omega), if_pos (by omega), hrd]
    rfl
theorem impl_before_split (a : List Int) (ha : a.length ≤ 1000) (hp : ∀ x ∈ a, 0 ≤ x ∧ x < a.length) : ∀ (r pre : List Int) (p q : List Int), a = pre ++ r → p.length + q.length ≤ pre.length →
    Ev (fun k => impl_before.l2 k (oddOf a) p q a (a.length : Int) (pre.length : Int)) ((p ++ r.filter (fun x => !oddAt a x)) ++ (q ++ r.filter (fun x => oddAt a x))) := by
  have ho := oddOf_length a
  intro r
  induction r with
  | nil =>
    intro pre p q h hl
    have e : a.length = pre.length := by rw [h]; simp
    refine Ev.step (f := fun _ => some (p ++ q)) (fun k => ?_) (by simpa using Ev.now _)
    simp only [impl_before.l2]
    rw [if_neg (by omega), if_pos (by omega)]
  | cons x r ih =>
    intro pre p q h hl
    have e : a.length = pre.length + (r.length + 1) := lens h
    have hx := hp x (by rw [h]; simp)
    have hrd : rd a (pre.length : Int) = x := rd_mid' h
    have hod := oddAt_odd hx.1 hx.2
    cases c : oddAt a x with
    | true =>
      have hi := ih (pre ++ [x]) p (q ++ [x]) (snoc_eq h) (by simp; omega)
      rw [List.filter_cons_of_neg (by simp [c]), List.filter_cons_of_pos c]
      have e2 : (p ++ List.filter (fun x => !oddAt a x) r) ++ ((q ++ [x]) ++ List.filter (fun x => oddAt a x) r) = (p ++ List.filter (fun x => !oddAt a x) r) ++ (q ++ x :: List.filter (fun x => oddAt a x) r) := by simp
      rw [e2] at hi
      refine Ev.step (fun k => ?_) hi
      simp only [impl_before.l2]
      rw [if_pos (by omega), if_pos (by omega), if_pos (by omega), hrd, if_pos hx.1, if_pos (by omega), hod, if_pos c, if_pos (by omega), snoc_len x (by omega)]
    | false =>
      have hi := ih (pre ++ [x]) (p ++ [x]) q (snoc_eq h) (by simp; omega)
      rw [List.filter_cons_of_pos (by simp [c]), List.filter_cons_of_neg (by simp [c])]
      have e2 : ((p ++ [x]) ++ List.filter (fun x => !oddAt a x) r) ++ (q ++ List.filter (fun x => oddAt a x) r) = (p ++ x :: List.filter (fun x => !oddAt a x) r) ++ (q ++ List.filter (fun x => oddAt a x) r) := by simp
      rw [e2] at hi
      refine Ev.step (fun k => ?_) hi
      simp only [impl_before.l2]
      rw [if_pos (by omega), if_pos (by omega), if_pos (by omega), hrd, if_pos hx.1, if_pos (by omega), hod, if_neg (by simp [c]), if_pos (by omega), snoc_len x (by omega)]
theorem impl_before_ev (a : List Int) (ha : permOk a = true) : Ev (fun k => impl_before.f k a) (beforeP a) := by
  obtain ⟨p1, p2, p3⟩ := (permOk_iff a).1 ha
  have hs := rising_small a
  unfold impl_before.f
  refine ev_ite_true (by omega) (ev_ite_true (by omega) (Ev.bind (impl_RisingSequences_ev a (by omega)) ?_))
  rw [Int.toNat_natCast]
  refine impl_before_out a (rising a) _ (by have := hs.1; omega) (fun l hl => ⟨by have := hs.2 l hl; omega, rising_range a l hl⟩) (rising a) [] (List.replicate a.length false) rfl (by simp) ?_
  exact impl_before_split a (by omega) p1 a [] [] [] rfl (by simp)

theorem impl_LeastRiffles_loop (a : List Int) (ha : a.length ≤ 9223372036854775806) : Ev (fun k => impl_LeastRiffles.l0 k a 0) (leastOf (rising a).length) := by
  have hs := (rising_small a).1
  have hr := impl_RisingSequences_ev a ha
  obtain ⟨r, hrr⟩ : ∃ r : Int, r = (rising a).length := ⟨_, rfl⟩
  have hb : r ≤ 16 := by omega
  unfold leastOf
  rw [← hrr]
  have e0 : Go.Proofs.YtojbjofngpcjaaaW.PrintWords.shl .i64 1 0 = 1 := by kernel_rfl
  have e1 : Go.Proofs.YtojbjofngpcjaaaW.PrintWords.shl .i64 1 1 = 2 := by kernel_rfl
  have e2 : Go.Proofs.YtojbjofngpcjaaaW.PrintWords.shl .i64 1 2 = 4 := by kernel_rfl
  have e3 : Go.Proofs.YtojbjofngpcjaaaW.PrintWords.shl .i64 1 3 = 8 := by kernel_rfl
  have e4 : Go.Proofs.YtojbjofngpcjaaaW.PrintWords.shl .i64 1 4 = 16 := by kernel_rfl
  have f4 : Ev (fun k => impl_LeastRiffles.l0 k a 4) 4 := by
    refine Ev.step (fun k => by rw [impl_LeastRiffles.l0, e4]) (ev_ite_true (by omega) (Ev.bind hr ?_))
    rw [← hrr]; exact ev_ite_false (by omega) (Ev.now _)
  have f3 : Ev (fun k => impl_LeastRiffles.l0 k a 3) (if 8 < r then 4 else 3) := by
    refine Ev.step (fun k => by rw [impl_LeastRiffles.l0, e3, w64 (by omega) (by omega)]) (ev_ite_true (by omega) (Ev.bind hr ?_))
    rw [← hrr]
    by_cases h : 8 < r
    · rw [if_pos h]; exact ev_ite_true h f4
    · rw [if_neg h]; exact ev_ite_false h (Ev.now _)
  have f2 : Ev (fun k => impl_LeastRiffles.l0 k a 2) (if 4 < r then (if 8 < r then 4 else 3) else 2) := by
    refine Ev.step (fun k => by rw [impl_LeastRiffles.l0, e2, w64 (by omega) (by omega)]) (ev_ite_true (by omega) (Ev.bind hr ?_))
    rw [← hrr]
    by_cases h : 4 < r
    · rw [if_pos h]; exact ev_ite_true h f3
    · rw [if_neg h]; exact ev_ite_false h (Ev.now _)
  have f1 : Ev (fun k => impl_LeastRiffles.l0 k a 1) (if 2 < r then (if 4 < r then (if 8 < r then 4 else 3) else 2) else 1) := by
    refine Ev.step (fun k => by rw [impl_LeastRiffles.l0, e1, w64 (by omega) (by omega)]) (ev_ite_true (by omega) (Ev.bind hr ?_))
    rw [← hrr]
    by_cases h : 2 < r
    · rw [if_pos h]; exact ev_ite_true h f2
    · rw [if_neg h]; exact ev_ite_false h (Ev.now _)
  refine Ev.step (fun k => by rw [impl_LeastRiffles.l0, e0, w64 (by omega) (by omega)]) (ev_ite_true (by omega) (Ev.bind hr ?_))
  rw [← hrr]
  by_cases h : 1 < r
  · rw [if_pos h]; exact ev_ite_true h f1
  · rw [if_neg h]; exact ev_ite_false h (Ev.now _)
theorem impl_LeastRiffles_ev (a : List Int) (ha : a.length ≤ 9223372036854775806) : Ev (fun k => impl_LeastRiffles.f k a) (leastRiffles a) := by
  unfold impl_LeastRiffles.f leastRiffles
  have hj : Ev (fun n => impl_LeastRiffles.j0 n a true) (-1) := Ev.step (fun n => by rw [impl_LeastRiffles.j0]) (ev_ite_true rfl (Ev.now _))
  refine Ev.bind (impl_PermOk_ev a ha) ?_
  by_cases h : permOk a = true
  · refine ev_ite_true h ?_
    by_cases h0 : a.length = 0
    · rw [if_neg (fun q => q.2 h0)]
      simp only [h0]
      exact hj
    · rw [if_pos ⟨h, h0⟩, show ((a.length : Int) == 0) = false from beq_eq_false_iff_ne.mpr (by omega)]
      exact Ev.step (fun n => by rw [impl_LeastRiffles.j0]) (ev_ite_false (by simp) (impl_LeastRiffles_loop a ha))
  · refine ev_ite_false h ?_
    rw [if_neg (fun q => h q.1)]
    exact hj

theorem impl_UnshuffleTo_loop : ∀ (d : Nat) (x0 : List Int) (out : List (List Int)), d + out.length ≤ 50 → permOk x0 = true →
    Ev (fun k => impl_UnshuffleTo.l0 k x0 (out.reverse ++ [x0]) (d : Int)) (unS d (x0 :: out), true) := by
  intro d
  induction d with
  | zero =>
    intro x0 out h hp
    refine Ev.step (f := fun _ => some _) (fun k => ?_) (Ev.now _)
    simp only [impl_UnshuffleTo.l0]
    rw [if_neg (by omega), unS]
    simp
  | succ d ih =>
    intro x0 out h hp
    have hi := ih (beforeP x0) (x0 :: out) (by simp; omega) (permOk_perm (beforeP_perm x0) hp)
    rw [unS]
    refine Ev.step (f := fun k => (impl_before.f k x0).bind fun t => impl_UnshuffleTo.l0 k t ((out.reverse ++ [x0]) ++ [t]) (d : Int)) (fun k => ?_) (Ev.bind (impl_before_ev x0 hp) ?_)
    · simp only [impl_UnshuffleTo.l0]
      rw [if_pos (by omega), if_pos (by simp; omega), w64 (by omega) (by omega)]
      have e : ((d + 1 : Nat) : Int) - 1 = d := by omega
      rw [e]
    · rw [List.reverse_cons] at hi
      exact hi
theorem impl_UnshuffleTo_ev (a : List Int) (ha : a.length ≤ 1048576) : Ev (fun k => impl_UnshuffleTo.f k a) (unshuffleTo a) := by
  unfold impl_UnshuffleTo.f unshuffleTo
  refine Ev.bind (impl_LeastRiffles_ev a (by omega)) ?_
  by_cases h : permOk a = true ∧ ¬ a.length = 0
  · have hb := leastOf_bound (rising a).length
    have e : leastRiffles a = leastOf (rising a).length := by unfold leastRiffles; rw [if_pos h]
    rw [if_pos h]
    refine ev_ite_false (by omega) (ev_ite_true (by omega) ?_)
    have := impl_UnshuffleTo_loop (leastRiffles a).toNat a [] (by simp; omega) h.1
    rw [Int.toNat_of_nonneg (by omega)] at this
    exact this
  · rw [if_neg h]
    have e : leastRiffles a = -1 := by unfold leastRiffles; rw [if_neg h]
    exact ev_ite_true (by omega) (Ev.now _)

theorem FnExactUnshuffleTo : laws_FnExactUnshuffleTo.Pure := by
  intro a h1 h2 w
  by_cases g : a.length > 1048576
  · exact .inl g
  refine .inr ?_
  have hs := unshuffleTo_small a
  have ht := total_le (unshuffleTo a).1 12 hs.2
  have hl := hs.1
  obtain ⟨mm, r', hm, hr, E1⟩ := lists_held (unshuffleTo a).1 (by omega) (by omega)
  obtain ⟨K, E⟩ := and_at (laws_toIntS_ev a (by omega)) (and_at (spec_UnshuffleTo_ev a (by omega)) (and_at (impl_UnshuffleTo_ev a (by omega)) (and_at E1 (and_at (laws_eqIntS_ev a a (by omega)) (laws_markIntS_ev a 1 (by omega) (by omega))))))
  obtain ⟨e1, e2, e3, ⟨e4, e5, e6⟩, e7, e8⟩ := E K (Nat.le_refl _)
  exact ⟨K, (unshuffleTo a).1, r', (unshuffleTo a).2, mm, 1 + (a.length : Int), upFrom 1 a.length, e1, e2, e3, e4, by simpa using e7, e8, e5, e6, hr, hm, by omega⟩

end Go.Proofs.Ytojbjofngpcjaaa.Pure
