/- For all arguments, the program's CyclesOf answers as the reference's does, leaves its arguments alone, and answers in memory of its own. No conditions. -/
import Derived.Test.YtojbjofngpcjaaaMFnExactCyclesOfx0
import Derived.Test.YtojbjofngpcjaaaMFnExactCyclesOfx1
import Derived.Test.YtojbjofngpcjaaaMFnExactCyclesOfx2
import Derived.Test.YtojbjofngpcjaaaMFnExactCyclesOfx3
import Derived.Test.YtojbjofngpcjaaaMFnExactCyclesOfx4
import Derived.OpenShut
namespace Go.Proofs.Ytojbjofngpcjaaa.Pure
open Go.RowKit Go.Proofs.Ytojbjofngpcjaaa.MFnExactCyclesOf Go.Proofs.YtojbjofngpcjaaaW.PrintWords Go.Proofs.YtojbjofngpcjaaaW.PrintLast
set_option linter.unusedVariables false
set_option linter.unusedSimpArgs false

/-! ### base: numbers, reads, loops -/
theorem w64 {a : Int} (h0 : -9223372036854775808 ≤ a) (h1 : a ≤ 9223372036854775807) : wrap64 a = a := by
  unfold wrap64
  omega
theorem w64n {n : Nat} (h : n ≤ 9223372036854775807) : wrap64 (n : Int) = n := w64 (by omega) (by omega)
theorem bd64 {n : Int} (h : (Lit.int .i64 n).wf = true) : -9223372036854775808 ≤ n ∧ n ≤ 9223372036854775807 := Go.bounds_i64 h
theorem rd_nat (xs : List Int) (i : Nat) : rd xs (i : Int) = xs.getD i 0 := by simp [rd]
theorem rd_lt {xs : List Int} {i : Nat} (h : i < xs.length) : rd xs (i : Int) = xs[i] := by simp [rd, h]
theorem bt_nat {s : ByteArray} {i : Nat} (h : i < s.size) : bt s (i : Int) = (s[i].toNat : Int) := by simp [bt, h]
/-- Going up to n: what holds at n holds from i on. -/
theorem up_ind (n : Nat) (P : Nat → Prop) (h0 : P n) (hs : ∀ i, i < n → P (i + 1) → P i) : ∀ i, i ≤ n → P i := by
  have h : ∀ d i, i + d = n → P i := by
    intro d
    induction d with
    | zero => intro i hi; obtain rfl : i = n := by omega
              exact h0
    | succ d ih => intro i hi; exact hs i (by omega) (ih (i + 1) (by omega))
  intro i hi
  exact h (n - i) i (by omega)
theorem ev_some {α : Type} {g : Nat → Option α} {r : α} (h : ∀ k, g k = some r) : Ev g r := ⟨0, fun k _ => h k⟩
theorem ev_pair {α β : Type} {g : Nat → Option α} {f : Nat → Option β} {a : α} {b : β} {h : α → β → Option Bool} (hg : Ev g a) (hf : Ev f b) (hh : h a b = some true) : ∃ k, ((g k).bind fun x => (f k).bind fun y => h x y) = some true :=
  Ev.rounds (Ev.bind hg (Ev.bind hf (ev_some fun _ => hh)))

/-! ### lists -/
theorem rd_mid (pre : List Int) (x : Int) (r : List Int) : rd (pre ++ x :: r) (pre.length : Int) = x := by simp [rd]
theorem rd_mid' {l pre : List Int} {x : Int} {r : List Int} (h : l = pre ++ x :: r) : rd l (pre.length : Int) = x := by subst h; exact rd_mid _ _ _
theorem snoc_eq {l pre : List Int} {x : Int} {r : List Int} (h : l = pre ++ x :: r) : l = (pre ++ [x]) ++ r := by simp [h]
theorem snoc_len {pre : List Int} (x : Int) (h : pre.length ≤ 9223372036854775806) : wrap64 ((pre.length : Int) + 1) = ((pre ++ [x]).length : Int) := by
  rw [w64 (by omega) (by omega)]; simp
/-- The whole numbers from m on, n of them. -/
def upFrom (m : Int) : Nat → List Int
  | 0 => []
  | n + 1 => m :: upFrom (m + 1) n
theorem upFrom_length (n : Nat) : ∀ m, (upFrom m n).length = n := by
  induction n with
  | zero => intro m; rfl
  | succ n ih => intro m; simp [upFrom, ih]
theorem upFrom_get (n : Nat) : ∀ (m : Int) (i : Nat) (h : i < (upFrom m n).length), (upFrom m n)[i] = m + i := by
  induction n with
  | zero => intro m i h; simp [upFrom] at h
  | succ n ih =>
    intro m i h
    cases i with
    | zero => simp [upFrom]
    | succ i => simp only [upFrom, List.getElem_cons_succ]; rw [ih]; omega
theorem upFrom_snoc (n : Nat) : ∀ m, upFrom m (n + 1) = upFrom m n ++ [m + n] := by
  induction n with
  | zero => intro m; simp [upFrom]
  | succ n ih => intro m; rw [upFrom, ih]; simp [upFrom]; omega
theorem upFrom_mem (n : Nat) : ∀ (m x : Int), x ∈ upFrom m n ↔ m ≤ x ∧ x < m + n := by
  induction n with
  | zero => intro m x; simp only [upFrom, List.not_mem_nil, false_iff]; omega
  | succ n ih => intro m x; simp only [upFrom, List.mem_cons, ih]; omega
theorem upFrom_nodup (n : Nat) : ∀ m, (upFrom m n).Nodup := by
  induction n with
  | zero => intro m; simp [upFrom]
  | succ n ih => intro m; simp only [upFrom, List.nodup_cons, ih, and_true, upFrom_mem]; omega
theorem nodup_inj {l : List Int} (h : l.Nodup) (i j : Nat) (hi : i < l.length) (hj : j < l.length) (e : l[i] = l[j]) : i = j := by
  have hp := List.pairwise_iff_getElem.1 h
  rcases Nat.lt_trichotomy i j with c | c | c
  · exact absurd e (hp i j hi hj c)
  · exact c
  · exact absurd e.symm (hp j i hj hi c)
theorem set_mid (pre : List Int) (x y : Int) (r : List Int) : (pre ++ y :: r).set pre.length x = (pre ++ [x]) ++ r := by simp
theorem lens {l pre r : List Int} (h : l = pre ++ r) : l.length = pre.length + r.length := by rw [h]; simp
theorem snoc_cast (pre : List Int) (x : Int) : ((pre ++ [x]).length : Int) = (pre.length : Int) + 1 := by simp

theorem laws_toIntS_loop (l : List Int) (hl : l.length ≤ 17592186044415) : ∀ (r pre : List Int), l = pre ++ r →
    Ev (fun k => laws_toIntS.l0 k l (pre ++ List.replicate r.length 0) (pre.length : Int)) l := by
  intro r
  induction r with
  | nil =>
    intro pre h
    have e := lens h
    simp only [List.length_nil] at e
    refine Ev.step (f := fun _ => some _) (fun k => ?_) (Ev.now _)
    simp only [laws_toIntS.l0]
    rw [if_neg (by omega)]
    simp [h]
  | cons x r ih =>
    intro pre h
    have e := lens h
    simp only [List.length_cons] at e
    refine Ev.step (fun k => ?_) (ih (pre ++ [x]) (snoc_eq h))
    simp only [laws_toIntS.l0]
    rw [if_pos (by omega), if_pos (by omega), if_pos (by simp; omega), rd_mid' h, snoc_len x (by omega), List.length_cons, List.replicate_succ, Int.toNat_natCast, set_mid]
theorem laws_toIntS_ev (l : List Int) (hl : l.length ≤ 17592186044415) : Ev (fun k => laws_toIntS.f k l) l := by
  unfold laws_toIntS.f
  have h := laws_toIntS_loop l hl l [] rfl
  simp only [if_pos (show 0 ≤ (l.length : Int) by omega), if_pos (show ((l.length : Int) : Int).toNat ≤ 35184372088832 by omega)]
  simpa using h

theorem laws_eqIntS_loop (a b : List Int) (hab : a.length = b.length) (hl : a.length ≤ 9223372036854775806) : ∀ (r s pre qre : List Int), a = pre ++ r → b = qre ++ s → pre.length = qre.length →
    Ev (fun k => laws_eqIntS.l0 k a b (pre.length : Int)) (decide (r = s)) := by
  intro r
  induction r with
  | nil =>
    intro s pre qre h h' hp
    have e := lens h
    have e' := lens h'
    simp only [List.length_nil] at e
    have hs : s = [] := List.eq_nil_of_length_eq_zero (by omega)
    refine Ev.step (f := fun _ => some _) (fun k => ?_) (Ev.now _)
    simp only [laws_eqIntS.l0]
    rw [if_neg (by omega), hs]
    simp
  | cons x r ih =>
    intro s pre qre h h' hp
    have e := lens h
    have e' := lens h'
    simp only [List.length_cons] at e
    cases s with
    | nil => simp only [List.length_nil] at e'; omega
    | cons y s =>
      have hy := rd_mid' h'
      rw [← hp] at hy
      by_cases c : x = y
      · subst c
        have hi := ih s (pre ++ [x]) (qre ++ [x]) (snoc_eq h) (snoc_eq h') (by simp [hp])
        have ed : decide (x :: r = x :: s) = decide (r = s) := by simp
        rw [ed]
        refine Ev.step (fun k => ?_) hi
        simp only [laws_eqIntS.l0]
        rw [if_pos (by omega), if_pos (by omega), if_pos (by omega), rd_mid' h, hy, if_pos rfl, snoc_len x (by omega)]
      · refine Ev.step (f := fun _ => some _) (fun k => ?_) (Ev.now _)
        simp only [laws_eqIntS.l0]
        rw [if_pos (by omega), if_pos (by omega), if_pos (by omega), rd_mid' h, hy, if_neg c]
        simp [c]
theorem laws_eqIntS_ev (a b : List Int) (hl : a.length ≤ 9223372036854775806) : Ev (fun k => laws_eqIntS.f k a b) (decide (a = b)) := by
  unfold laws_eqIntS.f
  by_cases h : (a.length : Int) = (b.length : Int)
  · simp only [if_pos h]
    exact laws_eqIntS_loop a b (by omega) hl a b [] [] rfl rfl rfl
  · simp only [if_neg h]
    exact ev_some fun _ => by rw [decide_eq_false (fun e => h (by rw [e]))]

theorem laws_markIntS_loop : ∀ (r pre : List Int) (m : Int), 0 ≤ m → m + r.length ≤ 9223372036854775806 → pre.length + r.length ≤ 9223372036854775806 →
    Ev (fun k => laws_markIntS.l0 k (pre ++ r) m (pre.length : Int)) (m + r.length, pre ++ upFrom m r.length) := by
  intro r
  induction r with
  | nil =>
    intro pre m h0 h1 h2
    refine Ev.step (f := fun _ => some _) (fun k => ?_) (Ev.now _)
    simp only [laws_markIntS.l0]
    rw [if_neg (by simp)]
    simp [upFrom]
  | cons x r ih =>
    intro pre m h0 h1 h2
    simp only [List.length_cons] at h1 h2
    have hi := ih (pre ++ [m]) (m + 1) (by omega) (by omega) (by simp; omega)
    have er : ((m + 1 + r.length : Int), (pre ++ [m]) ++ upFrom (m + 1) r.length) = (m + (x :: r).length, pre ++ upFrom m (x :: r).length) := by
      simp [upFrom]; omega
    rw [er] at hi
    refine Ev.step (fun k => ?_) hi
    simp only [laws_markIntS.l0]
    rw [if_pos (by simp; omega), if_pos (by omega), w64 (by omega) (by omega), snoc_len m (by omega), Int.toNat_natCast, set_mid]
theorem laws_markIntS_ev (l : List Int) (m : Int) (h0 : 0 ≤ m) (h1 : m + l.length ≤ 9223372036854775806) :
    Ev (fun k => laws_markIntS.f k l m) (m + l.length, upFrom m l.length) := by
  unfold laws_markIntS.f
  exact laws_markIntS_loop l [] m h0 h1 (by simp; omega)
theorem laws_heldIntS_loop (l : List Int) (hl : l.length ≤ 9223372036854775806) : ∀ (n : Nat) (pre : List Int) (m : Int), 0 ≤ m → m + n ≤ 9223372036854775806 → l = pre ++ upFrom m n →
    Ev (fun k => laws_heldIntS.l0 k l m (pre.length : Int)) (m + n) := by
  intro n
  induction n with
  | zero =>
    intro pre m h0 h1 h
    have e := lens h
    simp only [upFrom_length] at e
    refine Ev.step (f := fun _ => some _) (fun k => ?_) (Ev.now _)
    simp only [laws_heldIntS.l0]
    rw [if_neg (by omega)]
    simp
  | succ n ih =>
    intro pre m h0 h1 h
    have e := lens h
    simp only [upFrom_length] at e
    have hi := ih (pre ++ [m]) (m + 1) (by omega) (by omega) (by rw [h]; simp [upFrom])
    have er : m + 1 + (n : Int) = m + (n + 1 : Nat) := by omega
    rw [er] at hi
    refine Ev.step (fun k => ?_) hi
    simp only [laws_heldIntS.l0]
    rw [if_pos (by omega), if_pos (by omega), rd_mid' (by rw [h, upFrom]), if_pos rfl, w64 (by omega) (by omega), snoc_len m (by omega)]
theorem laws_heldIntS_ev (m : Int) (n : Nat) (h0 : 0 ≤ m) (h1 : m + n ≤ 9223372036854775806) :
    Ev (fun k => laws_heldIntS.f k (upFrom m n) m) (m + n) := by
  unfold laws_heldIntS.f
  exact laws_heldIntS_loop (upFrom m n) (by rw [upFrom_length]; omega) n [] m h0 h1 rfl

def total (r : List (List Int)) : Nat := (r.map List.length).sum
def markAll : Int → List (List Int) → List (List Int)
  | _, [] => []
  | m, l :: r => upFrom m l.length :: markAll (m + l.length) r
theorem markAll_length (r : List (List Int)) : ∀ m, (markAll m r).length = r.length := by
  induction r with
  | nil => intro m; rfl
  | cons l r ih => intro m; simp [markAll, ih]
theorem total_cons (l : List Int) (r : List (List Int)) : total (l :: r) = l.length + total r := by simp [total]
theorem getD_mid (pre : List (List Int)) (x : List Int) (r : List (List Int)) : (pre ++ x :: r).getD pre.length [] = x := by simp
theorem set_midL (pre : List (List Int)) (x y : List Int) (r : List (List Int)) : (pre ++ y :: r).set pre.length x = (pre ++ [x]) ++ r := by simp
theorem laws_markIntSS_loop : ∀ (r pre : List (List Int)) (m : Int), 0 ≤ m → m + total r ≤ 9223372036854775806 → pre.length + r.length ≤ 9223372036854775806 →
    Ev (fun k => laws_markIntSS.l0 k (pre ++ r) m (pre.length : Int)) (m + total r, pre ++ markAll m r) := by
  intro r
  induction r with
  | nil =>
    intro pre m h0 h1 h2
    refine Ev.step (f := fun _ => some _) (fun k => ?_) (Ev.now _)
    simp only [laws_markIntSS.l0]
    rw [if_neg (by simp)]
    simp [markAll, total]
  | cons l r ih =>
    intro pre m h0 h1 h2
    rw [total_cons] at h1
    simp only [List.length_cons] at h2
    have hi := ih (pre ++ [upFrom m l.length]) (m + l.length) (by omega) (by omega) (by simp; omega)
    have er : ((m + l.length + total r : Int), (pre ++ [upFrom m l.length]) ++ markAll (m + l.length) r) = (m + (total (l :: r) : Nat), pre ++ markAll m (l :: r)) := by
      rw [total_cons]; simp [markAll]; omega
    rw [er] at hi
    refine Ev.step (f := fun k => (laws_markIntS.f k l m).bind fun b => laws_markIntSS.l0 k ((pre ++ l :: r).set pre.length b.2) b.1 (wrap64 ((pre.length : Int) + 1))) (fun k => ?_) (Ev.bind (laws_markIntS_ev l m h0 (by omega)) ?_)
    · simp only [laws_markIntSS.l0]
      rw [if_pos (by simp; omega), if_pos (by omega), Int.toNat_natCast, getD_mid]
    · have ew : wrap64 ((pre.length : Int) + 1) = ((pre ++ [upFrom m l.length]).length : Int) := by rw [w64 (by omega) (by omega)]; simp
      simp only [set_midL, ew]
      exact hi
theorem laws_markIntSS_ev (r : List (List Int)) (m : Int) (h0 : 0 ≤ m) (h1 : m + total r ≤ 9223372036854775806) (h2 : r.length ≤ 9223372036854775806) :
    Ev (fun k => laws_markIntSS.f k r m) (m + total r, markAll m r) := by
  unfold laws_markIntSS.f
  exact laws_markIntSS_loop r [] m h0 h1 (by simp; omega)
theorem laws_heldIntSS_loop (l : List (List Int)) : ∀ (r pre : List (List Int)) (m : Int), 0 ≤ m → m + total r ≤ 9223372036854775806 → pre.length + r.length ≤ 9223372036854775806 → l = pre ++ markAll m r →
    Ev (fun k => laws_heldIntSS.l0 k l m (pre.length : Int)) (m + total r) := by
  intro r
  induction r with
  | nil =>
    intro pre m h0 h1 h2 h
    refine Ev.step (f := fun _ => some _) (fun k => ?_) (Ev.now _)
    simp only [laws_heldIntSS.l0]
    rw [if_neg (by rw [h]; simp [markAll])]
    simp [total]
  | cons x r ih =>
    intro pre m h0 h1 h2 h
    rw [total_cons] at h1
    simp only [List.length_cons] at h2
    have hl : l.length = pre.length + (r.length + 1) := by rw [h]; simp [markAll, markAll_length]
    have hi := ih (pre ++ [upFrom m x.length]) (m + x.length) (by omega) (by omega) (by simp; omega) (by rw [h]; simp [markAll])
    have er : m + (x.length : Int) + (total r : Int) = m + (total (x :: r) : Nat) := by rw [total_cons]; omega
    rw [er] at hi
    have hrd : rd_L1 l (pre.length : Int) = upFrom m x.length := by rw [h, markAll]; simp [rd_L1]
    refine Ev.step (f := fun k => (laws_heldIntS.f k (upFrom m x.length) m).bind fun t => if t < 0 then some (-1) else laws_heldIntSS.l0 k l t (wrap64 ((pre.length : Int) + 1))) (fun k => ?_) (Ev.bind (laws_heldIntS_ev m x.length h0 (by omega)) ?_)
    · simp only [laws_heldIntSS.l0]
      rw [if_pos (by omega), if_pos (by omega), hrd]
    · have ew : wrap64 ((pre.length : Int) + 1) = ((pre ++ [upFrom m x.length]).length : Int) := by rw [w64 (by omega) (by omega)]; simp
      simp only [if_neg (show ¬ (m + (x.length : Int) < 0) by omega), ew]
      exact hi
theorem laws_heldIntSS_ev (r : List (List Int)) (m : Int) (h0 : 0 ≤ m) (h1 : m + total r ≤ 9223372036854775806) (h2 : r.length ≤ 9223372036854775806) :
    Ev (fun k => laws_heldIntSS.f k (markAll m r) m) (m + total r) := by
  unfold laws_heldIntSS.f
  exact laws_heldIntSS_loop (markAll m r) r [] m h0 h1 (by simp; omega) rfl
theorem laws_eqIntSS_loop (l : List (List Int)) (hs : ∀ x ∈ l, x.length ≤ 9223372036854775806) (hl : l.length ≤ 9223372036854775806) : ∀ (r pre : List (List Int)), l = pre ++ r →
    Ev (fun k => laws_eqIntSS.l0 k l l (pre.length : Int)) true := by
  intro r
  induction r with
  | nil =>
    intro pre h
    refine Ev.step (f := fun _ => some _) (fun k => ?_) (Ev.now _)
    simp only [laws_eqIntSS.l0]
    rw [if_neg (by rw [h]; simp)]
  | cons x r ih =>
    intro pre h
    have e : l.length = pre.length + (r.length + 1) := by rw [h]; simp
    have hi := ih (pre ++ [x]) (by rw [h]; simp)
    have hrd : rd_L1 l (pre.length : Int) = x := by rw [h]; simp [rd_L1]
    refine Ev.step (f := fun k => (laws_eqIntS.f k x x).bind fun t => if t = true then laws_eqIntSS.l0 k l l (wrap64 ((pre.length : Int) + 1)) else some false) (fun k => ?_) (Ev.bind (laws_eqIntS_ev x x (hs x (by rw [h]; simp))) ?_)
    · simp only [laws_eqIntSS.l0]
      rw [if_pos (by omega), if_pos (by omega), if_pos (by omega), hrd]
    · have ew : wrap64 ((pre.length : Int) + 1) = ((pre ++ [x]).length : Int) := by rw [w64 (by omega) (by omega)]; simp
      simp only [decide_true, if_true, ew]
      exact hi
theorem laws_eqIntSS_ev (l : List (List Int)) (hs : ∀ x ∈ l, x.length ≤ 9223372036854775806) (hl : l.length ≤ 9223372036854775806) : Ev (fun k => laws_eqIntSS.f k l l) true := by
  unfold laws_eqIntSS.f
  simp only [if_true]
  exact laws_eqIntSS_loop l hs hl l [] rfl
theorem total_le (r : List (List Int)) (b : Nat) (h : ∀ l ∈ r, l.length ≤ b) : total r ≤ r.length * b := by
  induction r with
  | nil => simp [total]
  | cons l r ih =>
    rw [total_cons, List.length_cons, Nat.succ_mul]
    have := ih (fun x hx => h x (by simp [hx]))
    have := h l (by simp)
    omega
theorem mem_total {r : List (List Int)} {l : List Int} (h : l ∈ r) : l.length ≤ total r := by
  induction r with
  | nil => simp at h
  | cons x r ih =>
    rw [total_cons]
    rcases List.mem_cons.1 h with rfl | h
    · omega
    · have := ih h; omega
/-- What a law asks of lists that were handed out, at one number of rounds. -/
theorem all_at {α β : Type} {f : Nat → Option α} {g : Nat → Option β} {a : α} {b : β} (hf : Ev f a) (hg : Ev g b) : ∃ K, ∀ k, K ≤ k → f k = some a ∧ g k = some b := by
  obtain ⟨K, h⟩ := hf
  obtain ⟨M, i⟩ := hg
  exact ⟨K + M, fun k hk => ⟨h k (by omega), i k (by omega)⟩⟩
theorem and_at {p q : Nat → Prop} (hp : ∃ K, ∀ k, K ≤ k → p k) (hq : ∃ K, ∀ k, K ≤ k → q k) : ∃ K, ∀ k, K ≤ k → p k ∧ q k := by
  obtain ⟨K, h⟩ := hp
  obtain ⟨M, i⟩ := hq
  exact ⟨K + M, fun k hk => ⟨h k (by omega), i k (by omega)⟩⟩
/-- Marked and held: the lists that were handed out are the law's own. -/
theorem lists_held (r : List (List Int)) (h2 : r.length ≤ 1048576) (h1 : total r ≤ 1048576) : ∃ mm r', 0 ≤ mm ∧ r'.length = r.length ∧ (∃ K, ∀ k, K ≤ k → laws_eqIntSS.f k r r = some true ∧ laws_markIntSS.f k r 1 = some (mm, r') ∧ laws_heldIntSS.f k r' 1 = some mm) :=
  ⟨1 + total r, markAll 1 r, by omega, markAll_length r 1, and_at (laws_eqIntSS_ev r (fun x hx => by have := mem_total hx; omega) (by omega)) (all_at (laws_markIntSS_ev r 1 (by omega) (by omega) (by omega)) (laws_heldIntSS_ev r 1 (by omega) (by omega) (by omega)))⟩

/-- What every law of one list does: it hands a copy to the reference and one to the program, compares, and looks at the copy. -/
theorem ev_ite_true {α : Type} {f g : Nat → Option α} {r : α} {c : Prop} [Decidable c] (h : c) (k : Ev f r) : Ev (fun n => if c then f n else g n) r := by simpa only [if_pos h] using k
theorem ev_ite_false {α : Type} {f g : Nat → Option α} {r : α} {c : Prop} [Decidable c] (h : ¬ c) (k : Ev g r) : Ev (fun n => if c then f n else g n) r := by simpa only [if_neg h] using k

/-! ### permutations -/
def pokFrom (n : Nat) : List Int → List Int → Bool
  | _, [] => true
  | seen, x :: r => decide (0 ≤ x ∧ x < n) && (!decide (x ∈ seen) && pokFrom n (seen ++ [x]) r)
/-- A list of whole numbers is a permutation of at most 12 positions. -/
def permOk (a : List Int) : Bool := pokFrom a.length [] a && decide (a.length ≤ 12)
theorem pokFrom_iff (n : Nat) (r : List Int) : ∀ seen, pokFrom n seen r = true ↔ (∀ x ∈ r, 0 ≤ x ∧ x < n) ∧ r.Nodup ∧ (∀ x ∈ r, x ∉ seen) := by
  induction r with
  | nil => intro seen; simp [pokFrom]
  | cons x r ih =>
    intro seen
    simp only [pokFrom, Bool.and_eq_true, decide_eq_true_eq, Bool.not_eq_true', decide_eq_false_iff_not, ih, List.mem_cons, forall_eq_or_imp, List.nodup_cons, List.mem_append, List.not_mem_nil, or_false, not_or]
    constructor
    · rintro ⟨h1, h2, h3, h4, h5⟩
      exact ⟨⟨h1, h3⟩, ⟨fun hx => (h5 x hx).2 rfl, h4⟩, h2, fun y hy => (h5 y hy).1⟩
    · rintro ⟨⟨h1, h3⟩, ⟨h6, h4⟩, h2, h5⟩
      exact ⟨h1, h2, h3, h4, fun y hy => ⟨h5 y hy, fun e => h6 (e ▸ hy)⟩⟩
theorem permOk_iff (a : List Int) : permOk a = true ↔ (∀ x ∈ a, 0 ≤ x ∧ x < a.length) ∧ a.Nodup ∧ a.length ≤ 12 := by
  simp only [permOk, Bool.and_eq_true, pokFrom_iff, decide_eq_true_eq]
  simp [and_assoc]

/-- The cycle that begins at x, and what has been met then. -/
def cycFrom (a : List Int) : Nat → List Bool → List Int → Int → List Bool × List Int
  | 0, m, c, _ => (m, c)
  | d + 1, m, c, x => if rdOf false m x = true then (m, c) else cycFrom a d (m.set x.toNat true) (c ++ [x]) (rd a x)
def cycAll (a : List Int) : Nat → Nat → List (List Int) → List Bool → List (List Int)
  | 0, _, out, _ => out
  | d + 1, i, out, m => cycAll a d (i + 1) (if (cycFrom a (a.length + 1) m [] i).2 = [] then out else out ++ [(cycFrom a (a.length + 1) m [] i).2]) (cycFrom a (a.length + 1) m [] i).1
def cyclesOf (a : List Int) : List (List Int) := if permOk a = true then cycAll a a.length 0 [] (List.replicate a.length false) else []
theorem cycFrom_length (a : List Int) (d : Nat) : ∀ m c x, (cycFrom a d m c x).1.length = m.length := by
  induction d with
  | zero => intro m c x; rfl
  | succ d ih =>
    intro m c x
    rw [cycFrom]
    split
    · rfl
    · rw [ih]; simp
theorem count_met {m : List Bool} {x : Int} (h0 : 0 ≤ x) (h1 : x < m.length) (h : ¬ rdOf false m x = true) : (m.set x.toNat true).count false + 1 = m.count false := by
  have hl : x.toNat < m.length := by omega
  have e : m[x.toNat] = false := by
    simp only [rdOf, List.getD_eq_getElem?_getD, List.getElem?_eq_getElem hl, Option.getD_some] at h
    simpa using h
  rw [List.count_set hl, e]
  have : 0 < m.count false := List.count_pos_iff.2 (e ▸ List.getElem_mem hl)
  simp
  omega
theorem rd_in {a : List Int} (hp : ∀ x ∈ a, 0 ≤ x ∧ x < a.length) {x : Int} (h0 : 0 ≤ x) (h1 : x < a.length) : 0 ≤ rd a x ∧ rd a x < a.length := by
  have e : rd a x = a[x.toNat]'(by omega) := by
    have := rd_lt (xs := a) (i := x.toNat) (by omega)
    rw [Int.toNat_of_nonneg h0] at this
    exact this
  rw [e]
  exact hp _ (List.getElem_mem _)
theorem cycFrom_keep (a : List Int) (d : Nat) : ∀ m c x, c ≠ [] → (cycFrom a d m c x).2 ≠ [] := by
  induction d with
  | zero => intro m c x h; exact h
  | succ d ih =>
    intro m c x h
    rw [cycFrom]
    split
    · exact h
    · exact ih _ _ _ (by simp)

theorem spec_l02Has_loop (l : List Int) (v : Int) (hl : l.length ≤ 9223372036854775806) : ∀ (r pre : List Int), l = pre ++ r →
    Ev (fun k => spec_l02Has.l0 k v l (l.length : Int) (pre.length : Int)) (decide (v ∈ r)) := by
  intro r
  induction r with
  | nil =>
    intro pre h
    have e := lens h
    simp only [List.length_nil] at e
    refine Ev.step (f := fun _ => some _) (fun k => ?_) (Ev.now _)
    simp only [spec_l02Has.l0]
    rw [if_neg (by omega)]
    simp
  | cons x r ih =>
    intro pre h
    have e := lens h
    simp only [List.length_cons] at e
    by_cases c : x = v
    · refine Ev.step (f := fun _ => some _) (fun k => ?_) (Ev.now _)
      simp only [spec_l02Has.l0]
      rw [if_pos (by omega), if_pos (by omega), if_pos (by omega), rd_mid' h, if_pos c]
      simp [c]
    · have hi := ih (pre ++ [x]) (snoc_eq h)
      have ed : decide (v ∈ x :: r) = decide (v ∈ r) := by simp [show ¬ v = x from fun q => c q.symm]
      rw [ed]
      refine Ev.step (fun k => ?_) hi
      simp only [spec_l02Has.l0]
      rw [if_pos (by omega), if_pos (by omega), if_pos (by omega), rd_mid' h, if_neg c, snoc_len x (by omega)]
theorem spec_l02Has_ev (l : List Int) (v : Int) (hl : l.length ≤ 9223372036854775806) : Ev (fun k => spec_l02Has.f k l v) (decide (v ∈ l)) := by
  unfold spec_l02Has.f
  exact spec_l02Has_loop l v hl l [] rfl

theorem spec_l01In_eq (a b c : Int) : spec_l01In.f a b c = some (decide (b ≤ a ∧ a ≤ c)) := by
  unfold spec_l01In.f
  by_cases h : a ≥ b
  · rw [if_pos h]; simp; omega
  · rw [if_neg h]; simp; omega

theorem spec_PermOk_loop (a : List Int) (ha : a.length ≤ 9223372036854775806) : ∀ (r pre : List Int), a = pre ++ r →
    Ev (fun k => spec_PermOk.l0 k a a (a.length : Int) (pre.length : Int)) (pokFrom a.length pre r) := by
  intro r
  induction r with
  | nil =>
    intro pre h
    have e := lens h
    simp only [List.length_nil] at e
    refine Ev.step (f := fun _ => some _) (fun k => ?_) (Ev.now _)
    simp only [spec_PermOk.l0, pokFrom]
    rw [if_neg (by omega)]
  | cons x r ih =>
    intro pre h
    have e := lens h
    simp only [List.length_cons] at e
    have ht : a.take ((pre.length : Int).toNat) = pre := by rw [h]; simp
    have hw : wrap64 ((a.length : Int) - 1) = (a.length : Int) - 1 := w64 (by omega) (by omega)
    by_cases c0 : 0 ≤ x ∧ x < a.length
    · refine Ev.step (f := fun k => (spec_l02Has.f k pre x).bind fun t => if t = true then some false else spec_PermOk.l0 k a a (a.length : Int) ((pre ++ [x]).length : Int)) (fun k => ?_) ?_
      · simp only [spec_PermOk.l0]
        rw [if_pos (by omega), if_pos (by omega), if_pos (by omega), rd_mid' h, hw, spec_l01In_eq]
        simp only [Option.bind_some, decide_eq_true_eq]
        rw [if_pos (by omega), if_pos (by omega), ht, snoc_len x (by omega)]
      · refine Ev.bind (spec_l02Has_ev pre x (by omega)) ?_
        by_cases c2 : x ∈ pre
        · have ep : pokFrom a.length pre (x :: r) = false := by simp only [pokFrom]; simp [c2]
          rw [ep]
          exact ev_some fun _ => by simp [c2]
        · have ep : pokFrom a.length pre (x :: r) = pokFrom a.length (pre ++ [x]) r := by simp only [pokFrom]; rw [decide_eq_true c0]; simp [c2]
          rw [ep]
          simp only [c2, decide_false, Bool.false_eq_true, if_false]
          exact ih (pre ++ [x]) (snoc_eq h)
    · have ep : pokFrom a.length pre (x :: r) = false := by simp only [pokFrom]; rw [decide_eq_false c0]; rfl
      rw [ep]
      refine Ev.step (f := fun _ => some _) (fun k => ?_) (Ev.now _)
      simp only [spec_PermOk.l0]
      rw [if_pos (by omega), if_pos (by omega), if_pos (by omega), rd_mid' h, hw, spec_l01In_eq]
      simp only [Option.bind_some, decide_eq_true_eq]
      rw [if_neg (by omega)]
theorem spec_PermOk_ev (a : List Int) (ha : a.length ≤ 9223372036854775806) : Ev (fun k => spec_PermOk.f k a) (permOk a) := by
  unfold spec_PermOk.f permOk
  by_cases h : (a.length : Int) > 12
  · simp only [if_pos h]
    rw [decide_eq_false (show ¬ a.length ≤ 12 by omega), Bool.and_false]
    exact Ev.now _
  · simp only [if_neg h]
    rw [decide_eq_true (show a.length ≤ 12 by omega), Bool.and_true]
    exact spec_PermOk_loop a ha a [] rfl

theorem spec_CyclesOf_in (a : List Int) (hp : ∀ x ∈ a, 0 ≤ x ∧ x < a.length) (out : List (List Int)) (i : Int) (ho : out.length < 5864062014805) (R : List (List Int)) : ∀ (d : Nat) (m : List Bool) (c : List Int) (x : Int), m.length = a.length → m.count false < d → c.length + d ≤ 1000 → 0 ≤ x → x < a.length →
    Ev (fun k => spec_CyclesOf.l0 k a (out ++ [(cycFrom a d m c x).2]) (cycFrom a d m c x).1 (a.length : Int) (wrap64 (i + 1))) R →
    Ev (fun k => spec_CyclesOf.l1 k a out m c x (a.length : Int) i) R := by
  intro d
  induction d with
  | zero => intro m c x hm hc; omega
  | succ d ih =>
    intro m c x hm hc hl h0 h1 hk
    rw [cycFrom] at hk
    by_cases hx : rdOf false m x = true
    · simp only [if_pos hx] at hk
      refine Ev.step (fun k => ?_) hk
      simp only [spec_CyclesOf.l1]
      rw [if_pos h0, if_pos (by omega), if_pos hx, if_pos ho]
    · simp only [if_neg hx] at hk
      have hr := rd_in hp h0 h1
      refine Ev.step (fun k => ?_) (ih (m.set x.toNat true) (c ++ [x]) (rd a x) (by simpa using hm) (by have := count_met h0 (by omega) hx; omega) (by simp; omega) hr.1 hr.2 hk)
      simp only [spec_CyclesOf.l1]
      rw [if_pos h0, if_pos (by omega), if_neg hx, if_pos (by omega), if_pos h1]
theorem spec_CyclesOf_out (a : List Int) (hp : ∀ x ∈ a, 0 ≤ x ∧ x < a.length) (ha : a.length ≤ 12) : ∀ (d i : Nat) (out : List (List Int)) (m : List Bool), i + d = a.length → m.length = a.length → out.length ≤ i →
    Ev (fun k => spec_CyclesOf.l0 k a out m (a.length : Int) (i : Int)) (cycAll a d i out m) := by
  intro d
  induction d with
  | zero =>
    intro i out m hi hm ho
    refine Ev.step (f := fun _ => some _) (fun k => ?_) (Ev.now _)
    simp only [spec_CyclesOf.l0]
    rw [if_neg (by omega)]
    rfl
  | succ d ih =>
    intro i out m hi hm ho
    rw [cycAll]
    have h := ih (i + 1) (if (cycFrom a (a.length + 1) m [] i).2 = [] then out else out ++ [(cycFrom a (a.length + 1) m [] i).2]) (cycFrom a (a.length + 1) m [] i).1 (by omega) (by rw [cycFrom_length]; exact hm) (by split <;> (try rw [List.length_append, List.length_singleton]) <;> omega)
    have e : ((i + 1 : Nat) : Int) = wrap64 ((i : Int) + 1) := by rw [w64 (by omega) (by omega)]; rfl
    rw [e] at h
    have hc : m.count false ≤ m.length := List.count_le_length
    by_cases hx : rdOf false m (i : Int) = true
    · have e2 : cycFrom a (a.length + 1) m [] i = (m, []) := by rw [cycFrom, if_pos hx]
      rw [e2] at h ⊢
      simp only [if_true] at h ⊢
      refine Ev.step (fun k => ?_) h
      simp only [spec_CyclesOf.l0]
      rw [if_pos (by omega), if_pos (by omega), if_pos (by omega), if_pos hx]
    · have hne : (cycFrom a (a.length + 1) m [] i).2 ≠ [] := by
        rw [cycFrom, if_neg hx]
        exact cycFrom_keep _ _ _ _ _ (by simp)
      simp only [if_neg hne] at h ⊢
      refine Ev.step (fun k => ?_) (spec_CyclesOf_in a hp out (i : Int) (by omega) _ (a.length + 1) m [] (i : Int) hm (by omega) (by simp; omega) (by omega) (by omega) h)
      simp only [spec_CyclesOf.l0]
      rw [if_pos (by omega), if_pos (by omega), if_pos (by omega), if_neg hx]
theorem spec_CyclesOf_ev (a : List Int) (ha : a.length ≤ 9223372036854775806) : Ev (fun k => spec_CyclesOf.f k a) (cyclesOf a) := by
  unfold spec_CyclesOf.f cyclesOf
  refine Ev.bind (spec_PermOk_ev a ha) ?_
  by_cases h1 : permOk a = true
  · obtain ⟨p1, p2, p3⟩ := (permOk_iff a).1 h1
    refine ev_ite_true h1 ?_
    rw [if_pos h1]
    refine ev_ite_true (by omega) (ev_ite_true (by omega) ?_)
    rw [Int.toNat_natCast]
    exact spec_CyclesOf_out a p1 p3 a.length 0 [] _ (by omega) (by simp) (by simp)
  · refine ev_ite_false h1 ?_
    rw [if_neg h1]
    exact Ev.now _

/-! ### slices.Index, slices.Contains -/
def findFrom (v : Int) : Int → List Int → Int
  | _, [] => -1
  | i, x :: r => if v = x then i else findFrom v (i + 1) r
theorem findFrom_nonneg (v : Int) (l : List Int) : ∀ i : Int, 0 ≤ i → (0 ≤ findFrom v i l ↔ v ∈ l) := by
  induction l with
  | nil => intro i hi; simp [findFrom]
  | cons x r ih =>
    intro i hi
    simp only [findFrom, List.mem_cons]
    by_cases c : v = x
    · rw [if_pos c]; simp [c, hi]
    · rw [if_neg c, ih (i + 1) (by omega)]; simp [c]
theorem slices_Index_loop (l : List Int) (v : Int) (hl : l.length ≤ 9223372036854775806) : ∀ (r pre : List Int), l = pre ++ r →
    Ev (fun k => slices_Index_int_int.l0 k l v (l.length : Int) (pre.length : Int)) (findFrom v pre.length r) := by
  intro r
  induction r with
  | nil =>
    intro pre h
    refine Ev.step (f := fun _ => some _) (fun k => ?_) (Ev.now _)
    subst h
    simp only [slices_Index_int_int.l0, findFrom]
    rw [if_neg (by simp)]
  | cons x r ih =>
    intro pre h
    have hlen : l.length = pre.length + (r.length + 1) := by rw [h]; simp
    have hx := rd_mid' h
    have e : ((pre ++ [x]).length : Int) = (pre.length : Int) + 1 := by simp
    simp only [findFrom]
    by_cases c : v = x
    · rw [if_pos c]
      refine Ev.step (f := fun _ => some _) (fun k => ?_) (Ev.now _)
      simp only [slices_Index_int_int.l0]
      rw [if_pos (by omega), if_pos (by omega), if_pos (by omega), hx, if_pos c]
    · rw [if_neg c, ← e]
      refine Ev.step (fun k => ?_) (ih (pre ++ [x]) (snoc_eq h))
      simp only [slices_Index_int_int.l0]
      rw [if_pos (by omega), if_pos (by omega), if_pos (by omega), hx, if_neg c, snoc_len x (by omega)]
theorem slices_Contains_ev (l : List Int) (v : Int) (hl : l.length ≤ 9223372036854775806) : Ev (fun k => slices_Contains_int_int.f k l v) (decide (v ∈ l)) := by
  unfold slices_Contains_int_int.f slices_Index_int_int.f
  refine Ev.bind (slices_Index_loop l v hl l [] rfl) (ev_some fun _ => ?_)
  have := findFrom_nonneg v l 0 (by omega)
  simp only [List.length_nil, Int.ofNat_zero, Option.some.injEq, decide_eq_decide]
  exact this

theorem impl_PermOk_loop (a : List Int) (ha : a.length ≤ 9223372036854775806) : ∀ (r pre : List Int), a = pre ++ r →
    Ev (fun k => impl_PermOk.l0 k a a (a.length : Int) (pre.length : Int)) (pokFrom a.length pre r && decide (a.length ≤ 12)) := by
  intro r
  induction r with
  | nil =>
    intro pre h
    refine Ev.step (f := fun _ => some _) (fun k => ?_) (Ev.now _)
    have hlen : a.length = pre.length := by rw [h]; simp
    simp only [impl_PermOk.l0, pokFrom, Bool.true_and]
    rw [if_neg (by omega)]
    simp; omega
  | cons x r ih =>
    intro pre h
    have hlen : a.length = pre.length + (r.length + 1) := by rw [h]; simp
    have hx := rd_mid' h
    have ht : a.take ((pre.length : Int).toNat) = pre := by rw [h]; simp
    by_cases c0 : x < 0
    · have e : pokFrom a.length pre (x :: r) = false := by simp only [pokFrom]; rw [decide_eq_false (by omega)]; rfl
      rw [e, Bool.false_and]
      refine Ev.step (f := fun _ => some _) (fun k => ?_) (Ev.now _)
      simp only [impl_PermOk.l0]
      rw [if_pos (by omega), if_pos (by omega), if_pos (by omega), hx, if_pos c0]
    by_cases c1 : x ≥ (a.length : Int)
    · have e : pokFrom a.length pre (x :: r) = false := by simp only [pokFrom]; rw [decide_eq_false (by omega)]; rfl
      rw [e, Bool.false_and]
      refine Ev.step (f := fun _ => some _) (fun k => ?_) (Ev.now _)
      simp only [impl_PermOk.l0]
      rw [if_pos (by omega), if_pos (by omega), if_pos (by omega), hx, if_neg c0, if_pos c1]
    refine Ev.step (f := fun k => (slices_Contains_int_int.f k pre x).bind fun t => if t = true then some false else impl_PermOk.l0 k a a (a.length : Int) ((pre ++ [x]).length : Int)) (fun k => ?_) ?_
    · simp only [impl_PermOk.l0]
      rw [if_pos (by omega), if_pos (by omega), if_pos (by omega), hx, if_neg c0, if_neg c1, if_pos (by omega), ht, snoc_len x (by omega)]
    · refine Ev.bind (slices_Contains_ev pre x (by omega)) ?_
      by_cases c2 : x ∈ pre
      · have e : pokFrom a.length pre (x :: r) = false := by simp only [pokFrom]; simp [c2]
        rw [e, Bool.false_and]
        exact ev_some fun _ => by simp [c2]
      · have e : pokFrom a.length pre (x :: r) = pokFrom a.length (pre ++ [x]) r := by simp only [pokFrom]; rw [decide_eq_true (by omega)]; simp [c2]
        rw [e]
        simp only [c2, decide_false, Bool.false_eq_true, if_false]
        exact ih (pre ++ [x]) (snoc_eq h)
theorem impl_PermOk_ev (a : List Int) (ha : a.length ≤ 9223372036854775806) : Ev (fun k => impl_PermOk.f k a) (permOk a) := by
  unfold impl_PermOk.f permOk
  exact impl_PermOk_loop a ha a [] rfl

theorem impl_CyclesOf_in (a : List Int) (hp : ∀ x ∈ a, 0 ≤ x ∧ x < a.length) (out : List (List Int)) (i : Int) (ho : out.length < 5864062014805) (R : List (List Int)) : ∀ (d : Nat) (m : List Bool) (c : List Int) (x : Int), m.length = a.length → m.count false < d → c.length + d ≤ 1000 → 0 ≤ x → x < a.length →
    Ev (fun k => impl_CyclesOf.l0 k a (if (cycFrom a d m c x).2 = [] then out else out ++ [(cycFrom a d m c x).2]) (cycFrom a d m c x).1 (a.length : Int) (wrap64 (i + 1))) R →
    Ev (fun k => impl_CyclesOf.l1 k a out m c x (a.length : Int) i) R := by
  intro d
  induction d with
  | zero => intro m c x hm hc; omega
  | succ d ih =>
    intro m c x hm hc hl h0 h1 hk
    rw [cycFrom] at hk
    by_cases hx : rdOf false m x = true
    · simp only [if_pos hx] at hk
      refine Ev.step (fun k => ?_) hk
      simp only [impl_CyclesOf.l1]
      rw [if_pos h0, if_pos (by omega), if_pos hx]
      by_cases hn : c = []
      · rw [if_pos hn, if_pos hn]
      · rw [if_neg hn, if_neg hn, if_pos ho]
    · simp only [if_neg hx] at hk
      have hr := rd_in hp h0 h1
      refine Ev.step (fun k => ?_) (ih (m.set x.toNat true) (c ++ [x]) (rd a x) (by simpa using hm) (by have := count_met h0 (by omega) hx; omega) (by simp; omega) hr.1 hr.2 hk)
      simp only [impl_CyclesOf.l1]
      rw [if_pos h0, if_pos (by omega), if_neg hx, if_pos (by omega), if_pos h1]
theorem impl_CyclesOf_out (a : List Int) (hp : ∀ x ∈ a, 0 ≤ x ∧ x < a.length) (ha : a.length ≤ 12) : ∀ (d i : Nat) (out : List (List Int)) (m : List Bool), i + d = a.length → m.length = a.length → out.length ≤ i →
    Ev (fun k => impl_CyclesOf.l0 k a out m (a.length : Int) (i : Int)) (cycAll a d i out m) := by
  intro d
  induction d with
  | zero =>
    intro i out m hi hm ho
    refine Ev.step (f := fun _ => some _) (fun k => ?_) (Ev.now _)
    simp only [impl_CyclesOf.l0]
    rw [if_neg (by omega)]
    rfl
  | succ d ih =>
    intro i out m hi hm ho
    rw [cycAll]
    have h := ih (i + 1) (if (cycFrom a (a.length + 1) m [] i).2 = [] then out else out ++ [(cycFrom a (a.length + 1) m [] i).2]) (cycFrom a (a.length + 1) m [] i).1 (by omega) (by rw [cycFrom_length]; exact hm) (by split <;> (try rw [List.length_append, List.length_singleton]) <;> omega)
    have e : ((i + 1 : Nat) : Int) = wrap64 ((i : Int) + 1) := by rw [w64 (by omega) (by omega)]; rfl
    rw [e] at h
    have hc : m.count false ≤ m.length := List.count_le_length
    refine Ev.step (fun k => ?_) (impl_CyclesOf_in a hp out (i : Int) (by omega) _ (a.length + 1) m [] (i : Int) hm (by omega) (by simp; omega) (by omega) (by omega) h)
    simp only [impl_CyclesOf.l0]
    rw [if_pos (by omega)]
theorem impl_CyclesOf_ev (a : List Int) (ha : a.length ≤ 9223372036854775806) : Ev (fun k => impl_CyclesOf.f k a) (cyclesOf a) := by
  unfold impl_CyclesOf.f cyclesOf
  refine Ev.bind (impl_PermOk_ev a ha) ?_
  by_cases h1 : permOk a = true
  · obtain ⟨p1, p2, p3⟩ := (permOk_iff a).1 h1
    refine ev_ite_true h1 ?_
    rw [if_pos h1]
    refine ev_ite_true (by omega) (ev_ite_true (by omega) ?_)
    rw [Int.toNat_natCast]
    exact impl_CyclesOf_out a p1 p3 a.length 0 [] _ (by omega) (by simp) (by simp)
  · refine ev_ite_false h1 ?_
    rw [if_neg h1]
    exact Ev.now _

theorem cycAll_total (a : List Int) : ∀ (d i : Nat) (out : List (List Int)) (m : List Bool), m.length = a.length → (∀ x ∈ a, 0 ≤ x ∧ x < a.length) → i + d = a.length → total out + m.count false ≤ a.length → out.length ≤ i → total (cycAll a d i out m) ≤ a.length ∧ (cycAll a d i out m).length ≤ a.length := by
  intro d
  induction d with
  | zero => intro i out m hm hp hi ht ho; exact ⟨by rw [cycAll]; omega, by rw [cycAll]; omega⟩
  | succ d ih =>
    intro i out m hm hp hi ht ho
    rw [cycAll]
    have hc : ∀ (d : Nat) (m : List Bool) (c : List Int) (x : Int), m.length = a.length → 0 ≤ x → x < a.length → (cycFrom a d m c x).2.length + (cycFrom a d m c x).1.count false = c.length + m.count false := by
      intro d
      induction d with
      | zero => intro m c x _ _ _; rfl
      | succ d ihc =>
        intro m c x hm h0 h1
        rw [cycFrom]
        by_cases hx : rdOf false m x = true
        · rw [if_pos hx]
        · rw [if_neg hx]
          have hr := rd_in hp h0 h1
          rw [ihc _ _ _ (by simpa using hm) hr.1 hr.2]
          have := count_met h0 (by omega) hx
          simp only [List.length_append, List.length_singleton]
          omega
    have h := hc (a.length + 1) m [] (i : Int) hm (by omega) (by omega)
    simp only [List.length_nil] at h
    refine ih (i + 1) _ _ (by rw [cycFrom_length]; exact hm) hp (by omega) ?_ (by split <;> (try rw [List.length_append, List.length_singleton]) <;> omega)
    split
    · rename_i e; rw [e] at h; simp only [List.length_nil] at h; omega
    · have e : ∀ (o : List (List Int)) (l : List Int), total (o ++ [l]) = total o + l.length := fun o l => by simp [total]
      rw [e]
      omega
theorem cyclesOf_total (a : List Int) : total (cyclesOf a) ≤ 12 ∧ (cyclesOf a).length ≤ 12 := by
  unfold cyclesOf
  by_cases h : permOk a = true
  · obtain ⟨p1, p2, p3⟩ := (permOk_iff a).1 h
    rw [if_pos h]
    have := cycAll_total a a.length 0 [] (List.replicate a.length false) (by simp) p1 (by omega) (by simp [total]) (by simp)
    omega
  · rw [if_neg h]; simp [total]
theorem FnExactCyclesOf : laws_FnExactCyclesOf.Pure := by
  intro a h1 h2 w
  by_cases g : a.length > 1048576
  · exact .inl g
  refine .inr ?_
  have hl := cyclesOf_total a
  obtain ⟨mm, r', hm, hr, E1⟩ := lists_held (cyclesOf a) (by omega) (by omega)
  obtain ⟨K, E⟩ := and_at (laws_toIntS_ev a (by omega)) (and_at (spec_CyclesOf_ev a (by omega)) (and_at (impl_CyclesOf_ev a (by omega)) (and_at E1 (and_at (laws_eqIntS_ev a a (by omega)) (laws_markIntS_ev a 1 (by omega) (by omega))))))
  obtain ⟨e1, e2, e3, ⟨e4, e5, e6⟩, e7, e8⟩ := E K (Nat.le_refl _)
  exact ⟨K, cyclesOf a, r', mm, 1 + (a.length : Int), upFrom 1 a.length, e1, e2, e3, e4, by simpa using e7, e8, e5, e6, hr, hm, by omega⟩

end Go.Proofs.Ytojbjofngpcjaaa.Pure
