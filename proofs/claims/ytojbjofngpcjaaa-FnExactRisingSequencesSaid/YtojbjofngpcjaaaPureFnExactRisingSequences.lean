/- For all arguments, the program's RisingSequences answers as the reference's does, leaves its arguments alone, and answers in memory of its own. No conditions. -/
import Derived.Test.YtojbjofngpcjaaaMFnExactRisingSequencesx0
import Derived.Test.YtojbjofngpcjaaaMFnExactRisingSequencesx1
import Derived.Test.YtojbjofngpcjaaaMFnExactRisingSequencesx2
import Derived.Test.YtojbjofngpcjaaaMFnExactRisingSequencesx3
import Derived.OpenShut
namespace Go.Proofs.Ytojbjofngpcjaaa.Pure
open Go.RowKit Go.Proofs.Ytojbjofngpcjaaa.MFnExactRisingSequences Go.Proofs.YtojbjofngpcjaaaW.PrintWords Go.Proofs.YtojbjofngpcjaaaW.PrintLast
set_option linter.unusedVariables false
set_option linter.unusedSimpArgs false

/-! ### base: numbers, reads, loops -/
theorem w64 {a : Int} (h0 : -9223372036854775808 ≤ a) (h1 : a ≤ 9223372036854775807) : wrap64 a = a := by
  unfold wrap64
  omega
theorem w64n {n : Nat} (h : n ≤ 9223372036854775807) : wrap64 (n : Int) = n := w64 (by omega) (by omega)
theorem bd64 {n : Int} (h : (Lit.int .i64 n).wf = true) : -9223372036854775808 ≤ n ∧ n ≤ 9223372036854775807 := Go.bounds_i64 h
theorem rd_nat (xs : List Int) (i : Nat) : rd xs (i : Int) = xs.getD i 0 := by simp [rd]
theorem rd_lt {xs : List Int} {i : Nat} (h : i < xs.length) : rd xs (i : Int) = xs[i] := by simp [rd, h]
theorem bt_nat {s : ByteArray} {i : Nat} (h : i < s.size) : bt s (i : Int) = (s[i].toNat : Int) := by simp [bt, h]
/-- Going up to n: what holds at n holds from i on. -/
theorem up_ind (n : Nat) (P : Nat → Prop) (h0 : P n) (hs : ∀ i, i < n → P (i + 1) → P i) : ∀ i, i ≤ n → P i := by
  have h : ∀ d i, i + d = n → P i := by
    intro d
    induction d with
    | zero => intro i hi; obtain rfl : i = n := by omega
              exact h0
    | succ d ih => intro i hi; exact hs i (by omega) (ih (i + 1) (by omega))
  intro i hi
  exact h (n - i) i (by omega)
theorem ev_some {α : Type} {g : Nat → Option α} {r : α} (h : ∀ k, g k = some r) : Ev g r := ⟨0, fun k _ => h k⟩
theorem ev_pair {α β : Type} {g : Nat → Option α} {f : Nat → Option β} {a : α} {b : β} {h : α → β → Option Bool} (hg : Ev g a) (hf : Ev f b) (hh : h a b = some true) : ∃ k, ((g k).bind fun x => (f k).bind fun y => h x y) = some true :=
  Ev.rounds (Ev.bind hg (Ev.bind hf (ev_some fun _ => hh)))

/-! ### lists -/
theorem rd_mid (pre : List Int) (x : Int) (r : List Int) : rd (pre ++ x :: r) (pre.length : Int) = x := by simp [rd]
theorem rd_mid' {l pre : List Int} {x : Int} {r : List Int} (h : l = pre ++ x :: r) : rd l (pre.length : Int) = x := by subst h; exact rd_mid _ _ _
theorem snoc_eq {l pre : List Int} {x : Int} {r : List Int} (h : l = pre ++ x :: r) : l = (pre ++ [x]) ++ r := by simp [h]
theorem snoc_len {pre : List Int} (x : Int) (h : pre.length ≤ 9223372036854775806) : wrap64 ((pre.length : Int) + 1) = ((pre ++ [x]).length : Int) := by
  rw [w64 (by omega) (by omega)]; simp
/-- The whole numbers from m on, n of them. -/
def upFrom (m : Int) : Nat → List Int
  | 0 => []
  | n + 1 => m :: upFrom (m + 1) n
theorem upFrom_length (n : Nat) : ∀ m, (upFrom m n).length = n := by
  induction n with
  | zero => intro m; rfl
  | succ n ih => intro m; simp [upFrom, ih]
theorem upFrom_get (n : Nat) : ∀ (m : Int) (i : Nat) (h : i < (upFrom m n).length), (upFrom m n)[i] = m + i := by
  induction n with
  | zero => intro m i h; simp [upFrom] at h
  | succ n ih =>
    intro m i h
    cases i with
    | zero => simp [upFrom]
    | succ i => simp only [upFrom, List.getElem_cons_succ]; rw [ih]; omega
theorem upFrom_snoc (n : Nat) : ∀ m, upFrom m (n + 1) = upFrom m n ++ [m + n] := by
  induction n with
  | zero => intro m; simp [upFrom]
  | succ n ih => intro m; rw [upFrom, ih]; simp [upFrom]; omega
theorem upFrom_mem (n : Nat) : ∀ (m x : Int), x ∈ upFrom m n ↔ m ≤ x ∧ x < m + n := by
  induction n with
  | zero => intro m x; simp only [upFrom, List.not_mem_nil, false_iff]; omega
  | succ n ih => intro m x; simp only [upFrom, List.mem_cons, ih]; omega
theorem upFrom_nodup (n : Nat) : ∀ m, (upFrom m n).Nodup := by
  induction n with
  | zero => intro m; simp [upFrom]
  | succ n ih => intro m; simp only [upFrom, List.nodup_cons, ih, and_true, upFrom_mem]; omega
theorem nodup_inj {l : List Int} (h : l.Nodup) (i j : Nat) (hi : i < l.length) (hj : j < l.length) (e : l[i] = l[j]) : i = j := by
  have hp := List.pairwise_iff_getElem.1 h
  rcases Nat.lt_trichotomy i j with c | c | c
  · exact absurd e (hp i j hi hj c)
  · exact c
  · exact absurd e.symm (hp j i hj hi c)
theorem set_mid (pre : List Int) (x y : Int) (r : List Int) : (pre ++ y :: r).set pre.length x = (pre ++ [x]) ++ r := by simp
theorem lens {l pre r : List Int} (h : l = pre ++ r) : l.length = pre.length + r.length := by rw [h]; simp
theorem snoc_cast (pre : List Int) (x : Int) : ((pre ++ [x]).length : Int) = (pre.length : Int) + 1 := by simp

theorem laws_toIntS_loop (l : List Int) (hl : l.length ≤ 17592186044415) : ∀ (r pre : List Int), l = pre ++ r →
    Ev (fun k => laws_toIntS.l0 k l (pre ++ List.replicate r.length 0) (pre.length : Int)) l := by
  intro r
  induction r with
  | nil =>
    intro pre h
    have e := lens h
    simp only [List.length_nil] at e
    refine Ev.step (f := fun _ => some _) (fun k => ?_) (Ev.now _)
    simp only [laws_toIntS.l0]
    rw [if_neg (by omega)]
    simp [h]
  | cons x r ih =>
    intro pre h
    have e := lens h
    simp only [List.length_cons] at e
    refine Ev.step (fun k => ?_) (ih (pre ++ [x]) (snoc_eq h))
    simp only [laws_toIntS.l0]
    rw [if_pos (by omega), if_pos (by omega), if_pos (by simp; omega), rd_mid' h, snoc_len x (by omega), List.length_cons, List.replicate_succ, Int.toNat_natCast, set_mid]
theorem laws_toIntS_ev (l : List Int) (hl : l.length ≤ 17592186044415) : Ev (fun k => laws_toIntS.f k l) l := by
  unfold laws_toIntS.f
  have h := laws_toIntS_loop l hl l [] rfl
  simp only [if_pos (show 0 ≤ (l.length : Int) by omega), if_pos (show ((l.length : Int) : Int).toNat ≤ 35184372088832 by omega)]
  simpa using h

theorem laws_eqIntS_loop (a b : List Int) (hab : a.length = b.length) (hl : a.length ≤ 9223372036854775806) : ∀ (r s pre qre : List Int), a = pre ++ r → b = qre ++ s → pre.length = qre.length →
    Ev (fun k => laws_eqIntS.l0 k a b (pre.length : Int)) (decide (r = s)) := by
  intro r
  induction r with
  | nil =>
    intro s pre qre h h' hp
    have e := lens h
    have e' := lens h'
    simp only [List.length_nil] at e
    have hs : s = [] := List.eq_nil_of_length_eq_zero (by omega)
    refine Ev.step (f := fun _ => some _) (fun k => ?_) (Ev.now _)
    simp only [laws_eqIntS.l0]
    rw [if_neg (by omega), hs]
    simp
  | cons x r ih =>
    intro s pre qre h h' hp
    have e := lens h
    have e' := lens h'
    simp only [List.length_cons] at e
    cases s with
    | nil => simp only [List.length_nil] at e'; omega
    | cons y s =>
      have hy := rd_mid' h'
      rw [← hp] at hy
      by_cases c : x = y
      · subst c
        have hi := ih s (pre ++ [x]) (qre ++ [x]) (snoc_eq h) (snoc_eq h') (by simp [hp])
        have ed : decide (x :: r = x :: s) = decide (r = s) := by simp
        rw [ed]
        refine Ev.step (fun k => ?_) hi
        simp only [laws_eqIntS.l0]
        rw [if_pos (by omega), if_pos (by omega), if_pos (by omega), rd_mid' h, hy, if_pos rfl, snoc_len x (by omega)]
      · refine Ev.step (f := fun _ => some _) (fun k => ?_) (Ev.now _)
        simp only [laws_eqIntS.l0]
        rw [if_pos (by omega), if_pos (by omega), if_pos (by omega), rd_mid' h, hy, if_neg c]
        simp [c]
theorem laws_eqIntS_ev (a b : List Int) (hl : a.length ≤ 9223372036854775806) : Ev (fun k => laws_eqIntS.f k a b) (decide (a = b)) := by
  unfold laws_eqIntS.f
  by_cases h : (a.length : Int) = (b.length : Int)
  · simp only [if_pos h]
    exact laws_eqIntS_loop a b (by omega) hl a b [] [] rfl rfl rfl
  · simp only [if_neg h]
    exact ev_some fun _ => by rw [decide_eq_false (fun e => h (by rw [e]))]

theorem laws_markIntS_loop : ∀ (r pre : List Int) (m : Int), 0 ≤ m → m + r.length ≤ 9223372036854775806 → pre.length + r.length ≤ 9223372036854775806 →
    Ev (fun k => laws_markIntS.l0 k (pre ++ r) m (pre.length : Int)) (m + r.length, pre ++ upFrom m r.length) := by
  intro r
  induction r with
  | nil =>
    intro pre m h0 h1 h2
    refine Ev.step (f := fun _ => some _) (fun k => ?_) (Ev.now _)
    simp only [laws_markIntS.l0]
    rw [if_neg (by simp)]
    simp [upFrom]
  | cons x r ih =>
    intro pre m h0 h1 h2
    simp only [List.length_cons] at h1 h2
    have hi := ih (pre ++ [m]) (m + 1) (by omega) (by omega) (by simp; omega)
    have er : ((m + 1 + r.length : Int), (pre ++ [m]) ++ upFrom (m + 1) r.length) = (m + (x :: r).length, pre ++ upFrom m (x :: r).length) := by
      simp [upFrom]; omega
    rw [er] at hi
    refine Ev.step (fun k => ?_) hi
    simp only [laws_markIntS.l0]
    rw [if_pos (by simp; omega), if_pos (by omega), w64 (by omega) (by omega), snoc_len m (by omega), Int.toNat_natCast, set_mid]
theorem laws_markIntS_ev (l : List Int) (m : Int) (h0 : 0 ≤ m) (h1 : m + l.length ≤ 9223372036854775806) :
    Ev (fun k => laws_markIntS.f k l m) (m + l.length, upFrom m l.length) := by
  unfold laws_markIntS.f
  exact laws_markIntS_loop l [] m h0 h1 (by simp; omega)
theorem laws_heldIntS_loop (l : List Int) (hl : l.length ≤ 9223372036854775806) : ∀ (n : Nat) (pre : List Int) (m : Int), 0 ≤ m → m + n ≤ 9223372036854775806 → l = pre ++ upFrom m n →
    Ev (fun k => laws_heldIntS.l0 k l m (pre.length : Int)) (m + n) := by
  intro n
  induction n with
  | zero =>
    intro pre m h0 h1 h
    have e := lens h
    simp only [upFrom_length] at e
    refine Ev.step (f := fun _ => some _) (fun k => ?_) (Ev.now _)
    simp only [laws_heldIntS.l0]
    rw [if_neg (by omega)]
    simp
  | succ n ih =>
    intro pre m h0 h1 h
    have e := lens h
    simp only [upFrom_length] at e
    have hi := ih (pre ++ [m]) (m + 1) (by omega) (by omega) (by rw [h]; simp [upFrom])
    have er : m + 1 + (n : Int) = m + (n + 1 : Nat) := by omega
    rw [er] at hi
    refine Ev.step (fun k => ?_) hi
    simp only [laws_heldIntS.l0]
    rw [if_pos (by omega), if_pos (by omega), rd_mid' (by rw [h, upFrom]), if_pos rfl, w64 (by omega) (by omega), snoc_len m (by omega)]
theorem laws_heldIntS_ev (m : Int) (n : Nat) (h0 : 0 ≤ m) (h1 : m + n ≤ 9223372036854775806) :
    Ev (fun k => laws_heldIntS.f k (upFrom m n) m) (m + n) := by
  unfold laws_heldIntS.f
  exact laws_heldIntS_loop (upFrom m n) (by rw [upFrom_length]; omega) n [] m h0 h1 rfl

def total (r : List (List Int)) : Nat := (r.map List.length).sum
def markAll : Int → List (List Int) → List (List Int)
  | _, [] => []
  | m, l :: r => upFrom m l.length :: markAll (m + l.length) r
theorem markAll_length (r : List (List Int)) : ∀ m, (markAll m r).length = r.length := by
  induction r with
  | nil => intro m; rfl
  | cons l r ih => intro m; simp [markAll, ih]
theorem total_cons (l : List Int) (r : List (List Int)) : total (l :: r) = l.length + total r := by simp [total]
theorem getD_mid (pre : List (List Int)) (x : List Int) (r : List (List Int)) : (pre ++ x :: r).getD pre.length [] = x := by simp
theorem set_midL (pre : List (List Int)) (x y : List Int) (r : List (List Int)) : (pre ++ y :: r).set pre.length x = (pre ++ [x]) ++ r := by simp
theorem laws_markIntSS_loop : ∀ (r pre : List (List Int)) (m : Int), 0 ≤ m → m + total r ≤ 9223372036854775806 → pre.length + r.length ≤ 9223372036854775806 →
    Ev (fun k => laws_markIntSS.l0 k (pre ++ r) m (pre.length : Int)) (m + total r, pre ++ markAll m r) := by
  intro r
  induction r with
  | nil =>
    intro pre m h0 h1 h2
    refine Ev.step (f := fun _ => some _) (fun k => ?_) (Ev.now _)
    simp only [laws_markIntSS.l0]
    rw [if_neg (by simp)]
    simp [markAll, total]
  | cons l r ih =>
    intro pre m h0 h1 h2
    rw [total_cons] at h1
    simp only [List.length_cons] at h2
    have hi := ih (pre ++ [upFrom m l.length]) (m + l.length) (by omega) (by omega) (by simp; omega)
    have er : ((m + l.length + total r : Int), (pre ++ [upFrom m l.length]) ++ markAll (m + l.length) r) = (m + (total (l :: r) : Nat), pre ++ markAll m (l :: r)) := by
      rw [total_cons]; simp [markAll]; omega
    rw [er] at hi
    refine Ev.step (f := fun k => (laws_markIntS.f k l m).bind fun b => laws_markIntSS.l0 k ((pre ++ l :: r).set pre.length b.2) b.1 (wrap64 ((pre.length : Int) + 1))) (fun k => ?_) (Ev.bind (laws_markIntS_ev l m h0 (by omega)) ?_)
    · simp only [laws_markIntSS.l0]
      rw [if_pos (by simp; omega), if_pos (by omega), Int.toNat_natCast, getD_mid]
    · have ew : wrap64 ((pre.length : Int) + 1) = ((pre ++ [upFrom m l.length]).length : Int) := by rw [w64 (by omega) (by omega)]; simp
      simp only [set_midL, ew]
      exact hi
theorem laws_markIntSS_ev (r : List (List Int)) (m : Int) (h0 : 0 ≤ m) (h1 : m + total r ≤ 9223372036854775806) (h2 : r.length ≤ 9223372036854775806) :
    Ev (fun k => laws_markIntSS.f k r m) (m + total r, markAll m r) := by
  unfold laws_markIntSS.f
  exact laws_markIntSS_loop r [] m h0 h1 (by simp; omega)
theorem laws_heldIntSS_loop (l : List (List Int)) : ∀ (r pre : List (List Int)) (m : Int), 0 ≤ m → m + total r ≤ 9223372036854775806 → pre.length + r.length ≤ 9223372036854775806 → l = pre ++ markAll m r →
    Ev (fun k => laws_heldIntSS.l0 k l m (pre.length : Int)) (m + total r) := by
  intro r
  induction r with
  | nil =>
    intro pre m h0 h1 h2 h
    refine Ev.step (f := fun _ => some _) (fun k => ?_) (Ev.now _)
    simp only [laws_heldIntSS.l0]
    rw [if_neg (by rw [h]; simp [markAll])]
    simp [total]
  | cons x r ih =>
    intro pre m h0 h1 h2 h
    rw [total_cons] at h1
    simp only [List.length_cons] at h2
    have hl : l.length = pre.length + (r.length + 1) := by rw [h]; simp [markAll, markAll_length]
    have hi := ih (pre ++ [upFrom m x.length]) (m + x.length) (by omega) (by omega) (by simp; omega) (by rw [h]; simp [markAll])
    have er : m + (x.length : Int) + (total r : Int) = m + (total (x :: r) : Nat) := by rw [total_cons]; omega
    rw [er] at hi
    have hrd : rd_L1 l (pre.length : Int) = upFrom m x.length := by rw [h, markAll]; simp [rd_L1]
    refine Ev.step (f := fun k => (laws_heldIntS.f k (upFrom m x.length) m).bind fun t => if t < 0 then some (-1) else laws_heldIntSS.l0 k l t (wrap64 ((pre.length : Int) + 1))) (fun k => ?_) (Ev.bind (laws_heldIntS_ev m x.length h0 (by omega)) ?_)
    · simp only [laws_heldIntSS.l0]
      rw [if_pos (by omega), if_pos (by omega), hrd]
    · have ew : wrap64 ((pre.length : Int) + 1) = ((pre ++ [upFrom m x.length]).length : Int) := by rw [w64 (by omega) (by omega)]; simp
      simp only [if_neg (show ¬ (m + (x.length : Int) < 0) by omega), ew]
      exact hi
theorem laws_heldIntSS_ev (r : List (List Int)) (m : Int) (h0 : 0 ≤ m) (h1 : m + total r ≤ 9223372036854775806) (h2 : r.length ≤ 9223372036854775806) :
    Ev (fun k => laws_heldIntSS.f k (markAll m r) m) (m + total r) := by
  unfold laws_heldIntSS.f
  exact laws_heldIntSS_loop (markAll m r) r [] m h0 h1 (by simp; omega) rfl
theorem laws_eqIntSS_loop (l : List (List Int)) (hs : ∀ x ∈ l, x.length ≤ 9223372036854775806) (hl : l.length ≤ 9223372036854775806) : ∀ (r pre : List (List Int)), l = pre ++ r →
    Ev (fun k => laws_eqIntSS.l0 k l l (pre.length : Int)) true := by
  intro r
  induction r with
  | nil =>
    intro pre h
    refine Ev.step (f := fun _ => some _) (fun k => ?_) (Ev.now _)
    simp only [laws_eqIntSS.l0]
    rw [if_neg (by rw [h]; simp)]
  | cons x r ih =>
    intro pre h
    have e : l.length = pre.length + (r.length + 1) := by rw [h]; simp
    have hi := ih (pre ++ [x]) (by rw [h]; simp)
    have hrd : rd_L1 l (pre.length : Int) = x := by rw [h]; simp [rd_L1]
    refine Ev.step (f := fun k => (laws_eqIntS.f k x x).bind fun t => if t = true then laws_eqIntSS.l0 k l l (wrap64 ((pre.length : Int) + 1)) else some false) (fun k => ?_) (Ev.bind (laws_eqIntS_ev x x (hs x (by rw [h]; simp))) ?_)
    · simp only [laws_eqIntSS.l0]
      rw [if_pos (by omega), if_pos (by omega), if_pos (by omega), hrd]
    · have ew : wrap64 ((pre.length : Int) + 1) = ((pre ++ [x]).length : Int) := by rw [w64 (by omega) (by omega)]; simp
      simp only [decide_true, if_true, ew]
      exact hi
theorem laws_eqIntSS_ev (l : List (List Int)) (hs : ∀ x ∈ l, x.length ≤ 9223372036854775806) (hl : l.length ≤ 9223372036854775806) : Ev (fun k => laws_eqIntSS.f k l l) true := by
  unfold laws_eqIntSS.f
  simp only [if_true]
  exact laws_eqIntSS_loop l hs hl l [] rfl
theorem total_le (r : List (List Int)) (b : Nat) (h : ∀ l ∈ r, l.length ≤ b) : total r ≤ r.length * b := by
  induction r with
  | nil => simp [total]
  | cons l r ih =>
    rw [total_cons, List.length_cons, Nat.succ_mul]
    have := ih (fun x hx => h x (by simp [hx]))
    have := h l (by simp)
    omega
theorem mem_total {r : List (List Int)} {l : List Int} (h : l ∈ r) : l.length ≤ total r := by
  induction r with
  | nil => simp at h
  | cons x r ih =>
    rw [total_cons]
    rcases List.mem_cons.1 h with rfl | h
    · omega
    · have := ih h; omega
/-- What a law asks of lists that were handed out, at one number of rounds. -/
theorem all_at {α β : Type} {f : Nat → Option α} {g : Nat → Option β} {a : α} {b : β} (hf : Ev f a) (hg : Ev g b) : ∃ K, ∀ k, K ≤ k → f k = some a ∧ g k = some b := by
  obtain ⟨K, h⟩ := hf
  obtain ⟨M, i⟩ := hg
  exact ⟨K + M, fun k hk => ⟨h k (by omega), i k (by omega)⟩⟩
theorem and_at {p q : Nat → Prop} (hp : ∃ K, ∀ k, K ≤ k → p k) (hq : ∃ K, ∀ k, K ≤ k → q k) : ∃ K, ∀ k, K ≤ k → p k ∧ q k := by
  obtain ⟨K, h⟩ := hp
  obtain ⟨M, i⟩ := hq
  exact ⟨K + M, fun k hk => ⟨h k (by omega), i k (by omega)⟩⟩
/-- Marked and held: the lists that were handed out are the law's own. -/
theorem lists_held (r : List (List Int)) (h2 : r.length ≤ 1048576) (h1 : total r ≤ 1048576) : ∃ mm r', 0 ≤ mm ∧ r'.length = r.length ∧ (∃ K, ∀ k, K ≤ k → laws_eqIntSS.f k r r = some true ∧ laws_markIntSS.f k r 1 = some (mm, r') ∧ laws_heldIntSS.f k r' 1 = some mm) :=
  ⟨1 + total r, markAll 1 r, by omega, markAll_length r 1, and_at (laws_eqIntSS_ev r (fun x hx => by have := mem_total hx; omega) (by omega)) (all_at (laws_markIntSS_ev r 1 (by omega) (by omega) (by omega)) (laws_heldIntSS_ev r 1 (by omega) (by omega) (by omega)))⟩

/-- What every law of one list does: it hands a copy to the reference and one to the program, compares, and looks at the copy. -/
theorem ev_ite_true {α : Type} {f g : Nat → Option α} {r : α} {c : Prop} [Decidable c] (h : c) (k : Ev f r) : Ev (fun n => if c then f n else g n) r := by simpa only [if_pos h] using k
theorem ev_ite_false {α : Type} {f g : Nat → Option α} {r : α} {c : Prop} [Decidable c] (h : ¬ c) (k : Ev g r) : Ev (fun n => if c then f n else g n) r := by simpa only [if_neg h] using k

/-! ### permutations -/
def pokFrom (n : Nat) : List Int → List Int → Bool
  | _, [] => true
  | seen, x :: r => decide (0 ≤ x ∧ x < n) && (!decide (x ∈ seen) && pokFrom n (seen ++ [x]) r)
/-- A list of whole numbers is a permutation of at most 12 positions. -/
def permOk (a : List Int) : Bool := pokFrom a.length [] a && decide (a.length ≤ 12)
theorem pokFrom_iff (n : Nat) (r : List Int) : ∀ seen, pokFrom n seen r = true ↔ (∀ x ∈ r, 0 ≤ x ∧ x < n) ∧ r.Nodup ∧ (∀ x ∈ r, x ∉ seen) := by
  induction r with
  | nil => intro seen; simp [pokFrom]
  | cons x r ih =>
    intro seen
    simp only [pokFrom, Bool.and_eq_true, decide_eq_true_eq, Bool.not_eq_true', decide_eq_false_iff_not, ih, List.mem_cons, forall_eq_or_imp, List.nodup_cons, List.mem_append, List.not_mem_nil, or_false, not_or]
    constructor
    · rintro ⟨h1, h2, h3, h4, h5⟩
      exact ⟨⟨h1, h3⟩, ⟨fun hx => (h5 x hx).2 rfl, h4⟩, h2, fun y hy => (h5 y hy).1⟩
    · rintro ⟨⟨h1, h3⟩, ⟨h6, h4⟩, h2, h5⟩
      exact ⟨h1, h2, h3, h4, fun y hy => ⟨h5 y hy, fun e => h6 (e ▸ hy)⟩⟩
theorem permOk_iff (a : List Int) : permOk a = true ↔ (∀ x ∈ a, 0 ≤ x ∧ x < a.length) ∧ a.Nodup ∧ a.length ≤ 12 := by
  simp only [permOk, Bool.and_eq_true, pokFrom_iff, decide_eq_true_eq]
  simp [and_assoc]

def invFrom : List Int → Int → List Int → List Int
  | m, _, [] => m
  | m, i, x :: r => invFrom (m.set x.toNat i) (i + 1) r
/-- The inverse of a permutation. -/
def inverse (a : List Int) : List Int := invFrom (List.replicate a.length 0) 0 a
theorem invFrom_length (r : List Int) : ∀ m i, (invFrom m i r).length = m.length := by
  induction r with
  | nil => intro m i; rfl
  | cons x r ih => intro m i; simp [invFrom, ih]
theorem inverse_length (a : List Int) : (inverse a).length = a.length := by simp [inverse, invFrom_length]
theorem rd_set_ne {m : List Int} {x y i : Int} (hx : 0 ≤ x) (hy : 0 ≤ y) (h : x ≠ y) : rd (m.set x.toNat i) y = rd m y := by
  have : x.toNat ≠ y.toNat := by omega
  simp [rd, List.getElem?_set, this]
theorem rd_set_eq {m : List Int} {x i : Int} (hx : 0 ≤ x) (h : x < m.length) : rd (m.set x.toNat i) x = i := by
  have : x.toNat < m.length := by omega
  simp [rd, List.getElem?_set, this]
theorem invFrom_keep (r : List Int) : ∀ (m : List Int) (i y : Int), 0 ≤ y → y ∉ r → (∀ x ∈ r, 0 ≤ x) → rd (invFrom m i r) y = rd m y := by
  induction r with
  | nil => intro m i y _ _ _; rfl
  | cons x r ih =>
    intro m i y hy hn hp
    simp only [List.mem_cons, not_or] at hn
    have hx := hp x (by simp)
    rw [invFrom, ih _ _ y hy hn.2 (fun z hz => hp z (by simp [hz])), rd_set_ne hx hy (fun e => hn.1 e.symm)]
theorem invFrom_get (r : List Int) : ∀ (m : List Int) (i : Int), (∀ x ∈ r, 0 ≤ x ∧ x < m.length) → r.Nodup → ∀ (j : Nat) (h : j < r.length), rd (invFrom m i r) (r[j]) = i + j := by
  induction r with
  | nil => intro m i _ _ j h; simp at h
  | cons x r ih =>
    intro m i hp hn j h
    simp only [List.nodup_cons] at hn
    have hx := hp x (by simp)
    cases j with
    | zero =>
      simp only [List.getElem_cons_zero]
      rw [invFrom, invFrom_keep r _ _ x hx.1 hn.1 (fun z hz => (hp z (by simp [hz])).1), rd_set_eq hx.1 hx.2]
      simp
    | succ j =>
      simp only [List.getElem_cons_succ]
      rw [invFrom, ih _ _ (fun z hz => by rw [List.length_set]; exact hp z (by simp [hz])) hn.2 j (by simpa using h)]
      omega
theorem inverse_get {a : List Int} (hp : ∀ x ∈ a, 0 ≤ x ∧ x < a.length) (hn : a.Nodup) (j : Nat) (h : j < a.length) : rd (inverse a) (a[j]) = j := by
  unfold inverse
  rw [invFrom_get a _ 0 (fun x hx => by simpa using hp x hx) hn j h]
  omega

theorem nodup_le (l : List Int) : ∀ m : List Int, l.Nodup → (∀ x ∈ l, x ∈ m) → l.length ≤ m.length := by
  induction l with
  | nil => intro m _ _; simp
  | cons x l ih =>
    intro m hn hs
    simp only [List.nodup_cons] at hn
    have hx : x ∈ m := hs x (by simp)
    have h := ih (m.erase x) hn.2 (fun y hy => (List.mem_erase_of_ne (fun e => hn.1 (by rw [← e]; exact hy))).2 (hs y (by simp [hy])))
    rw [List.length_erase_of_mem hx] at h
    have := List.length_pos_of_mem hx
    simp only [List.length_cons]
    omega
theorem perm_surj {a : List Int} (hp : ∀ x ∈ a, 0 ≤ x ∧ x < a.length) (hn : a.Nodup) (v : Int) (h0 : 0 ≤ v) (h1 : v < a.length) : v ∈ a := by
  apply Decidable.byContradiction
  intro hv
  have h := nodup_le (v :: a) (upFrom 0 a.length) (by simp [hv, hn]) (fun y hy => by
    rw [upFrom_mem]
    rcases List.mem_cons.1 hy with rfl | hy
    · omega
    · have := hp y hy; omega)
  rw [upFrom_length] at h
  simp only [List.length_cons] at h
  omega
/-- Where a value of a permutation stands. -/
theorem perm_at {a : List Int} (hp : ∀ x ∈ a, 0 ≤ x ∧ x < a.length) (hn : a.Nodup) (v : Int) (h0 : 0 ≤ v) (h1 : v < a.length) : ∃ j : Nat, ∃ h : j < a.length, a[j] = v ∧ rd (inverse a) v = j := by
  obtain ⟨j, h, e⟩ := List.getElem_of_mem (perm_surj hp hn v h0 h1)
  exact ⟨j, h, e, by rw [← e]; exact inverse_get hp hn j h⟩

/-- The card of a cell, or -1. -/
def cardOf (x : Int) : Int := if 0 ≤ x then (if x ≤ 11 then x else -1) else (if -12 ≤ x then -1 - x else -1)

def posFrom (c : Int) : Int → List Int → Int
  | _, [] => -1
  | i, x :: r => if cardOf x = c then i else posFrom c (i + 1) r
/-- Where a card lies in a packet, or -1. -/
def positionOf (l : List Int) (c : Int) : Int := if 0 ≤ c then posFrom c 0 l else -1
theorem posFrom_get (c : Int) (l : List Int) : ∀ (i : Int) (j : Nat) (h : j < l.length), cardOf (l[j]) = c → (∀ (m : Nat) (h' : m < l.length), m < j → cardOf (l[m]) ≠ c) → posFrom c i l = i + j := by
  induction l with
  | nil => intro i j h; simp at h
  | cons x r ih =>
    intro i j h hc hm
    rw [posFrom]
    cases j with
    | zero => rw [if_pos (show cardOf x = c from hc)]; simp
    | succ j =>
      rw [if_neg (show ¬ cardOf x = c from hm 0 (by simp) (by omega)), ih (i + 1) j (by simpa using h) hc (fun m h' hl => hm (m + 1) (by simpa using h') (by omega))]
      omega
theorem posFrom_nonneg (c : Int) (l : List Int) : ∀ i : Int, 0 ≤ i → (0 ≤ posFrom c i l ↔ ∃ x ∈ l, cardOf x = c) := by
  induction l with
  | nil => intro i hi; simp [posFrom]
  | cons x r ih =>
    intro i hi
    rw [posFrom]
    by_cases h : cardOf x = c
    · rw [if_pos h]; simp [h, hi]
    · rw [if_neg h, ih (i + 1) (by omega)]; simp [h]

/-! ### rising sequences -/
def addLast (out : List (List Int)) (v : Int) : List (List Int) := out.set (out.length - 1) (out.getD (out.length - 1) [] ++ [v])
def riseFrom (at_ : Int → Int) : Nat → List (List Int) → Int → List (List Int)
  | 0, out, _ => out
  | n + 1, out, v => riseFrom at_ n (if v = 0 ∨ at_ v < at_ (v - 1) then out ++ [[v]] else addLast out v) (v + 1)
/-- The rising sequences of a permutation. -/
def rising (a : List Int) : List (List Int) := if permOk a = true then riseFrom (fun v => rd (inverse a) v) a.length [] 0 else []
theorem addLast_length (out : List (List Int)) (v : Int) : (addLast out v).length = out.length := by simp [addLast]
/-- No more and no longer than so. -/
def Small (out : List (List Int)) (n : Nat) : Prop := out.length ≤ n ∧ ∀ l ∈ out, l.length ≤ n
theorem Small.last {out : List (List Int)} {n : Nat} (h : Small out n) : (out.getD (out.length - 1) []).length ≤ n := by
  by_cases hl : out.length - 1 < out.length
  · have e : out.getD (out.length - 1) [] = out[out.length - 1] := by simp [hl]
    rw [e]
    exact h.2 _ (List.getElem_mem hl)
  · have e : out = [] := List.eq_nil_of_length_eq_zero (by omega)
    subst e
    simp
theorem Small.new {out : List (List Int)} {n : Nat} (h : Small out n) (v : Int) : Small (out ++ [[v]]) (n + 1) := by
  refine ⟨by simp; exact h.1, fun l hl => ?_⟩
  rcases List.mem_append.1 hl with hl | hl
  · have := h.2 l hl; omega
  · simp at hl; subst hl; simp
theorem Small.more {out : List (List Int)} {n : Nat} (h : Small out n) (v : Int) : Small (addLast out v) (n + 1) := by
  refine ⟨by rw [addLast_length]; have := h.1; omega, fun l hl => ?_⟩
  rcases List.mem_or_eq_of_mem_set hl with hl | hl
  · have := h.2 l hl; omega
  · have := h.last
    rw [hl, List.length_append]
    simp only [List.length_cons, List.length_nil]
    omega
theorem riseFrom_small (at_ : Int → Int) (n : Nat) : ∀ (m : Nat) (out : List (List Int)) (v : Int), Small out m → Small (riseFrom at_ n out v) (m + n) := by
  induction n with
  | zero => intro m out v h; exact h
  | succ n ih =>
    intro m out v h
    rw [riseFrom]
    have e : m + (n + 1) = (m + 1) + n := by omega
    rw [e]
    by_cases c : v = 0 ∨ at_ v < at_ (v - 1)
    · rw [if_pos c]; exact ih _ _ _ (h.new v)
    · rw [if_neg c]; exact ih _ _ _ (h.more v)
theorem rising_small (a : List Int) : Small (rising a) 12 := by
  unfold rising
  by_cases h : permOk a = true
  · rw [if_pos h]
    have h3 := ((permOk_iff a).1 h).2.2
    have hs := riseFrom_small (fun v => rd (inverse a) v) a.length 0 [] 0 ⟨by simp, by simp⟩
    refine ⟨by have := hs.1; omega, fun l hl => by have := hs.2 l hl; omega⟩
  · rw [if_neg h]
    exact ⟨by simp, by simp⟩
theorem set_new (out : List (List Int)) (v : Int) : (out ++ [[]]).set out.length (((out ++ [[]]).getD out.length []) ++ [v]) = out ++ [[v]] := by simp

theorem cardOf_small {x : Int} (h0 : 0 ≤ x) (h1 : x < 12) : cardOf x = x := by unfold cardOf; rw [if_pos h0, if_pos (by omega)]

theorem positionOf_perm {a : List Int} (h : permOk a = true) (v : Int) (h0 : 0 ≤ v) (h1 : v < a.length) : positionOf a v = rd (inverse a) v := by
  obtain ⟨p1, p2, p3⟩ := (permOk_iff a).1 h
  obtain ⟨j, hj, e, e'⟩ := perm_at p1 p2 v h0 h1
  have hc : ∀ (m : Nat) (hm : m < a.length), cardOf (a[m]) = a[m] := fun m hm => by have := p1 _ (List.getElem_mem hm); exact cardOf_small this.1 (by omega)
  unfold positionOf
  rw [if_pos h0, e', posFrom_get v a 0 j hj (by rw [hc, e]) (fun m hm hl he => ?_)]
  · omega
  · rw [hc, ← e] at he
    have := nodup_inj p2 m j hm hj he
    omega
theorem inverse_ne {a : List Int} (h : permOk a = true) (v u : Int) (h0 : 0 ≤ v) (h1 : v < a.length) (g0 : 0 ≤ u) (g1 : u < a.length) (hne : v ≠ u) : rd (inverse a) v ≠ rd (inverse a) u := by
  obtain ⟨p1, p2, p3⟩ := (permOk_iff a).1 h
  obtain ⟨j, hj, e, e'⟩ := perm_at p1 p2 v h0 h1
  obtain ⟨i, hi, f, f'⟩ := perm_at p1 p2 u g0 g1
  intro q
  rw [e', f'] at q
  have : j = i := by omega
  subst this
  exact hne (e.symm.trans f)

theorem spec_l02Has_loop (l : List Int) (v : Int) (hl : l.length ≤ 9223372036854775806) : ∀ (r pre : List Int), l = pre ++ r →
    Ev (fun k => spec_l02Has.l0 k v l (l.length : Int) (pre.length : Int)) (decide (v ∈ r)) := by
  intro r
  induction r with
  | nil =>
    intro pre h
    have e := lens h
    simp only [List.length_nil] at e
    refine Ev.step (f := fun _ => some _) (fun k => ?_) (Ev.now _)
    simp only [spec_l02Has.l0]
    rw [if_neg (by omega)]
    simp
  | cons x r ih =>
    intro pre h
    have e := lens h
    simp only [List.length_cons] at e
    by_cases c : x = v
    · refine Ev.step (f := fun _ => some _) (fun k => ?_) (Ev.now _)
      simp only [spec_l02Has.l0]
      rw [if_pos (by omega), if_pos (by omega), if_pos (by omega), rd_mid' h, if_pos c]
      simp [c]
    · have hi := ih (pre ++ [x]) (snoc_eq h)
      have ed : decide (v ∈ x :: r) = decide (v ∈ r) := by simp [show ¬ v = x from fun q => c q.symm]
      rw [ed]
      refine Ev.step (fun k => ?_) hi
      simp only [spec_l02Has.l0]
      rw [if_pos (by omega), if_pos (by omega), if_pos (by omega), rd_mid' h, if_neg c, snoc_len x (by omega)]
theorem spec_l02Has_ev (l : List Int) (v : Int) (hl : l.length ≤ 9223372036854775806) : Ev (fun k => spec_l02Has.f k l v) (decide (v ∈ l)) := by
  unfold spec_l02Has.f
  exact spec_l02Has_loop l v hl l [] rfl

theorem spec_l01In_eq (a b c : Int) : spec_l01In.f a b c = some (decide (b ≤ a ∧ a ≤ c)) := by
  unfold spec_l01In.f
  by_cases h : a ≥ b
  · rw [if_pos h]; simp; omega
  · rw [if_neg h]; simp; omega

theorem spec_PermOk_loop (a : List Int) (ha : a.length ≤ 9223372036854775806) : ∀ (r pre : List Int), a = pre ++ r →
    Ev (fun k => spec_PermOk.l0 k a a (a.length : Int) (pre.length : Int)) (pokFrom a.length pre r) := by
  intro r
  induction r with
  | nil =>
    intro pre h
    have e := lens h
    simp only [List.length_nil] at e
    refine Ev.step (f := fun _ => some _) (fun k => ?_) (Ev.now _)
    simp only [spec_PermOk.l0, pokFrom]
    rw [if_neg (by omega)]
  | cons x r ih =>
    intro pre h
    have e := lens h
    simp only [List.length_cons] at e
    have ht : a.take ((pre.length : Int).toNat) = pre := by rw [h]; simp
    have hw : wrap64 ((a.length : Int) - 1) = (a.length : Int) - 1 := w64 (by omega) (by omega)
    by_cases c0 : 0 ≤ x ∧ x < a.length
    · refine Ev.step (f := fun k => (spec_l02Has.f k pre x).bind fun t => if t = true then some false else spec_PermOk.l0 k a a (a.length : Int) ((pre ++ [x]).length : Int)) (fun k => ?_) ?_
      · simp only [spec_PermOk.l0]
        rw [if_pos (by omega), if_pos (by omega), if_pos (by omega), rd_mid' h, hw, spec_l01In_eq]
        simp only [Option.bind_some, decide_eq_true_eq]
        rw [if_pos (by omega), if_pos (by omega), ht, snoc_len x (by omega)]
      · refine Ev.bind (spec_l02Has_ev pre x (by omega)) ?_
        by_cases c2 : x ∈ pre
        · have ep : pokFrom a.length pre (x :: r) = false := by simp only [pokFrom]; simp [c2]
          rw [ep]
          exact ev_some fun _ => by simp [c2]
        · have ep : pokFrom a.length pre (x :: r) = pokFrom a.length (pre ++ [x]) r := by simp only [pokFrom]; rw [decide_eq_true c0]; simp [c2]
          rw [ep]
          simp only [c2, decide_false, Bool.false_eq_true, if_false]
          exact ih (pre ++ [x]) (snoc_eq h)
    · have ep : pokFrom a.length pre (x :: r) = false := by simp only [pokFrom]; rw [decide_eq_false c0]; rfl
      rw [ep]
      refine Ev.step (f := fun _ => some _) (fun k => ?_) (Ev.now _)
      simp only [spec_PermOk.l0]
      rw [if_pos (by omega), if_pos (by omega), if_pos (by omega), rd_mid' h, hw, spec_l01In_eq]
      simp only [Option.bind_some, decide_eq_true_eq]
      rw [if_neg (by omega)]
theorem spec_PermOk_ev (a : List Int) (ha : a.length ≤ 9223372036854775806) : Ev (fun k => spec_PermOk.f k a) (permOk a) := by
  unfold spec_PermOk.f permOk
  by_cases h : (a.length : Int) > 12
  · simp only [if_pos h]
    rw [decide_eq_false (show ¬ a.length ≤ 12 by omega), Bool.and_false]
    exact Ev.now _
  · simp only [if_neg h]
    rw [decide_eq_true (show a.length ≤ 12 by omega), Bool.and_true]
    exact spec_PermOk_loop a ha a [] rfl

theorem spec_CardOf_eq (x : Int) : spec_CardOf.f x = some (cardOf x) := by
  unfold spec_CardOf.f cardOf
  simp only [spec_l01In_eq, Option.bind_some, decide_eq_true_eq]
  by_cases h0 : 0 ≤ x
  · by_cases h1 : x ≤ 11
    · rw [if_pos ⟨h0, h1⟩, if_pos h0, if_pos h1]
    · rw [if_neg (by omega), if_neg (by omega), if_pos h0, if_neg h1]
  · by_cases h1 : -12 ≤ x
    · rw [if_neg (by omega), if_pos (by omega), if_neg h0, if_pos h1, w64 (by omega) (by omega)]
    · rw [if_neg (by omega), if_neg (by omega), if_neg h0, if_neg h1]

theorem spec_PositionOf_loop (l : List Int) (c : Int) (hl : l.length ≤ 9223372036854775806) : ∀ (r pre : List Int), l = pre ++ r →
    Ev (fun k => spec_PositionOf.l0 k c l (l.length : Int) (pre.length : Int)) (if 0 ≤ c then posFrom c pre.length r else -1) := by
  intro r
  induction r with
  | nil =>
    intro pre h
    have e := lens h
    simp only [List.length_nil] at e
    refine Ev.step (f := fun _ => some _) (fun k => ?_) (Ev.now _)
    simp only [spec_PositionOf.l0]
    rw [if_neg (by omega)]
    simp [posFrom]
  | cons x r ih =>
    intro pre h
    have e := lens h
    simp only [List.length_cons] at e
    have hi := ih (pre ++ [x]) (snoc_eq h)
    by_cases h1 : cardOf x = c
    · by_cases h0 : 0 ≤ c
      · refine Ev.step (f := fun _ => some _) (fun k => ?_) (Ev.now _)
        simp only [spec_PositionOf.l0]
        rw [if_pos (by omega), if_pos (by omega), if_pos (by omega), rd_mid' h, spec_CardOf_eq]
        simp only [Option.bind_some]
        rw [if_pos h1, if_pos h0, if_pos h0, posFrom, if_pos h1]
      · rw [if_neg h0] at hi ⊢
        refine Ev.step (fun k => ?_) hi
        simp only [spec_PositionOf.l0]
        rw [if_pos (by omega), if_pos (by omega), if_pos (by omega), rd_mid' h, spec_CardOf_eq]
        simp only [Option.bind_some]
        rw [if_pos h1, if_neg h0, snoc_len x (by omega)]
    · have er : (if 0 ≤ c then posFrom c (pre.length : Int) (x :: r) else -1) = (if 0 ≤ c then posFrom c ((pre ++ [x]).length : Int) r else -1) := by
        rw [posFrom, if_neg h1, snoc_cast]
      rw [er]
      refine Ev.step (fun k => ?_) hi
      simp only [spec_PositionOf.l0]
      rw [if_pos (by omega), if_pos (by omega), if_pos (by omega), rd_mid' h, spec_CardOf_eq]
      simp only [Option.bind_some]
      rw [if_neg h1, snoc_len x (by omega)]
theorem spec_PositionOf_ev (l : List Int) (c : Int) (hl : l.length ≤ 9223372036854775806) : Ev (fun k => spec_PositionOf.f k l c) (positionOf l c) := by
  unfold spec_PositionOf.f positionOf
  exact spec_PositionOf_loop l c hl l [] rfl

theorem spec_RisingSequences_loop (a : List Int) (h : permOk a = true) : ∀ (d i : Nat) (out : List (List Int)) (last : Int), i + d = a.length → Small out i → (0 < i → 0 < out.length) → (i = 0 → out = [] ∧ last = -1) → (0 < i → last = rd (inverse a) ((i : Int) - 1)) →
    Ev (fun k => spec_RisingSequences.l0 k a out last (a.length : Int) (i : Int)) (riseFrom (fun v => rd (inverse a) v) d out (i : Int)) := by
  obtain ⟨p1, p2, p3⟩ := (permOk_iff a).1 h
  intro d
  induction d with
  | zero =>
    intro i out last hi hs hp h0 h1
    refine Ev.step (f := fun _ => some _) (fun k => ?_) (Ev.now _)
    simp only [spec_RisingSequences.l0]
    rw [if_neg (by omega)]
    rfl
  | succ d ih =>
    intro i out last hi hs hp h0 h1
    have hs1 := hs.1
    have hw : wrap64 ((i : Int) + 1) = ((i + 1 : Nat) : Int) := by rw [w64 (by omega) (by omega)]; omega
    have hlast : ((i + 1 : Nat) : Int) - 1 = (i : Int) := by omega
    have hpo : positionOf a (i : Int) = rd (inverse a) (i : Int) := positionOf_perm h _ (by omega) (by omega)
    have hpe := spec_PositionOf_ev a (i : Int) (by omega)
    rw [hpo] at hpe
    have hnew := ih (i + 1) (out ++ [[(i : Int)]]) (rd (inverse a) (i : Int)) (by omega) (hs.new _) (fun _ => by simp) (by omega) (fun _ => by rw [hlast])
    rw [riseFrom]
    refine Ev.step (fun k => by rw [spec_RisingSequences.l0]) ?_
    refine ev_ite_true (by omega) (Ev.bind hpe ?_)
    rw [hw]
    by_cases c0 : i = 0
    · obtain ⟨ho, hl⟩ := h0 c0
      rw [if_pos (.inl (by omega))]
      obtain ⟨j, hj, e, e'⟩ := perm_at p1 p2 (i : Int) (by omega) (by omega)
      refine ev_ite_true (by rw [hl, e']; omega) (ev_ite_false (by rw [ho]; simp) (ev_ite_true (by omega) hnew))
    · have hq := hp (by omega)
      have hla := h1 (by omega)
      have hne := inverse_ne h (i : Int) ((i : Int) - 1) (by omega) (by omega) (by omega) (by omega) (by omega)
      by_cases c1 : rd (inverse a) (i : Int) < rd (inverse a) ((i : Int) - 1)
      · rw [if_pos (.inr c1)]
        refine ev_ite_false (by omega) (ev_ite_true (by omega) hnew)
      · rw [if_neg (fun q => q.elim (by omega) c1)]
        have hmore := ih (i + 1) (addLast out i) (rd (inverse a) (i : Int)) (by omega) (hs.more _) (fun _ => by rw [addLast_length]; exact hq) (by omega) (fun _ => by rw [hlast])
        have hl := hs.last
        have hL : wrap64 ((out.length : Int) - 1) = ((out.length - 1 : Nat) : Int) := by rw [w64 (by omega) (by omega)]; omega
        have hrd2 : rd_L1 out ((out.length - 1 : Nat) : Int) = out.getD (out.length - 1) [] := by simp [rd_L1]
        simp only [hL, hrd2, Int.toNat_natCast]
        exact ev_ite_true (by omega) (ev_ite_true (by omega) (ev_ite_true (by omega) (ev_ite_true (by omega) (ev_ite_true (by omega) hmore))))
theorem spec_RisingSequences_ev (a : List Int) (ha : a.length ≤ 9223372036854775806) : Ev (fun k => spec_RisingSequences.f k a) (rising a) := by
  unfold spec_RisingSequences.f rising
  refine Ev.bind (spec_PermOk_ev a ha) ?_
  by_cases h : permOk a = true
  · refine ev_ite_true h ?_
    rw [if_pos h]
    exact spec_RisingSequences_loop a h a.length 0 [] (-1) (by omega) ⟨by simp, by simp⟩ (by omega) (fun _ => ⟨rfl, rfl⟩) (by omega)
  · refine ev_ite_false h ?_
    rw [if_neg h]
    exact Ev.now _

/-! ### slices.Index, slices.Contains -/
def findFrom (v : Int) : Int → List Int → Int
  | _, [] => -1
  | i, x :: r => if v = x then i else findFrom v (i + 1) r
theorem findFrom_nonneg (v : Int) (l : List Int) : ∀ i : Int, 0 ≤ i → (0 ≤ findFrom v i l ↔ v ∈ l) := by
  induction l with
  | nil => intro i hi; simp [findFrom]
  | cons x r ih =>
    intro i hi
    simp only [findFrom, List.mem_cons]
    by_cases c : v = x
    · rw [if_pos c]; simp [c, hi]
    · rw [if_neg c, ih (i + 1) (by omega)]; simp [c]
theorem slices_Index_loop (l : List Int) (v : Int) (hl : l.length ≤ 9223372036854775806) : ∀ (r pre : List Int), l = pre ++ r →
    Ev (fun k => slices_Index_int_int.l0 k l v (l.length : Int) (pre.length : Int)) (findFrom v pre.length r) := by
  intro r
  induction r with
  | nil =>
    intro pre h
    refine Ev.step (f := fun _ => some _) (fun k => ?_) (Ev.now _)
    subst h
    simp only [slices_Index_int_int.l0, findFrom]
    rw [if_neg (by simp)]
  | cons x r ih =>
    intro pre h
    have hlen : l.length = pre.length + (r.length + 1) := by rw [h]; simp
    have hx := rd_mid' h
    have e : ((pre ++ [x]).length : Int) = (pre.length : Int) + 1 := by simp
    simp only [findFrom]
    by_cases c : v = x
    · rw [if_pos c]
      refine Ev.step (f := fun _ => some _) (fun k => ?_) (Ev.now _)
      simp only [slices_Index_int_int.l0]
      rw [if_pos (by omega), if_pos (by omega), if_pos (by omega), hx, if_pos c]
    · rw [if_neg c, ← e]
      refine Ev.step (fun k => ?_) (ih (pre ++ [x]) (snoc_eq h))
      simp only [slices_Index_int_int.l0]
      rw [if_pos (by omega), if_pos (by omega), if_pos (by omega), hx, if_neg c, snoc_len x (by omega)]
theorem slices_Contains_ev (l : List Int) (v : Int) (hl : l.length ≤ 9223372036854775806) : Ev (fun k => slices_Contains_int_int.f k l v) (decide (v ∈ l)) := by
  unfold slices_Contains_int_int.f slices_Index_int_int.f
  refine Ev.bind (slices_Index_loop l v hl l [] rfl) (ev_some fun _ => ?_)
  have := findFrom_nonneg v l 0 (by omega)
  simp only [List.length_nil, Int.ofNat_zero, Option.some.injEq, decide_eq_decide]
  exact this

theorem impl_PermOk_loop (a : List Int) (ha : a.length ≤ 9223372036854775806) : ∀ (r pre : List Int), a = pre ++ r →
    Ev (fun k => impl_PermOk.l0 k a a (a.length : Int) (pre.length : Int)) (pokFrom a.length pre r && decide (a.length ≤ 12)) := by
  intro r
  induction r with
  | nil =>
    intro pre h
    refine Ev.step (f := fun _ => some _) (fun k => ?_) (Ev.now _)
    have hlen : a.length = pre.length := by rw [h]; simp
    simp only [impl_PermOk.l0, pokFrom, Bool.true_and]
    rw [if_neg (by omega)]
    simp; omega
  | cons x r ih =>
    intro pre h
    have hlen : a.length = pre.length + (r.length + 1) := by rw [h]; simp
    have hx := rd_mid' h
    have ht : a.take ((pre.length : Int).toNat) = pre := by rw [h]; simp
    by_cases c0 : x < 0
    · have e : pokFrom a.length pre (x :: r) = false := by simp only [pokFrom]; rw [decide_eq_false (by omega)]; rfl
      rw [e, Bool.false_and]
      refine Ev.step (f := fun _ => some _) (fun k => ?_) (Ev.now _)
      simp only [impl_PermOk.l0]
      rw [if_pos (by omega), if_pos (by omega), if_pos (by omega), hx, if_pos c0]
    by_cases c1 : x ≥ (a.length : Int)
    · have e : pokFrom a.length pre (x :: r) = false := by simp only [pokFrom]; rw [decide_eq_false (by omega)]; rfl
      rw [e, Bool.false_and]
      refine Ev.step (f := fun _ => some _) (fun k => ?_) (Ev.now _)
      simp only [impl_PermOk.l0]
      rw [if_pos (by omega), if_pos (by omega), if_pos (by omega), hx, if_neg c0, if_pos c1]
    refine Ev.step (f := fun k => (slices_Contains_int_int.f k pre x).bind fun t => if t = true then some false else impl_PermOk.l0 k a a (a.length : Int) ((pre ++ [x]).length : Int)) (fun k => ?_) ?_
    · simp only [impl_PermOk.l0]
      rw [if_pos (by omega), if_pos (by omega), if_pos (by omega), hx, if_neg c0, if_neg c1, if_pos (by omega), ht, snoc_len x (by omega)]
    · refine Ev.bind (slices_Contains_ev pre x (by omega)) ?_
      by_cases c2 : x ∈ pre
      · have e : pokFrom a.length pre (x :: r) = false := by simp only [pokFrom]; simp [c2]
        rw [e, Bool.false_and]
        exact ev_some fun _ => by simp [c2]
      · have e : pokFrom a.length pre (x :: r) = pokFrom a.length (pre ++ [x]) r := by simp only [pokFrom]; rw [decide_eq_true (by omega)]; simp [c2]
        rw [e]
        simp only [c2, decide_false, Bool.false_eq_true, if_false]
        exact ih (pre ++ [x]) (snoc_eq h)
theorem impl_PermOk_ev (a : List Int) (ha : a.length ≤ 9223372036854775806) : Ev (fun k => impl_PermOk.f k a) (permOk a) := by
  unfold impl_PermOk.f permOk
  exact impl_PermOk_loop a ha a [] rfl

theorem impl_inverse_loop (a : List Int) (ha : a.length ≤ 9223372036854775806) : ∀ (r pre m : List Int), a = pre ++ r → (∀ x ∈ r, 0 ≤ x ∧ x < m.length) →
    Ev (fun k => impl_inverse.l0 k m a (a.length : Int) (pre.length : Int)) (invFrom m pre.length r) := by
  intro r
  induction r with
  | nil =>
    intro pre m h _
    have e := lens h
    simp only [List.length_nil] at e
    refine Ev.step (f := fun _ => some _) (fun k => ?_) (Ev.now _)
    simp only [impl_inverse.l0]
    rw [if_neg (by omega)]
    rfl
  | cons x r ih =>
    intro pre m h hp
    have e := lens h
    simp only [List.length_cons] at e
    have hx := hp x (by simp)
    have hi := ih (pre ++ [x]) (m.set x.toNat pre.length) (snoc_eq h) (fun z hz => by rw [List.length_set]; exact hp z (by simp [hz]))
    rw [snoc_cast] at hi
    refine Ev.step (fun k => ?_) hi
    simp only [impl_inverse.l0]
    rw [if_pos (by omega), if_pos (by omega), if_pos (by omega), rd_mid' h, if_pos hx.1, if_pos hx.2, w64 (by omega) (by omega)]
theorem impl_inverse_ev (a : List Int) (ha : a.length ≤ 17592186044415) (hp : ∀ x ∈ a, 0 ≤ x ∧ x < a.length) : Ev (fun k => impl_inverse.f k a) (inverse a) := by
  unfold impl_inverse.f inverse
  refine ev_ite_true (by omega) (ev_ite_true (by omega) ?_)
  simp only [Int.toNat_natCast]
  exact impl_inverse_loop a (by omega) a [] _ rfl (fun x hx => by simpa using hp x hx)

theorem impl_RisingSequences_loop (m : List Int) (n : Nat) (hm : m.length = n) (hn : n ≤ 12) : ∀ (d i : Nat) (out : List (List Int)), i + d = n → Small out i → (0 < i → 0 < out.length) →
    Ev (fun k => impl_RisingSequences.l0 k out m (n : Int) (i : Int)) (riseFrom (fun v => rd m v) d out (i : Int)) := by
  intro d
  induction d with
  | zero =>
    intro i out hi hs hp
    refine Ev.step (f := fun _ => some _) (fun k => ?_) (Ev.now _)
    simp only [impl_RisingSequences.l0]
    rw [if_neg (by omega)]
    rfl
  | succ d ih =>
    intro i out hi hs hp
    have hs1 := hs.1
    have hw : wrap64 ((i : Int) + 1) = ((i + 1 : Nat) : Int) := by rw [w64 (by omega) (by omega)]; omega
    have hlen : ((out ++ [[]]).length : Int) - 1 = out.length := by simp
    have hl1 : (out ++ [[]]).length = out.length + 1 := by simp
    have hrd : rd_L1 (out ++ [[]]) (out.length : Int) = [] := by simp [rd_L1]
    have hset : (out ++ [[]]).set ((out.length : Int)).toNat ([] ++ [(i : Int)]) = out ++ [[(i : Int)]] := by simp
    rw [riseFrom]
    by_cases c0 : i = 0
    · have hc : (i : Int) = 0 ∨ (fun v => rd m v) (i : Int) < (fun v => rd m v) ((i : Int) - 1) := .inl (by omega)
      rw [if_pos hc]
      have hi2 := ih (i + 1) (out ++ [[(i : Int)]]) (by omega) (hs.new _) (fun _ => by simp)
      refine Ev.step (fun k => ?_) hi2
      simp only [impl_RisingSequences.l0]
      rw [if_pos (by omega), if_pos (by omega), if_pos (by omega)]
      simp only [Option.bind_some]
      rw [hlen, w64 (by omega) (by omega), if_pos (by omega), if_pos (by omega), hrd, if_pos (by simp), hset, hw]
    · have hq := hp (by omega)
      have hv : wrap64 ((i : Int) - 1) = (i : Int) - 1 := w64 (by omega) (by omega)
      by_cases c1 : rd m (i : Int) < rd m ((i : Int) - 1)
      · rw [if_pos (.inr c1)]
        have hi2 := ih (i + 1) (out ++ [[(i : Int)]]) (by omega) (hs.new _) (fun _ => by simp)
        refine Ev.step (fun k => ?_) hi2
        simp only [impl_RisingSequences.l0]
        rw [if_pos (by omega), if_neg (by omega), if_pos (by omega), if_pos (by omega), hv, if_pos (by omega), if_pos (by omega), if_pos c1, if_pos (by omega)]
        simp only [Option.bind_some]
        rw [hlen, w64 (by omega) (by omega), if_pos (by omega), if_pos (by omega), hrd, if_pos (by simp), hset, hw]
      · rw [if_neg (fun h => h.elim (by omega) c1)]
        have hi2 := ih (i + 1) (addLast out i) (by omega) (hs.more _) (fun _ => by rw [addLast_length]; exact hq)
        have hl := hs.last
        have hL : wrap64 ((out.length : Int) - 1) = ((out.length - 1 : Nat) : Int) := by rw [w64 (by omega) (by omega)]; omega
        have hrd2 : rd_L1 out ((out.length - 1 : Nat) : Int) = out.getD (out.length - 1) [] := by simp [rd_L1]
        refine Ev.step (fun k => ?_) hi2
        simp only [impl_RisingSequences.l0]
        rw [if_pos (by omega), if_neg (by omega), if_pos (by omega), if_pos (by omega), hv, if_pos (by omega), if_pos (by omega), if_neg c1, hL, if_pos (by omega), if_pos (by omega), hrd2, if_pos (by omega), hw, Int.toNat_natCast]
        rfl
theorem impl_RisingSequences_ev (a : List Int) (ha : a.length ≤ 9223372036854775806) : Ev (fun k => impl_RisingSequences.f k a) (rising a) := by
  unfold impl_RisingSequences.f rising
  refine Ev.bind (impl_PermOk_ev a ha) ?_
  by_cases h : permOk a = true
  · obtain ⟨p1, p2, p3⟩ := (permOk_iff a).1 h
    refine ev_ite_true h ?_
    rw [if_pos h]
    refine Ev.bind (impl_inverse_ev a (by omega) p1) ?_
    exact impl_RisingSequences_loop (inverse a) a.length (inverse_length a) p3 a.length 0 [] (by omega) ⟨by simp, by simp⟩ (by omega)
  · refine ev_ite_false h ?_
    rw [if_neg h]
    exact Ev.now _

theorem FnExactRisingSequences : laws_FnExactRisingSequences.Pure := by
  intro a h1 h2 w
  by_cases g : a.length > 1048576
  · exact .inl g
  refine .inr ?_
  have hs := rising_small a
  have ht := total_le (rising a) 12 hs.2
  have hl := hs.1
  obtain ⟨mm, r', hm, hr, E1⟩ := lists_held (rising a) (by omega) (by omega)
  obtain ⟨K, E⟩ := and_at (laws_toIntS_ev a (by omega)) (and_at (spec_RisingSequences_ev a (by omega)) (and_at (impl_RisingSequences_ev a (by omega)) (and_at E1 (and_at (laws_eqIntS_ev a a (by omega)) (laws_markIntS_ev a 1 (by omega) (by omega))))))
  obtain ⟨e1, e2, e3, ⟨e4, e5, e6⟩, e7, e8⟩ := E K (Nat.le_refl _)
  exact ⟨K, rising a, r', mm, 1 + (a.length : Int), upFrom 1 a.length, e1, e2, e3, e4, by simpa using e7, e8, e5, e6, hr, hm, by omega⟩

end Go.Proofs.Ytojbjofngpcjaaa.Pure
