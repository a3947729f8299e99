/- For all arguments, the program's GilbreathsOf answers as the reference's does, in memory of its own. No conditions. -/
import Derived.Test.YtmhfnacbmajdjaaMFnExactGilbreathsOfx0
import Derived.Test.YtmhfnacbmajdjaaMFnExactGilbreathsOfx1
import Derived.Test.YtmhfnacbmajdjaaMFnExactGilbreathsOfx2
import Derived.OpenShut
namespace Go.Proofs.Ytmhfnacbmajdjaa.Pure
open Go.RowKit Go.Proofs.Ytmhfnacbmajdjaa.MFnExactGilbreathsOf Go.Proofs.YtmhfnacbmajdjaaW.PrintWords Go.Proofs.YtmhfnacbmajdjaaW.PrintLast
set_option linter.unusedVariables false
set_option linter.unusedSimpArgs false

/-! ### base: numbers, reads, loops -/
theorem w64 {a : Int} (h0 : -9223372036854775808 ≤ a) (h1 : a ≤ 9223372036854775807) : wrap64 a = a := by
  unfold wrap64
  omega
theorem w64n {n : Nat} (h : n ≤ 9223372036854775807) : wrap64 (n : Int) = n := w64 (by omega) (by omega)
theorem bd64 {n : Int} (h : (Lit.int .i64 n).wf = true) : -9223372036854775808 ≤ n ∧ n ≤ 9223372036854775807 := Go.bounds_i64 h
theorem rd_nat (xs : List Int) (i : Nat) : rd xs (i : Int) = xs.getD i 0 := by simp [rd]
theorem rd_lt {xs : List Int} {i : Nat} (h : i < xs.length) : rd xs (i : Int) = xs[i] := by simp [rd, h]
theorem bt_nat {s : ByteArray} {i : Nat} (h : i < s.size) : bt s (i : Int) = (s[i].toNat : Int) := by simp [bt, h]
/-- Going up to n: what holds at n holds from i on. -/
theorem up_ind (n : Nat) (P : Nat → Prop) (h0 : P n) (hs : ∀ i, i < n → P (i + 1) → P i) : ∀ i, i ≤ n → P i := by
  have h : ∀ d i, i + d = n → P i := by
    intro d
    induction d with
    | zero => intro i hi; obtain rfl : i = n := by omega
              exact h0
    | succ d ih => intro i hi; exact hs i (by omega) (ih (i + 1) (by omega))
  intro i hi
  exact h (n - i) i (by omega)
theorem ev_some {α : Type} {g : Nat → Option α} {r : α} (h : ∀ k, g k = some r) : Ev g r := ⟨0, fun k _ => h k⟩
theorem ev_pair {α β : Type} {g : Nat → Option α} {f : Nat → Option β} {a : α} {b : β} {h : α → β → Option Bool} (hg : Ev g a) (hf : Ev f b) (hh : h a b = some true) : ∃ k, ((g k).bind fun x => (f k).bind fun y => h x y) = some true :=
  Ev.rounds (Ev.bind hg (Ev.bind hf (ev_some fun _ => hh)))

/-! ### lists -/
theorem rd_mid (pre : List Int) (x : Int) (r : List Int) : rd (pre ++ x :: r) (pre.length : Int) = x := by simp [rd]
theorem rd_mid' {l pre : List Int} {x : Int} {r : List Int} (h : l = pre ++ x :: r) : rd l (pre.length : Int) = x := by subst h; exact rd_mid _ _ _
theorem snoc_eq {l pre : List Int} {x : Int} {r : List Int} (h : l = pre ++ x :: r) : l = (pre ++ [x]) ++ r := by simp [h]
theorem snoc_len {pre : List Int} (x : Int) (h : pre.length ≤ 9223372036854775806) : wrap64 ((pre.length : Int) + 1) = ((pre ++ [x]).length : Int) := by
  rw [w64 (by omega) (by omega)]; simp
/-- The whole numbers from m on, n of them. -/
def upFrom (m : Int) : Nat → List Int
  | 0 => []
  | n + 1 => m :: upFrom (m + 1) n
theorem upFrom_length (n : Nat) : ∀ m, (upFrom m n).length = n := by
  induction n with
  | zero => intro m; rfl
  | succ n ih => intro m; simp [upFrom, ih]
theorem upFrom_get (n : Nat) : ∀ (m : Int) (i : Nat) (h : i < (upFrom m n).length), (upFrom m n)[i] = m + i := by
  induction n with
  | zero => intro m i h; simp [upFrom] at h
  | succ n ih =>
    intro m i h
    cases i with
    | zero => simp [upFrom]
    | succ i => simp only [upFrom, List.getElem_cons_succ]; rw [ih]; omega
theorem upFrom_snoc (n : Nat) : ∀ m, upFrom m (n + 1) = upFrom m n ++ [m + n] := by
  induction n with
  | zero => intro m; simp [upFrom]
  | succ n ih => intro m; rw [upFrom, ih]; simp [upFrom]; omega
theorem upFrom_mem (n : Nat) : ∀ (m x : Int), x ∈ upFrom m n ↔ m ≤ x ∧ x < m + n := by
  induction n with
  | zero => intro m x; simp only [upFrom, List.not_mem_nil, false_iff]; omega
  | succ n ih => intro m x; simp only [upFrom, List.mem_cons, ih]; omega
theorem upFrom_nodup (n : Nat) : ∀ m, (upFrom m n).Nodup := by
  induction n with
  | zero => intro m; simp [upFrom]
  | succ n ih => intro m; simp only [upFrom, List.nodup_cons, ih, and_true, upFrom_mem]; omega
theorem nodup_inj {l : List Int} (h : l.Nodup) (i j : Nat) (hi : i < l.length) (hj : j < l.length) (e : l[i] = l[j]) : i = j := by
  have hp := List.pairwise_iff_getElem.1 h
  rcases Nat.lt_trichotomy i j with c | c | c
  · exact absurd e (hp i j hi hj c)
  · exact c
  · exact absurd e.symm (hp j i hj hi c)
theorem set_mid (pre : List Int) (x y : Int) (r : List Int) : (pre ++ y :: r).set pre.length x = (pre ++ [x]) ++ r := by simp
theorem lens {l pre r : List Int} (h : l = pre ++ r) : l.length = pre.length + r.length := by rw [h]; simp
theorem snoc_cast (pre : List Int) (x : Int) : ((pre ++ [x]).length : Int) = (pre.length : Int) + 1 := by simp

theorem laws_eqIntS_loop (a b : List Int) (hab : a.length = b.length) (hl : a.length ≤ 9223372036854775806) : ∀ (r s pre qre : List Int), a = pre ++ r → b = qre ++ s → pre.length = qre.length →
    Ev (fun k => laws_eqIntS.l0 k a b (pre.length : Int)) (decide (r = s)) := by
  intro r
  induction r with
  | nil =>
    intro s pre qre h h' hp
    have e := lens h
    have e' := lens h'
    simp only [List.length_nil] at e
    have hs : s = [] := List.eq_nil_of_length_eq_zero (by omega)
    refine Ev.step (f := fun _ => some _) (fun k => ?_) (Ev.now _)
    simp only [laws_eqIntS.l0]
    rw [if_neg (by omega), hs]
    simp
  | cons x r ih =>
    intro s pre qre h h' hp
    have e := lens h
    have e' := lens h'
    simp only [List.length_cons] at e
    cases s with
    | nil => simp only [List.length_nil] at e'; omega
    | cons y s =>
      have hy := rd_mid' h'
      rw [← hp] at hy
      by_cases c : x = y
      · subst c
        have hi := ih s (pre ++ [x]) (qre ++ [x]) (snoc_eq h) (snoc_eq h') (by simp [hp])
        have ed : decide (x :: r = x :: s) = decide (r = s) := by simp
        rw [ed]
        refine Ev.step (fun k => ?_) hi
        simp only [laws_eqIntS.l0]
        rw [if_pos (by omega), if_pos (by omega), if_pos (by omega), rd_mid' h, hy, if_pos rfl, snoc_len x (by omega)]
      · refine Ev.step (f := fun _ => some _) (fun k => ?_) (Ev.now _)
        simp only [laws_eqIntS.l0]
        rw [if_pos (by omega), if_pos (by omega), if_pos (by omega), rd_mid' h, hy, if_neg c]
        simp [c]
theorem laws_eqIntS_ev (a b : List Int) (hl : a.length ≤ 9223372036854775806) : Ev (fun k => laws_eqIntS.f k a b) (decide (a = b)) := by
  unfold laws_eqIntS.f
  by_cases h : (a.length : Int) = (b.length : Int)
  · simp only [if_pos h]
    exact laws_eqIntS_loop a b (by omega) hl a b [] [] rfl rfl rfl
  · simp only [if_neg h]
    exact ev_some fun _ => by rw [decide_eq_false (fun e => h (by rw [e]))]

theorem laws_markIntS_loop : ∀ (r pre : List Int) (m : Int), 0 ≤ m → m + r.length ≤ 9223372036854775806 → pre.length + r.length ≤ 9223372036854775806 →
    Ev (fun k => laws_markIntS.l0 k (pre ++ r) m (pre.length : Int)) (m + r.length, pre ++ upFrom m r.length) := by
  intro r
  induction r with
  | nil =>
    intro pre m h0 h1 h2
    refine Ev.step (f := fun _ => some _) (fun k => ?_) (Ev.now _)
    simp only [laws_markIntS.l0]
    rw [if_neg (by simp)]
    simp [upFrom]
  | cons x r ih =>
    intro pre m h0 h1 h2
    simp only [List.length_cons] at h1 h2
    have hi := ih (pre ++ [m]) (m + 1) (by omega) (by omega) (by simp; omega)
    have er : ((m + 1 + r.length : Int), (pre ++ [m]) ++ upFrom (m + 1) r.length) = (m + (x :: r).length, pre ++ upFrom m (x :: r).length) := by
      simp [upFrom]; omega
    rw [er] at hi
    refine Ev.step (fun k => ?_) hi
    simp only [laws_markIntS.l0]
    rw [if_pos (by simp; omega), if_pos (by omega), w64 (by omega) (by omega), snoc_len m (by omega), Int.toNat_natCast, set_mid]
theorem laws_markIntS_ev (l : List Int) (m : Int) (h0 : 0 ≤ m) (h1 : m + l.length ≤ 9223372036854775806) :
    Ev (fun k => laws_markIntS.f k l m) (m + l.length, upFrom m l.length) := by
  unfold laws_markIntS.f
  exact laws_markIntS_loop l [] m h0 h1 (by simp; omega)
theorem laws_heldIntS_loop (l : List Int) (hl : l.length ≤ 9223372036854775806) : ∀ (n : Nat) (pre : List Int) (m : Int), 0 ≤ m → m + n ≤ 9223372036854775806 → l = pre ++ upFrom m n →
    Ev (fun k => laws_heldIntS.l0 k l m (pre.length : Int)) (m + n) := by
  intro n
  induction n with
  | zero =>
    intro pre m h0 h1 h
    have e := lens h
    simp only [upFrom_length] at e
    refine Ev.step (f := fun _ => some _) (fun k => ?_) (Ev.now _)
    simp only [laws_heldIntS.l0]
    rw [if_neg (by omega)]
    simp
  | succ n ih =>
    intro pre m h0 h1 h
    have e := lens h
    simp only [upFrom_length] at e
    have hi := ih (pre ++ [m]) (m + 1) (by omega) (by omega) (by rw [h]; simp [upFrom])
    have er : m + 1 + (n : Int) = m + (n + 1 : Nat) := by omega
    rw [er] at hi
    refine Ev.step (fun k => ?_) hi
    simp only [laws_heldIntS.l0]
    rw [if_pos (by omega), if_pos (by omega), rd_mid' (by rw [h, upFrom]), if_pos rfl, w64 (by omega) (by omega), snoc_len m (by omega)]
theorem laws_heldIntS_ev (m : Int) (n : Nat) (h0 : 0 ≤ m) (h1 : m + n ≤ 9223372036854775806) :
    Ev (fun k => laws_heldIntS.f k (upFrom m n) m) (m + n) := by
  unfold laws_heldIntS.f
  exact laws_heldIntS_loop (upFrom m n) (by rw [upFrom_length]; omega) n [] m h0 h1 rfl

def total (r : List (List Int)) : Nat := (r.map List.length).sum
def markAll : Int → List (List Int) → List (List Int)
  | _, [] => []
  | m, l :: r => upFrom m l.length :: markAll (m + l.length) r
theorem markAll_length (r : List (List Int)) : ∀ m, (markAll m r).length = r.length := by
  induction r with
  | nil => intro m; rfl
  | cons l r ih => intro m; simp [markAll, ih]
theorem total_cons (l : List Int) (r : List (List Int)) : total (l :: r) = l.length + total r := by simp [total]
theorem getD_mid (pre : List (List Int)) (x : List Int) (r : List (List Int)) : (pre ++ x :: r).getD pre.length [] = x := by simp
theorem set_midL (pre : List (List Int)) (x y : List Int) (r : List (List Int)) : (pre ++ y :: r).set pre.length x = (pre ++ [x]) ++ r := by simp
theorem laws_markIntSS_loop : ∀ (r pre : List (List Int)) (m : Int), 0 ≤ m → m + total r ≤ 9223372036854775806 → pre.length + r.length ≤ 9223372036854775806 →
    Ev (fun k => laws_markIntSS.l0 k (pre ++ r) m (pre.length : Int)) (m + total r, pre ++ markAll m r) := by
  intro r
  induction r with
  | nil =>
    intro pre m h0 h1 h2
    refine Ev.step (f := fun _ => some _) (fun k => ?_) (Ev.now _)
    simp only [laws_markIntSS.l0]
    rw [if_neg (by simp)]
    simp [markAll, total]
  | cons l r ih =>
    intro pre m h0 h1 h2
    rw [total_cons] at h1
    simp only [List.length_cons] at h2
    have hi := ih (pre ++ [upFrom m l.length]) (m + l.length) (by omega) (by omega) (by simp; omega)
    have er : ((m + l.length + total r : Int), (pre ++ [upFrom m l.length]) ++ markAll (m + l.length) r) = (m + (total (l :: r) : Nat), pre ++ markAll m (l :: r)) := by
      rw [total_cons]; simp [markAll]; omega
    rw [er] at hi
    refine Ev.step (f := fun k => (laws_markIntS.f k l m).bind fun b => laws_markIntSS.l0 k ((pre ++ l :: r).set pre.length b.2) b.1 (wrap64 ((pre.length : Int) + 1))) (fun k => ?_) (Ev.bind (laws_markIntS_ev l m h0 (by omega)) ?_)
    · simp only [laws_markIntSS.l0]
      rw [if_pos (by simp; omega), if_pos (by omega), Int.toNat_natCast, getD_mid]
    · have ew : wrap64 ((pre.length : Int) + 1) = ((pre ++ [upFrom m l.length]).length : Int) := by rw [w64 (by omega) (by omega)]; simp
      simp only [set_midL, ew]
      exact hi
theorem laws_markIntSS_ev (r : List (List Int)) (m : Int) (h0 : 0 ≤ m) (h1 : m + total r ≤ 9223372036854775806) (h2 : r.length ≤ 9223372036854775806) :
    Ev (fun k => laws_markIntSS.f k r m) (m + total r, markAll m r) := by
  unfold laws_markIntSS.f
  exact laws_markIntSS_loop r [] m h0 h1 (by simp; omega)
theorem laws_heldIntSS_loop (l : List (List Int)) : ∀ (r pre : List (List Int)) (m : Int), 0 ≤ m → m + total r ≤ 9223372036854775806 → pre.length + r.length ≤ 9223372036854775806 → l = pre ++ markAll m r →
    Ev (fun k => laws_heldIntSS.l0 k l m (pre.length : Int)) (m + total r) := by
  intro r
  induction r with
  | nil =>
    intro pre m h0 h1 h2 h
    refine Ev.step (f := fun _ => some _) (fun k => ?_) (Ev.now _)
    simp only [laws_heldIntSS.l0]
    rw [if_neg (by rw [h]; simp [markAll])]
    simp [total]
  | cons x r ih =>
    intro pre m h0 h1 h2 h
    rw [total_cons] at h1
    simp only [List.length_cons] at h2
    have hl : l.length = pre.length + (r.length + 1) := by rw [h]; simp [markAll, markAll_length]
    have hi := ih (pre ++ [upFrom m x.length]) (m + x.length) (by omega) (by omega) (by simp; omega) (by rw [h]; simp [markAll])
    have er : m + (x.length : Int) + (total r : Int) = m + (total (x :: r) : Nat) := by rw [total_cons]; omega
    rw [er] at hi
    have hrd : rd_L1 l (pre.length : Int) = upFrom m x.length := by rw [h, markAll]; simp [rd_L1]
    refine Ev.step (f := fun k => (laws_heldIntS.f k (upFrom m x.length) m).bind fun t => if t < 0 then some (-1) else laws_heldIntSS.l0 k l t (wrap64 ((pre.length : Int) + 1))) (fun k => ?_) (Ev.bind (laws_heldIntS_ev m x.length h0 (by omega)) ?_)
    · simp only [laws_heldIntSS.l0]
      rw [if_pos (by omega), if_pos (by omega), hrd]
    · have ew : wrap64 ((pre.length : Int) + 1) = ((pre ++ [upFrom m x.length]).length : Int) := by rw [w64 (by omega) (by omega)]; simp
      simp only [if_neg (show ¬ (m + (x.length : Int) < 0) by omega), ew]
      exact hi
theorem laws_heldIntSS_ev (r : List (List Int)) (m : Int) (h0 : 0 ≤ m) (h1 : m + total r ≤ 9223372036854775806) (h2 : r.length ≤ 9223372036854775806) :
    Ev (fun k => laws_heldIntSS.f k (markAll m r) m) (m + total r) := by
  unfold laws_heldIntSS.f
  exact laws_heldIntSS_loop (markAll m r) r [] m h0 h1 (by simp; omega) rfl
theorem laws_eqIntSS_loop (l : List (List Int)) (hs : ∀ x ∈ l, x.length ≤ 9223372036854775806) (hl : l.length ≤ 9223372036854775806) : ∀ (r pre : List (List Int)), l = pre ++ r →
    Ev (fun k => laws_eqIntSS.l0 k l l (pre.length : Int)) true := by
  intro r
  induction r with
  | nil =>
    intro pre h
    refine Ev.step (f := fun _ => some _) (fun k => ?_) (Ev.now _)
    simp only [laws_eqIntSS.l0]
    rw [if_neg (by rw [h]; simp)]
  | cons x r ih =>
    intro pre h
    have e : l.length = pre.length + (r.length + 1) := by rw [h]; simp
    have hi := ih (pre ++ [x]) (by rw [h]; simp)
    have hrd : rd_L1 l (pre.length : Int) = x := by rw [h]; simp [rd_L1]
    refine Ev.step (f := fun k => (laws_eqIntS.f k x x).bind fun t => if t = true then laws_eqIntSS.l0 k l l (wrap64 ((pre.length : Int) + 1)) else some false) (fun k => ?_) (Ev.bind (laws_eqIntS_ev x x (hs x (by rw [h]; simp))) ?_)
    · simp only [laws_eqIntSS.l0]
      rw [if_pos (by omega), if_pos (by omega), if_pos (by omega), hrd]
    · have ew : wrap64 ((pre.length : Int) + 1) = ((pre ++ [x]).length : Int) := by rw [w64 (by omega) (by omega)]; simp
      simp only [decide_true, if_true, ew]
      exact hi
theorem laws_eqIntSS_ev (l : List (List Int)) (hs : ∀ x ∈ l, x.length ≤ 9223372036854775806) (hl : l.length ≤ 9223372036854775806) : Ev (fun k => laws_eqIntSS.f k l l) true := by
  unfold laws_eqIntSS.f
  simp only [if_true]
  exact laws_eqIntSS_loop l hs hl l [] rfl
theorem total_le (r : List (List Int)) (b : Nat) (h : ∀ l ∈ r, l.length ≤ b) : total r ≤ r.length * b := by
  induction r with
  | nil => simp [total]
  | cons l r ih =>
    rw [total_cons, List.length_cons, Nat.succ_mul]
    have := ih (fun x hx => h x (by simp [hx]))
    have := h l (by simp)
    omega
theorem mem_total {r : List (List Int)} {l : List Int} (h : l ∈ r) : l.length ≤ total r := by
  induction r with
  | nil => simp at h
  | cons x r ih =>
    rw [total_cons]
    rcases List.mem_cons.1 h with rfl | h
    · omega
    · have := ih h; omega
/-- What a law asks of lists that were handed out, at one number of rounds. -/
theorem all_at {α β : Type} {f : Nat → Option α} {g : Nat → Option β} {a : α} {b : β} (hf : Ev f a) (hg : Ev g b) : ∃ K, ∀ k, K ≤ k → f k = some a ∧ g k = some b := by
  obtain ⟨K, h⟩ := hf
  obtain ⟨M, i⟩ := hg
  exact ⟨K + M, fun k hk => ⟨h k (by omega), i k (by omega)⟩⟩
theorem and_at {p q : Nat → Prop} (hp : ∃ K, ∀ k, K ≤ k → p k) (hq : ∃ K, ∀ k, K ≤ k → q k) : ∃ K, ∀ k, K ≤ k → p k ∧ q k := by
  obtain ⟨K, h⟩ := hp
  obtain ⟨M, i⟩ := hq
  exact ⟨K + M, fun k hk => ⟨h k (by omega), i k (by omega)⟩⟩
/-- Marked and held: the lists that were handed out are the law's own. -/
theorem lists_held (r : List (List Int)) (h2 : r.length ≤ 1048576) (h1 : total r ≤ 1048576) : ∃ mm r', 0 ≤ mm ∧ r'.length = r.length ∧ (∃ K, ∀ k, K ≤ k → laws_eqIntSS.f k r r = some true ∧ laws_markIntSS.f k r 1 = some (mm, r') ∧ laws_heldIntSS.f k r' 1 = some mm) :=
  ⟨1 + total r, markAll 1 r, by omega, markAll_length r 1, and_at (laws_eqIntSS_ev r (fun x hx => by have := mem_total hx; omega) (by omega)) (all_at (laws_markIntSS_ev r 1 (by omega) (by omega) (by omega)) (laws_heldIntSS_ev r 1 (by omega) (by omega) (by omega)))⟩

/-- What every law of one list does: it hands a copy to the reference and one to the program, compares, and looks at the copy. -/
theorem ev_ite_true {α : Type} {f g : Nat → Option α} {r : α} {c : Prop} [Decidable c] (h : c) (k : Ev f r) : Ev (fun n => if c then f n else g n) r := by simpa only [if_pos h] using k
theorem ev_ite_false {α : Type} {f g : Nat → Option α} {r : α} {c : Prop} [Decidable c] (h : ¬ c) (k : Ev g r) : Ev (fun n => if c then f n else g n) r := by simpa only [if_neg h] using k

/-! ### gil0: the Gilbreath permutations, on lists -/
def gilU : Nat → List Int → Int → Int → Int → List (List Int)
  | 0, a, _, _, _ => [a]
  | d + 1, a, low, high, n => (if low > 0 then gilU d (a ++ [low - 1]) (low - 1) high n else []) ++ (if high < n - 1 then gilU d (a ++ [high + 1]) low (high + 1) n else [])
def gilsU (n : Nat) : List (List Int) := (List.range' 0 n).flatMap fun x : Nat => gilU (n - 1) [(x : Int)] (x : Int) (x : Int) (n : Int)
theorem gilU_count : ∀ (d : Nat) (a : List Int) (low high n : Int), (gilU d a low high n).length ≤ 2 ^ d := by
  intro d
  induction d with
  | zero => intro a low high n; simp [gilU]
  | succ d ih =>
    intro a low high n
    rw [gilU, List.length_append, Nat.pow_succ]
    have h1 : (if low > 0 then gilU d (a ++ [low - 1]) (low - 1) high n else ([] : List (List Int))).length ≤ 2 ^ d := by
      split
      · exact ih _ _ _ _
      · simp
    have h2 : (if high < n - 1 then gilU d (a ++ [high + 1]) low (high + 1) n else ([] : List (List Int))).length ≤ 2 ^ d := by
      split
      · exact ih _ _ _ _
      · simp
    omega
theorem gilU_len : ∀ (d : Nat) (a : List Int) (low high n : Int), ∀ x ∈ gilU d a low high n, x.length = a.length + d := by
  intro d
  induction d with
  | zero => intro a low high n x hx; rw [gilU, List.mem_singleton] at hx; rw [hx]; rfl
  | succ d ih =>
    intro a low high n x hx
    rw [gilU, List.mem_append] at hx
    rcases hx with hx | hx
    · split at hx
      · have := ih _ _ _ _ x hx; rw [this, List.length_append, List.length_singleton]; omega
      · simp at hx
    · split at hx
      · have := ih _ _ _ _ x hx; rw [this, List.length_append, List.length_singleton]; omega
      · simp at hx
def gilsOf (n : Int) : List (List Int) := if n < 1 then [] else if n > 12 then [] else gilsU n.toNat
theorem pow_4096 {d : Nat} (h : d ≤ 12) : 2 ^ d ≤ 4096 := Nat.pow_le_pow_right (by omega) h
theorem pow_2048 {d : Nat} (h : d ≤ 11) : 2 ^ d ≤ 2048 := Nat.pow_le_pow_right (by omega) h
theorem gilsU_small (n : Nat) (h1 : 1 ≤ n) (hn : n ≤ 12) : (gilsU n).length ≤ 12 * 2048 ∧ ∀ x ∈ gilsU n, x.length = n := by
  constructor
  · have : ∀ l : List Nat, (l.flatMap fun x : Nat => gilU (n - 1) [(x : Int)] (x : Int) (x : Int) (n : Int)).length ≤ l.length * 2048 := by
      intro l
      induction l with
      | nil => simp
      | cons x l ih =>
        rw [List.flatMap_cons, List.length_append, List.length_cons, Nat.succ_mul]
        have := gilU_count (n - 1) [(x : Int)] x x n
        have := pow_2048 (d := n - 1) (by omega)
        omega
    have h := this (List.range' 0 n)
    rw [List.length_range'] at h
    exact Nat.le_trans h (Nat.mul_le_mul_right _ hn)
  · intro x hx
    obtain ⟨i, _, hx⟩ := List.mem_flatMap.1 hx
    rw [gilU_len _ _ _ _ _ x hx, List.length_singleton]
    omega
theorem gilsOf_small (n : Int) : (gilsOf n).length ≤ 24576 ∧ ∀ x ∈ gilsOf n, x.length ≤ 12 := by
  unfold gilsOf
  split
  · exact ⟨by simp, fun x hx => by simp at hx⟩
  split
  · exact ⟨by simp, fun x hx => by simp at hx⟩
  · obtain ⟨h1, h2⟩ := gilsU_small n.toNat (by omega) (by omega)
    exact ⟨h1, fun x hx => by rw [h2 x hx]; omega⟩

theorem impl_gilbreaths_ev : ∀ (d : Nat) (a : List Int) (low high n : Int), (a.length : Int) + d = n → n ≤ 12 → 0 ≤ low → low ≤ 20 → -20 ≤ high → high ≤ 40 - d → Ev (fun k => impl_gilbreaths.f k n a low high) (gilU d a low high n) := by
  intro d
  induction d with
  | zero =>
    intro a low high n h hn h0 h1 h2 h3
    refine Ev.step (f := fun _ => some _) (fun k => ?_) (Ev.now _)
    rw [impl_gilbreaths.f, if_pos (by omega)]
    rfl
  | succ d ih =>
    intro a low high n h hn h0 h1 h2 h3
    have e1 : Ev (fun k => if low > 0 then impl_gilbreaths.f k n (a ++ [wrap64 (low - 1)]) (wrap64 (low - 1)) high else some []) (if low > 0 then gilU d (a ++ [low - 1]) (low - 1) high n else []) := by
      by_cases c : low > 0
      · simp only [if_pos c, w64 (show -9223372036854775808 ≤ low - 1 by omega) (show low - 1 ≤ 9223372036854775807 by omega)]
        exact ih _ _ _ _ (by rw [List.length_append, List.length_singleton]; omega) hn (by omega) (by omega) h2 (by omega)
      · simp only [if_neg c]
        exact Ev.now _
    have e2 : Ev (fun k => if high < wrap64 (n - 1) then impl_gilbreaths.f k n (a ++ [wrap64 (high + 1)]) low (wrap64 (high + 1)) else some []) (if high < n - 1 then gilU d (a ++ [high + 1]) low (high + 1) n else []) := by
      simp only [w64 (show -9223372036854775808 ≤ n - 1 by omega) (show n - 1 ≤ 9223372036854775807 by omega)]
      by_cases c : high < n - 1
      · simp only [if_pos c, w64 (show -9223372036854775808 ≤ high + 1 by omega) (show high + 1 ≤ 9223372036854775807 by omega)]
        exact ih _ _ _ _ (by rw [List.length_append, List.length_singleton]; omega) hn h0 h1 (by omega) (by omega)
      · simp only [if_neg c]
        exact Ev.now _
    have hc := gilU_count (d + 1) a low high n
    rw [gilU, List.length_append] at hc
    have hp := pow_4096 (d := d + 1) (by omega)
    have hlt : (if low > 0 then gilU d (a ++ [low - 1]) (low - 1) high n else ([] : List (List Int))).length + (if high < n - 1 then gilU d (a ++ [high + 1]) low (high + 1) n else ([] : List (List Int))).length < 5864062014805 := by omega
    refine Ev.step (f := fun k => (if low > 0 then impl_gilbreaths.f k n (a ++ [wrap64 (low - 1)]) (wrap64 (low - 1)) high else some []).bind fun o1 => (if high < wrap64 (n - 1) then impl_gilbreaths.f k n (a ++ [wrap64 (high + 1)]) low (wrap64 (high + 1)) else some []).bind fun o2 => if o1.length + o2.length < 5864062014805 then some (o1 ++ o2) else none) (fun k => ?_) (Ev.bind e1 (Ev.bind e2 ?_))
    · rw [impl_gilbreaths.f, if_neg (by omega), if_pos (by omega)]
    · rw [gilU]
      exact ev_ite_true hlt (Ev.now _)
theorem impl_GilbreathsOf_loop (n : Nat) (h1 : 1 ≤ n) (hn : n ≤ 12) : ∀ (d i : Nat) (out : List (List Int)), i + d = n → out.length + d * 2048 ≤ 100000 →
    Ev (fun k => impl_GilbreathsOf.l0 k (n : Int) out (i : Int)) (out ++ (List.range' i d).flatMap fun x : Nat => gilU (n - 1) [(x : Int)] (x : Int) (x : Int) (n : Int)) := by
  intro d
  induction d with
  | zero =>
    intro i out hi ho
    refine Ev.step (f := fun _ => some _) (fun k => ?_) (Ev.now _)
    simp only [impl_GilbreathsOf.l0]
    rw [if_neg (by omega)]
    simp
  | succ d ih =>
    intro i out hi ho
    have hc := gilU_count (n - 1) [(i : Int)] i i n
    have hp := pow_2048 (d := n - 1) (by omega)
    have hh := ih (i + 1) (out ++ gilU (n - 1) [(i : Int)] (i : Int) (i : Int) (n : Int)) (by omega) (by rw [List.length_append]; omega)
    rw [List.range'_succ, List.flatMap_cons, ← List.append_assoc]
    refine Ev.step (f := fun k => (impl_gilbreaths.f k (n : Int) [(i : Int)] i i).bind fun t => if out.length + t.length < 5864062014805 then impl_GilbreathsOf.l0 k (n : Int) (out ++ t) ((i + 1 : Nat) : Int) else none) (fun k => ?_) (Ev.bind (impl_gilbreaths_ev (n - 1) [(i : Int)] i i n (by rw [List.length_singleton]; omega) (by omega) (by omega) (by omega) (by omega) (by omega)) ?_)
    · simp only [impl_GilbreathsOf.l0]
      rw [if_pos (by omega), w64 (by omega) (by omega)]
      rfl
    · simp only [if_pos (show out.length + (gilU (n - 1) [(i : Int)] (i : Int) (i : Int) (n : Int)).length < 5864062014805 by omega)]
      exact hh
theorem impl_GilbreathsOf_ev (n : Int) : Ev (fun k => impl_GilbreathsOf.f k n) (gilsOf n) := by
  unfold impl_GilbreathsOf.f gilsOf
  by_cases c1 : n < 1
  · simp only [if_pos c1]
    exact Ev.now _
  simp only [if_neg c1]
  by_cases c2 : n > 12
  · simp only [if_pos c2]
    exact Ev.now _
  simp only [if_neg c2]
  have h := impl_GilbreathsOf_loop n.toNat (by omega) (by omega) n.toNat 0 [] (by omega) (by simp only [List.length_nil]; omega)
  rw [Int.toNat_of_nonneg (by omega)] at h
  rw [gilsU, Int.toNat_of_nonneg (by omega)]
  exact h

theorem spec_l01In_eq (a b c : Int) : spec_l01In.f a b c = some (decide (b ≤ a ∧ a ≤ c)) := by
  unfold spec_l01In.f
  by_cases h : a ≥ b
  · rw [if_pos h]; simp; omega
  · rw [if_neg h]; simp; omega

theorem spec_l07Grow_ev : ∀ (d : Nat) (out : List (List Int)) (a : List Int) (low high n : Int), (a.length : Int) + d = n → n ≤ 12 → 0 ≤ low → low ≤ 20 → -20 ≤ high → high ≤ 40 - d → out.length + 2 ^ d ≤ 1000000 → Ev (fun k => spec_l07Grow.f k out a low high n) (out ++ gilU d a low high n) := by
  intro d
  induction d with
  | zero =>
    intro out a low high n h hn h0 h1 h2 h3 ho
    refine Ev.step (f := fun _ => some _) (fun k => ?_) (Ev.now _)
    rw [spec_l07Grow.f, if_pos (by omega), if_pos (by omega)]
    rfl
  | succ d ih =>
    intro out a low high n h hn h0 h1 h2 h3 ho
    rw [Nat.pow_succ] at ho
    have e1 : Ev (fun k => if low > 0 then spec_l07Grow.f k out (a ++ [wrap64 (low - 1)]) (wrap64 (low - 1)) high n else some out) (out ++ (if low > 0 then gilU d (a ++ [low - 1]) (low - 1) high n else [])) := by
      by_cases c : low > 0
      · simp only [if_pos c, w64 (show -9223372036854775808 ≤ low - 1 by omega) (show low - 1 ≤ 9223372036854775807 by omega)]
        exact ih _ _ _ _ _ (by rw [List.length_append, List.length_singleton]; omega) hn (by omega) (by omega) h2 (by omega) (by omega)
      · simp only [if_neg c, List.append_nil]
        exact Ev.now _
    have hl : (out ++ (if low > 0 then gilU d (a ++ [low - 1]) (low - 1) high n else [])).length ≤ out.length + 2 ^ d := by
      rw [List.length_append]
      have : (if low > 0 then gilU d (a ++ [low - 1]) (low - 1) high n else ([] : List (List Int))).length ≤ 2 ^ d := by
        split
        · exact gilU_count _ _ _ _ _
        · simp
      omega
    generalize hO : out ++ (if low > 0 then gilU d (a ++ [low - 1]) (low - 1) high n else []) = O at e1 hl
    have e2 : Ev (fun k => if high < wrap64 (n - 1) then spec_l07Grow.f k O (a ++ [wrap64 (high + 1)]) low (wrap64 (high + 1)) n else some O) (O ++ (if high < n - 1 then gilU d (a ++ [high + 1]) low (high + 1) n else [])) := by
      simp only [w64 (show -9223372036854775808 ≤ n - 1 by omega) (show n - 1 ≤ 9223372036854775807 by omega)]
      by_cases c : high < n - 1
      · simp only [if_pos c, w64 (show -9223372036854775808 ≤ high + 1 by omega) (show high + 1 ≤ 9223372036854775807 by omega)]
        exact ih _ _ _ _ _ (by rw [List.length_append, List.length_singleton]; omega) hn h0 h1 (by omega) (by omega) (by omega)
      · simp only [if_neg c, List.append_nil]
        exact Ev.now _
    have ee : out ++ gilU (d + 1) a low high n = O ++ (if high < n - 1 then gilU d (a ++ [high + 1]) low (high + 1) n else []) := by
      rw [gilU, ← hO, List.append_assoc]
    rw [ee]
    refine Ev.step (f := fun k => (if low > 0 then spec_l07Grow.f k out (a ++ [wrap64 (low - 1)]) (wrap64 (low - 1)) high n else some out).bind fun o => (if high < wrap64 (n - 1) then spec_l07Grow.f k o (a ++ [wrap64 (high + 1)]) low (wrap64 (high + 1)) n else some o)) (fun k => ?_) (Ev.bind e1 e2)
    rw [spec_l07Grow.f, if_neg (by omega), if_pos (by omega)]
theorem spec_GilbreathsOf_loop (n : Nat) (h1 : 1 ≤ n) (hn : n ≤ 12) : ∀ (d i : Nat) (out : List (List Int)), i + d = n → out.length + (d + 1) * 2048 ≤ 100000 →
    Ev (fun k => spec_GilbreathsOf.l0 k (n : Int) out (i : Int)) (out ++ (List.range' i d).flatMap fun x : Nat => gilU (n - 1) [(x : Int)] (x : Int) (x : Int) (n : Int)) := by
  intro d
  induction d with
  | zero =>
    intro i out hi ho
    refine Ev.step (f := fun _ => some _) (fun k => ?_) (Ev.now _)
    simp only [spec_GilbreathsOf.l0]
    rw [if_neg (by omega)]
    simp
  | succ d ih =>
    intro i out hi ho
    have hc := gilU_count (n - 1) [(i : Int)] i i n
    have hp := pow_2048 (d := n - 1) (by omega)
    have hh := ih (i + 1) (out ++ gilU (n - 1) [(i : Int)] (i : Int) (i : Int) (n : Int)) (by omega) (by rw [List.length_append]; omega)
    rw [List.range'_succ, List.flatMap_cons, ← List.append_assoc]
    refine Ev.step (f := fun k => (spec_l07Grow.f k out [(i : Int)] i i (n : Int)).bind fun o => spec_GilbreathsOf.l0 k (n : Int) o ((i + 1 : Nat) : Int)) (fun k => ?_) (Ev.bind (spec_l07Grow_ev (n - 1) out [(i : Int)] i i n (by rw [List.length_singleton]; omega) (by omega) (by omega) (by omega) (by omega) (by omega) (by omega)) hh)
    simp only [spec_GilbreathsOf.l0]
    rw [if_pos (by omega), w64 (by omega) (by omega)]
    rfl
theorem spec_GilbreathsOf_ev (n : Int) : Ev (fun k => spec_GilbreathsOf.f k n) (gilsOf n) := by
  unfold spec_GilbreathsOf.f gilsOf
  simp only [spec_l01In_eq, Option.bind_some]
  by_cases c1 : n < 1
  · rw [if_pos c1]
    exact ev_ite_false (by simp; omega) (Ev.now _)
  rw [if_neg c1]
  by_cases c2 : n > 12
  · rw [if_pos c2]
    exact ev_ite_false (by simp; omega) (Ev.now _)
  rw [if_neg c2]
  refine ev_ite_true (by simp; omega) ?_
  have h := spec_GilbreathsOf_loop n.toNat (by omega) (by omega) n.toNat 0 [] (by omega) (by simp only [List.length_nil]; omega)
  rw [Int.toNat_of_nonneg (by omega)] at h
  rw [gilsU, Int.toNat_of_nonneg (by omega)]
  exact h

theorem FnExactGilbreathsOf : laws_FnExactGilbreathsOf.Pure := by
  intro n wn
  obtain ⟨h1, h2⟩ := gilsOf_small n
  have ht := total_le _ 12 h2
  have ht' : total (gilsOf n) ≤ 24576 * 12 := Nat.le_trans ht (Nat.mul_le_mul_right _ h1)
  obtain ⟨mm, r', hm, hr, E1⟩ := lists_held (gilsOf n) (by omega) (by omega)
  obtain ⟨K, E⟩ := and_at (spec_GilbreathsOf_ev n) (and_at (impl_GilbreathsOf_ev n) E1)
  obtain ⟨e1, e2, e3, e4, e5⟩ := E K (Nat.le_refl _)
  exact ⟨K, gilsOf n, r', mm, e1, e2, e3, e4, e5, hr, hm⟩

end Go.Proofs.Ytmhfnacbmajdjaa.Pure
