/- For every list of packets, the program's SortPackets answers as the reference's does, leaves its argument alone, and answers in memory of its own. No conditions. -/
import Derived.Test.YtbghkcgglhoopaaMFnExactSortPacketsx0
import Derived.Test.YtbghkcgglhoopaaMFnExactSortPacketsx1
import Derived.Test.YtbghkcgglhoopaaMFnExactSortPacketsx2
import Derived.Test.YtbghkcgglhoopaaMFnExactSortPacketsx3
import Derived.Test.YtbghkcgglhoopaaMFnExactSortPacketsx4
import Derived.Test.YtbghkcgglhoopaaMFnExactSortPacketsx5
import Derived.Test.YtbghkcgglhoopaaMFnExactSortPacketsx6
import Derived.OpenShut
namespace Go.Proofs.Ytbghkcgglhoopaa.Pure
open Go.RowKit Go.Proofs.Ytbghkcgglhoopaa.MFnExactSortPackets Go.Proofs.YtbghkcgglhoopaaW.PrintWords Go.Proofs.YtbghkcgglhoopaaW.PrintLast
set_option linter.unusedVariables false
set_option linter.unusedSimpArgs false

/-! ### base: numbers, reads, loops -/
theorem w64 {a : Int} (h0 : -9223372036854775808 ≤ a) (h1 : a ≤ 9223372036854775807) : wrap64 a = a := by
  unfold wrap64
  omega
theorem w64n {n : Nat} (h : n ≤ 9223372036854775807) : wrap64 (n : Int) = n := w64 (by omega) (by omega)
theorem bd64 {n : Int} (h : (Lit.int .i64 n).wf = true) : -9223372036854775808 ≤ n ∧ n ≤ 9223372036854775807 := Go.bounds_i64 h
theorem rd_nat (xs : List Int) (i : Nat) : rd xs (i : Int) = xs.getD i 0 := by simp [rd]
theorem rd_lt {xs : List Int} {i : Nat} (h : i < xs.length) : rd xs (i : Int) = xs[i] := by simp [rd, h]
theorem bt_nat {s : ByteArray} {i : Nat} (h : i < s.size) : bt s (i : Int) = (s[i].toNat : Int) := by simp [bt, h]
/-- Going up to n: what holds at n holds from i on. -/
theorem up_ind (n : Nat) (P : Nat → Prop) (h0 : P n) (hs : ∀ i, i < n → P (i + 1) → P i) : ∀ i, i ≤ n → P i := by
  have h : ∀ d i, i + d = n → P i := by
    intro d
    induction d with
    | zero => intro i hi; obtain rfl : i = n := by omega
              exact h0
    | succ d ih => intro i hi; exact hs i (by omega) (ih (i + 1) (by omega))
  intro i hi
  exact h (n - i) i (by omega)
theorem ev_some {α : Type} {g : Nat → Option α} {r : α} (h : ∀ k, g k = some r) : Ev g r := ⟨0, fun k _ => h k⟩
theorem ev_pair {α β : Type} {g : Nat → Option α} {f : Nat → Option β} {a : α} {b : β} {h : α → β → Option Bool} (hg : Ev g a) (hf : Ev f b) (hh : h a b = some true) : ∃ k, ((g k).bind fun x => (f k).bind fun y => h x y) = some true :=
  Ev.rounds (Ev.bind hg (Ev.bind hf (ev_some fun _ => hh)))

/-! ### lists -/
theorem rd_mid (pre : List Int) (x : Int) (r : List Int) : rd (pre ++ x :: r) (pre.length : Int) = x := by simp [rd]
theorem rd_mid' {l pre : List Int} {x : Int} {r : List Int} (h : l = pre ++ x :: r) : rd l (pre.length : Int) = x := by subst h; exact rd_mid _ _ _
theorem snoc_eq {l pre : List Int} {x : Int} {r : List Int} (h : l = pre ++ x :: r) : l = (pre ++ [x]) ++ r := by simp [h]
theorem snoc_len {pre : List Int} (x : Int) (h : pre.length ≤ 9223372036854775806) : wrap64 ((pre.length : Int) + 1) = ((pre ++ [x]).length : Int) := by
  rw [w64 (by omega) (by omega)]; simp
/-- The whole numbers from m on, n of them. -/
def upFrom (m : Int) : Nat → List Int
  | 0 => []
  | n + 1 => m :: upFrom (m + 1) n
theorem upFrom_length (n : Nat) : ∀ m, (upFrom m n).length = n := by
  induction n with
  | zero => intro m; rfl
  | succ n ih => intro m; simp [upFrom, ih]
theorem upFrom_get (n : Nat) : ∀ (m : Int) (i : Nat) (h : i < (upFrom m n).length), (upFrom m n)[i] = m + i := by
  induction n with
  | zero => intro m i h; simp [upFrom] at h
  | succ n ih =>
    intro m i h
    cases i with
    | zero => simp [upFrom]
    | succ i => simp only [upFrom, List.getElem_cons_succ]; rw [ih]; omega
theorem upFrom_snoc (n : Nat) : ∀ m, upFrom m (n + 1) = upFrom m n ++ [m + n] := by
  induction n with
  | zero => intro m; simp [upFrom]
  | succ n ih => intro m; rw [upFrom, ih]; simp [upFrom]; omega
theorem upFrom_mem (n : Nat) : ∀ (m x : Int), x ∈ upFrom m n ↔ m ≤ x ∧ x < m + n := by
  induction n with
  | zero => intro m x; simp only [upFrom, List.not_mem_nil, false_iff]; omega
  | succ n ih => intro m x; simp only [upFrom, List.mem_cons, ih]; omega
theorem upFrom_nodup (n : Nat) : ∀ m, (upFrom m n).Nodup := by
  induction n with
  | zero => intro m; simp [upFrom]
  | succ n ih => intro m; simp only [upFrom, List.nodup_cons, ih, and_true, upFrom_mem]; omega
theorem nodup_inj {l : List Int} (h : l.Nodup) (i j : Nat) (hi : i < l.length) (hj : j < l.length) (e : l[i] = l[j]) : i = j := by
  have hp := List.pairwise_iff_getElem.1 h
  rcases Nat.lt_trichotomy i j with c | c | c
  · exact absurd e (hp i j hi hj c)
  · exact c
  · exact absurd e.symm (hp j i hj hi c)
theorem set_mid (pre : List Int) (x y : Int) (r : List Int) : (pre ++ y :: r).set pre.length x = (pre ++ [x]) ++ r := by simp
theorem lens {l pre r : List Int} (h : l = pre ++ r) : l.length = pre.length + r.length := by rw [h]; simp
theorem snoc_cast (pre : List Int) (x : Int) : ((pre ++ [x]).length : Int) = (pre.length : Int) + 1 := by simp

theorem laws_eqIntS_loop (a b : List Int) (hab : a.length = b.length) (hl : a.length ≤ 9223372036854775806) : ∀ (r s pre qre : List Int), a = pre ++ r → b = qre ++ s → pre.length = qre.length →
    Ev (fun k => laws_eqIntS.l0 k a b (pre.length : Int)) (decide (r = s)) := by
  intro r
  induction r with
  | nil =>
    intro s pre qre h h' hp
    have e := lens h
    have e' := lens h'
    simp only [List.length_nil] at e
    have hs : s = [] := List.eq_nil_of_length_eq_zero (by omega)
    refine Ev.step (f := fun _ => some _) (fun k => ?_) (Ev.now _)
    simp only [laws_eqIntS.l0]
    rw [if_neg (by omega), hs]
    simp
  | cons x r ih =>
    intro s pre qre h h' hp
    have e := lens h
    have e' := lens h'
    simp only [List.length_cons] at e
    cases s with
    | nil => simp only [List.length_nil] at e'; omega
    | cons y s =>
      have hy := rd_mid' h'
      rw [← hp] at hy
      by_cases c : x = y
      · subst c
        have hi := ih s (pre ++ [x]) (qre ++ [x]) (snoc_eq h) (snoc_eq h') (by simp [hp])
        have ed : decide (x :: r = x :: s) = decide (r = s) := by simp
        rw [ed]
        refine Ev.step (fun k => ?_) hi
        simp only [laws_eqIntS.l0]
        rw [if_pos (by omega), if_pos (by omega), if_pos (by omega), rd_mid' h, hy, if_pos rfl, snoc_len x (by omega)]
      · refine Ev.step (f := fun _ => some _) (fun k => ?_) (Ev.now _)
        simp only [laws_eqIntS.l0]
        rw [if_pos (by omega), if_pos (by omega), if_pos (by omega), rd_mid' h, hy, if_neg c]
        simp [c]
theorem laws_eqIntS_ev (a b : List Int) (hl : a.length ≤ 9223372036854775806) : Ev (fun k => laws_eqIntS.f k a b) (decide (a = b)) := by
  unfold laws_eqIntS.f
  by_cases h : (a.length : Int) = (b.length : Int)
  · simp only [if_pos h]
    exact laws_eqIntS_loop a b (by omega) hl a b [] [] rfl rfl rfl
  · simp only [if_neg h]
    exact ev_some fun _ => by rw [decide_eq_false (fun e => h (by rw [e]))]

theorem laws_markIntS_loop : ∀ (r pre : List Int) (m : Int), 0 ≤ m → m + r.length ≤ 9223372036854775806 → pre.length + r.length ≤ 9223372036854775806 →
    Ev (fun k => laws_markIntS.l0 k (pre ++ r) m (pre.length : Int)) (m + r.length, pre ++ upFrom m r.length) := by
  intro r
  induction r with
  | nil =>
    intro pre m h0 h1 h2
    refine Ev.step (f := fun _ => some _) (fun k => ?_) (Ev.now _)
    simp only [laws_markIntS.l0]
    rw [if_neg (by simp)]
    simp [upFrom]
  | cons x r ih =>
    intro pre m h0 h1 h2
    simp only [List.length_cons] at h1 h2
    have hi := ih (pre ++ [m]) (m + 1) (by omega) (by omega) (by simp; omega)
    have er : ((m + 1 + r.length : Int), (pre ++ [m]) ++ upFrom (m + 1) r.length) = (m + (x :: r).length, pre ++ upFrom m (x :: r).length) := by
      simp [upFrom]; omega
    rw [er] at hi
    refine Ev.step (fun k => ?_) hi
    simp only [laws_markIntS.l0]
    rw [if_pos (by simp; omega), if_pos (by omega), w64 (by omega) (by omega), snoc_len m (by omega), Int.toNat_natCast, set_mid]
theorem laws_markIntS_ev (l : List Int) (m : Int) (h0 : 0 ≤ m) (h1 : m + l.length ≤ 9223372036854775806) :
    Ev (fun k => laws_markIntS.f k l m) (m + l.length, upFrom m l.length) := by
  unfold laws_markIntS.f
  exact laws_markIntS_loop l [] m h0 h1 (by simp; omega)
theorem laws_heldIntS_loop (l : List Int) (hl : l.length ≤ 9223372036854775806) : ∀ (n : Nat) (pre : List Int) (m : Int), 0 ≤ m → m + n ≤ 9223372036854775806 → l = pre ++ upFrom m n →
    Ev (fun k => laws_heldIntS.l0 k l m (pre.length : Int)) (m + n) := by
  intro n
  induction n with
  | zero =>
    intro pre m h0 h1 h
    have e := lens h
    simp only [upFrom_length] at e
    refine Ev.step (f := fun _ => some _) (fun k => ?_) (Ev.now _)
    simp only [laws_heldIntS.l0]
    rw [if_neg (by omega)]
    simp
  | succ n ih =>
    intro pre m h0 h1 h
    have e := lens h
    simp only [upFrom_length] at e
    have hi := ih (pre ++ [m]) (m + 1) (by omega) (by omega) (by rw [h]; simp [upFrom])
    have er : m + 1 + (n : Int) = m + (n + 1 : Nat) := by omega
    rw [er] at hi
    refine Ev.step (fun k => ?_) hi
    simp only [laws_heldIntS.l0]
    rw [if_pos (by omega), if_pos (by omega), rd_mid' (by rw [h, upFrom]), if_pos rfl, w64 (by omega) (by omega), snoc_len m (by omega)]
theorem laws_heldIntS_ev (m : Int) (n : Nat) (h0 : 0 ≤ m) (h1 : m + n ≤ 9223372036854775806) :
    Ev (fun k => laws_heldIntS.f k (upFrom m n) m) (m + n) := by
  unfold laws_heldIntS.f
  exact laws_heldIntS_loop (upFrom m n) (by rw [upFrom_length]; omega) n [] m h0 h1 rfl

def total (r : List (List Int)) : Nat := (r.map List.length).sum
def markAll : Int → List (List Int) → List (List Int)
  | _, [] => []
  | m, l :: r => upFrom m l.length :: markAll (m + l.length) r
theorem markAll_length (r : List (List Int)) : ∀ m, (markAll m r).length = r.length := by
  induction r with
  | nil => intro m; rfl
  | cons l r ih => intro m; simp [markAll, ih]
theorem total_cons (l : List Int) (r : List (List Int)) : total (l :: r) = l.length + total r := by simp [total]
theorem getD_mid (pre : List (List Int)) (x : List Int) (r : List (List Int)) : (pre ++ x :: r).getD pre.length [] = x := by simp
theorem set_midL (pre : List (List Int)) (x y : List Int) (r : List (List Int)) : (pre ++ y :: r).set pre.length x = (pre ++ [x]) ++ r := by simp
theorem laws_markIntSS_loop : ∀ (r pre : List (List Int)) (m : Int), 0 ≤ m → m + total r ≤ 9223372036854775806 → pre.length + r.length ≤ 9223372036854775806 →
    Ev (fun k => laws_markIntSS.l0 k (pre ++ r) m (pre.length : Int)) (m + total r, pre ++ markAll m r) := by
  intro r
  induction r with
  | nil =>
    intro pre m h0 h1 h2
    refine Ev.step (f := fun _ => some _) (fun k => ?_) (Ev.now _)
    simp only [laws_markIntSS.l0]
    rw [if_neg (by simp)]
    simp [markAll, total]
  | cons l r ih =>
    intro pre m h0 h1 h2
    rw [total_cons] at h1
    simp only [List.length_cons] at h2
    have hi := ih (pre ++ [upFrom m l.length]) (m + l.length) (by omega) (by omega) (by simp; omega)
    have er : ((m + l.length + total r : Int), (pre ++ [upFrom m l.length]) ++ markAll (m + l.length) r) = (m + (total (l :: r) : Nat), pre ++ markAll m (l :: r)) := by
      rw [total_cons]; simp [markAll]; omega
    rw [er] at hi
    refine Ev.step (f := fun k => (laws_markIntS.f k l m).bind fun b => laws_markIntSS.l0 k ((pre ++ l :: r).set pre.length b.2) b.1 (wrap64 ((pre.length : Int) + 1))) (fun k => ?_) (Ev.bind (laws_markIntS_ev l m h0 (by omega)) ?_)
    · simp only [laws_markIntSS.l0]
      rw [if_pos (by simp; omega), if_pos (by omega), Int.toNat_natCast, getD_mid]
    · have ew : wrap64 ((pre.length : Int) + 1) = ((pre ++ [upFrom m l.length]).length : Int) := by rw [w64 (by omega) (by omega)]; simp
      simp only [set_midL, ew]
      exact hi
theorem laws_markIntSS_ev (r : List (List Int)) (m : Int) (h0 : 0 ≤ m) (h1 : m + total r ≤ 9223372036854775806) (h2 : r.length ≤ 9223372036854775806) :
    Ev (fun k => laws_markIntSS.f k r m) (m + total r, markAll m r) := by
  unfold laws_markIntSS.f
  exact laws_markIntSS_loop r [] m h0 h1 (by simp; omega)
theorem laws_heldIntSS_loop (l : List (List Int)) : ∀ (r pre : List (List Int)) (m : Int), 0 ≤ m → m + total r ≤ 9223372036854775806 → pre.length + r.length ≤ 9223372036854775806 → l = pre ++ markAll m r →
    Ev (fun k => laws_heldIntSS.l0 k l m (pre.length : Int)) (m + total r) := by
  intro r
  induction r with
  | nil =>
    intro pre m h0 h1 h2 h
    refine Ev.step (f := fun _ => some _) (fun k => ?_) (Ev.now _)
    simp only [laws_heldIntSS.l0]
    rw [if_neg (by rw [h]; simp [markAll])]
    simp [total]
  | cons x r ih =>
    intro pre m h0 h1 h2 h
    rw [total_cons] at h1
    simp only [List.length_cons] at h2
    have hl : l.length = pre.length + (r.length + 1) := by rw [h]; simp [markAll, markAll_length]
    have hi := ih (pre ++ [upFrom m x.length]) (m + x.length) (by omega) (by omega) (by simp; omega) (by rw [h]; simp [markAll])
    have er : m + (x.length : Int) + (total r : Int) = m + (total (x :: r) : Nat) := by rw [total_cons]; omega
    rw [er] at hi
    have hrd : rd_L1 l (pre.length : Int) = upFrom m x.length := by rw [h, markAll]; simp [rd_L1]
    refine Ev.step (f := fun k => (laws_heldIntS.f k (upFrom m x.length) m).bind fun t => if t < 0 then some (-1) else laws_heldIntSS.l0 k l t (wrap64 ((pre.length : Int) + 1))) (fun k => ?_) (Ev.bind (laws_heldIntS_ev m x.length h0 (by omega)) ?_)
    · simp only [laws_heldIntSS.l0]
      rw [if_pos (by omega), if_pos (by omega), hrd]
    · have ew : wrap64 ((pre.length : Int) + 1) = ((pre ++ [upFrom m x.length]).length : Int) := by rw [w64 (by omega) (by omega)]; simp
      simp only [if_neg (show ¬ (m + (x.length : Int) < 0) by omega), ew]
      exact hi
theorem laws_heldIntSS_ev (r : List (List Int)) (m : Int) (h0 : 0 ≤ m) (h1 : m + total r ≤ 9223372036854775806) (h2 : r.length ≤ 9223372036854775806) :
    Ev (fun k => laws_heldIntSS.f k (markAll m r) m) (m + total r) := by
  unfold laws_heldIntSS.f
  exact laws_heldIntSS_loop (markAll m r) r [] m h0 h1 (by simp; omega) rfl
theorem laws_eqIntSS_loop (l : List (List Int)) (hs : ∀ x ∈ l, x.length ≤ 9223372036854775806) (hl : l.length ≤ 9223372036854775806) : ∀ (r pre : List (List Int)), l = pre ++ r →
    Ev (fun k => laws_eqIntSS.l0 k l l (pre.length : Int)) true := by
  intro r
  induction r with
  | nil =>
    intro pre h
    refine Ev.step (f := fun _ => some _) (fun k => ?_) (Ev.now _)
    simp only [laws_eqIntSS.l0]
    rw [if_neg (by rw [h]; simp)]
  | cons x r ih =>
    intro pre h
    have e : l.length = pre.length + (r.length + 1) := by rw [h]; simp
    have hi := ih (pre ++ [x]) (by rw [h]; simp)
    have hrd : rd_L1 l (pre.length : Int) = x := by rw [h]; simp [rd_L1]
    refine Ev.step (f := fun k => (laws_eqIntS.f k x x).bind fun t => if t = true then laws_eqIntSS.l0 k l l (wrap64 ((pre.length : Int) + 1)) else some false) (fun k => ?_) (Ev.bind (laws_eqIntS_ev x x (hs x (by rw [h]; simp))) ?_)
    · simp only [laws_eqIntSS.l0]
      rw [if_pos (by omega), if_pos (by omega), if_pos (by omega), hrd]
    · have ew : wrap64 ((pre.length : Int) + 1) = ((pre ++ [x]).length : Int) := by rw [w64 (by omega) (by omega)]; simp
      simp only [decide_true, if_true, ew]
      exact hi
theorem laws_eqIntSS_ev (l : List (List Int)) (hs : ∀ x ∈ l, x.length ≤ 9223372036854775806) (hl : l.length ≤ 9223372036854775806) : Ev (fun k => laws_eqIntSS.f k l l) true := by
  unfold laws_eqIntSS.f
  simp only [if_true]
  exact laws_eqIntSS_loop l hs hl l [] rfl
theorem total_le (r : List (List Int)) (b : Nat) (h : ∀ l ∈ r, l.length ≤ b) : total r ≤ r.length * b := by
  induction r with
  | nil => simp [total]
  | cons l r ih =>
    rw [total_cons, List.length_cons, Nat.succ_mul]
    have := ih (fun x hx => h x (by simp [hx]))
    have := h l (by simp)
    omega
theorem mem_total {r : List (List Int)} {l : List Int} (h : l ∈ r) : l.length ≤ total r := by
  induction r with
  | nil => simp at h
  | cons x r ih =>
    rw [total_cons]
    rcases List.mem_cons.1 h with rfl | h
    · omega
    · have := ih h; omega
/-- What a law asks of lists that were handed out, at one number of rounds. -/
theorem all_at {α β : Type} {f : Nat → Option α} {g : Nat → Option β} {a : α} {b : β} (hf : Ev f a) (hg : Ev g b) : ∃ K, ∀ k, K ≤ k → f k = some a ∧ g k = some b := by
  obtain ⟨K, h⟩ := hf
  obtain ⟨M, i⟩ := hg
  exact ⟨K + M, fun k hk => ⟨h k (by omega), i k (by omega)⟩⟩
theorem and_at {p q : Nat → Prop} (hp : ∃ K, ∀ k, K ≤ k → p k) (hq : ∃ K, ∀ k, K ≤ k → q k) : ∃ K, ∀ k, K ≤ k → p k ∧ q k := by
  obtain ⟨K, h⟩ := hp
  obtain ⟨M, i⟩ := hq
  exact ⟨K + M, fun k hk => ⟨h k (by omega), i k (by omega)⟩⟩
/-- Marked and held: the lists that were handed out are the law's own. -/
theorem lists_held (r : List (List Int)) (h2 : r.length ≤ 1048576) (h1 : total r ≤ 1048576) : ∃ mm r', 0 ≤ mm ∧ r'.length = r.length ∧ (∃ K, ∀ k, K ≤ k → laws_eqIntSS.f k r r = some true ∧ laws_markIntSS.f k r 1 = some (mm, r') ∧ laws_heldIntSS.f k r' 1 = some mm) :=
  ⟨1 + total r, markAll 1 r, by omega, markAll_length r 1, and_at (laws_eqIntSS_ev r (fun x hx => by have := mem_total hx; omega) (by omega)) (all_at (laws_markIntSS_ev r 1 (by omega) (by omega) (by omega)) (laws_heldIntSS_ev r 1 (by omega) (by omega) (by omega)))⟩

theorem laws_toIntS_loop (l : List Int) (hl : l.length ≤ 17592186044415) : ∀ (r pre : List Int), l = pre ++ r →
    Ev (fun k => laws_toIntS.l0 k l (pre ++ List.replicate r.length 0) (pre.length : Int)) l := by
  intro r
  induction r with
  | nil =>
    intro pre h
    have e := lens h
    simp only [List.length_nil] at e
    refine Ev.step (f := fun _ => some _) (fun k => ?_) (Ev.now _)
    simp only [laws_toIntS.l0]
    rw [if_neg (by omega)]
    simp [h]
  | cons x r ih =>
    intro pre h
    have e := lens h
    simp only [List.length_cons] at e
    refine Ev.step (fun k => ?_) (ih (pre ++ [x]) (snoc_eq h))
    simp only [laws_toIntS.l0]
    rw [if_pos (by omega), if_pos (by omega), if_pos (by simp; omega), rd_mid' h, snoc_len x (by omega), List.length_cons, List.replicate_succ, Int.toNat_natCast, set_mid]
theorem laws_toIntS_ev (l : List Int) (hl : l.length ≤ 17592186044415) : Ev (fun k => laws_toIntS.f k l) l := by
  unfold laws_toIntS.f
  have h := laws_toIntS_loop l hl l [] rfl
  simp only [if_pos (show 0 ≤ (l.length : Int) by omega), if_pos (show ((l.length : Int) : Int).toNat ≤ 35184372088832 by omega)]
  simpa using h

/-! ### sized0: lists of lists that came in: their size, and a copy of them -/
theorem laws_szIntS_eq (l : List Int) (a : Int) (h0 : 0 ≤ a) (h1 : a ≤ 1048576) (hl : l.length ≤ 9223372036854775807) : laws_szIntS.f l a = some (if a - l.length < 0 then -1 else a - l.length) := by
  unfold laws_szIntS.f
  rw [w64 (by omega) (by omega)]
  by_cases c : a - (l.length : Int) < 0
  · rw [if_pos c, if_pos c]
  · rw [if_neg c, if_neg c]
theorem laws_szIntSS_loop (l : List (List Int)) (hl : l.length ≤ 1048576) (hs : ∀ x ∈ l, x.length ≤ 9223372036854775807) : ∀ (r pre : List (List Int)) (m : Int), l = pre ++ r → 0 ≤ m → m ≤ 1048576 →
    ∃ z, Ev (fun k => laws_szIntSS.l0 k l m (pre.length : Int)) z ∧ (z < 0 ∨ (0 ≤ z ∧ (total r : Int) ≤ m)) := by
  intro r
  induction r with
  | nil =>
    intro pre m h h0 h1
    refine ⟨m, Ev.step (f := fun _ => some _) (fun k => ?_) (Ev.now _), .inr ⟨h0, by simpa [total] using h0⟩⟩
    simp only [laws_szIntSS.l0]
    rw [if_neg (by rw [h]; simp)]
  | cons x r ih =>
    intro pre m h h0 h1
    have e : l.length = pre.length + (r.length + 1) := by rw [h]; simp
    have hrd : rd_L1 l (pre.length : Int) = x := by rw [h]; simp [rd_L1]
    have hx := laws_szIntS_eq x m h0 h1 (hs x (by rw [h]; simp))
    by_cases c : m - (x.length : Int) < 0
    · rw [if_pos c] at hx
      refine ⟨-1, Ev.step (f := fun _ => some _) (fun k => ?_) (Ev.now _), .inl (by omega)⟩
      simp only [laws_szIntSS.l0]
      rw [if_pos (by omega), if_pos (by omega), hrd, hx]
      rfl
    · rw [if_neg c] at hx
      obtain ⟨z, hz, h2⟩ := ih (pre ++ [x]) (m - x.length) (by rw [h]; simp) (by omega) (by omega)
      refine ⟨z, Ev.step (fun k => ?_) hz, ?_⟩
      · simp only [laws_szIntSS.l0]
        rw [if_pos (by omega), if_pos (by omega), hrd, hx, Option.bind_some, if_neg c]
        have ew : wrap64 ((pre.length : Int) + 1) = ((pre ++ [x]).length : Int) := by rw [w64 (by omega) (by omega)]; simp
        rw [ew]
      · rcases h2 with h2 | ⟨h2, h3⟩
        · exact .inl h2
        · exact .inr ⟨h2, by rw [total_cons]; omega⟩
theorem laws_szIntSS_ev (l : List (List Int)) (hl : l.length ≤ maxLen) (hs : ∀ x ∈ l, x.length ≤ maxLen) : ∃ z, Ev (fun k => laws_szIntSS.f k l 1048576) z ∧ (z < 0 ∨ (0 ≤ z ∧ l.length ≤ 1048576 ∧ total l ≤ 1048576)) := by
  have hl' : l.length ≤ 9223372036854775807 := by unfold maxLen at hl; omega
  have hs' : ∀ x ∈ l, x.length ≤ 9223372036854775807 := fun x hx => by have := hs x hx; unfold maxLen at this; omega
  unfold laws_szIntSS.f
  rw [w64 (by omega) (by omega)]
  by_cases c : (1048576 : Int) - (l.length : Int) < 0
  · simp only [if_pos c]
    exact ⟨-1, Ev.now _, .inl (by omega)⟩
  · simp only [if_neg c]
    obtain ⟨z, hz, h⟩ := laws_szIntSS_loop l (by omega) hs' l [] (1048576 - l.length) rfl (by omega) (by omega)
    refine ⟨z, hz, ?_⟩
    rcases h with h | ⟨h, h1⟩
    · exact .inl h
    · exact .inr ⟨h, by omega, by omega⟩
theorem laws_toIntSS_loop (l : List (List Int)) (hl : l.length ≤ 1048576) (hs : ∀ x ∈ l, x.length ≤ 17592186044415) : ∀ (r pre : List (List Int)), l = pre ++ r →
    Ev (fun k => laws_toIntSS.l0 k l (pre ++ List.replicate r.length []) (pre.length : Int)) l := by
  intro r
  induction r with
  | nil =>
    intro pre h
    have e : l.length = pre.length := by rw [h]; simp
    refine Ev.step (f := fun _ => some _) (fun k => ?_) (Ev.now _)
    simp only [laws_toIntSS.l0]
    rw [if_neg (by omega)]
    simp [h]
  | cons x r ih =>
    intro pre h
    have e : l.length = pre.length + (r.length + 1) := by rw [h]; simp
    have hi := ih (pre ++ [x]) (by rw [h]; simp)
    have hrd : rd_L1 l (pre.length : Int) = x := by rw [h]; simp [rd_L1]
    refine Ev.step (f := fun k => (laws_toIntS.f k x).bind fun t => laws_toIntSS.l0 k l ((pre ++ List.replicate (r.length + 1) []).set pre.length t) (wrap64 ((pre.length : Int) + 1))) (fun k => ?_) (Ev.bind (laws_toIntS_ev x (hs x (by rw [h]; simp))) ?_)
    · simp only [laws_toIntSS.l0]
      rw [if_pos (by omega), if_pos (by omega), hrd, Int.toNat_natCast, List.length_cons]
      simp only [if_pos (show (pre.length : Int) < ((pre ++ List.replicate (r.length + 1) []).length : Int) by simp; omega)]
    · have ew : wrap64 ((pre.length : Int) + 1) = ((pre ++ [x]).length : Int) := by rw [w64 (by omega) (by omega)]; simp
      rw [List.replicate_succ]
      simp only [set_midL, ew]
      exact hi
theorem laws_toIntSS_ev (l : List (List Int)) (hl : l.length ≤ 1048576) (hs : ∀ x ∈ l, x.length ≤ 17592186044415) : Ev (fun k => laws_toIntSS.f k l) l := by
  unfold laws_toIntSS.f
  have h := laws_toIntSS_loop l hl hs l [] rfl
  simp only [if_pos (show 0 ≤ (l.length : Int) by omega), if_pos (show ((l.length : Int) : Int).toNat ≤ 11728124029610 by omega)]
  simpa using h

theorem spec_l05Less_loop (a b : List Int) (ha : a.length ≤ 9223372036854775806) : ∀ (r pre : List Int), a = pre ++ r →
    Ev (fun k => spec_l05Less.l0 k a b a (a.length : Int) (pre.length : Int)) (lexLt r (b.drop pre.length)) := by
  intro r
  induction r with
  | nil =>
    intro pre h
    have hz : a.length = pre.length := by rw [h]; simp
    refine Ev.step (f := fun _ => some _) (fun k => ?_) (Ev.now _)
    simp only [spec_l05Less.l0]
    rw [if_neg (by omega)]
    congr 1
    by_cases c : pre.length < b.length
    · rw [List.drop_eq_getElem_cons c]
      exact decide_eq_true (by omega)
    · rw [List.drop_eq_nil_of_le (by omega)]
      exact decide_eq_false (by omega)
  | cons x r ih =>
    intro pre h
    have hz : a.length = pre.length + (r.length + 1) := by rw [h]; simp
    have hx : rd a (pre.length : Int) = x := by rw [h]; simp [rd]
    by_cases c : pre.length < b.length
    · have hy : rd b (pre.length : Int) = b[pre.length] := by simp [rd, c]
      rw [List.drop_eq_getElem_cons c]
      by_cases c1 : x = b[pre.length]
      · have ih2 := ih (pre ++ [x]) (by rw [h]; simp)
        rw [show (pre ++ [x]).length = pre.length + 1 by simp] at ih2
        have e : lexLt (x :: r) (b[pre.length] :: b.drop (pre.length + 1)) = lexLt r (b.drop (pre.length + 1)) := by
          simp only [lexLt]
          simp [← c1]
        rw [e]
        refine Ev.step (fun k => ?_) ih2
        simp only [spec_l05Less.l0]
        rw [if_pos (by omega), if_pos (by omega), if_pos (by omega), if_neg (by omega), if_pos (by omega), hx, hy, if_pos c1, show wrap64 ((pre.length : Int) + 1) = ((pre.length + 1 : Nat) : Int) by rw [w64 (by omega) (by omega)]; omega]
      · refine Ev.step (f := fun _ => some _) (fun k => ?_) (Ev.now _)
        simp only [spec_l05Less.l0]
        rw [if_pos (by omega), if_pos (by omega), if_pos (by omega), if_neg (by omega), if_pos (by omega), hx, hy, if_neg c1]
        congr 1
        simp only [lexLt]
        simp [c1]
    · rw [List.drop_eq_nil_of_le (by omega)]
      refine Ev.step (f := fun _ => some _) (fun k => ?_) (Ev.now _)
      simp only [spec_l05Less.l0]
      rw [if_pos (by omega), if_pos (by omega), if_pos (by omega), if_pos (by omega)]
      rfl
theorem spec_l05Less_ev (a b : List Int) (ha : a.length ≤ 9223372036854775806) : Ev (fun k => spec_l05Less.f k a b) (lexLt a b) := spec_l05Less_loop a b ha a [] rfl

theorem spec_SamePacket_loop (a b : List Int) (hab : a.length = b.length) (hl : a.length ≤ 9223372036854775806) : ∀ (r s pre qre : List Int), a = pre ++ r → b = qre ++ s → pre.length = qre.length →
    Ev (fun k => spec_SamePacket.l0 k b a (a.length : Int) (pre.length : Int)) (decide (r = s)) := by
  intro r
  induction r with
  | nil =>
    intro s pre qre h h' hp
    have e := lens h
    have e' := lens h'
    simp only [List.length_nil] at e
    have hs : s = [] := List.eq_nil_of_length_eq_zero (by omega)
    refine Ev.step (f := fun _ => some _) (fun k => ?_) (Ev.now _)
    simp only [spec_SamePacket.l0]
    rw [if_neg (by omega), hs]
    simp
  | cons x r ih =>
    intro s pre qre h h' hp
    have e := lens h
    have e' := lens h'
    simp only [List.length_cons] at e
    cases s with
    | nil => simp only [List.length_nil] at e'; omega
    | cons y s =>
      have hy := rd_mid' h'
      rw [← hp] at hy
      by_cases c : x = y
      · subst c
        have hi := ih s (pre ++ [x]) (qre ++ [x]) (snoc_eq h) (snoc_eq h') (by simp [hp])
        have ed : decide (x :: r = x :: s) = decide (r = s) := by simp
        rw [ed]
        refine Ev.step (fun k => ?_) hi
        simp only [spec_SamePacket.l0]
        rw [if_pos (by omega), if_pos (by omega), if_pos (by omega), if_pos (by omega), rd_mid' h, hy, if_pos rfl, snoc_len x (by omega)]
      · refine Ev.step (f := fun _ => some _) (fun k => ?_) (Ev.now _)
        simp only [spec_SamePacket.l0]
        rw [if_pos (by omega), if_pos (by omega), if_pos (by omega), if_pos (by omega), rd_mid' h, hy, if_neg c]
        simp [c]
theorem spec_SamePacket_ev (a b : List Int) (hl : a.length ≤ 9223372036854775806) : Ev (fun k => spec_SamePacket.f k a b) (decide (a = b)) := by
  unfold spec_SamePacket.f
  by_cases h : (a.length : Int) = (b.length : Int)
  · simp only [if_pos h]
    exact spec_SamePacket_loop a b (by omega) hl a b [] [] rfl rfl rfl
  · simp only [if_neg h]
    exact ev_some fun _ => by rw [decide_eq_false (fun e => h (by rw [e]))]

/-! ### the reference's SortPackets -/
theorem put_ev {out : List (List Int)} {x : List Int} (g : Nat → List (List Int) → Option (List (List Int))) {r : List (List Int)} (hx : x.length ≤ 4194304) (hout : ∀ y ∈ out, y.length ≤ 4194304) (ho : out.length ≤ 8388608) (h : Ev (fun k => g k (putU out x)) r) :
    Ev (fun k => if (out.length : Int) = 0 then ((some (([] : List Int) : List Int)).bind fun y123 => (if y123.length + x.length < 17592186044416 then (if out.length < 5864062014805 then (g k (out ++ [(y123 ++ x)])) else (none)) else (none))) else (if 0 ≤ (wrap64 ((out.length : Int) - 1)) then (if (wrap64 ((out.length : Int) - 1)) < (out.length : Int) then ((spec_SamePacket.f k (rd_L1 out (wrap64 ((out.length : Int) - 1))) x).bind fun t133 => (if t133 = true then (g k out) else ((some (([] : List Int) : List Int)).bind fun y134 => (if y134.length + x.length < 17592186044416 then (if out.length < 5864062014805 then (g k (out ++ [(y134 ++ x)])) else (none)) else (none))))) else (none)) else (none))) r := by
  by_cases c : out = []
  · subst c
    have e : putU [] x = [] ++ [x] := by unfold putU; rw [if_pos (Or.inl rfl)]
    rw [e] at h
    simp only [List.length_nil, Option.bind_some, List.nil_append] at h ⊢
    simp only [if_pos (show ((0 : Nat) : Int) = 0 from rfl), if_pos (show 0 + x.length < 17592186044416 by omega), if_pos (show 0 < 5864062014805 by decide)]
    exact h
  · have hlen : 0 < out.length := List.length_pos_iff.mpr c
    have ew : wrap64 ((out.length : Int) - 1) = ((out.length - 1 : Nat) : Int) := by rw [w64 (by omega) (by omega)]; omega
    have hl : rd_L1 out ((out.length - 1 : Nat) : Int) = out.getLastD [] := by
      simp only [rd_L1, Int.toNat_natCast]
      rw [List.getD_eq_getElem?_getD, List.getLastD_eq_getLast?, List.getLast?_eq_getElem?]
    have hm : (out.getLastD []).length ≤ 4194304 := by
      rw [List.getLastD_eq_getLast?, List.getLast?_eq_some_getLast c]
      exact hout _ (List.getLast_mem c)
    simp only [if_neg (show ¬ (out.length : Int) = 0 by omega), ew, if_pos (show 0 ≤ ((out.length - 1 : Nat) : Int) by omega), if_pos (show ((out.length - 1 : Nat) : Int) < (out.length : Int) by omega), hl, Option.bind_some, List.nil_append, List.length_nil, if_pos (show 0 + x.length < 17592186044416 by omega), if_pos (show out.length < 5864062014805 by omega)]
    refine Ev.bind (spec_SamePacket_ev _ x (by omega)) ?_
    by_cases q : out.getLastD [] = x
    · have e : putU out x = out := by unfold putU; rw [if_neg (fun h => h.elim c (fun h2 => h2 q))]
      rw [e] at h
      simp only [decide_eq_true q, if_pos]
      exact h
    · have e : putU out x = out ++ [x] := by unfold putU; rw [if_pos (Or.inr q)]
      rw [e] at h
      simp only [decide_eq_false q, if_neg (show ¬ (false = true) by decide)]
      exact h
theorem j2_left {x : List Int} {a b out r : List (List Int)} (hx : x.length ≤ 4194304) (hout : ∀ y ∈ out, y.length ≤ 4194304) (ho : out.length ≤ 8388608) (h : Ev (fun k => spec_l05Merge.l0 k a b (putU out x)) r) : Ev (fun k => spec_l05Merge.j2 k (x :: a) b out true) r := by
  refine Ev.step (fun k => ?_) (put_ev (fun k o => spec_l05Merge.l0 k a b o) hx hout ho h)
  simp only [spec_l05Merge.j2]
  rw [if_pos trivial, if_pos (by simp <;> omega), if_pos (by simp <;> omega)]
  rfl
theorem j2_right {x : List Int} {a b out r : List (List Int)} (hx : x.length ≤ 4194304) (hout : ∀ y ∈ out, y.length ≤ 4194304) (ho : out.length ≤ 8388608) (h : Ev (fun k => spec_l05Merge.l0 k a b (putU out x)) r) : Ev (fun k => spec_l05Merge.j2 k a (x :: b) out false) r := by
  refine Ev.step (fun k => ?_) (put_ev (fun k o => spec_l05Merge.l0 k a b o) hx hout ho h)
  simp only [spec_l05Merge.j2]
  rw [if_neg (by decide), if_pos (by simp <;> omega), if_pos (by simp <;> omega)]
  rfl
theorem put_len (out : List (List Int)) (x : List Int) : (putU out x).length ≤ out.length + 1 := by
  unfold putU
  split
  · simp
  · omega
theorem put_mem (out : List (List Int)) (x y : List Int) (h : y ∈ putU out x) : y ∈ out ∨ y = x := by
  unfold putU at h
  split at h
  · simpa using h
  · exact Or.inl h
theorem merge_ev : ∀ (d : Nat) (a b out : List (List Int)), a.length + b.length ≤ d → out.length + d ≤ 8388608 → (∀ y ∈ a, y.length ≤ 4194304) → (∀ y ∈ b, y.length ≤ 4194304) → (∀ y ∈ out, y.length ≤ 4194304) →
    Ev (fun k => spec_l05Merge.l0 k a b out) (mergeU d out a b) := by
  intro d
  induction d with
  | zero =>
    intro a b out h _ _ _ _
    have ea : a = [] := List.length_eq_zero_iff.mp (by omega)
    have eb : b = [] := List.length_eq_zero_iff.mp (by omega)
    subst ea eb
    have hj : Ev (fun k => spec_l05Merge.j1 k [] [] out false) out := Ev.step (f := fun _ => some _) (fun k => by simp only [spec_l05Merge.j1]; rw [if_neg (by decide)]) (Ev.now _)
    exact Ev.step (fun k => by simp only [spec_l05Merge.l0]; rfl) hj
  | succ d ih =>
    intro a b out h ho hA hB hO
    have step : ∀ x y, y ∈ putU out x → x.length ≤ 4194304 → y.length ≤ 4194304 := fun x y hy hx => by
      rcases put_mem out x y hy with h1 | h1
      · exact hO y h1
      · rw [h1]; exact hx
    have hl := put_len out
    rw [mergeU]
    cases a with
    | nil =>
      cases b with
      | nil =>
        rw [if_pos ⟨rfl, rfl⟩]
        have hj : Ev (fun k => spec_l05Merge.j1 k [] [] out false) out := Ev.step (f := fun _ => some _) (fun k => by simp only [spec_l05Merge.j1]; rw [if_neg (by decide)]) (Ev.now _)
        exact Ev.step (fun k => by simp only [spec_l05Merge.l0]; rfl) hj
      | cons y b =>
        have hy : y.length ≤ 4194304 := hB y List.mem_cons_self
        rw [if_neg (by simp), if_neg (by simp)]
        have ih2 := ih [] b (putU out y) (by simp at h ⊢; omega) (by have := hl y; omega) (by simp) (fun z hz => hB z (List.mem_cons_of_mem _ hz)) (fun z hz => step y z hz hy)
        have hj : Ev (fun k => spec_l05Merge.j1 k [] (y :: b) out true) (mergeU d (putU out y) [] b) := by
          refine Ev.step (fun k => ?_) (j2_right hy hO (by omega) ih2)
          simp only [spec_l05Merge.j1]
          rw [if_pos trivial, if_neg (by simp <;> omega), if_neg (by simp)]
        refine Ev.step (fun k => ?_) hj
        simp only [spec_l05Merge.l0]
        rw [if_neg (by simp), decide_eq_true (by simp <;> omega)]
    | cons x a =>
      have hx : x.length ≤ 4194304 := hA x List.mem_cons_self
      cases b with
      | nil =>
        rw [if_neg (by simp), if_pos (Or.inl rfl)]
        have ih2 := ih a [] (putU out x) (by simp at h ⊢; omega) (by have := hl x; omega) (fun z hz => hA z (List.mem_cons_of_mem _ hz)) (by simp) (fun z hz => step x z hz hx)
        have hj : Ev (fun k => spec_l05Merge.j1 k (x :: a) [] out true) (mergeU d (putU out x) a []) := by
          refine Ev.step (fun k => ?_) (j2_left hx hO (by omega) ih2)
          simp only [spec_l05Merge.j1]
          rw [if_pos trivial, if_pos (by simp)]
        refine Ev.step (fun k => ?_) hj
        simp only [spec_l05Merge.l0]
        rw [if_pos (by simp <;> omega)]
      | cons y b =>
        have hy : y.length ≤ 4194304 := hB y List.mem_cons_self
        have hless := spec_l05Less_ev y x (by omega)
        have hfin : ∀ r, Ev (fun k => spec_l05Merge.j2 k (x :: a) (y :: b) out (!(lexLt y x))) r → Ev (fun k => spec_l05Merge.l0 k (x :: a) (y :: b) out) r := by
          intro r hr
          have hE : Ev (fun k => (spec_l05Less.f k y x).bind fun t116 => (spec_l05Merge.j2 k (x :: a) (y :: b) out (!t116))) r := Ev.bind hless hr
          have hj : Ev (fun k => spec_l05Merge.j1 k (x :: a) (y :: b) out true) r := by
            refine Ev.step (fun k => ?_) hE
            simp only [spec_l05Merge.j1]
            rw [if_pos trivial, if_neg (by simp <;> omega), if_pos (by simp <;> omega), if_pos (by simp <;> omega), if_pos (by simp <;> omega)]
            rfl
          refine Ev.step (fun k => ?_) hj
          simp only [spec_l05Merge.l0]
          rw [if_pos (by simp <;> omega)]
        apply hfin
        by_cases c : lexLt y x = true
        · rw [if_neg (by simp), if_neg (by simp [c])]
          have ih2 := ih (x :: a) b (putU out y) (by simp at h ⊢; omega) (by have := hl y; omega) hA (fun z hz => hB z (List.mem_cons_of_mem _ hz)) (fun z hz => step y z hz hy)
          simp only [c, Bool.not_true]
          exact j2_right hy hO (by omega) ih2
        · have cf : lexLt y x = false := by simpa using c
          rw [if_neg (by simp), if_pos (Or.inr ⟨by simp, by simp [cf]⟩)]
          have ih2 := ih a (y :: b) (putU out x) (by simp at h ⊢; omega) (by have := hl x; omega) (fun z hz => hA z (List.mem_cons_of_mem _ hz)) hB (fun z hz => step x z hz hx)
          simp only [cf, Bool.not_false]
          exact j2_left hx hO (by omega) ih2
theorem spec_SortPackets_ev : ∀ (n : Nat) (l : List (List Int)), l.length ≤ n → l.length ≤ 4194304 → (∀ y ∈ l, y.length ≤ 4194304) → Ev (fun k => spec_SortPackets.f k l) (sortU l) := by
  intro n
  induction n with
  | zero =>
    intro l hn hl hs
    have e : l = [] := List.length_eq_zero_iff.mp (by omega)
    subst e
    have hm := merge_ev 0 [] [] [] (by simp) (by simp) (by simp) (by simp) (by simp)
    have hE : Ev (fun k => (spec_l05Merge.f k [] []).bind fun t169 => some t169) (sortU []) := Ev.bind (show Ev (fun k => spec_l05Merge.f k [] []) (sortU []) from hm) (Ev.now _)
    refine Ev.step (fun k => ?_) hE
    simp only [spec_SortPackets.f]
    rw [if_pos (by simp)]
  | succ n ih =>
    intro l hn hl hs
    by_cases c : l.length < 2
    · have hm := merge_ev l.length l [] [] (by simp) (by simp; omega) hs (by simp) (by simp)
      have hq := mergeU_eq (d := l.length) (a := l) (b := []) (by simp) (strict_short c) (by simp [Strict])
      rw [hq, List.append_nil] at hm
      have hE : Ev (fun k => (spec_l05Merge.f k l []).bind fun t169 => some t169) (sortU l) := Ev.bind (show Ev (fun k => spec_l05Merge.f k l []) (sortU l) from hm) (Ev.now _)
      refine Ev.step (fun k => ?_) hE
      simp only [spec_SortPackets.f]
      rw [if_pos (by omega)]
    · have ew : wrap64 ((l.length : Int) / 2) = ((l.length / 2 : Nat) : Int) := by rw [w64 (by omega) (by omega)]; omega
      have hT : ∀ y ∈ l.take (l.length / 2), y.length ≤ 4194304 := fun y hy => hs y (List.mem_of_mem_take hy)
      have hD : ∀ y ∈ l.drop (l.length / 2), y.length ≤ 4194304 := fun y hy => hs y (List.mem_of_mem_drop hy)
      have i1 := ih (l.take (l.length / 2)) (by rw [List.length_take]; omega) (by rw [List.length_take]; omega) hT
      have i2 := ih (l.drop (l.length / 2)) (by rw [List.length_drop]; omega) (by rw [List.length_drop]; omega) hD
      have l1 := length_sortU (l.take (l.length / 2))
      have l2 := length_sortU (l.drop (l.length / 2))
      rw [List.length_take] at l1
      rw [List.length_drop] at l2
      have hm := merge_ev ((sortU (l.take (l.length / 2))).length + (sortU (l.drop (l.length / 2))).length) (sortU (l.take (l.length / 2))) (sortU (l.drop (l.length / 2))) [] (Nat.le_refl _) (by simp; omega) (fun y hy => hT y ((mem_sortU _ _).1 hy)) (fun y hy => hD y ((mem_sortU _ _).1 hy)) (by simp)
      rw [mergeU_eq (Nat.le_refl _) (strict_sortU _) (strict_sortU _)] at hm
      have hfin : sortU (sortU (l.take (l.length / 2)) ++ sortU (l.drop (l.length / 2))) = sortU l := sortU_congr (fun x => by
        rw [List.mem_append, mem_sortU, mem_sortU, ← List.mem_append, List.take_append_drop])
      rw [hfin] at hm
      have hE : Ev (fun k => (spec_SortPackets.f k (l.take (l.length / 2))).bind fun t176 => ((spec_SortPackets.f k (l.drop (l.length / 2))).bind fun t183 => ((spec_l05Merge.f k t176 t183).bind fun t186 => (some t186)))) (sortU l) := by
        refine Ev.bind i1 (Ev.bind i2 (Ev.bind ?_ (Ev.now _)))
        exact hm
      refine Ev.step (fun k => ?_) hE
      simp only [spec_SortPackets.f]
      rw [if_neg (by omega), ew, if_pos (by omega), if_pos (by omega), Int.toNat_natCast]

/-- What every law of one list does: it hands a copy to the reference and one to the program, compares, and looks at the copy. -/
theorem ev_ite_true {α : Type} {f g : Nat → Option α} {r : α} {c : Prop} [Decidable c] (h : c) (k : Ev f r) : Ev (fun n => if c then f n else g n) r := by simpa only [if_pos h] using k
theorem ev_ite_false {α : Type} {f g : Nat → Option α} {r : α} {c : Prop} [Decidable c] (h : ¬ c) (k : Ev g r) : Ev (fun n => if c then f n else g n) r := by simpa only [if_neg h] using k

theorem total_filter (l : List (List Int)) (x : List Int) : total (l.filter (fun y => decide (y ≠ x))) + l.count x * x.length ≤ total l := by
  induction l with
  | nil => simp [total]
  | cons y l ih =>
    rw [total_cons]
    by_cases c : y = x
    · subst c
      rw [List.filter_cons_of_neg (by simp), List.count_cons_self, Nat.succ_mul]
      omega
    · rw [List.filter_cons_of_pos (by simp [c]), total_cons, List.count_cons_of_ne (fun e => c e)]
      omega
theorem total_insU (x : List Int) (l : List (List Int)) : total (insU x l) ≤ x.length + total l := by
  induction l with
  | nil => simp [insU, total]
  | cons y l ih =>
    rw [insU]
    split
    · rw [total_cons, total_cons]; omega
    · split
      · omega
      · rw [total_cons, total_cons]; omega
theorem total_sortU (l : List (List Int)) : total (sortU l) ≤ total l := by
  induction l with
  | nil => simp [sortU]
  | cons x l ih =>
    rw [sortU, total_cons]
    have := total_insU x (sortU l)
    omega
theorem impl_SortPackets_eq (l : List (List Int)) (hl : l.length ≤ 4194304) (hs : ∀ x ∈ l, x.length ≤ 4194304) : impl_SortPackets.f l = some (sortU l) := by
  unfold impl_SortPackets.f
  rw [if_pos ⟨hl, hs⟩]
theorem FnExactSortPackets_ : laws_FnExactSortPackets.Pure := by
  intro l h1 h2 h3
  obtain ⟨z, hz, h⟩ := laws_szIntSS_ev l h1 h2
  rcases h with h | ⟨h, hl, ht⟩
  · obtain ⟨k, hk⟩ := hz
    exact .inl ⟨k, z, hk k (Nat.le_refl _), h⟩
  refine .inr ?_
  have hs : ∀ x ∈ l, x.length ≤ 1048576 := fun x hx => by have := mem_total hx; omega
  have a1 := length_sortU l
  have a2 := total_sortU l
  obtain ⟨mm, r', hm, hr, E1⟩ := lists_held (sortU l) (by omega) (by omega)
  obtain ⟨K, E⟩ := and_at (laws_toIntSS_ev l hl (fun x hx => by have := hs x hx; omega)) (and_at hz (and_at (spec_SortPackets_ev l.length l (Nat.le_refl _) (by omega) (fun x hx => by have := hs x hx; omega)) (and_at E1 (and_at (laws_eqIntSS_ev l (fun x hx => by have := hs x hx; omega) (by omega)) (laws_markIntSS_ev l 1 (by omega) (by omega) (by omega))))))
  obtain ⟨e1, e2, e3, ⟨e4, e5, e6⟩, e7, e8⟩ := E K (Nat.le_refl _)
  exact ⟨K, sortU l, r', mm, z, 1 + (total l : Int), markAll 1 l, e1, e2, e3, impl_SortPackets_eq l (by omega) (fun x hx => by have := hs x hx; omega), e4, e7, e8, e5, e6, hr, hm, by omega, h⟩

end Go.Proofs.Ytbghkcgglhoopaa.Pure
