/- For every whole number, the program's IdentityPerm answers as the reference's does, in memory of its own. No conditions. -/
import Derived.Test.YtdgoeomelnlekaaPFnExactIdentityPermx0
import Derived.Test.YtdgoeomelnlekaaPFnExactIdentityPermx1
import Derived.OpenShut
namespace Go.Proofs.Ytdgoeomelnlekaa.Pure
open Go.RowKit Go.Proofs.Ytdgoeomelnlekaa.PFnExactIdentityPerm Go.Proofs.YtdgoeomelnlekaaW.PrintWords Go.Proofs.YtdgoeomelnlekaaW.PrintLast
set_option linter.unusedVariables false
set_option linter.unusedSimpArgs false

/-! ### base: numbers, reads, loops -/
theorem w64 {a : Int} (h0 : -9223372036854775808 ≤ a) (h1 : a ≤ 9223372036854775807) : wrap64 a = a := by
  unfold wrap64
  omega
theorem bd64 {n : Int} (h : (Lit.int .i64 n).wf = true) : -9223372036854775808 ≤ n ∧ n ≤ 9223372036854775807 := Go.bounds_i64 h
theorem rd_nat (xs : List Int) (i : Nat) : rd xs (i : Int) = xs.getD i 0 := by simp [rd]
theorem rd_lt {xs : List Int} {i : Nat} (h : i < xs.length) : rd xs (i : Int) = xs[i] := by simp [rd, h]
theorem bt_nat {s : ByteArray} {i : Nat} (h : i < s.size) : bt s (i : Int) = (s[i].toNat : Int) := by simp [bt, h]
/-- Going up to n: what holds at n holds from i on. -/
theorem up_ind (n : Nat) (P : Nat → Prop) (h0 : P n) (hs : ∀ i, i < n → P (i + 1) → P i) : ∀ i, i ≤ n → P i := by
  have h : ∀ d i, i + d = n → P i := by
    intro d
    induction d with
    | zero => intro i hi; obtain rfl : i = n := by omega
              exact h0
    | succ d ih => intro i hi; exact hs i (by omega) (ih (i + 1) (by omega))
  intro i hi
  exact h (n - i) i (by omega)
theorem ev_some {α : Type} {g : Nat → Option α} {r : α} (h : ∀ k, g k = some r) : Ev g r := ⟨0, fun k _ => h k⟩
theorem ev_pair {α β : Type} {g : Nat → Option α} {f : Nat → Option β} {a : α} {b : β} {h : α → β → Option Bool} (hg : Ev g a) (hf : Ev f b) (hh : h a b = some true) : ∃ k, ((g k).bind fun x => (f k).bind fun y => h x y) = some true :=
  Ev.rounds (Ev.bind hg (Ev.bind hf (ev_some fun _ => hh)))

/-! ### lists -/
theorem rd_mid (pre : List Int) (x : Int) (r : List Int) : rd (pre ++ x :: r) (pre.length : Int) = x := by simp [rd]
theorem rd_mid' {l pre : List Int} {x : Int} {r : List Int} (h : l = pre ++ x :: r) : rd l (pre.length : Int) = x := by subst h; exact rd_mid _ _ _
theorem snoc_eq {l pre : List Int} {x : Int} {r : List Int} (h : l = pre ++ x :: r) : l = (pre ++ [x]) ++ r := by simp [h]
theorem snoc_len {pre : List Int} (x : Int) (h : pre.length ≤ 9223372036854775806) : wrap64 ((pre.length : Int) + 1) = ((pre ++ [x]).length : Int) := by
  rw [w64 (by omega) (by omega)]; simp
/-- The whole numbers from m on, n of them. -/
def upFrom (m : Int) : Nat → List Int
  | 0 => []
  | n + 1 => m :: upFrom (m + 1) n
theorem upFrom_length (n : Nat) : ∀ m, (upFrom m n).length = n := by
  induction n with
  | zero => intro m; rfl
  | succ n ih => intro m; simp [upFrom, ih]
theorem upFrom_get (n : Nat) : ∀ (m : Int) (i : Nat) (h : i < (upFrom m n).length), (upFrom m n)[i] = m + i := by
  induction n with
  | zero => intro m i h; simp [upFrom] at h
  | succ n ih =>
    intro m i h
    cases i with
    | zero => simp [upFrom]
    | succ i => simp only [upFrom, List.getElem_cons_succ]; rw [ih]; omega
theorem upFrom_snoc (n : Nat) : ∀ m, upFrom m (n + 1) = upFrom m n ++ [m + n] := by
  induction n with
  | zero => intro m; simp [upFrom]
  | succ n ih => intro m; rw [upFrom, ih]; simp [upFrom]; omega
theorem upFrom_mem (n : Nat) : ∀ (m x : Int), x ∈ upFrom m n ↔ m ≤ x ∧ x < m + n := by
  induction n with
  | zero => intro m x; simp only [upFrom, List.not_mem_nil, false_iff]; omega
  | succ n ih => intro m x; simp only [upFrom, List.mem_cons, ih]; omega
theorem upFrom_nodup (n : Nat) : ∀ m, (upFrom m n).Nodup := by
  induction n with
  | zero => intro m; simp [upFrom]
  | succ n ih => intro m; simp only [upFrom, List.nodup_cons, ih, and_true, upFrom_mem]; omega
theorem set_mid (pre : List Int) (x y : Int) (r : List Int) : (pre ++ y :: r).set pre.length x = (pre ++ [x]) ++ r := by simp
theorem lens {l pre r : List Int} (h : l = pre ++ r) : l.length = pre.length + r.length := by rw [h]; simp
theorem snoc_cast (pre : List Int) (x : Int) : ((pre ++ [x]).length : Int) = (pre.length : Int) + 1 := by simp

/-- The packet of n cards in order; empty where n is out of range. -/
def newPacket (n : Int) : List Int := if 0 ≤ n ∧ n ≤ 12 then upFrom 0 n.toNat else []

theorem spec_l01In_eq (a b c : Int) : spec_l01In.f a b c = some (decide (b ≤ a ∧ a ≤ c)) := by
  unfold spec_l01In.f
  by_cases h : a ≥ b
  · rw [if_pos h]; simp; omega
  · rw [if_neg h]; simp; omega

theorem spec_NewPacket_loop (n : Nat) (hn : n ≤ 17592186044415) : ∀ i, i ≤ n → Ev (fun k => spec_NewPacket.l0 k (n : Int) (upFrom 0 i) (i : Int)) (upFrom 0 n) := by
  refine up_ind n (fun i => Ev (fun k => spec_NewPacket.l0 k (n : Int) (upFrom 0 i) (i : Int)) (upFrom 0 n)) ?_ ?_
  · refine Ev.step (f := fun _ => some _) (fun k => ?_) (Ev.now _)
    simp only [spec_NewPacket.l0]
    rw [if_neg (by omega)]
  · intro i hi h
    refine Ev.step (fun k => ?_) h
    have hl := upFrom_length i 0
    simp only [spec_NewPacket.l0]
    rw [if_pos (by omega), if_pos (by omega), w64 (by omega) (by omega), upFrom_snoc]
    simp
theorem spec_NewPacket_ev (n : Int) : Ev (fun k => spec_NewPacket.f k n) (newPacket n) := by
  unfold spec_NewPacket.f newPacket
  simp only [spec_l01In_eq, Option.bind_some, decide_eq_true_eq]
  by_cases h : 0 ≤ n ∧ n ≤ 12
  · simp only [if_pos h]
    have := spec_NewPacket_loop n.toNat (by omega) 0 (by omega)
    rw [Int.toNat_of_nonneg h.1] at this
    exact this
  · simp only [if_neg h]
    exact Ev.now _
theorem newPacket_length (n : Int) : (newPacket n).length ≤ 12 := by
  unfold newPacket
  by_cases h : 0 ≤ n ∧ n ≤ 12
  · rw [if_pos h, upFrom_length]; omega
  · rw [if_neg h]; simp

theorem spec_IdentityPerm_ev (n : Int) : Ev (fun k => spec_IdentityPerm.f k n) (newPacket n) := by
  unfold spec_IdentityPerm.f
  exact Ev.bind (spec_NewPacket_ev n) (Ev.now _)

theorem impl_upTo_loop (n : Nat) (hn : n ≤ 17592186044415) : ∀ i, i ≤ n → Ev (fun k => impl_upTo.l0 k (n : Int) (upFrom 0 i) (i : Int)) (upFrom 0 n) := by
  refine up_ind n (fun i => Ev (fun k => impl_upTo.l0 k (n : Int) (upFrom 0 i) (i : Int)) (upFrom 0 n)) ?_ ?_
  · refine Ev.step (f := fun _ => some _) (fun k => ?_) (Ev.now _)
    simp only [impl_upTo.l0]
    rw [if_neg (by omega)]
  · intro i hi h
    refine Ev.step (fun k => ?_) h
    have hl := upFrom_length i 0
    simp only [impl_upTo.l0]
    rw [if_pos (by omega), if_pos (by omega), w64 (by omega) (by omega), upFrom_snoc]
    simp
theorem impl_upTo_ev (n : Nat) (hn : n ≤ 17592186044415) : Ev (fun k => impl_upTo.f k (n : Int)) (upFrom 0 n) := by
  unfold impl_upTo.f
  exact impl_upTo_loop n hn 0 (by omega)

theorem impl_NewPacket_ev (n : Int) : Ev (fun k => impl_NewPacket.f k n) (newPacket n) := by
  unfold impl_NewPacket.f newPacket
  by_cases h0 : n < 0
  · simp only [if_pos h0]
    rw [if_neg (by omega)]
    exact Ev.now _
  · by_cases h1 : n > 12
    · simp only [if_neg h0, if_pos h1]
      rw [if_neg (by omega)]
      exact Ev.now _
    · simp only [if_neg h0, if_neg h1]
      rw [if_pos (by omega)]
      have := impl_upTo_ev n.toNat (by omega)
      rw [Int.toNat_of_nonneg (by omega)] at this
      exact Ev.bind this (Ev.now _)

theorem impl_IdentityPerm_ev (n : Int) : Ev (fun k => impl_IdentityPerm.f k n) (newPacket n) := by
  unfold impl_IdentityPerm.f
  exact Ev.bind (impl_NewPacket_ev n) (Ev.now _)

theorem laws_eqIntS_loop (a b : List Int) (hab : a.length = b.length) (hl : a.length ≤ 9223372036854775806) : ∀ (r s pre qre : List Int), a = pre ++ r → b = qre ++ s → pre.length = qre.length →
    Ev (fun k => laws_eqIntS.l0 k a b (pre.length : Int)) (decide (r = s)) := by
  intro r
  induction r with
  | nil =>
    intro s pre qre h h' hp
    have e := lens h
    have e' := lens h'
    simp only [List.length_nil] at e
    have hs : s = [] := List.eq_nil_of_length_eq_zero (by omega)
    refine Ev.step (f := fun _ => some _) (fun k => ?_) (Ev.now _)
    simp only [laws_eqIntS.l0]
    rw [if_neg (by omega), hs]
    simp
  | cons x r ih =>
    intro s pre qre h h' hp
    have e := lens h
    have e' := lens h'
    simp only [List.length_cons] at e
    cases s with
    | nil => simp only [List.length_nil] at e'; omega
    | cons y s =>
      have hy := rd_mid' h'
      rw [← hp] at hy
      by_cases c : x = y
      · subst c
        have hi := ih s (pre ++ [x]) (qre ++ [x]) (snoc_eq h) (snoc_eq h') (by simp [hp])
        have ed : decide (x :: r = x :: s) = decide (r = s) := by simp
        rw [ed]
        refine Ev.step (fun k => ?_) hi
        simp only [laws_eqIntS.l0]
        rw [if_pos (by omega), if_pos (by omega), if_pos (by omega), rd_mid' h, hy, if_pos rfl, snoc_len x (by omega)]
      · refine Ev.step (f := fun _ => some _) (fun k => ?_) (Ev.now _)
        simp only [laws_eqIntS.l0]
        rw [if_pos (by omega), if_pos (by omega), if_pos (by omega), rd_mid' h, hy, if_neg c]
        simp [c]
theorem laws_eqIntS_ev (a b : List Int) (hl : a.length ≤ 9223372036854775806) : Ev (fun k => laws_eqIntS.f k a b) (decide (a = b)) := by
  unfold laws_eqIntS.f
  by_cases h : (a.length : Int) = (b.length : Int)
  · simp only [if_pos h]
    exact laws_eqIntS_loop a b (by omega) hl a b [] [] rfl rfl rfl
  · simp only [if_neg h]
    exact ev_some fun _ => by rw [decide_eq_false (fun e => h (by rw [e]))]

theorem laws_markIntS_loop : ∀ (r pre : List Int) (m : Int), 0 ≤ m → m + r.length ≤ 9223372036854775806 → pre.length + r.length ≤ 9223372036854775806 →
    Ev (fun k => laws_markIntS.l0 k (pre ++ r) m (pre.length : Int)) (m + r.length, pre ++ upFrom m r.length) := by
  intro r
  induction r with
  | nil =>
    intro pre m h0 h1 h2
    refine Ev.step (f := fun _ => some _) (fun k => ?_) (Ev.now _)
    simp only [laws_markIntS.l0]
    rw [if_neg (by simp)]
    simp [upFrom]
  | cons x r ih =>
    intro pre m h0 h1 h2
    simp only [List.length_cons] at h1 h2
    have hi := ih (pre ++ [m]) (m + 1) (by omega) (by omega) (by simp; omega)
    have er : ((m + 1 + r.length : Int), (pre ++ [m]) ++ upFrom (m + 1) r.length) = (m + (x :: r).length, pre ++ upFrom m (x :: r).length) := by
      simp [upFrom]; omega
    rw [er] at hi
    refine Ev.step (fun k => ?_) hi
    simp only [laws_markIntS.l0]
    rw [if_pos (by simp; omega), if_pos (by omega), w64 (by omega) (by omega), snoc_len m (by omega), Int.toNat_natCast, set_mid]
theorem laws_markIntS_ev (l : List Int) (m : Int) (h0 : 0 ≤ m) (h1 : m + l.length ≤ 9223372036854775806) :
    Ev (fun k => laws_markIntS.f k l m) (m + l.length, upFrom m l.length) := by
  unfold laws_markIntS.f
  exact laws_markIntS_loop l [] m h0 h1 (by simp; omega)
theorem laws_heldIntS_loop (l : List Int) (hl : l.length ≤ 9223372036854775806) : ∀ (n : Nat) (pre : List Int) (m : Int), 0 ≤ m → m + n ≤ 9223372036854775806 → l = pre ++ upFrom m n →
    Ev (fun k => laws_heldIntS.l0 k l m (pre.length : Int)) (m + n) := by
  intro n
  induction n with
  | zero =>
    intro pre m h0 h1 h
    have e := lens h
    simp only [upFrom_length] at e
    refine Ev.step (f := fun _ => some _) (fun k => ?_) (Ev.now _)
    simp only [laws_heldIntS.l0]
    rw [if_neg (by omega)]
    simp
  | succ n ih =>
    intro pre m h0 h1 h
    have e := lens h
    simp only [upFrom_length] at e
    have hi := ih (pre ++ [m]) (m + 1) (by omega) (by omega) (by rw [h]; simp [upFrom])
    have er : m + 1 + (n : Int) = m + (n + 1 : Nat) := by omega
    rw [er] at hi
    refine Ev.step (fun k => ?_) hi
    simp only [laws_heldIntS.l0]
    rw [if_pos (by omega), if_pos (by omega), rd_mid' (by rw [h, upFrom]), if_pos rfl, w64 (by omega) (by omega), snoc_len m (by omega)]
theorem laws_heldIntS_ev (m : Int) (n : Nat) (h0 : 0 ≤ m) (h1 : m + n ≤ 9223372036854775806) :
    Ev (fun k => laws_heldIntS.f k (upFrom m n) m) (m + n) := by
  unfold laws_heldIntS.f
  exact laws_heldIntS_loop (upFrom m n) (by rw [upFrom_length]; omega) n [] m h0 h1 rfl

/-- What a law asks of a list that was handed out: it is marked, the marks are held, and held once more. -/
theorem held_once {α : Type} (g : List Int) (hg : g.length ≤ 1048576) {f : Nat → Option α} {r : α} {z : Option α} (h : Ev f r) :
    Ev (fun k => (laws_heldIntS.f k (upFrom 1 g.length) 1).bind fun t => if t < 0 then z else if t = 1 + (g.length : Int) then f k else z) r := by
  refine Ev.bind (laws_heldIntS_ev 1 g.length (by omega) (by omega)) ?_
  simp only [if_neg (show ¬ (1 + (g.length : Int) < 0) by omega), if_true]
  exact h

theorem FnExactIdentityPerm : laws_FnExactIdentityPerm.Pure := by
  intro n hw
  unfold laws_FnExactIdentityPerm.f
  have hl := newPacket_length n
  refine Ev.rounds (Ev.bind (spec_IdentityPerm_ev n) (Ev.bind (impl_IdentityPerm_ev n) (Ev.bind (laws_eqIntS_ev _ _ (by omega)) ?_)))
  simp only [decide_true, if_true]
  refine Ev.bind (laws_markIntS_ev _ 1 (by omega) (by omega)) ?_
  refine held_once _ (by omega) ?_
  refine Ev.bind (impl_IdentityPerm_ev n) (Ev.bind (laws_eqIntS_ev _ _ (by omega)) ?_)
  simp only [decide_true, if_true]
  exact held_once _ (by omega) (Ev.now _)

end Go.Proofs.Ytdgoeomelnlekaa.Pure
