/- For all arguments, the program's PermBetween answers as the reference's does, leaves its arguments alone, and answers in memory of its own. No conditions. -/
import Derived.Test.YtojbjofngpcjaaaMFnExactPermBetweenx0
import Derived.Test.YtojbjofngpcjaaaMFnExactPermBetweenx1
import Derived.Test.YtojbjofngpcjaaaMFnExactPermBetweenx2
import Derived.Test.YtojbjofngpcjaaaMFnExactPermBetweenx3
import Derived.Test.YtojbjofngpcjaaaMFnExactPermBetweenx4
import Derived.OpenShut
namespace Go.Proofs.Ytojbjofngpcjaaa.Pure
open Go.RowKit Go.Proofs.Ytojbjofngpcjaaa.MFnExactPermBetween Go.Proofs.YtojbjofngpcjaaaW.PrintWords Go.Proofs.YtojbjofngpcjaaaW.PrintLast
set_option linter.unusedVariables false
set_option linter.unusedSimpArgs false

/-! ### base: numbers, reads, loops -/
theorem w64 {a : Int} (h0 : -9223372036854775808 ≤ a) (h1 : a ≤ 9223372036854775807) : wrap64 a = a := by
  unfold wrap64
  omega
theorem w64n {n : Nat} (h : n ≤ 9223372036854775807) : wrap64 (n : Int) = n := w64 (by omega) (by omega)
theorem bd64 {n : Int} (h : (Lit.int .i64 n).wf = true) : -9223372036854775808 ≤ n ∧ n ≤ 9223372036854775807 := Go.bounds_i64 h
theorem rd_nat (xs : List Int) (i : Nat) : rd xs (i : Int) = xs.getD i 0 := by simp [rd]
theorem rd_lt {xs : List Int} {i : Nat} (h : i < xs.length) : rd xs (i : Int) = xs[i] := by simp [rd, h]
theorem bt_nat {s : ByteArray} {i : Nat} (h : i < s.size) : bt s (i : Int) = (s[i].toNat : Int) := by simp [bt, h]
/-- Going up to n: what holds at n holds from i on. -/
theorem up_ind (n : Nat) (P : Nat → Prop) (h0 : P n) (hs : ∀ i, i < n → P (i + 1) → P i) : ∀ i, i ≤ n → P i := by
  have h : ∀ d i, i + d = n → P i := by
    intro d
    induction d with
    | zero => intro i hi; obtain rfl : i = n := by omega
              exact h0
    | succ d ih => intro i hi; exact hs i (by omega) (ih (i + 1) (by omega))
  intro i hi
  exact h (n - i) i (by omega)
theorem ev_some {α : Type} {g : Nat → Option α} {r : α} (h : ∀ k, g k = some r) : Ev g r := ⟨0, fun k _ => h k⟩
theorem ev_pair {α β : Type} {g : Nat → Option α} {f : Nat → Option β} {a : α} {b : β} {h : α → β → Option Bool} (hg : Ev g a) (hf : Ev f b) (hh : h a b = some true) : ∃ k, ((g k).bind fun x => (f k).bind fun y => h x y) = some true :=
  Ev.rounds (Ev.bind hg (Ev.bind hf (ev_some fun _ => hh)))

/-! ### lists -/
theorem rd_mid (pre : List Int) (x : Int) (r : List Int) : rd (pre ++ x :: r) (pre.length : Int) = x := by simp [rd]
theorem rd_mid' {l pre : List Int} {x : Int} {r : List Int} (h : l = pre ++ x :: r) : rd l (pre.length : Int) = x := by subst h; exact rd_mid _ _ _
theorem snoc_eq {l pre : List Int} {x : Int} {r : List Int} (h : l = pre ++ x :: r) : l = (pre ++ [x]) ++ r := by simp [h]
theorem snoc_len {pre : List Int} (x : Int) (h : pre.length ≤ 9223372036854775806) : wrap64 ((pre.length : Int) + 1) = ((pre ++ [x]).length : Int) := by
  rw [w64 (by omega) (by omega)]; simp
/-- The whole numbers from m on, n of them. -/
def upFrom (m : Int) : Nat → List Int
  | 0 => []
  | n + 1 => m :: upFrom (m + 1) n
theorem upFrom_length (n : Nat) : ∀ m, (upFrom m n).length = n := by
  induction n with
  | zero => intro m; rfl
  | succ n ih => intro m; simp [upFrom, ih]
theorem upFrom_get (n : Nat) : ∀ (m : Int) (i : Nat) (h : i < (upFrom m n).length), (upFrom m n)[i] = m + i := by
  induction n with
  | zero => intro m i h; simp [upFrom] at h
  | succ n ih =>
    intro m i h
    cases i with
    | zero => simp [upFrom]
    | succ i => simp only [upFrom, List.getElem_cons_succ]; rw [ih]; omega
theorem upFrom_snoc (n : Nat) : ∀ m, upFrom m (n + 1) = upFrom m n ++ [m + n] := by
  induction n with
  | zero => intro m; simp [upFrom]
  | succ n ih => intro m; rw [upFrom, ih]; simp [upFrom]; omega
theorem upFrom_mem (n : Nat) : ∀ (m x : Int), x ∈ upFrom m n ↔ m ≤ x ∧ x < m + n := by
  induction n with
  | zero => intro m x; simp only [upFrom, List.not_mem_nil, false_iff]; omega
  | succ n ih => intro m x; simp only [upFrom, List.mem_cons, ih]; omega
theorem upFrom_nodup (n : Nat) : ∀ m, (upFrom m n).Nodup := by
  induction n with
  | zero => intro m; simp [upFrom]
  | succ n ih => intro m; simp only [upFrom, List.nodup_cons, ih, and_true, upFrom_mem]; omega
theorem nodup_inj {l : List Int} (h : l.Nodup) (i j : Nat) (hi : i < l.length) (hj : j < l.length) (e : l[i] = l[j]) : i = j := by
  have hp := List.pairwise_iff_getElem.1 h
  rcases Nat.lt_trichotomy i j with c | c | c
  · exact absurd e (hp i j hi hj c)
  · exact c
  · exact absurd e.symm (hp j i hj hi c)
theorem set_mid (pre : List Int) (x y : Int) (r : List Int) : (pre ++ y :: r).set pre.length x = (pre ++ [x]) ++ r := by simp
theorem lens {l pre r : List Int} (h : l = pre ++ r) : l.length = pre.length + r.length := by rw [h]; simp
theorem snoc_cast (pre : List Int) (x : Int) : ((pre ++ [x]).length : Int) = (pre.length : Int) + 1 := by simp

theorem laws_toIntS_loop (l : List Int) (hl : l.length ≤ 17592186044415) : ∀ (r pre : List Int), l = pre ++ r →
    Ev (fun k => laws_toIntS.l0 k l (pre ++ List.replicate r.length 0) (pre.length : Int)) l := by
  intro r
  induction r with
  | nil =>
    intro pre h
    have e := lens h
    simp only [List.length_nil] at e
    refine Ev.step (f := fun _ => some _) (fun k => ?_) (Ev.now _)
    simp only [laws_toIntS.l0]
    rw [if_neg (by omega)]
    simp [h]
  | cons x r ih =>
    intro pre h
    have e := lens h
    simp only [List.length_cons] at e
    refine Ev.step (fun k => ?_) (ih (pre ++ [x]) (snoc_eq h))
    simp only [laws_toIntS.l0]
    rw [if_pos (by omega), if_pos (by omega), if_pos (by simp; omega), rd_mid' h, snoc_len x (by omega), List.length_cons, List.replicate_succ, Int.toNat_natCast, set_mid]
theorem laws_toIntS_ev (l : List Int) (hl : l.length ≤ 17592186044415) : Ev (fun k => laws_toIntS.f k l) l := by
  unfold laws_toIntS.f
  have h := laws_toIntS_loop l hl l [] rfl
  simp only [if_pos (show 0 ≤ (l.length : Int) by omega), if_pos (show ((l.length : Int) : Int).toNat ≤ 35184372088832 by omega)]
  simpa using h

theorem laws_eqIntS_loop (a b : List Int) (hab : a.length = b.length) (hl : a.length ≤ 9223372036854775806) : ∀ (r s pre qre : List Int), a = pre ++ r → b = qre ++ s → pre.length = qre.length →
    Ev (fun k => laws_eqIntS.l0 k a b (pre.length : Int)) (decide (r = s)) := by
  intro r
  induction r with
  | nil =>
    intro s pre qre h h' hp
    have e := lens h
    have e' := lens h'
    simp only [List.length_nil] at e
    have hs : s = [] := List.eq_nil_of_length_eq_zero (by omega)
    refine Ev.step (f := fun _ => some _) (fun k => ?_) (Ev.now _)
    simp only [laws_eqIntS.l0]
    rw [if_neg (by omega), hs]
    simp
  | cons x r ih =>
    intro s pre qre h h' hp
    have e := lens h
    have e' := lens h'
    simp only [List.length_cons] at e
    cases s with
    | nil => simp only [List.length_nil] at e'; omega
    | cons y s =>
      have hy := rd_mid' h'
      rw [← hp] at hy
      by_cases c : x = y
      · subst c
        have hi := ih s (pre ++ [x]) (qre ++ [x]) (snoc_eq h) (snoc_eq h') (by simp [hp])
        have ed : decide (x :: r = x :: s) = decide (r = s) := by simp
        rw [ed]
        refine Ev.step (fun k => ?_) hi
        simp only [laws_eqIntS.l0]
        rw [if_pos (by omega), if_pos (by omega), if_pos (by omega), rd_mid' h, hy, if_pos rfl, snoc_len x (by omega)]
      · refine Ev.step (f := fun _ => some _) (fun k => ?_) (Ev.now _)
        simp only [laws_eqIntS.l0]
        rw [if_pos (by omega), if_pos (by omega), if_pos (by omega), rd_mid' h, hy, if_neg c]
        simp [c]
theorem laws_eqIntS_ev (a b : List Int) (hl : a.length ≤ 9223372036854775806) : Ev (fun k => laws_eqIntS.f k a b) (decide (a = b)) := by
  unfold laws_eqIntS.f
  by_cases h : (a.length : Int) = (b.length : Int)
  · simp only [if_pos h]
    exact laws_eqIntS_loop a b (by omega) hl a b [] [] rfl rfl rfl
  · simp only [if_neg h]
    exact ev_some fun _ => by rw [decide_eq_false (fun e => h (by rw [e]))]

theorem laws_markIntS_loop : ∀ (r pre : List Int) (m : Int), 0 ≤ m → m + r.length ≤ 9223372036854775806 → pre.length + r.length ≤ 9223372036854775806 →
    Ev (fun k => laws_markIntS.l0 k (pre ++ r) m (pre.length : Int)) (m + r.length, pre ++ upFrom m r.length) := by
  intro r
  induction r with
  | nil =>
    intro pre m h0 h1 h2
    refine Ev.step (f := fun _ => some _) (fun k => ?_) (Ev.now _)
    simp only [laws_markIntS.l0]
    rw [if_neg (by simp)]
    simp [upFrom]
  | cons x r ih =>
    intro pre m h0 h1 h2
    simp only [List.length_cons] at h1 h2
    have hi := ih (pre ++ [m]) (m + 1) (by omega) (by omega) (by simp; omega)
    have er : ((m + 1 + r.length : Int), (pre ++ [m]) ++ upFrom (m + 1) r.length) = (m + (x :: r).length, pre ++ upFrom m (x :: r).length) := by
      simp [upFrom]; omega
    rw [er] at hi
    refine Ev.step (fun k => ?_) hi
    simp only [laws_markIntS.l0]
    rw [if_pos (by simp; omega), if_pos (by omega), w64 (by omega) (by omega), snoc_len m (by omega), Int.toNat_natCast, set_mid]
theorem laws_markIntS_ev (l : List Int) (m : Int) (h0 : 0 ≤ m) (h1 : m + l.length ≤ 9223372036854775806) :
    Ev (fun k => laws_markIntS.f k l m) (m + l.length, upFrom m l.length) := by
  unfold laws_markIntS.f
  exact laws_markIntS_loop l [] m h0 h1 (by simp; omega)
theorem laws_heldIntS_loop (l : List Int) (hl : l.length ≤ 9223372036854775806) : ∀ (n : Nat) (pre : List Int) (m : Int), 0 ≤ m → m + n ≤ 9223372036854775806 → l = pre ++ upFrom m n →
    Ev (fun k => laws_heldIntS.l0 k l m (pre.length : Int)) (m + n) := by
  intro n
  induction n with
  | zero =>
    intro pre m h0 h1 h
    have e := lens h
    simp only [upFrom_length] at e
    refine Ev.step (f := fun _ => some _) (fun k => ?_) (Ev.now _)
    simp only [laws_heldIntS.l0]
    rw [if_neg (by omega)]
    simp
  | succ n ih =>
    intro pre m h0 h1 h
    have e := lens h
    simp only [upFrom_length] at e
    have hi := ih (pre ++ [m]) (m + 1) (by omega) (by omega) (by rw [h]; simp [upFrom])
    have er : m + 1 + (n : Int) = m + (n + 1 : Nat) := by omega
    rw [er] at hi
    refine Ev.step (fun k => ?_) hi
    simp only [laws_heldIntS.l0]
    rw [if_pos (by omega), if_pos (by omega), rd_mid' (by rw [h, upFrom]), if_pos rfl, w64 (by omega) (by omega), snoc_len m (by omega)]
theorem laws_heldIntS_ev (m : Int) (n : Nat) (h0 : 0 ≤ m) (h1 : m + n ≤ 9223372036854775806) :
    Ev (fun k => laws_heldIntS.f k (upFrom m n) m) (m + n) := by
  unfold laws_heldIntS.f
  exact laws_heldIntS_loop (upFrom m n) (by rw [upFrom_length]; omega) n [] m h0 h1 rfl

/-- What a law asks of a list that was handed out: it is marked, the marks are held, and held once more. -/
theorem held_once {α : Type} (g : List Int) (hg : g.length ≤ 1048576) {f : Nat → Option α} {r : α} {z : Option α} (h : Ev f r) :
    Ev (fun k => (laws_heldIntS.f k (upFrom 1 g.length) 1).bind fun t => if t < 0 then z else if t = 1 + (g.length : Int) then f k else z) r := by
  refine Ev.bind (laws_heldIntS_ev 1 g.length (by omega) (by omega)) ?_
  simp only [if_neg (show ¬ (1 + (g.length : Int) < 0) by omega), if_true]
  exact h

/-- The card of a cell, or -1. -/
def cardOf (x : Int) : Int := if 0 ≤ x then (if x ≤ 11 then x else -1) else (if -12 ≤ x then -1 - x else -1)

/-! ### permutations -/
def pokFrom (n : Nat) : List Int → List Int → Bool
  | _, [] => true
  | seen, x :: r => decide (0 ≤ x ∧ x < n) && (!decide (x ∈ seen) && pokFrom n (seen ++ [x]) r)
/-- A list of whole numbers is a permutation of at most 12 positions. -/
def permOk (a : List Int) : Bool := pokFrom a.length [] a && decide (a.length ≤ 12)
theorem pokFrom_iff (n : Nat) (r : List Int) : ∀ seen, pokFrom n seen r = true ↔ (∀ x ∈ r, 0 ≤ x ∧ x < n) ∧ r.Nodup ∧ (∀ x ∈ r, x ∉ seen) := by
  induction r with
  | nil => intro seen; simp [pokFrom]
  | cons x r ih =>
    intro seen
    simp only [pokFrom, Bool.and_eq_true, decide_eq_true_eq, Bool.not_eq_true', decide_eq_false_iff_not, ih, List.mem_cons, forall_eq_or_imp, List.nodup_cons, List.mem_append, List.not_mem_nil, or_false, not_or]
    constructor
    · rintro ⟨h1, h2, h3, h4, h5⟩
      exact ⟨⟨h1, h3⟩, ⟨fun hx => (h5 x hx).2 rfl, h4⟩, h2, fun y hy => (h5 y hy).1⟩
    · rintro ⟨⟨h1, h3⟩, ⟨h6, h4⟩, h2, h5⟩
      exact ⟨h1, h2, h3, h4, fun y hy => ⟨h5 y hy, fun e => h6 (e ▸ hy)⟩⟩
theorem permOk_iff (a : List Int) : permOk a = true ↔ (∀ x ∈ a, 0 ≤ x ∧ x < a.length) ∧ a.Nodup ∧ a.length ≤ 12 := by
  simp only [permOk, Bool.and_eq_true, pokFrom_iff, decide_eq_true_eq]
  simp [and_assoc]

def invFrom : List Int → Int → List Int → List Int
  | m, _, [] => m
  | m, i, x :: r => invFrom (m.set x.toNat i) (i + 1) r
/-- The inverse of a permutation. -/
def inverse (a : List Int) : List Int := invFrom (List.replicate a.length 0) 0 a
theorem invFrom_length (r : List Int) : ∀ m i, (invFrom m i r).length = m.length := by
  induction r with
  | nil => intro m i; rfl
  | cons x r ih => intro m i; simp [invFrom, ih]
theorem inverse_length (a : List Int) : (inverse a).length = a.length := by simp [inverse, invFrom_length]
theorem rd_set_ne {m : List Int} {x y i : Int} (hx : 0 ≤ x) (hy : 0 ≤ y) (h : x ≠ y) : rd (m.set x.toNat i) y = rd m y := by
  have : x.toNat ≠ y.toNat := by omega
  simp [rd, List.getElem?_set, this]
theorem rd_set_eq {m : List Int} {x i : Int} (hx : 0 ≤ x) (h : x < m.length) : rd (m.set x.toNat i) x = i := by
  have : x.toNat < m.length := by omega
  simp [rd, List.getElem?_set, this]
theorem invFrom_keep (r : List Int) : ∀ (m : List Int) (i y : Int), 0 ≤ y → y ∉ r → (∀ x ∈ r, 0 ≤ x) → rd (invFrom m i r) y = rd m y := by
  induction r with
  | nil => intro m i y _ _ _; rfl
  | cons x r ih =>
    intro m i y hy hn hp
    simp only [List.mem_cons, not_or] at hn
    have hx := hp x (by simp)
    rw [invFrom, ih _ _ y hy hn.2 (fun z hz => hp z (by simp [hz])), rd_set_ne hx hy (fun e => hn.1 e.symm)]
theorem invFrom_get (r : List Int) : ∀ (m : List Int) (i : Int), (∀ x ∈ r, 0 ≤ x ∧ x < m.length) → r.Nodup → ∀ (j : Nat) (h : j < r.length), rd (invFrom m i r) (r[j]) = i + j := by
  induction r with
  | nil => intro m i _ _ j h; simp at h
  | cons x r ih =>
    intro m i hp hn j h
    simp only [List.nodup_cons] at hn
    have hx := hp x (by simp)
    cases j with
    | zero =>
      simp only [List.getElem_cons_zero]
      rw [invFrom, invFrom_keep r _ _ x hx.1 hn.1 (fun z hz => (hp z (by simp [hz])).1), rd_set_eq hx.1 hx.2]
      simp
    | succ j =>
      simp only [List.getElem_cons_succ]
      rw [invFrom, ih _ _ (fun z hz => by rw [List.length_set]; exact hp z (by simp [hz])) hn.2 j (by simpa using h)]
      omega
theorem inverse_get {a : List Int} (hp : ∀ x ∈ a, 0 ≤ x ∧ x < a.length) (hn : a.Nodup) (j : Nat) (h : j < a.length) : rd (inverse a) (a[j]) = j := by
  unfold inverse
  rw [invFrom_get a _ 0 (fun x hx => by simpa using hp x hx) hn j h]
  omega

theorem nodup_le (l : List Int) : ∀ m : List Int, l.Nodup → (∀ x ∈ l, x ∈ m) → l.length ≤ m.length := by
  induction l with
  | nil => intro m _ _; simp
  | cons x l ih =>
    intro m hn hs
    simp only [List.nodup_cons] at hn
    have hx : x ∈ m := hs x (by simp)
    have h := ih (m.erase x) hn.2 (fun y hy => (List.mem_erase_of_ne (fun e => hn.1 (by rw [← e]; exact hy))).2 (hs y (by simp [hy])))
    rw [List.length_erase_of_mem hx] at h
    have := List.length_pos_of_mem hx
    simp only [List.length_cons]
    omega
theorem perm_surj {a : List Int} (hp : ∀ x ∈ a, 0 ≤ x ∧ x < a.length) (hn : a.Nodup) (v : Int) (h0 : 0 ≤ v) (h1 : v < a.length) : v ∈ a := by
  apply Decidable.byContradiction
  intro hv
  have h := nodup_le (v :: a) (upFrom 0 a.length) (by simp [hv, hn]) (fun y hy => by
    rw [upFrom_mem]
    rcases List.mem_cons.1 hy with rfl | hy
    · omega
    · have := hp y hy; omega)
  rw [upFrom_length] at h
  simp only [List.length_cons] at h
  omega
/-- Where a value of a permutation stands. -/
theorem perm_at {a : List Int} (hp : ∀ x ∈ a, 0 ≤ x ∧ x < a.length) (hn : a.Nodup) (v : Int) (h0 : 0 ≤ v) (h1 : v < a.length) : ∃ j : Nat, ∃ h : j < a.length, a[j] = v ∧ rd (inverse a) v = j := by
  obtain ⟨j, h, e⟩ := List.getElem_of_mem (perm_surj hp hn v h0 h1)
  exact ⟨j, h, e, by rw [← e]; exact inverse_get hp hn j h⟩

def pktFrom : List Int → List Int → Bool
  | _, [] => true
  | seen, x :: r => decide (0 ≤ cardOf x) && (!decide (cardOf x ∈ seen) && pktFrom (seen ++ [cardOf x]) r)
/-- A packet: at most twelve cards, all different. -/
def packetOk (l : List Int) : Bool := pktFrom [] l
theorem pktFrom_iff (r : List Int) : ∀ seen, pktFrom seen r = true ↔ (∀ x ∈ r, 0 ≤ cardOf x) ∧ (r.map cardOf).Nodup ∧ (∀ x ∈ r, cardOf x ∉ seen) := by
  induction r with
  | nil => intro seen; simp [pktFrom]
  | cons x r ih =>
    intro seen
    simp only [pktFrom, Bool.and_eq_true, decide_eq_true_eq, Bool.not_eq_true', decide_eq_false_iff_not, ih, List.mem_cons, forall_eq_or_imp, List.map_cons, List.nodup_cons, List.mem_append, List.not_mem_nil, or_false, not_or, List.mem_map]
    constructor
    · rintro ⟨h1, h2, h3, h4, h5⟩
      exact ⟨⟨h1, h3⟩, ⟨fun ⟨y, hy, e⟩ => (h5 y hy).2 e, h4⟩, h2, fun y hy => (h5 y hy).1⟩
    · rintro ⟨⟨h1, h3⟩, ⟨h6, h4⟩, h2, h5⟩
      exact ⟨h1, h2, h3, h4, fun y hy => ⟨h5 y hy, fun e => h6 ⟨y, hy, e⟩⟩⟩
theorem packetOk_iff (l : List Int) : packetOk l = true ↔ (∀ x ∈ l, 0 ≤ cardOf x) ∧ (l.map cardOf).Nodup := by
  unfold packetOk
  rw [pktFrom_iff]
  simp
theorem cardOf_le (x : Int) : -1 ≤ cardOf x ∧ cardOf x ≤ 11 := by
  unfold cardOf
  split <;> split <;> omega
theorem packetOk_length {l : List Int} (h : packetOk l = true) : l.length ≤ 12 := by
  obtain ⟨h1, h2⟩ := (packetOk_iff l).1 h
  have := nodup_le (l.map cardOf) (upFrom 0 12) h2 (fun y hy => by
    obtain ⟨x, hx, rfl⟩ := List.mem_map.1 hy
    rw [upFrom_mem]
    have := h1 x hx
    have := cardOf_le x
    omega)
  rw [upFrom_length, List.length_map] at this
  exact this

def posFrom (c : Int) : Int → List Int → Int
  | _, [] => -1
  | i, x :: r => if cardOf x = c then i else posFrom c (i + 1) r
/-- Where a card lies in a packet, or -1. -/
def positionOf (l : List Int) (c : Int) : Int := if 0 ≤ c then posFrom c 0 l else -1
theorem posFrom_get (c : Int) (l : List Int) : ∀ (i : Int) (j : Nat) (h : j < l.length), cardOf (l[j]) = c → (∀ (m : Nat) (h' : m < l.length), m < j → cardOf (l[m]) ≠ c) → posFrom c i l = i + j := by
  induction l with
  | nil => intro i j h; simp at h
  | cons x r ih =>
    intro i j h hc hm
    rw [posFrom]
    cases j with
    | zero => rw [if_pos (show cardOf x = c from hc)]; simp
    | succ j =>
      rw [if_neg (show ¬ cardOf x = c from hm 0 (by simp) (by omega)), ih (i + 1) j (by simpa using h) hc (fun m h' hl => hm (m + 1) (by simpa using h') (by omega))]
      omega
theorem posFrom_nonneg (c : Int) (l : List Int) : ∀ i : Int, 0 ≤ i → (0 ≤ posFrom c i l ↔ ∃ x ∈ l, cardOf x = c) := by
  induction l with
  | nil => intro i hi; simp [posFrom]
  | cons x r ih =>
    intro i hi
    rw [posFrom]
    by_cases h : cardOf x = c
    · rw [if_pos h]; simp [h, hi]
    · rw [if_neg h, ih (i + 1) (by omega)]; simp [h]

/-- What every law of one list does: it hands a copy to the reference and one to the program, compares, and looks at the copy. -/
theorem ev_ite_true {α : Type} {f g : Nat → Option α} {r : α} {c : Prop} [Decidable c] (h : c) (k : Ev f r) : Ev (fun n => if c then f n else g n) r := by simpa only [if_pos h] using k
theorem ev_ite_false {α : Type} {f g : Nat → Option α} {r : α} {c : Prop} [Decidable c] (h : ¬ c) (k : Ev g r) : Ev (fun n => if c then f n else g n) r := by simpa only [if_neg h] using k

/-- Do two packets hold the same cards? -/
def isArrangement (l b : List Int) : Bool := packetOk l && (packetOk b && (decide (l.length = b.length) && l.all fun x => !decide (positionOf b (cardOf x) < 0)))
def permBetween (l b : List Int) : List Int × Bool := if isArrangement l b = true then (b.map fun x => positionOf l (cardOf x), true) else ([], false)
theorem isArrangement_ok {l b : List Int} (h : isArrangement l b = true) : packetOk l = true ∧ packetOk b = true ∧ l.length = b.length := by
  simp only [isArrangement, Bool.and_eq_true, decide_eq_true_eq] at h
  exact ⟨h.1, h.2.1, h.2.2.1⟩
theorem permBetween_length (l b : List Int) : (permBetween l b).1.length ≤ 12 := by
  unfold permBetween
  by_cases h : isArrangement l b = true
  · rw [if_pos h, List.length_map]; exact packetOk_length (isArrangement_ok h).2.1
  · rw [if_neg h]; simp

theorem spec_l01In_eq (a b c : Int) : spec_l01In.f a b c = some (decide (b ≤ a ∧ a ≤ c)) := by
  unfold spec_l01In.f
  by_cases h : a ≥ b
  · rw [if_pos h]; simp; omega
  · rw [if_neg h]; simp; omega

theorem spec_CardOf_eq (x : Int) : spec_CardOf.f x = some (cardOf x) := by
  unfold spec_CardOf.f cardOf
  simp only [spec_l01In_eq, Option.bind_some, decide_eq_true_eq]
  by_cases h0 : 0 ≤ x
  · by_cases h1 : x ≤ 11
    · rw [if_pos ⟨h0, h1⟩, if_pos h0, if_pos h1]
    · rw [if_neg (by omega), if_neg (by omega), if_pos h0, if_neg h1]
  · by_cases h1 : -12 ≤ x
    · rw [if_neg (by omega), if_pos (by omega), if_neg h0, if_pos h1, w64 (by omega) (by omega)]
    · rw [if_neg (by omega), if_neg (by omega), if_neg h0, if_neg h1]

theorem spec_l02Has_loop (l : List Int) (v : Int) (hl : l.length ≤ 9223372036854775806) : ∀ (r pre : List Int), l = pre ++ r →
    Ev (fun k => spec_l02Has.l0 k v l (l.length : Int) (pre.length : Int)) (decide (v ∈ r)) := by
  intro r
  induction r with
  | nil =>
    intro pre h
    have e := lens h
    simp only [List.length_nil] at e
    refine Ev.step (f := fun _ => some _) (fun k => ?_) (Ev.now _)
    simp only [spec_l02Has.l0]
    rw [if_neg (by omega)]
    simp
  | cons x r ih =>
    intro pre h
    have e := lens h
    simp only [List.length_cons] at e
    by_cases c : x = v
    · refine Ev.step (f := fun _ => some _) (fun k => ?_) (Ev.now _)
      simp only [spec_l02Has.l0]
      rw [if_pos (by omega), if_pos (by omega), if_pos (by omega), rd_mid' h, if_pos c]
      simp [c]
    · have hi := ih (pre ++ [x]) (snoc_eq h)
      have ed : decide (v ∈ x :: r) = decide (v ∈ r) := by simp [show ¬ v = x from fun q => c q.symm]
      rw [ed]
      refine Ev.step (fun k => ?_) hi
      simp only [spec_l02Has.l0]
      rw [if_pos (by omega), if_pos (by omega), if_pos (by omega), rd_mid' h, if_neg c, snoc_len x (by omega)]
theorem spec_l02Has_ev (l : List Int) (v : Int) (hl : l.length ≤ 9223372036854775806) : Ev (fun k => spec_l02Has.f k l v) (decide (v ∈ l)) := by
  unfold spec_l02Has.f
  exact spec_l02Has_loop l v hl l [] rfl

theorem spec_PacketOk_loop (l : List Int) (hl : l.length ≤ 12) : ∀ (r pre seen : List Int), l = pre ++ r → seen.length = pre.length →
    Ev (fun k => spec_PacketOk.l0 k seen l (l.length : Int) (pre.length : Int)) (pktFrom seen r) := by
  intro r
  induction r with
  | nil =>
    intro pre seen h hs
    have e := lens h
    simp only [List.length_nil] at e
    refine Ev.step (f := fun _ => some _) (fun k => ?_) (Ev.now _)
    simp only [spec_PacketOk.l0]
    rw [if_neg (by omega)]
    simp [pktFrom]
  | cons x r ih =>
    intro pre seen h hs
    have e := lens h
    simp only [List.length_cons] at e
    by_cases c0 : cardOf x < 0
    · have e : pktFrom seen (x :: r) = false := by simp only [pktFrom]; rw [decide_eq_false (by omega)]; rfl
      rw [e]
      refine Ev.step (f := fun _ => some _) (fun k => ?_) (Ev.now _)
      simp only [spec_PacketOk.l0]
      rw [if_pos (by omega), if_pos (by omega), if_pos (by omega), rd_mid' h, spec_CardOf_eq]
      simp only [Option.bind_some]
      rw [if_pos c0]
    refine Ev.step (f := fun k => (spec_l02Has.f k seen (cardOf x)).bind fun t => if t = true then some false else spec_PacketOk.l0 k (seen ++ [cardOf x]) l (l.length : Int) ((pre ++ [x]).length : Int)) (fun k => ?_) ?_
    · simp only [spec_PacketOk.l0]
      rw [if_pos (by omega), if_pos (by omega), if_pos (by omega), rd_mid' h, spec_CardOf_eq]
      simp only [Option.bind_some]
      rw [if_neg c0, if_pos (by omega), snoc_len x (by omega)]
    · refine Ev.bind (spec_l02Has_ev seen (cardOf x) (by omega)) ?_
      by_cases c2 : cardOf x ∈ seen
      · have e : pktFrom seen (x :: r) = false := by simp only [pktFrom]; simp [c2]
        rw [e]
        exact ev_some fun _ => by simp [c2]
      · have e : pktFrom seen (x :: r) = pktFrom (seen ++ [cardOf x]) r := by simp only [pktFrom]; rw [decide_eq_true (by omega)]; simp [c2]
        rw [e]
        simp only [c2, decide_false, Bool.false_eq_true, if_false]
        exact ih (pre ++ [x]) (seen ++ [cardOf x]) (snoc_eq h) (by simp [hs])
theorem spec_PacketOk_ev (l : List Int) (ha : l.length ≤ 9223372036854775806) : Ev (fun k => spec_PacketOk.f k l) (packetOk l) := by
  unfold spec_PacketOk.f
  by_cases g : (l.length : Int) > 12
  · have e : packetOk l = false := by
      cases h : packetOk l
      · rfl
      · have := packetOk_length h; omega
    rw [e]
    exact ev_ite_true g (Ev.now _)
  · exact ev_ite_false g (spec_PacketOk_loop l (by omega) l [] [] rfl rfl)

theorem spec_PositionOf_loop (l : List Int) (c : Int) (hl : l.length ≤ 9223372036854775806) : ∀ (r pre : List Int), l = pre ++ r →
    Ev (fun k => spec_PositionOf.l0 k c l (l.length : Int) (pre.length : Int)) (if 0 ≤ c then posFrom c pre.length r else -1) := by
  intro r
  induction r with
  | nil =>
    intro pre h
    have e := lens h
    simp only [List.length_nil] at e
    refine Ev.step (f := fun _ => some _) (fun k => ?_) (Ev.now _)
    simp only [spec_PositionOf.l0]
    rw [if_neg (by omega)]
    simp [posFrom]
  | cons x r ih =>
    intro pre h
    have e := lens h
    simp only [List.length_cons] at e
    have hi := ih (pre ++ [x]) (snoc_eq h)
    by_cases h1 : cardOf x = c
    · by_cases h0 : 0 ≤ c
      · refine Ev.step (f := fun _ => some _) (fun k => ?_) (Ev.now _)
        simp only [spec_PositionOf.l0]
        rw [if_pos (by omega), if_pos (by omega), if_pos (by omega), rd_mid' h, spec_CardOf_eq]
        simp only [Option.bind_some]
        rw [if_pos h1, if_pos h0, if_pos h0, posFrom, if_pos h1]
      · rw [if_neg h0] at hi ⊢
        refine Ev.step (fun k => ?_) hi
        simp only [spec_PositionOf.l0]
        rw [if_pos (by omega), if_pos (by omega), if_pos (by omega), rd_mid' h, spec_CardOf_eq]
        simp only [Option.bind_some]
        rw [if_pos h1, if_neg h0, snoc_len x (by omega)]
    · have er : (if 0 ≤ c then posFrom c (pre.length : Int) (x :: r) else -1) = (if 0 ≤ c then posFrom c ((pre ++ [x]).length : Int) r else -1) := by
        rw [posFrom, if_neg h1, snoc_cast]
      rw [er]
      refine Ev.step (fun k => ?_) hi
      simp only [spec_PositionOf.l0]
      rw [if_pos (by omega), if_pos (by omega), if_pos (by omega), rd_mid' h, spec_CardOf_eq]
      simp only [Option.bind_some]
      rw [if_neg h1, snoc_len x (by omega)]
theorem spec_PositionOf_ev (l : List Int) (c : Int) (hl : l.length ≤ 9223372036854775806) : Ev (fun k => spec_PositionOf.f k l c) (positionOf l c) := by
  unfold spec_PositionOf.f positionOf
  exact spec_PositionOf_loop l c hl l [] rfl

theorem spec_IsArrangement_loop (l b : List Int) (hl : l.length ≤ 9223372036854775806) (hb : b.length ≤ 9223372036854775806) : ∀ (r pre : List Int), l = pre ++ r →
    Ev (fun k => spec_IsArrangement.l0 k b l (l.length : Int) (pre.length : Int)) (r.all fun x => !decide (positionOf b (cardOf x) < 0)) := by
  intro r
  induction r with
  | nil =>
    intro pre h
    have e := lens h
    simp only [List.length_nil] at e
    refine Ev.step (f := fun _ => some _) (fun k => ?_) (Ev.now _)
    simp only [spec_IsArrangement.l0]
    rw [if_neg (by omega)]
    simp
  | cons x r ih =>
    intro pre h
    have e := lens h
    simp only [List.length_cons] at e
    refine Ev.step (f := fun k => (spec_PositionOf.f k b (cardOf x)).bind fun t => if t < 0 then some false else spec_IsArrangement.l0 k b l (l.length : Int) ((pre ++ [x]).length : Int)) (fun k => ?_) ?_
    · simp only [spec_IsArrangement.l0]
      rw [if_pos (by omega), if_pos (by omega), if_pos (by omega), rd_mid' h, spec_CardOf_eq]
      simp only [Option.bind_some]
      rw [snoc_len x (by omega)]
    · refine Ev.bind (spec_PositionOf_ev b (cardOf x) hb) ?_
      by_cases c : positionOf b (cardOf x) < 0
      · refine ev_ite_true c ?_
        rw [List.all_cons, decide_eq_true c]
        exact Ev.now _
      · refine ev_ite_false c ?_
        rw [List.all_cons, decide_eq_false c]
        exact ih (pre ++ [x]) (snoc_eq h)
theorem spec_IsArrangement_ev (l b : List Int) (hl : l.length ≤ 9223372036854775806) (hb : b.length ≤ 9223372036854775806) : Ev (fun k => spec_IsArrangement.f k l b) (isArrangement l b) := by
  have hj : Ev (fun k => spec_IsArrangement.j0 k l b true) false := by
    refine Ev.step (fun k => by rw [spec_IsArrangement.j0]) ?_
    simp only [if_true]
    exact Ev.now _
  unfold spec_IsArrangement.f isArrangement
  refine Ev.bind (spec_PacketOk_ev l hl) ?_
  by_cases h1 : packetOk l = true
  · refine ev_ite_true h1 (Ev.bind (spec_PacketOk_ev b hb) ?_)
    rw [h1, Bool.true_and]
    by_cases h2 : packetOk b = true
    · refine ev_ite_true h2 ?_
      rw [h2, Bool.true_and]
      by_cases h3 : l.length = b.length
      · rw [decide_eq_true h3, Bool.true_and, h3, bne_self_eq_false]
        refine Ev.step (fun k => by rw [spec_IsArrangement.j0]) ?_
        simp only [Bool.false_eq_true, if_false]
        exact spec_IsArrangement_loop l b hl hb l [] rfl
      · rw [decide_eq_false h3, Bool.false_and, show ((l.length : Int) != (b.length : Int)) = true from bne_iff_ne.mpr (by omega)]
        exact hj
    · rw [Bool.not_eq_true] at h2
      rw [h2, Bool.false_and]
      exact ev_ite_false (by simp) hj
  · rw [Bool.not_eq_true] at h1
    rw [h1, Bool.false_and]
    exact ev_ite_false (by simp) hj

theorem spec_PermBetween_loop (l b : List Int) (hl : l.length ≤ 9223372036854775806) (hb : b.length ≤ 17592186044415) : ∀ (r pre out : List Int), b = pre ++ r → out.length = pre.length →
    Ev (fun k => spec_PermBetween.l0 k l out b (b.length : Int) (pre.length : Int)) (out ++ r.map (fun x => positionOf l (cardOf x)), true) := by
  intro r
  induction r with
  | nil =>
    intro pre out h ho
    have e := lens h
    simp only [List.length_nil] at e
    refine Ev.step (f := fun _ => some _) (fun k => ?_) (Ev.now _)
    simp only [spec_PermBetween.l0]
    rw [if_neg (by omega)]
    simp
  | cons x r ih =>
    intro pre out h ho
    have e := lens h
    simp only [List.length_cons] at e
    refine Ev.step (f := fun k => (spec_PositionOf.f k l (cardOf x)).bind fun t => spec_PermBetween.l0 k l (out ++ [t]) b (b.length : Int) ((pre ++ [x]).length : Int)) (fun k => ?_) ?_
    · simp only [spec_PermBetween.l0]
      rw [if_pos (by omega), if_pos (by omega), if_pos (by omega), rd_mid' h, spec_CardOf_eq]
      simp only [Option.bind_some]
      simp only [if_pos (show out.length < 17592186044416 by omega)]
      rw [snoc_len x (by omega)]
    · refine Ev.bind (spec_PositionOf_ev l (cardOf x) hl) ?_
      have hi := ih (pre ++ [x]) (out ++ [positionOf l (cardOf x)]) (snoc_eq h) (by simp [ho])
      rw [List.append_assoc] at hi
      exact hi
theorem spec_PermBetween_ev (l b : List Int) (hl : l.length ≤ 9223372036854775806) (hb : b.length ≤ 9223372036854775806) : Ev (fun k => spec_PermBetween.f k l b) (permBetween l b) := by
  unfold spec_PermBetween.f permBetween
  refine Ev.bind (spec_IsArrangement_ev l b hl hb) ?_
  by_cases h1 : isArrangement l b = true
  · refine ev_ite_true h1 ?_
    rw [if_pos h1]
    exact spec_PermBetween_loop l b hl (by have := packetOk_length (isArrangement_ok h1).2.1; omega) b [] [] rfl rfl
  · refine ev_ite_false h1 ?_
    rw [if_neg h1]
    exact Ev.now _

theorem impl_CardOf_eq (x : Int) (hx : -9223372036854775808 ≤ x) : impl_CardOf.f x = some (cardOf x) := by
  unfold impl_CardOf.f cardOf
  by_cases h0 : x < 0
  · rw [if_pos h0, w64 (by omega) (by omega), if_neg (show ¬ 0 ≤ x by omega)]
    by_cases h1 : -12 ≤ x
    · rw [if_neg (by omega), if_pos h1]
    · rw [if_pos (by omega), if_neg h1]
  · rw [if_neg h0, if_pos (show 0 ≤ x by omega)]
    by_cases h1 : x ≤ 11
    · rw [if_neg (by omega), if_pos h1]
    · rw [if_pos (by omega), if_neg h1]

theorem impl_PacketOk_loop (l : List Int) (hl : l.length ≤ 9223372036854775806) (hw : ∀ x ∈ l, (Lit.int .i64 x).wf = true) : ∀ (r pre seen : List Int) (m : List Bool), l = pre ++ r → m.length = 12 → (∀ c : Int, 0 ≤ c → c < 12 → (rdOf false m c = true ↔ c ∈ seen)) →
    Ev (fun k => impl_PacketOk.l0 k m l (pre.length : Int)) (pktFrom seen r) := by
  intro r
  induction r with
  | nil =>
    intro pre seen m h hm hs
    have e := lens h
    simp only [List.length_nil] at e
    refine Ev.step (f := fun _ => some _) (fun k => ?_) (Ev.now _)
    simp only [impl_PacketOk.l0]
    rw [if_neg (by omega)]
    simp [pktFrom]
  | cons x r ih =>
    intro pre seen m h hm hs
    have e := lens h
    simp only [List.length_cons] at e
    have hx := bd64 (hw x (by rw [h]; simp))
    have hc := cardOf_le x
    by_cases c0 : cardOf x < 0
    · have e : pktFrom seen (x :: r) = false := by simp only [pktFrom]; rw [decide_eq_false (by omega)]; rfl
      rw [e]
      refine Ev.step (f := fun _ => some _) (fun k => ?_) (Ev.now _)
      simp only [impl_PacketOk.l0]
      rw [if_pos (by omega), if_pos (by omega), rd_mid' h, impl_CardOf_eq x hx.1]
      simp only [Option.bind_some]
      rw [if_pos c0]
    have hsc := hs (cardOf x) (by omega) (by omega)
    by_cases c2 : cardOf x ∈ seen
    · have e : pktFrom seen (x :: r) = false := by simp only [pktFrom]; simp [c2]
      rw [e]
      refine Ev.step (f := fun _ => some _) (fun k => ?_) (Ev.now _)
      simp only [impl_PacketOk.l0]
      rw [if_pos (by omega), if_pos (by omega), rd_mid' h, impl_CardOf_eq x hx.1]
      simp only [Option.bind_some]
      rw [if_neg c0, if_pos (by omega), if_pos (hsc.2 c2)]
    · have e : pktFrom seen (x :: r) = pktFrom (seen ++ [cardOf x]) r := by simp only [pktFrom]; rw [decide_eq_true (by omega)]; simp [c2]
      rw [e]
      refine Ev.step (fun k => ?_) (ih (pre ++ [x]) (seen ++ [cardOf x]) (m.set (cardOf x).toNat true) (snoc_eq h) (by simp [hm]) ?_)
      · simp only [impl_PacketOk.l0]
        rw [if_pos (by omega), if_pos (by omega), rd_mid' h, impl_CardOf_eq x hx.1]
        simp only [Option.bind_some]
        rw [if_neg c0, if_pos (by omega), if_neg (fun q => c2 (hsc.1 q)), snoc_len x (by omega)]
      · intro c h0 h1
        rw [List.mem_append, List.mem_singleton, ← hs c h0 h1]
        simp only [rdOf, List.getD_eq_getElem?_getD, List.getElem?_set, hm]
        by_cases ec : c = cardOf x
        · subst ec
          rw [if_pos rfl, if_pos (by omega)]
          simp
        · rw [if_neg (by omega)]
          simp [ec]
theorem impl_PacketOk_ev (l : List Int) (hl : l.length ≤ 9223372036854775806) (hw : ∀ x ∈ l, (Lit.int .i64 x).wf = true) : Ev (fun k => impl_PacketOk.f k l) (packetOk l) := by
  unfold impl_PacketOk.f packetOk
  refine impl_PacketOk_loop l hl hw l [] [] _ rfl (by simp) ?_
  intro c h0 h1
  simp only [rdOf, List.getD_eq_getElem?_getD, List.getElem?_replicate]
  rw [if_pos (by omega)]
  simp

theorem idxF_congr {p q : Int → Bool} {l : List Int} (h : ∀ x ∈ l, p x = q x) : ∀ i, idxF p i l = idxF q i l := by
  induction l with
  | nil => intro i; rfl
  | cons x r ih => intro i; rw [idxF, idxF, h x (by simp), ih (fun y hy => h y (by simp [hy]))]
theorem idxF_card (c : Int) (l : List Int) : ∀ i, idxF (fun x => cardOf x == c) i l = posFrom c i l := by
  induction l with
  | nil => intro i; rfl
  | cons x r ih => intro i; rw [idxF, posFrom, ih]; simp

theorem isCard_eq (c x : Int) (hx : (Lit.int .i64 x).wf = true) : isCard c x = (cardOf x == c) := by
  unfold isCard
  rw [impl_CardOf_eq x (bd64 hx).1]
  rfl
theorem impl_PositionOf_eq (l : List Int) (c : Int) (hw : ∀ x ∈ l, (Lit.int .i64 x).wf = true) : impl_PositionOf.f l c = some (positionOf l c) := by
  unfold impl_PositionOf.f positionOf
  rw [idxF_congr (fun x hx => isCard_eq c x (hw x hx)), idxF_card]
  by_cases h : c < 0
  · rw [if_pos h, if_neg (by omega)]
  · rw [if_neg h, if_pos (by omega)]
theorem impl_PositionOf_ev (l : List Int) (c : Int) (hw : ∀ x ∈ l, (Lit.int .i64 x).wf = true) : Ev (fun k => impl_PositionOf.f l c) (positionOf l c) := ev_some fun _ => impl_PositionOf_eq l c hw

theorem lacks_eq (q : List Int) (x : Int) (hx : (Lit.int .i64 x).wf = true) (hq : ∀ y ∈ q, (Lit.int .i64 y).wf = true) : lacks q x = decide (positionOf q (cardOf x) < 0) := by
  have h := impl_PositionOf_eq q (cardOf x) hq
  unfold impl_PositionOf.f at h
  unfold lacks
  rw [impl_CardOf_eq x (bd64 hx).1, ← Option.some.inj h]
  rfl
theorem impl_IsArrangement_ev (l b : List Int) (hl : l.length ≤ 9223372036854775806) (hb : b.length ≤ 9223372036854775806) (wl : ∀ x ∈ l, (Lit.int .i64 x).wf = true) (wb : ∀ x ∈ b, (Lit.int .i64 x).wf = true) : Ev (fun k => impl_IsArrangement.f k l b) (isArrangement l b) := by
  unfold impl_IsArrangement.f isArrangement
  refine Ev.bind (impl_PacketOk_ev l hl wl) ?_
  by_cases h1 : packetOk l = true
  · refine ev_ite_true h1 (Ev.bind (impl_PacketOk_ev b hb wb) ?_)
    rw [h1, Bool.true_and]
    by_cases h2 : packetOk b = true
    · refine ev_ite_true h2 ?_
      rw [h2, Bool.true_and]
      by_cases h3 : l.length = b.length
      · refine ev_ite_true (by omega) ?_
        rw [decide_eq_true h3, Bool.true_and]
        have e : (!l.any (lacks b)) = l.all fun x => !decide (positionOf b (cardOf x) < 0) := by
          rw [List.not_any_eq_all_not]
          have : ∀ m : List Int, (∀ x ∈ m, x ∈ l) → (m.all fun x => !lacks b x) = m.all fun x => !decide (positionOf b (cardOf x) < 0) := by
            intro m
            induction m with
            | nil => intro _; rfl
            | cons y m ih => intro hm; rw [List.all_cons, List.all_cons, ih (fun z hz => hm z (by simp [hz])), lacks_eq b y (wl y (hm y (by simp))) wb]
          exact this l (fun _ h => h)
        rw [e]
        exact Ev.now _
      · refine ev_ite_false (by omega) ?_
        rw [decide_eq_false h3, Bool.false_and]
        exact Ev.now _
    · rw [Bool.not_eq_true] at h2
      rw [h2, Bool.false_and]
      exact ev_ite_false (by simp) (Ev.now _)
  · rw [Bool.not_eq_true] at h1
    rw [h1, Bool.false_and]
    exact ev_ite_false (by simp) (Ev.now _)

theorem impl_PermBetween_loop (l b : List Int) (hl : l.length ≤ 9223372036854775806) (hb : b.length ≤ 17592186044415) (wl : ∀ x ∈ l, (Lit.int .i64 x).wf = true) (wb : ∀ x ∈ b, (Lit.int .i64 x).wf = true) : ∀ (r pre out : List Int), b = pre ++ r → out.length = pre.length →
    Ev (fun k => impl_PermBetween.l0 k l out b (b.length : Int) (pre.length : Int)) (out ++ r.map (fun x => positionOf l (cardOf x)), true) := by
  intro r
  induction r with
  | nil =>
    intro pre out h ho
    have e := lens h
    simp only [List.length_nil] at e
    refine Ev.step (f := fun _ => some _) (fun k => ?_) (Ev.now _)
    simp only [impl_PermBetween.l0]
    rw [if_neg (by omega)]
    simp
  | cons x r ih =>
    intro pre out h ho
    have e := lens h
    simp only [List.length_cons] at e
    refine Ev.step (f := fun k => (impl_PositionOf.f l (cardOf x)).bind fun t => impl_PermBetween.l0 k l (out ++ [t]) b (b.length : Int) ((pre ++ [x]).length : Int)) (fun k => ?_) ?_
    · simp only [impl_PermBetween.l0]
      rw [if_pos (by omega), if_pos (by omega), if_pos (by omega), rd_mid' h, impl_CardOf_eq x (bd64 (wb x (by rw [h]; simp))).1]
      simp only [Option.bind_some]
      simp only [if_pos (show out.length < 17592186044416 by omega)]
      rw [snoc_len x (by omega)]
    · refine Ev.bind (impl_PositionOf_ev l (cardOf x) wl) ?_
      have hi := ih (pre ++ [x]) (out ++ [positionOf l (cardOf x)]) (snoc_eq h) (by simp [ho])
      rw [List.append_assoc] at hi
      exact hi
theorem impl_PermBetween_ev (l b : List Int) (hl : l.length ≤ 9223372036854775806) (hb : b.length ≤ 9223372036854775806) (wl : ∀ x ∈ l, (Lit.int .i64 x).wf = true) (wb : ∀ x ∈ b, (Lit.int .i64 x).wf = true) : Ev (fun k => impl_PermBetween.f k l b) (permBetween l b) := by
  unfold impl_PermBetween.f permBetween
  refine Ev.bind (impl_IsArrangement_ev l b hl hb wl wb) ?_
  by_cases h1 : isArrangement l b = true
  · refine ev_ite_true h1 ?_
    rw [if_pos h1]
    exact impl_PermBetween_loop l b hl (by have := packetOk_length (isArrangement_ok h1).2.1; omega) wl wb b [] [] rfl rfl
  · refine ev_ite_false h1 ?_
    rw [if_neg h1]
    exact Ev.now _

theorem FnExactPermBetween : laws_FnExactPermBetween.Pure := by
  intro l b hl_ hl' wl hb_ hb' wb
  unfold laws_FnExactPermBetween.f
  by_cases gl : (l.length : Int) > 1048576
  · exact ⟨0, by rw [if_pos gl]⟩
  by_cases gb : (b.length : Int) > 1048576
  · exact ⟨0, by rw [if_neg gl, if_pos gb]⟩
  simp only [if_neg gl, if_neg gb]
  have tl := laws_toIntS_ev l (by omega)
  have tb := laws_toIntS_ev b (by omega)
  have hl := permBetween_length l b
  have cs := spec_PermBetween_ev l b (by omega) (by omega)
  have ci := impl_PermBetween_ev l b (by omega) (by omega) wl wb
  refine Ev.rounds ?_
  refine Ev.bind tl (Ev.bind tb (Ev.bind cs (Ev.bind tl (Ev.bind tb (Ev.bind ci (Ev.bind (laws_eqIntS_ev _ _ (by omega)) ?_))))))
  simp only [decide_true, if_true, bne_self_eq_false]
  refine Ev.step (fun k => by rw [laws_FnExactPermBetween.j0]) ?_
  simp only [Bool.false_eq_true, if_false]
  refine Ev.bind tl (Ev.bind (laws_eqIntS_ev _ _ (by omega)) ?_)
  simp only [decide_true, if_true]
  refine Ev.bind tb (Ev.bind (laws_eqIntS_ev _ _ (by omega)) ?_)
  simp only [decide_true, if_true]
  refine Ev.bind (laws_markIntS_ev l 1 (by omega) (by omega)) (Ev.bind (laws_markIntS_ev b _ (by omega) (by omega)) ?_)
  refine ev_ite_false (by simp only []; omega) ?_
  refine Ev.bind (laws_eqIntS_ev _ _ (by omega)) ?_
  simp only [decide_true, if_true, bne_self_eq_false]
  refine Ev.step (fun k => by rw [laws_FnExactPermBetween.j1]) ?_
  simp only [Bool.false_eq_true, if_false]
  refine Ev.bind (laws_markIntS_ev _ 1 (by omega) (by omega)) ?_
  refine held_once _ (by omega) ?_
  refine Ev.bind tl (Ev.bind tb (Ev.bind ci (Ev.bind (laws_eqIntS_ev _ _ (by omega)) ?_)))
  simp only [decide_true, if_true, bne_self_eq_false]
  refine Ev.step (fun k => by rw [laws_FnExactPermBetween.j2]) ?_
  simp only [Bool.false_eq_true, if_false]
  exact held_once _ (by omega) (Ev.now _)

end Go.Proofs.Ytojbjofngpcjaaa.Pure
