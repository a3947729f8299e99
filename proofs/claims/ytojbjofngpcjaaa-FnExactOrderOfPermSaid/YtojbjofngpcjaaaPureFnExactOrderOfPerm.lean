/- For all arguments, the program's OrderOfPerm answers as the reference's does, and leaves its arguments alone. No conditions. -/
import Derived.Test.YtojbjofngpcjaaaMFnExactOrderOfPermx0
import Derived.Test.YtojbjofngpcjaaaMFnExactOrderOfPermx1
import Derived.Test.YtojbjofngpcjaaaMFnExactOrderOfPermx2
import Derived.Test.YtojbjofngpcjaaaMFnExactOrderOfPermx3
import Derived.OpenShut
namespace Go.Proofs.Ytojbjofngpcjaaa.Pure
open Go.RowKit Go.Proofs.Ytojbjofngpcjaaa.MFnExactOrderOfPerm Go.Proofs.YtojbjofngpcjaaaW.PrintWords Go.Proofs.YtojbjofngpcjaaaW.PrintLast
set_option linter.unusedVariables false
set_option linter.unusedSimpArgs false

/-! ### base: numbers, reads, loops -/
theorem w64 {a : Int} (h0 : -9223372036854775808 ≤ a) (h1 : a ≤ 9223372036854775807) : wrap64 a = a := by
  unfold wrap64
  omega
theorem w64n {n : Nat} (h : n ≤ 9223372036854775807) : wrap64 (n : Int) = n := w64 (by omega) (by omega)
theorem bd64 {n : Int} (h : (Lit.int .i64 n).wf = true) : -9223372036854775808 ≤ n ∧ n ≤ 9223372036854775807 := Go.bounds_i64 h
theorem rd_nat (xs : List Int) (i : Nat) : rd xs (i : Int) = xs.getD i 0 := by simp [rd]
theorem rd_lt {xs : List Int} {i : Nat} (h : i < xs.length) : rd xs (i : Int) = xs[i] := by simp [rd, h]
theorem bt_nat {s : ByteArray} {i : Nat} (h : i < s.size) : bt s (i : Int) = (s[i].toNat : Int) := by simp [bt, h]
/-- Going up to n: what holds at n holds from i on. -/
theorem up_ind (n : Nat) (P : Nat → Prop) (h0 : P n) (hs : ∀ i, i < n → P (i + 1) → P i) : ∀ i, i ≤ n → P i := by
  have h : ∀ d i, i + d = n → P i := by
    intro d
    induction d with
    | zero => intro i hi; obtain rfl : i = n := by omega
              exact h0
    | succ d ih => intro i hi; exact hs i (by omega) (ih (i + 1) (by omega))
  intro i hi
  exact h (n - i) i (by omega)
theorem ev_some {α : Type} {g : Nat → Option α} {r : α} (h : ∀ k, g k = some r) : Ev g r := ⟨0, fun k _ => h k⟩
theorem ev_pair {α β : Type} {g : Nat → Option α} {f : Nat → Option β} {a : α} {b : β} {h : α → β → Option Bool} (hg : Ev g a) (hf : Ev f b) (hh : h a b = some true) : ∃ k, ((g k).bind fun x => (f k).bind fun y => h x y) = some true :=
  Ev.rounds (Ev.bind hg (Ev.bind hf (ev_some fun _ => hh)))

/-! ### lists -/
theorem rd_mid (pre : List Int) (x : Int) (r : List Int) : rd (pre ++ x :: r) (pre.length : Int) = x := by simp [rd]
theorem rd_mid' {l pre : List Int} {x : Int} {r : List Int} (h : l = pre ++ x :: r) : rd l (pre.length : Int) = x := by subst h; exact rd_mid _ _ _
theorem snoc_eq {l pre : List Int} {x : Int} {r : List Int} (h : l = pre ++ x :: r) : l = (pre ++ [x]) ++ r := by simp [h]
theorem snoc_len {pre : List Int} (x : Int) (h : pre.length ≤ 9223372036854775806) : wrap64 ((pre.length : Int) + 1) = ((pre ++ [x]).length : Int) := by
  rw [w64 (by omega) (by omega)]; simp
/-- The whole numbers from m on, n of them. -/
def upFrom (m : Int) : Nat → List Int
  | 0 => []
  | n + 1 => m :: upFrom (m + 1) n
theorem upFrom_length (n : Nat) : ∀ m, (upFrom m n).length = n := by
  induction n with
  | zero => intro m; rfl
  | succ n ih => intro m; simp [upFrom, ih]
theorem upFrom_get (n : Nat) : ∀ (m : Int) (i : Nat) (h : i < (upFrom m n).length), (upFrom m n)[i] = m + i := by
  induction n with
  | zero => intro m i h; simp [upFrom] at h
  | succ n ih =>
    intro m i h
    cases i with
    | zero => simp [upFrom]
    | succ i => simp only [upFrom, List.getElem_cons_succ]; rw [ih]; omega
theorem upFrom_snoc (n : Nat) : ∀ m, upFrom m (n + 1) = upFrom m n ++ [m + n] := by
  induction n with
  | zero => intro m; simp [upFrom]
  | succ n ih => intro m; rw [upFrom, ih]; simp [upFrom]; omega
theorem upFrom_mem (n : Nat) : ∀ (m x : Int), x ∈ upFrom m n ↔ m ≤ x ∧ x < m + n := by
  induction n with
  | zero => intro m x; simp only [upFrom, List.not_mem_nil, false_iff]; omega
  | succ n ih => intro m x; simp only [upFrom, List.mem_cons, ih]; omega
theorem upFrom_nodup (n : Nat) : ∀ m, (upFrom m n).Nodup := by
  induction n with
  | zero => intro m; simp [upFrom]
  | succ n ih => intro m; simp only [upFrom, List.nodup_cons, ih, and_true, upFrom_mem]; omega
theorem nodup_inj {l : List Int} (h : l.Nodup) (i j : Nat) (hi : i < l.length) (hj : j < l.length) (e : l[i] = l[j]) : i = j := by
  have hp := List.pairwise_iff_getElem.1 h
  rcases Nat.lt_trichotomy i j with c | c | c
  · exact absurd e (hp i j hi hj c)
  · exact c
  · exact absurd e.symm (hp j i hj hi c)
theorem set_mid (pre : List Int) (x y : Int) (r : List Int) : (pre ++ y :: r).set pre.length x = (pre ++ [x]) ++ r := by simp
theorem lens {l pre r : List Int} (h : l = pre ++ r) : l.length = pre.length + r.length := by rw [h]; simp
theorem snoc_cast (pre : List Int) (x : Int) : ((pre ++ [x]).length : Int) = (pre.length : Int) + 1 := by simp

theorem laws_toIntS_loop (l : List Int) (hl : l.length ≤ 17592186044415) : ∀ (r pre : List Int), l = pre ++ r →
    Ev (fun k => laws_toIntS.l0 k l (pre ++ List.replicate r.length 0) (pre.length : Int)) l := by
  intro r
  induction r with
  | nil =>
    intro pre h
    have e := lens h
    simp only [List.length_nil] at e
    refine Ev.step (f := fun _ => some _) (fun k => ?_) (Ev.now _)
    simp only [laws_toIntS.l0]
    rw [if_neg (by omega)]
    simp [h]
  | cons x r ih =>
    intro pre h
    have e := lens h
    simp only [List.length_cons] at e
    refine Ev.step (fun k => ?_) (ih (pre ++ [x]) (snoc_eq h))
    simp only [laws_toIntS.l0]
    rw [if_pos (by omega), if_pos (by omega), if_pos (by simp; omega), rd_mid' h, snoc_len x (by omega), List.length_cons, List.replicate_succ, Int.toNat_natCast, set_mid]
theorem laws_toIntS_ev (l : List Int) (hl : l.length ≤ 17592186044415) : Ev (fun k => laws_toIntS.f k l) l := by
  unfold laws_toIntS.f
  have h := laws_toIntS_loop l hl l [] rfl
  simp only [if_pos (show 0 ≤ (l.length : Int) by omega), if_pos (show ((l.length : Int) : Int).toNat ≤ 35184372088832 by omega)]
  simpa using h

theorem laws_eqIntS_loop (a b : List Int) (hab : a.length = b.length) (hl : a.length ≤ 9223372036854775806) : ∀ (r s pre qre : List Int), a = pre ++ r → b = qre ++ s → pre.length = qre.length →
    Ev (fun k => laws_eqIntS.l0 k a b (pre.length : Int)) (decide (r = s)) := by
  intro r
  induction r with
  | nil =>
    intro s pre qre h h' hp
    have e := lens h
    have e' := lens h'
    simp only [List.length_nil] at e
    have hs : s = [] := List.eq_nil_of_length_eq_zero (by omega)
    refine Ev.step (f := fun _ => some _) (fun k => ?_) (Ev.now _)
    simp only [laws_eqIntS.l0]
    rw [if_neg (by omega), hs]
    simp
  | cons x r ih =>
    intro s pre qre h h' hp
    have e := lens h
    have e' := lens h'
    simp only [List.length_cons] at e
    cases s with
    | nil => simp only [List.length_nil] at e'; omega
    | cons y s =>
      have hy := rd_mid' h'
      rw [← hp] at hy
      by_cases c : x = y
      · subst c
        have hi := ih s (pre ++ [x]) (qre ++ [x]) (snoc_eq h) (snoc_eq h') (by simp [hp])
        have ed : decide (x :: r = x :: s) = decide (r = s) := by simp
        rw [ed]
        refine Ev.step (fun k => ?_) hi
        simp only [laws_eqIntS.l0]
        rw [if_pos (by omega), if_pos (by omega), if_pos (by omega), rd_mid' h, hy, if_pos rfl, snoc_len x (by omega)]
      · refine Ev.step (f := fun _ => some _) (fun k => ?_) (Ev.now _)
        simp only [laws_eqIntS.l0]
        rw [if_pos (by omega), if_pos (by omega), if_pos (by omega), rd_mid' h, hy, if_neg c]
        simp [c]
theorem laws_eqIntS_ev (a b : List Int) (hl : a.length ≤ 9223372036854775806) : Ev (fun k => laws_eqIntS.f k a b) (decide (a = b)) := by
  unfold laws_eqIntS.f
  by_cases h : (a.length : Int) = (b.length : Int)
  · simp only [if_pos h]
    exact laws_eqIntS_loop a b (by omega) hl a b [] [] rfl rfl rfl
  · simp only [if_neg h]
    exact ev_some fun _ => by rw [decide_eq_false (fun e => h (by rw [e]))]

/-- What every law of one list does: it hands a copy to the reference and one to the program, compares, and looks at the copy. -/
theorem ev_ite_true {α : Type} {f g : Nat → Option α} {r : α} {c : Prop} [Decidable c] (h : c) (k : Ev f r) : Ev (fun n => if c then f n else g n) r := by simpa only [if_pos h] using k
theorem ev_ite_false {α : Type} {f g : Nat → Option α} {r : α} {c : Prop} [Decidable c] (h : ¬ c) (k : Ev g r) : Ev (fun n => if c then f n else g n) r := by simpa only [if_neg h] using k

/-! ### permutations -/
def pokFrom (n : Nat) : List Int → List Int → Bool
  | _, [] => true
  | seen, x :: r => decide (0 ≤ x ∧ x < n) && (!decide (x ∈ seen) && pokFrom n (seen ++ [x]) r)
/-- A list of whole numbers is a permutation of at most 12 positions. -/
def permOk (a : List Int) : Bool := pokFrom a.length [] a && decide (a.length ≤ 12)
theorem pokFrom_iff (n : Nat) (r : List Int) : ∀ seen, pokFrom n seen r = true ↔ (∀ x ∈ r, 0 ≤ x ∧ x < n) ∧ r.Nodup ∧ (∀ x ∈ r, x ∉ seen) := by
  induction r with
  | nil => intro seen; simp [pokFrom]
  | cons x r ih =>
    intro seen
    simp only [pokFrom, Bool.and_eq_true, decide_eq_true_eq, Bool.not_eq_true', decide_eq_false_iff_not, ih, List.mem_cons, forall_eq_or_imp, List.nodup_cons, List.mem_append, List.not_mem_nil, or_false, not_or]
    constructor
    · rintro ⟨h1, h2, h3, h4, h5⟩
      exact ⟨⟨h1, h3⟩, ⟨fun hx => (h5 x hx).2 rfl, h4⟩, h2, fun y hy => (h5 y hy).1⟩
    · rintro ⟨⟨h1, h3⟩, ⟨h6, h4⟩, h2, h5⟩
      exact ⟨h1, h2, h3, h4, fun y hy => ⟨h5 y hy, fun e => h6 (e ▸ hy)⟩⟩
theorem permOk_iff (a : List Int) : permOk a = true ↔ (∀ x ∈ a, 0 ≤ x ∧ x < a.length) ∧ a.Nodup ∧ a.length ≤ 12 := by
  simp only [permOk, Bool.and_eq_true, pokFrom_iff, decide_eq_true_eq]
  simp [and_assoc]

/-- The list of a's entries at b's entries. -/
def compose (a b : List Int) : List Int := b.map fun x => rd a x
theorem compose_length (a b : List Int) : (compose a b).length = b.length := by simp [compose]

/-- b with a put behind it k times. -/
def powFrom (a : List Int) : Nat → List Int → List Int
  | 0, b => b
  | k + 1, b => powFrom a k (compose b a)
def powerPerm (a : List Int) (k : Int) : List Int × Bool := if permOk a = true ∧ 0 ≤ k ∧ k ≤ 1000 then (powFrom a k.toNat (upFrom 0 a.length), true) else ([], false)
theorem powFrom_length (a : List Int) (k : Nat) : ∀ b, b.length = a.length → (powFrom a k b).length = a.length := by
  induction k with
  | zero => intro b h; exact h
  | succ k ih => intro b h; rw [powFrom]; exact ih _ (by simp [compose])
theorem powerPerm_length (a : List Int) (k : Int) : (powerPerm a k).1.length ≤ 12 := by
  unfold powerPerm
  by_cases h : permOk a = true ∧ 0 ≤ k ∧ k ≤ 1000
  · rw [if_pos h, powFrom_length a _ _ (upFrom_length _ _)]; exact ((permOk_iff a).1 h.1).2.2
  · rw [if_neg h]; simp

def invFrom : List Int → Int → List Int → List Int
  | m, _, [] => m
  | m, i, x :: r => invFrom (m.set x.toNat i) (i + 1) r
/-- The inverse of a permutation. -/
def inverse (a : List Int) : List Int := invFrom (List.replicate a.length 0) 0 a
theorem invFrom_length (r : List Int) : ∀ m i, (invFrom m i r).length = m.length := by
  induction r with
  | nil => intro m i; rfl
  | cons x r ih => intro m i; simp [invFrom, ih]
theorem inverse_length (a : List Int) : (inverse a).length = a.length := by simp [inverse, invFrom_length]
theorem rd_set_ne {m : List Int} {x y i : Int} (hx : 0 ≤ x) (hy : 0 ≤ y) (h : x ≠ y) : rd (m.set x.toNat i) y = rd m y := by
  have : x.toNat ≠ y.toNat := by omega
  simp [rd, List.getElem?_set, this]
theorem rd_set_eq {m : List Int} {x i : Int} (hx : 0 ≤ x) (h : x < m.length) : rd (m.set x.toNat i) x = i := by
  have : x.toNat < m.length := by omega
  simp [rd, List.getElem?_set, this]
theorem invFrom_keep (r : List Int) : ∀ (m : List Int) (i y : Int), 0 ≤ y → y ∉ r → (∀ x ∈ r, 0 ≤ x) → rd (invFrom m i r) y = rd m y := by
  induction r with
  | nil => intro m i y _ _ _; rfl
  | cons x r ih =>
    intro m i y hy hn hp
    simp only [List.mem_cons, not_or] at hn
    have hx := hp x (by simp)
    rw [invFrom, ih _ _ y hy hn.2 (fun z hz => hp z (by simp [hz])), rd_set_ne hx hy (fun e => hn.1 e.symm)]
theorem invFrom_get (r : List Int) : ∀ (m : List Int) (i : Int), (∀ x ∈ r, 0 ≤ x ∧ x < m.length) → r.Nodup → ∀ (j : Nat) (h : j < r.length), rd (invFrom m i r) (r[j]) = i + j := by
  induction r with
  | nil => intro m i _ _ j h; simp at h
  | cons x r ih =>
    intro m i hp hn j h
    simp only [List.nodup_cons] at hn
    have hx := hp x (by simp)
    cases j with
    | zero =>
      simp only [List.getElem_cons_zero]
      rw [invFrom, invFrom_keep r _ _ x hx.1 hn.1 (fun z hz => (hp z (by simp [hz])).1), rd_set_eq hx.1 hx.2]
      simp
    | succ j =>
      simp only [List.getElem_cons_succ]
      rw [invFrom, ih _ _ (fun z hz => by rw [List.length_set]; exact hp z (by simp [hz])) hn.2 j (by simpa using h)]
      omega
theorem inverse_get {a : List Int} (hp : ∀ x ∈ a, 0 ≤ x ∧ x < a.length) (hn : a.Nodup) (j : Nat) (h : j < a.length) : rd (inverse a) (a[j]) = j := by
  unfold inverse
  rw [invFrom_get a _ 0 (fun x hx => by simpa using hp x hx) hn j h]
  omega

theorem nodup_le (l : List Int) : ∀ m : List Int, l.Nodup → (∀ x ∈ l, x ∈ m) → l.length ≤ m.length := by
  induction l with
  | nil => intro m _ _; simp
  | cons x l ih =>
    intro m hn hs
    simp only [List.nodup_cons] at hn
    have hx : x ∈ m := hs x (by simp)
    have h := ih (m.erase x) hn.2 (fun y hy => (List.mem_erase_of_ne (fun e => hn.1 (by rw [← e]; exact hy))).2 (hs y (by simp [hy])))
    rw [List.length_erase_of_mem hx] at h
    have := List.length_pos_of_mem hx
    simp only [List.length_cons]
    omega
theorem perm_surj {a : List Int} (hp : ∀ x ∈ a, 0 ≤ x ∧ x < a.length) (hn : a.Nodup) (v : Int) (h0 : 0 ≤ v) (h1 : v < a.length) : v ∈ a := by
  apply Decidable.byContradiction
  intro hv
  have h := nodup_le (v :: a) (upFrom 0 a.length) (by simp [hv, hn]) (fun y hy => by
    rw [upFrom_mem]
    rcases List.mem_cons.1 hy with rfl | hy
    · omega
    · have := hp y hy; omega)
  rw [upFrom_length] at h
  simp only [List.length_cons] at h
  omega
/-- Where a value of a permutation stands. -/
theorem perm_at {a : List Int} (hp : ∀ x ∈ a, 0 ≤ x ∧ x < a.length) (hn : a.Nodup) (v : Int) (h0 : 0 ≤ v) (h1 : v < a.length) : ∃ j : Nat, ∃ h : j < a.length, a[j] = v ∧ rd (inverse a) v = j := by
  obtain ⟨j, h, e⟩ := List.getElem_of_mem (perm_surj hp hn v h0 h1)
  exact ⟨j, h, e, by rw [← e]; exact inverse_get hp hn j h⟩

/-- The first power of a, from x at count i on, that is the identity; at most d more steps. -/
def ordFrom (a : List Int) : Nat → List Int → Nat → Int
  | 0, _, i => i
  | d + 1, x, i => if x = upFrom 0 a.length then i else ordFrom a d (compose x a) (i + 1)
def orderOf (m : Nat) (a : List Int) : Int := if permOk a = true then ordFrom a m a 1 else 0
def code : List Int → Nat
  | [] => 0
  | x :: r => x.toNat + 12 * code r
theorem code_lt (l : List Int) (h : ∀ x ∈ l, 0 ≤ x ∧ x < 12) : code l < 12 ^ l.length := by
  induction l with
  | nil => simp [code]
  | cons x r ih =>
    have h1 := ih (fun y hy => h y (by simp [hy]))
    have h2 := h x (by simp)
    simp only [code, List.length_cons, Nat.pow_succ]
    omega
theorem code_inj : ∀ (l m : List Int), l.length = m.length → (∀ x ∈ l, 0 ≤ x ∧ x < 12) → (∀ x ∈ m, 0 ≤ x ∧ x < 12) → code l = code m → l = m := by
  intro l
  induction l with
  | nil => intro m h _ _ _; cases m with
    | nil => rfl
    | cons => simp at h
  | cons x r ih =>
    intro m h hl hm e
    cases m with
    | nil => simp at h
    | cons y s =>
      have hx := hl x (by simp)
      have hy := hm y (by simp)
      simp only [code] at e
      have e1 : x = y := by omega
      have e2 : code r = code s := by omega
      rw [e1, ih s (by simpa using h) (fun z hz => hl z (by simp [hz])) (fun z hz => hm z (by simp [hz])) e2]
theorem pigeon (N : Nat) (f : Nat → Nat) (h : ∀ i, i ≤ N → f i < N) : ∃ i j, i < j ∧ j ≤ N ∧ f i = f j := by
  apply Classical.byContradiction
  intro hn
  have hd : ((List.range (N + 1)).map fun i => (f i : Int)).Nodup := by
    unfold List.Nodup
    rw [List.pairwise_map]
    refine List.Pairwise.imp_of_mem ?_ (List.pairwise_lt_range (n := N + 1))
    intro i j hi hj hij e
    rw [List.mem_range] at hi hj
    exact hn ⟨i, j, hij, by omega, by omega⟩
  have := nodup_le _ (upFrom 0 N) hd (fun y hy => by
    obtain ⟨i, hi, rfl⟩ := List.mem_map.1 hy
    rw [List.mem_range] at hi
    rw [upFrom_mem]
    have := h i (by omega)
    omega)
  rw [upFrom_length, List.length_map, List.length_range] at this
  omega
theorem powFrom_succ (a : List Int) (k : Nat) : ∀ b, powFrom a (k + 1) b = compose (powFrom a k b) a := by
  induction k with
  | zero => intro b; rfl
  | succ k ih => intro b; rw [powFrom, ih]; rfl
theorem compose_cancel {a x y : List Int} (hp : ∀ z ∈ a, 0 ≤ z ∧ z < a.length) (hn : a.Nodup) (hx : x.length = a.length) (hy : y.length = a.length) (e : compose x a = compose y a) : x = y := by
  apply List.ext_getElem (by omega)
  intro i h1 h2
  obtain ⟨j, hj, ej, -⟩ := perm_at hp hn (i : Int) (by omega) (by omega)
  have := congrArg (fun l : List Int => l[j]?) e
  simp only [compose, List.getElem?_map, List.getElem?_eq_getElem hj, Option.map_some, Option.some.injEq, ej] at this
  rw [rd_lt h1, rd_lt h2] at this
  exact this
theorem compose_range {a x : List Int} (hp : ∀ z ∈ a, 0 ≤ z ∧ z < a.length) (hx : x.length = a.length) (hr : ∀ z ∈ x, 0 ≤ z ∧ z < a.length) : ∀ z ∈ compose x a, 0 ≤ z ∧ z < a.length := by
  intro z hz
  obtain ⟨v, hv, rfl⟩ := List.mem_map.1 hz
  have h := hp v hv
  have e : rd x v = x[v.toNat]'(by omega) := by
    have := rd_lt (xs := x) (i := v.toNat) (by omega)
    rw [Int.toNat_of_nonneg h.1] at this
    exact this
  rw [e]
  exact hr _ (List.getElem_mem _)
theorem powFrom_range {a : List Int} (hp : ∀ z ∈ a, 0 ≤ z ∧ z < a.length) (k : Nat) : ∀ b : List Int, b.length = a.length → (∀ z ∈ b, 0 ≤ z ∧ z < a.length) → ∀ z ∈ powFrom a k b, 0 ≤ z ∧ z < a.length := by
  induction k with
  | zero => intro b hb hr; exact hr
  | succ k ih => intro b hb hr; exact ih _ (by simp [compose]) (compose_range hp hb hr)
theorem compose_id_left {a : List Int} (hp : ∀ z ∈ a, 0 ≤ z ∧ z < a.length) : compose (upFrom 0 a.length) a = a := by
  apply List.ext_getElem (by simp [compose])
  intro i h1 h2
  have h := hp a[i] (List.getElem_mem _)
  simp only [compose, List.getElem_map]
  have hl := upFrom_length a.length 0
  have := rd_lt (xs := upFrom 0 a.length) (i := a[i].toNat) (by omega)
  rw [upFrom_get, Int.toNat_of_nonneg h.1] at this
  rw [this]
  omega
/-- Some power of a permutation of at most twelve positions is the identity. -/
theorem order_exists (a : List Int) : ∃ m : Nat, m ≤ 4611686018427387903 ∧ (permOk a = true → powFrom a m a = upFrom 0 a.length) := by
  by_cases h1 : permOk a = true
  · obtain ⟨p1, p2, p3⟩ := (permOk_iff a).1 h1
    have hid : ∀ z ∈ upFrom 0 a.length, 0 ≤ z ∧ z < a.length := fun z hz => by rw [upFrom_mem] at hz; omega
    have hr := fun k => powFrom_range p1 k (upFrom 0 a.length) (upFrom_length _ _) hid
    have hl := fun k => powFrom_length a k (upFrom 0 a.length) (upFrom_length _ _)
    have h12 : ∀ k, ∀ z ∈ powFrom a k (upFrom 0 a.length), 0 ≤ z ∧ z < 12 := fun k z hz => by have := hr k z hz; omega
    obtain ⟨i, j, hij, hj, e⟩ := pigeon (12 ^ 12) (fun k => code (powFrom a k (upFrom 0 a.length))) (fun k _ => by
      refine Nat.lt_of_lt_of_le (code_lt _ (h12 k)) ?_
      rw [hl]
      exact Nat.pow_le_pow_right (by omega) p3)
    have e2 := code_inj _ _ (by rw [hl, hl]) (h12 i) (h12 j) e
    have key : ∀ i d : Nat, powFrom a i (upFrom 0 a.length) = powFrom a (i + d) (upFrom 0 a.length) → powFrom a d (upFrom 0 a.length) = upFrom 0 a.length := by
      intro i
      induction i with
      | zero => intro d h; rw [Nat.zero_add] at h; exact h.symm
      | succ i ih =>
        intro d h
        rw [show i + 1 + d = (i + d) + 1 by omega, powFrom_succ, powFrom_succ] at h
        exact ih d (compose_cancel p1 p2 (hl _) (hl _) h)
    have e3 := key i (j - i) (by rw [show i + (j - i) = j by omega]; exact e2)
    have hN : (12 : Nat) ^ 12 = 8916100448256 := by decide
    refine ⟨j - i - 1, by omega, fun _ => ?_⟩
    rw [show j - i = (j - i - 1) + 1 by omega, powFrom, compose_id_left p1] at e3
    exact e3
  · exact ⟨0, by omega, fun h => absurd h h1⟩

theorem spec_l02Has_loop (l : List Int) (v : Int) (hl : l.length ≤ 9223372036854775806) : ∀ (r pre : List Int), l = pre ++ r →
    Ev (fun k => spec_l02Has.l0 k v l (l.length : Int) (pre.length : Int)) (decide (v ∈ r)) := by
  intro r
  induction r with
  | nil =>
    intro pre h
    have e := lens h
    simp only [List.length_nil] at e
    refine Ev.step (f := fun _ => some _) (fun k => ?_) (Ev.now _)
    simp only [spec_l02Has.l0]
    rw [if_neg (by omega)]
    simp
  | cons x r ih =>
    intro pre h
    have e := lens h
    simp only [List.length_cons] at e
    by_cases c : x = v
    · refine Ev.step (f := fun _ => some _) (fun k => ?_) (Ev.now _)
      simp only [spec_l02Has.l0]
      rw [if_pos (by omega), if_pos (by omega), if_pos (by omega), rd_mid' h, if_pos c]
      simp [c]
    · have hi := ih (pre ++ [x]) (snoc_eq h)
      have ed : decide (v ∈ x :: r) = decide (v ∈ r) := by simp [show ¬ v = x from fun q => c q.symm]
      rw [ed]
      refine Ev.step (fun k => ?_) hi
      simp only [spec_l02Has.l0]
      rw [if_pos (by omega), if_pos (by omega), if_pos (by omega), rd_mid' h, if_neg c, snoc_len x (by omega)]
theorem spec_l02Has_ev (l : List Int) (v : Int) (hl : l.length ≤ 9223372036854775806) : Ev (fun k => spec_l02Has.f k l v) (decide (v ∈ l)) := by
  unfold spec_l02Has.f
  exact spec_l02Has_loop l v hl l [] rfl

theorem spec_l01In_eq (a b c : Int) : spec_l01In.f a b c = some (decide (b ≤ a ∧ a ≤ c)) := by
  unfold spec_l01In.f
  by_cases h : a ≥ b
  · rw [if_pos h]; simp; omega
  · rw [if_neg h]; simp; omega

theorem spec_PermOk_loop (a : List Int) (ha : a.length ≤ 9223372036854775806) : ∀ (r pre : List Int), a = pre ++ r →
    Ev (fun k => spec_PermOk.l0 k a a (a.length : Int) (pre.length : Int)) (pokFrom a.length pre r) := by
  intro r
  induction r with
  | nil =>
    intro pre h
    have e := lens h
    simp only [List.length_nil] at e
    refine Ev.step (f := fun _ => some _) (fun k => ?_) (Ev.now _)
    simp only [spec_PermOk.l0, pokFrom]
    rw [if_neg (by omega)]
  | cons x r ih =>
    intro pre h
    have e := lens h
    simp only [List.length_cons] at e
    have ht : a.take ((pre.length : Int).toNat) = pre := by rw [h]; simp
    have hw : wrap64 ((a.length : Int) - 1) = (a.length : Int) - 1 := w64 (by omega) (by omega)
    by_cases c0 : 0 ≤ x ∧ x < a.length
    · refine Ev.step (f := fun k => (spec_l02Has.f k pre x).bind fun t => if t = true then some false else spec_PermOk.l0 k a a (a.length : Int) ((pre ++ [x]).length : Int)) (fun k => ?_) ?_
      · simp only [spec_PermOk.l0]
        rw [if_pos (by omega), if_pos (by omega), if_pos (by omega), rd_mid' h, hw, spec_l01In_eq]
        simp only [Option.bind_some, decide_eq_true_eq]
        rw [if_pos (by omega), if_pos (by omega), ht, snoc_len x (by omega)]
      · refine Ev.bind (spec_l02Has_ev pre x (by omega)) ?_
        by_cases c2 : x ∈ pre
        · have ep : pokFrom a.length pre (x :: r) = false := by simp only [pokFrom]; simp [c2]
          rw [ep]
          exact ev_some fun _ => by simp [c2]
        · have ep : pokFrom a.length pre (x :: r) = pokFrom a.length (pre ++ [x]) r := by simp only [pokFrom]; rw [decide_eq_true c0]; simp [c2]
          rw [ep]
          simp only [c2, decide_false, Bool.false_eq_true, if_false]
          exact ih (pre ++ [x]) (snoc_eq h)
    · have ep : pokFrom a.length pre (x :: r) = false := by simp only [pokFrom]; rw [decide_eq_false c0]; rfl
      rw [ep]
      refine Ev.step (f := fun _ => some _) (fun k => ?_) (Ev.now _)
      simp only [spec_PermOk.l0]
      rw [if_pos (by omega), if_pos (by omega), if_pos (by omega), rd_mid' h, hw, spec_l01In_eq]
      simp only [Option.bind_some, decide_eq_true_eq]
      rw [if_neg (by omega)]
theorem spec_PermOk_ev (a : List Int) (ha : a.length ≤ 9223372036854775806) : Ev (fun k => spec_PermOk.f k a) (permOk a) := by
  unfold spec_PermOk.f permOk
  by_cases h : (a.length : Int) > 12
  · simp only [if_pos h]
    rw [decide_eq_false (show ¬ a.length ≤ 12 by omega), Bool.and_false]
    exact Ev.now _
  · simp only [if_neg h]
    rw [decide_eq_true (show a.length ≤ 12 by omega), Bool.and_true]
    exact spec_PermOk_loop a ha a [] rfl

theorem spec_l03Join_loop (a b : List Int) (hb : b.length ≤ 17592186044415) (hr : ∀ x ∈ b, 0 ≤ x ∧ x < a.length) : ∀ (r pre : List Int), b = pre ++ r →
    Ev (fun k => spec_l03Join.l0 k a (compose a pre) b (b.length : Int) (pre.length : Int)) (compose a b) := by
  intro r
  induction r with
  | nil =>
    intro pre h
    have e := lens h
    simp only [List.length_nil] at e
    refine Ev.step (f := fun _ => some _) (fun k => ?_) (Ev.now _)
    simp only [spec_l03Join.l0]
    rw [if_neg (by omega)]
    simp [h]
  | cons x r ih =>
    intro pre h
    have e := lens h
    simp only [List.length_cons] at e
    have hx := hr x (by rw [h]; simp)
    refine Ev.step (fun k => ?_) (ih (pre ++ [x]) (snoc_eq h))
    simp only [spec_l03Join.l0]
    rw [if_pos (by omega), if_pos (by omega), if_pos (by omega), rd_mid' h, if_pos hx.1, if_pos hx.2, if_pos (by rw [compose_length]; omega), snoc_len x (by omega)]
    simp [compose]
theorem spec_l03Join_ev (a b : List Int) (hb : b.length ≤ 17592186044415) (hr : ∀ x ∈ b, 0 ≤ x ∧ x < a.length) : Ev (fun k => spec_l03Join.f k a b) (compose a b) := by
  unfold spec_l03Join.f
  exact spec_l03Join_loop a b hb hr b [] rfl

theorem spec_SamePacket_loop (a b : List Int) (hab : a.length = b.length) (hl : a.length ≤ 9223372036854775806) : ∀ (r s pre qre : List Int), a = pre ++ r → b = qre ++ s → pre.length = qre.length →
    Ev (fun k => spec_SamePacket.l0 k b a (a.length : Int) (pre.length : Int)) (decide (r = s)) := by
  intro r
  induction r with
  | nil =>
    intro s pre qre h h' hp
    have e := lens h
    have e' := lens h'
    simp only [List.length_nil] at e
    have hs : s = [] := List.eq_nil_of_length_eq_zero (by omega)
    refine Ev.step (f := fun _ => some _) (fun k => ?_) (Ev.now _)
    simp only [spec_SamePacket.l0]
    rw [if_neg (by omega), hs]
    simp
  | cons x r ih =>
    intro s pre qre h h' hp
    have e := lens h
    have e' := lens h'
    simp only [List.length_cons] at e
    cases s with
    | nil => simp only [List.length_nil] at e'; omega
    | cons y s =>
      have hy := rd_mid' h'
      rw [← hp] at hy
      by_cases c : x = y
      · subst c
        have hi := ih s (pre ++ [x]) (qre ++ [x]) (snoc_eq h) (snoc_eq h') (by simp [hp])
        have ed : decide (x :: r = x :: s) = decide (r = s) := by simp
        rw [ed]
        refine Ev.step (fun k => ?_) hi
        simp only [spec_SamePacket.l0]
        rw [if_pos (by omega), if_pos (by omega), if_pos (by omega), if_pos (by omega), rd_mid' h, hy, if_pos rfl, snoc_len x (by omega)]
      · refine Ev.step (f := fun _ => some _) (fun k => ?_) (Ev.now _)
        simp only [spec_SamePacket.l0]
        rw [if_pos (by omega), if_pos (by omega), if_pos (by omega), if_pos (by omega), rd_mid' h, hy, if_neg c]
        simp [c]
theorem spec_SamePacket_ev (a b : List Int) (hl : a.length ≤ 9223372036854775806) : Ev (fun k => spec_SamePacket.f k a b) (decide (a = b)) := by
  unfold spec_SamePacket.f
  by_cases h : (a.length : Int) = (b.length : Int)
  · simp only [if_pos h]
    exact spec_SamePacket_loop a b (by omega) hl a b [] [] rfl rfl rfl
  · simp only [if_neg h]
    exact ev_some fun _ => by rw [decide_eq_false (fun e => h (by rw [e]))]

/-- The packet of n cards in order; empty where n is out of range. -/
def newPacket (n : Int) : List Int := if 0 ≤ n ∧ n ≤ 12 then upFrom 0 n.toNat else []

theorem spec_NewPacket_loop (n : Nat) (hn : n ≤ 17592186044415) : ∀ i, i ≤ n → Ev (fun k => spec_NewPacket.l0 k (n : Int) (upFrom 0 i) (i : Int)) (upFrom 0 n) := by
  refine up_ind n (fun i => Ev (fun k => spec_NewPacket.l0 k (n : Int) (upFrom 0 i) (i : Int)) (upFrom 0 n)) ?_ ?_
  · refine Ev.step (f := fun _ => some _) (fun k => ?_) (Ev.now _)
    simp only [spec_NewPacket.l0]
    rw [if_neg (by omega)]
  · intro i hi h
    refine Ev.step (fun k => ?_) h
    have hl := upFrom_length i 0
    simp only [spec_NewPacket.l0]
    rw [if_pos (by omega), if_pos (by omega), w64 (by omega) (by omega), upFrom_snoc]
    simp
theorem spec_NewPacket_ev (n : Int) : Ev (fun k => spec_NewPacket.f k n) (newPacket n) := by
  unfold spec_NewPacket.f newPacket
  simp only [spec_l01In_eq, Option.bind_some, decide_eq_true_eq]
  by_cases h : 0 ≤ n ∧ n ≤ 12
  · simp only [if_pos h]
    have := spec_NewPacket_loop n.toNat (by omega) 0 (by omega)
    rw [Int.toNat_of_nonneg h.1] at this
    exact this
  · simp only [if_neg h]
    exact Ev.now _
theorem newPacket_length (n : Int) : (newPacket n).length ≤ 12 := by
  unfold newPacket
  by_cases h : 0 ≤ n ∧ n ≤ 12
  · rw [if_pos h, upFrom_length]; omega
  · rw [if_neg h]; simp

theorem spec_OrderOfPerm_loop (a : List Int) (h1 : permOk a = true) : ∀ (m : Nat) (x : List Int) (i : Nat), x.length = a.length → powFrom a m x = upFrom 0 a.length → i + m ≤ 4611686018427387904 → Ev (fun k => spec_OrderOfPerm.l0 k a (upFrom 0 a.length) x (i : Int)) (ordFrom a m x i) := by
  obtain ⟨p1, p2, p3⟩ := (permOk_iff a).1 h1
  intro m
  induction m with
  | zero =>
    intro x i hx hm hb
    have e : x = upFrom 0 a.length := hm
    refine Ev.step (f := fun k => (spec_SamePacket.f k x (upFrom 0 a.length)).bind fun t143 => if t143 = true then some (i : Int) else (spec_l03Join.f k x a).bind fun t => spec_OrderOfPerm.l0 k a (upFrom 0 a.length) t (wrap64 ((i : Int) + 1))) (fun k => by simp only [spec_OrderOfPerm.l0]) ?_
    refine Ev.bind (spec_SamePacket_ev x (upFrom 0 a.length) (by omega)) ?_
    rw [ordFrom]
    exact ev_ite_true (decide_eq_true e) (Ev.now _)
  | succ m ih =>
    intro x i hx hm hb
    refine Ev.step (f := fun k => (spec_SamePacket.f k x (upFrom 0 a.length)).bind fun t143 => if t143 = true then some (i : Int) else (spec_l03Join.f k x a).bind fun t => spec_OrderOfPerm.l0 k a (upFrom 0 a.length) t (wrap64 ((i : Int) + 1))) (fun k => by simp only [spec_OrderOfPerm.l0]) ?_
    refine Ev.bind (spec_SamePacket_ev x (upFrom 0 a.length) (by omega)) ?_
    rw [ordFrom]
    by_cases e : x = upFrom 0 a.length
    · rw [if_pos e]
      exact ev_ite_true (decide_eq_true e) (Ev.now _)
    · rw [if_neg e]
      refine ev_ite_false (by simp [e]) ?_
      have ew : wrap64 ((i : Int) + 1) = ((i + 1 : Nat) : Int) := by rw [w64 (by omega) (by omega)]; rfl
      rw [ew]
      exact Ev.bind (spec_l03Join_ev x a (by omega) (fun y hy => by have := p1 y hy; omega)) (ih _ (i + 1) (by simp [compose]) hm (by omega))
theorem spec_OrderOfPerm_ev (a : List Int) (ha : a.length ≤ 9223372036854775806) (m : Nat) (hm : permOk a = true → powFrom a m a = upFrom 0 a.length) (hb : m ≤ 4611686018427387903) : Ev (fun k => spec_OrderOfPerm.f k a) (orderOf m a) := by
  unfold spec_OrderOfPerm.f orderOf
  refine Ev.bind (spec_PermOk_ev a ha) ?_
  by_cases h1 : permOk a = true
  · obtain ⟨p1, p2, p3⟩ := (permOk_iff a).1 h1
    refine ev_ite_true h1 ?_
    rw [if_pos h1]
    refine Ev.bind (spec_NewPacket_ev _) ?_
    have hp : newPacket (a.length : Int) = upFrom 0 a.length := by unfold newPacket; rw [if_pos (by omega), Int.toNat_natCast]
    rw [hp]
    simp only [Option.bind_some, List.nil_append, List.length_nil, Nat.zero_add]
    refine ev_ite_true (by omega) ?_
    exact spec_OrderOfPerm_loop a h1 m a 1 rfl (hm h1) (by omega)
  · refine ev_ite_false h1 ?_
    rw [if_neg h1]
    exact Ev.now _

/-! ### slices.Index, slices.Contains -/
def findFrom (v : Int) : Int → List Int → Int
  | _, [] => -1
  | i, x :: r => if v = x then i else findFrom v (i + 1) r
theorem findFrom_nonneg (v : Int) (l : List Int) : ∀ i : Int, 0 ≤ i → (0 ≤ findFrom v i l ↔ v ∈ l) := by
  induction l with
  | nil => intro i hi; simp [findFrom]
  | cons x r ih =>
    intro i hi
    simp only [findFrom, List.mem_cons]
    by_cases c : v = x
    · rw [if_pos c]; simp [c, hi]
    · rw [if_neg c, ih (i + 1) (by omega)]; simp [c]
theorem slices_Index_loop (l : List Int) (v : Int) (hl : l.length ≤ 9223372036854775806) : ∀ (r pre : List Int), l = pre ++ r →
    Ev (fun k => slices_Index_int_int.l0 k l v (l.length : Int) (pre.length : Int)) (findFrom v pre.length r) := by
  intro r
  induction r with
  | nil =>
    intro pre h
    refine Ev.step (f := fun _ => some _) (fun k => ?_) (Ev.now _)
    subst h
    simp only [slices_Index_int_int.l0, findFrom]
    rw [if_neg (by simp)]
  | cons x r ih =>
    intro pre h
    have hlen : l.length = pre.length + (r.length + 1) := by rw [h]; simp
    have hx := rd_mid' h
    have e : ((pre ++ [x]).length : Int) = (pre.length : Int) + 1 := by simp
    simp only [findFrom]
    by_cases c : v = x
    · rw [if_pos c]
      refine Ev.step (f := fun _ => some _) (fun k => ?_) (Ev.now _)
      simp only [slices_Index_int_int.l0]
      rw [if_pos (by omega), if_pos (by omega), if_pos (by omega), hx, if_pos c]
    · rw [if_neg c, ← e]
      refine Ev.step (fun k => ?_) (ih (pre ++ [x]) (snoc_eq h))
      simp only [slices_Index_int_int.l0]
      rw [if_pos (by omega), if_pos (by omega), if_pos (by omega), hx, if_neg c, snoc_len x (by omega)]
theorem slices_Contains_ev (l : List Int) (v : Int) (hl : l.length ≤ 9223372036854775806) : Ev (fun k => slices_Contains_int_int.f k l v) (decide (v ∈ l)) := by
  unfold slices_Contains_int_int.f slices_Index_int_int.f
  refine Ev.bind (slices_Index_loop l v hl l [] rfl) (ev_some fun _ => ?_)
  have := findFrom_nonneg v l 0 (by omega)
  simp only [List.length_nil, Int.ofNat_zero, Option.some.injEq, decide_eq_decide]
  exact this

theorem impl_PermOk_loop (a : List Int) (ha : a.length ≤ 9223372036854775806) : ∀ (r pre : List Int), a = pre ++ r →
    Ev (fun k => impl_PermOk.l0 k a a (a.length : Int) (pre.length : Int)) (pokFrom a.length pre r && decide (a.length ≤ 12)) := by
  intro r
  induction r with
  | nil =>
    intro pre h
    refine Ev.step (f := fun _ => some _) (fun k => ?_) (Ev.now _)
    have hlen : a.length = pre.length := by rw [h]; simp
    simp only [impl_PermOk.l0, pokFrom, Bool.true_and]
    rw [if_neg (by omega)]
    simp; omega
  | cons x r ih =>
    intro pre h
    have hlen : a.length = pre.length + (r.length + 1) := by rw [h]; simp
    have hx := rd_mid' h
    have ht : a.take ((pre.length : Int).toNat) = pre := by rw [h]; simp
    by_cases c0 : x < 0
    · have e : pokFrom a.length pre (x :: r) = false := by simp only [pokFrom]; rw [decide_eq_false (by omega)]; rfl
      rw [e, Bool.false_and]
      refine Ev.step (f := fun _ => some _) (fun k => ?_) (Ev.now _)
      simp only [impl_PermOk.l0]
      rw [if_pos (by omega), if_pos (by omega), if_pos (by omega), hx, if_pos c0]
    by_cases c1 : x ≥ (a.length : Int)
    · have e : pokFrom a.length pre (x :: r) = false := by simp only [pokFrom]; rw [decide_eq_false (by omega)]; rfl
      rw [e, Bool.false_and]
      refine Ev.step (f := fun _ => some _) (fun k => ?_) (Ev.now _)
      simp only [impl_PermOk.l0]
      rw [if_pos (by omega), if_pos (by omega), if_pos (by omega), hx, if_neg c0, if_pos c1]
    refine Ev.step (f := fun k => (slices_Contains_int_int.f k pre x).bind fun t => if t = true then some false else impl_PermOk.l0 k a a (a.length : Int) ((pre ++ [x]).length : Int)) (fun k => ?_) ?_
    · simp only [impl_PermOk.l0]
      rw [if_pos (by omega), if_pos (by omega), if_pos (by omega), hx, if_neg c0, if_neg c1, if_pos (by omega), ht, snoc_len x (by omega)]
    · refine Ev.bind (slices_Contains_ev pre x (by omega)) ?_
      by_cases c2 : x ∈ pre
      · have e : pokFrom a.length pre (x :: r) = false := by simp only [pokFrom]; simp [c2]
        rw [e, Bool.false_and]
        exact ev_some fun _ => by simp [c2]
      · have e : pokFrom a.length pre (x :: r) = pokFrom a.length (pre ++ [x]) r := by simp only [pokFrom]; rw [decide_eq_true (by omega)]; simp [c2]
        rw [e]
        simp only [c2, decide_false, Bool.false_eq_true, if_false]
        exact ih (pre ++ [x]) (snoc_eq h)
theorem impl_PermOk_ev (a : List Int) (ha : a.length ≤ 9223372036854775806) : Ev (fun k => impl_PermOk.f k a) (permOk a) := by
  unfold impl_PermOk.f permOk
  exact impl_PermOk_loop a ha a [] rfl

theorem impl_composed_loop (a b : List Int) (hb : b.length ≤ 17592186044415) (hr : ∀ x ∈ b, 0 ≤ x ∧ x < a.length) : ∀ (r pre : List Int), b = pre ++ r →
    Ev (fun k => impl_composed.l0 k a (compose a pre) b (b.length : Int) (pre.length : Int)) (compose a b) := by
  intro r
  induction r with
  | nil =>
    intro pre h
    have e := lens h
    simp only [List.length_nil] at e
    refine Ev.step (f := fun _ => some _) (fun k => ?_) (Ev.now _)
    simp only [impl_composed.l0]
    rw [if_neg (by omega)]
    simp [h]
  | cons x r ih =>
    intro pre h
    have e := lens h
    simp only [List.length_cons] at e
    have hx := hr x (by rw [h]; simp)
    refine Ev.step (fun k => ?_) (ih (pre ++ [x]) (snoc_eq h))
    simp only [impl_composed.l0]
    rw [if_pos (by omega), if_pos (by omega), if_pos (by omega), rd_mid' h, if_pos hx.1, if_pos hx.2, if_pos (by rw [compose_length]; omega), snoc_len x (by omega)]
    simp [compose]
theorem impl_composed_ev (a b : List Int) (hb : b.length ≤ 17592186044415) (hr : ∀ x ∈ b, 0 ≤ x ∧ x < a.length) : Ev (fun k => impl_composed.f k a b) (compose a b) := by
  unfold impl_composed.f
  exact impl_composed_loop a b hb hr b [] rfl

theorem slices_Equal_int_int_loop (a b : List Int) (hab : a.length = b.length) (hl : a.length ≤ 9223372036854775806) : ∀ (r s pre qre : List Int), a = pre ++ r → b = qre ++ s → pre.length = qre.length →
    Ev (fun k => slices_Equal_int_int.l0 k a b (a.length : Int) (pre.length : Int)) (decide (r = s)) := by
  intro r
  induction r with
  | nil =>
    intro s pre qre h h' hp
    have e := lens h
    have e' := lens h'
    simp only [List.length_nil] at e
    have hs : s = [] := List.eq_nil_of_length_eq_zero (by omega)
    refine Ev.step (f := fun _ => some _) (fun k => ?_) (Ev.now _)
    simp only [slices_Equal_int_int.l0]
    rw [if_neg (by omega), hs]
    simp
  | cons x r ih =>
    intro s pre qre h h' hp
    have e := lens h
    have e' := lens h'
    simp only [List.length_cons] at e
    cases s with
    | nil => simp only [List.length_nil] at e'; omega
    | cons y s =>
      have hy := rd_mid' h'
      rw [← hp] at hy
      by_cases c : x = y
      · subst c
        have hi := ih s (pre ++ [x]) (qre ++ [x]) (snoc_eq h) (snoc_eq h') (by simp [hp])
        have ed : decide (x :: r = x :: s) = decide (r = s) := by simp
        rw [ed]
        refine Ev.step (fun k => ?_) hi
        simp only [slices_Equal_int_int.l0]
        rw [if_pos (by omega), if_pos (by omega), if_pos (by omega), if_pos (by omega), rd_mid' h, hy, if_pos rfl, snoc_len x (by omega)]
      · refine Ev.step (f := fun _ => some _) (fun k => ?_) (Ev.now _)
        simp only [slices_Equal_int_int.l0]
        rw [if_pos (by omega), if_pos (by omega), if_pos (by omega), if_pos (by omega), rd_mid' h, hy, if_neg c]
        simp [c]
theorem slices_Equal_int_int_ev (a b : List Int) (hl : a.length ≤ 9223372036854775806) : Ev (fun k => slices_Equal_int_int.f k a b) (decide (a = b)) := by
  unfold slices_Equal_int_int.f
  by_cases h : (a.length : Int) = (b.length : Int)
  · simp only [if_pos h]
    exact slices_Equal_int_int_loop a b (by omega) hl a b [] [] rfl rfl rfl
  · simp only [if_neg h]
    exact ev_some fun _ => by rw [decide_eq_false (fun e => h (by rw [e]))]

theorem impl_upTo_loop (n : Nat) (hn : n ≤ 17592186044415) : ∀ i, i ≤ n → Ev (fun k => impl_upTo.l0 k (n : Int) (upFrom 0 i) (i : Int)) (upFrom 0 n) := by
  refine up_ind n (fun i => Ev (fun k => impl_upTo.l0 k (n : Int) (upFrom 0 i) (i : Int)) (upFrom 0 n)) ?_ ?_
  · refine Ev.step (f := fun _ => some _) (fun k => ?_) (Ev.now _)
    simp only [impl_upTo.l0]
    rw [if_neg (by omega)]
  · intro i hi h
    refine Ev.step (fun k => ?_) h
    have hl := upFrom_length i 0
    simp only [impl_upTo.l0]
    rw [if_pos (by omega), if_pos (by omega), w64 (by omega) (by omega), upFrom_snoc]
    simp
theorem impl_upTo_ev (n : Nat) (hn : n ≤ 17592186044415) : Ev (fun k => impl_upTo.f k (n : Int)) (upFrom 0 n) := by
  unfold impl_upTo.f
  exact impl_upTo_loop n hn 0 (by omega)

theorem impl_OrderOfPerm_loop (a : List Int) (h1 : permOk a = true) : ∀ (m : Nat) (x : List Int) (i : Nat), x.length = a.length → powFrom a m x = upFrom 0 a.length → i + m ≤ 4611686018427387904 → Ev (fun k => impl_OrderOfPerm.l0 k a (i : Int) x) (ordFrom a m x i) := by
  obtain ⟨p1, p2, p3⟩ := (permOk_iff a).1 h1
  intro m
  induction m with
  | zero =>
    intro x i hx hm hb
    have e : x = upFrom 0 a.length := hm
    refine Ev.step (f := fun k => (impl_upTo.f k (a.length : Int)).bind fun t169 => (slices_Equal_int_int.f k x t169).bind fun t172 => if t172 = true then some (i : Int) else (impl_composed.f k x a).bind fun t => impl_OrderOfPerm.l0 k a (wrap64 ((i : Int) + 1)) t) (fun k => by simp only [impl_OrderOfPerm.l0]) ?_
    refine Ev.bind (impl_upTo_ev a.length (by omega)) (Ev.bind (slices_Equal_int_int_ev x (upFrom 0 a.length) (by omega)) ?_)
    rw [ordFrom]
    exact ev_ite_true (decide_eq_true e) (Ev.now _)
  | succ m ih =>
    intro x i hx hm hb
    refine Ev.step (f := fun k => (impl_upTo.f k (a.length : Int)).bind fun t169 => (slices_Equal_int_int.f k x t169).bind fun t172 => if t172 = true then some (i : Int) else (impl_composed.f k x a).bind fun t => impl_OrderOfPerm.l0 k a (wrap64 ((i : Int) + 1)) t) (fun k => by simp only [impl_OrderOfPerm.l0]) ?_
    refine Ev.bind (impl_upTo_ev a.length (by omega)) (Ev.bind (slices_Equal_int_int_ev x (upFrom 0 a.length) (by omega)) ?_)
    rw [ordFrom]
    by_cases e : x = upFrom 0 a.length
    · rw [if_pos e]
      exact ev_ite_true (decide_eq_true e) (Ev.now _)
    · rw [if_neg e]
      refine ev_ite_false (by simp [e]) ?_
      have ew : wrap64 ((i : Int) + 1) = ((i + 1 : Nat) : Int) := by rw [w64 (by omega) (by omega)]; rfl
      rw [ew]
      exact Ev.bind (impl_composed_ev x a (by omega) (fun y hy => by have := p1 y hy; omega)) (ih _ (i + 1) (by simp [compose]) hm (by omega))
theorem impl_OrderOfPerm_ev (a : List Int) (ha : a.length ≤ 9223372036854775806) (m : Nat) (hm : permOk a = true → powFrom a m a = upFrom 0 a.length) (hb : m ≤ 4611686018427387903) : Ev (fun k => impl_OrderOfPerm.f k a) (orderOf m a) := by
  unfold impl_OrderOfPerm.f orderOf
  refine Ev.bind (impl_PermOk_ev a ha) ?_
  by_cases h1 : permOk a = true
  · obtain ⟨p1, p2, p3⟩ := (permOk_iff a).1 h1
    refine ev_ite_true h1 ?_
    rw [if_pos h1]
    have e : slices_Clone_int_int.f a = some a := by unfold slices_Clone_int_int.f; rw [if_pos (by omega)]
    simp only [e, Option.bind_some]
    exact impl_OrderOfPerm_loop a h1 m a 1 rfl (hm h1) (by omega)
  · refine ev_ite_false h1 ?_
    rw [if_neg h1]
    exact Ev.now _

theorem FnExactOrderOfPerm : laws_FnExactOrderOfPerm.Pure := by
  intro a ha_ ha' wa
  unfold laws_FnExactOrderOfPerm.f
  by_cases ga : (a.length : Int) > 1048576
  · exact ⟨0, by rw [if_pos ga]⟩
  simp only [if_neg ga]
  have ta := laws_toIntS_ev a (by omega)
  obtain ⟨m, hb, hm⟩ := order_exists a
  refine Ev.rounds ?_
  refine Ev.bind ta (Ev.bind (spec_OrderOfPerm_ev a (by omega) m hm hb) (Ev.bind ta (Ev.bind (impl_OrderOfPerm_ev a (by omega) m hm hb) ?_)))
  simp only [if_true]
  refine Ev.bind ta (Ev.bind (laws_eqIntS_ev _ _ (by omega)) ?_)
  simp only [decide_true, if_true]
  exact Ev.now _

end Go.Proofs.Ytojbjofngpcjaaa.Pure
