/- A move rearranges the cards by its permutation, and only turns over the ones it states: for every code. No conditions. -/
import Derived.Test.YtojbjofngpcjaaaMFnMovesx0
import Derived.Test.YtojbjofngpcjaaaMFnMovesx1
import Derived.Test.YtojbjofngpcjaaaMFnMovesx2
import Derived.Test.YtojbjofngpcjaaaMFnMovesx3
import Derived.Test.YtojbjofngpcjaaaMFnMovesx4
import Derived.Test.YtojbjofngpcjaaaMFnMovesx5
import Derived.Test.YtojbjofngpcjaaaMFnMovesx6
import Derived.Test.YtojbjofngpcjaaaMFnMovesx7
import Derived.Test.YtojbjofngpcjaaaMFnMovesx8
import Derived.Test.YtojbjofngpcjaaaMFnMovesx9
import Derived.OpenShut
namespace Go.Proofs.Ytojbjofngpcjaaa.Pure
open Go.RowKit Go.Proofs.Ytojbjofngpcjaaa.MFnMoves Go.Proofs.YtojbjofngpcjaaaW.PrintWords Go.Proofs.YtojbjofngpcjaaaW.PrintLast
set_option linter.unusedVariables false
set_option linter.unusedSimpArgs false

/-! ### base: numbers, reads, loops -/
theorem w64 {a : Int} (h0 : -9223372036854775808 ≤ a) (h1 : a ≤ 9223372036854775807) : wrap64 a = a := by
  unfold wrap64
  omega
theorem w64n {n : Nat} (h : n ≤ 9223372036854775807) : wrap64 (n : Int) = n := w64 (by omega) (by omega)
theorem bd64 {n : Int} (h : (Lit.int .i64 n).wf = true) : -9223372036854775808 ≤ n ∧ n ≤ 9223372036854775807 := Go.bounds_i64 h
theorem rd_nat (xs : List Int) (i : Nat) : rd xs (i : Int) = xs.getD i 0 := by simp [rd]
theorem rd_lt {xs : List Int} {i : Nat} (h : i < xs.length) : rd xs (i : Int) = xs[i] := by simp [rd, h]
theorem bt_nat {s : ByteArray} {i : Nat} (h : i < s.size) : bt s (i : Int) = (s[i].toNat : Int) := by simp [bt, h]
/-- Going up to n: what holds at n holds from i on. -/
theorem up_ind (n : Nat) (P : Nat → Prop) (h0 : P n) (hs : ∀ i, i < n → P (i + 1) → P i) : ∀ i, i ≤ n → P i := by
  have h : ∀ d i, i + d = n → P i := by
    intro d
    induction d with
    | zero => intro i hi; obtain rfl : i = n := by omega
              exact h0
    | succ d ih => intro i hi; exact hs i (by omega) (ih (i + 1) (by omega))
  intro i hi
  exact h (n - i) i (by omega)
theorem ev_some {α : Type} {g : Nat → Option α} {r : α} (h : ∀ k, g k = some r) : Ev g r := ⟨0, fun k _ => h k⟩
theorem ev_pair {α β : Type} {g : Nat → Option α} {f : Nat → Option β} {a : α} {b : β} {h : α → β → Option Bool} (hg : Ev g a) (hf : Ev f b) (hh : h a b = some true) : ∃ k, ((g k).bind fun x => (f k).bind fun y => h x y) = some true :=
  Ev.rounds (Ev.bind hg (Ev.bind hf (ev_some fun _ => hh)))

/-- What every law of one list does: it hands a copy to the reference and one to the program, compares, and looks at the copy. -/
theorem ev_ite_true {α : Type} {f g : Nat → Option α} {r : α} {c : Prop} [Decidable c] (h : c) (k : Ev f r) : Ev (fun n => if c then f n else g n) r := by simpa only [if_pos h] using k
theorem ev_ite_false {α : Type} {f g : Nat → Option α} {r : α} {c : Prop} [Decidable c] (h : ¬ c) (k : Ev g r) : Ev (fun n => if c then f n else g n) r := by simpa only [if_neg h] using k

/-- The card of a cell, or -1. -/
def cardOf (x : Int) : Int := if 0 ≤ x then (if x ≤ 11 then x else -1) else (if -12 ≤ x then -1 - x else -1)

/-- A cell turned over. -/
def turnCard (x : Int) : Int := if cardOf x < 0 then x else -1 - x

theorem and255 (x : Int) : 0 ≤ Go.bits .and .i64 x 255 ∧ Go.bits .and .i64 x 255 ≤ 255 := by
  have h : (BitVec.ofInt 64 x &&& BitVec.ofInt 64 255).toNat ≤ 255 := by
    rw [BitVec.toNat_and]
    exact Nat.le_trans Nat.and_le_right (by decide)
  have e : Go.bits .and .i64 x 255 = (((BitVec.ofInt 64 x &&& BitVec.ofInt 64 255).toNat : Nat) : Int) := by
    have : Go.bits .and .i64 x 255 = IntKind.i64.wrap (((BitVec.ofInt 64 x &&& BitVec.ofInt 64 255).toNat : Nat) : Int) := rfl
    rw [this, i64_w, w64 (by omega) (by omega)]
  rw [e]
  omega
theorem byte_ok (s0 : List Int) (s1 s2 : Int) (hl : s0.length ≤ 1048576) (h : 0 ≤ s1) : ∃ b t1 t2, spec_l01Byte.f s0 s1 s2 = some (b, t1, t2) ∧ 0 ≤ b ∧ b ≤ 255 ∧ 0 ≤ t1 := by
  unfold spec_l01Byte.f
  by_cases c : s1 < (s0.length : Int)
  · rw [if_pos c, if_pos h]
    exact ⟨_, _, _, rfl, (and255 _).1, (and255 _).2, by rw [w64 (by omega) (by omega)]; omega⟩
  · rw [if_neg c]
    exact ⟨_, _, _, rfl, (and255 _).1, (and255 _).2, h⟩
theorem below_ok (s0 : List Int) (s1 s2 n : Int) (hl : s0.length ≤ 1048576) (h : 0 ≤ s1) (hn : 1 ≤ n) (hm : n ≤ 256) : ∃ b t1 t2, spec_l01Below.f s0 s1 s2 n = some (b, t1, t2) ∧ 0 ≤ b ∧ b < n ∧ 0 ≤ t1 := by
  unfold spec_l01Below.f
  obtain ⟨b, t1, t2, e, b0, b1, ht⟩ := byte_ok s0 s1 s2 hl h
  rw [if_neg (by omega), if_pos hm, e]
  simp only [Option.bind_some]
  rw [if_neg (by omega)]
  refine ⟨_, _, _, rfl, ?_, ?_, ht⟩
  · rw [Int.tmod_eq_emod_of_nonneg b0]; exact Int.emod_nonneg _ (by omega)
  · rw [Int.tmod_eq_emod_of_nonneg b0]; exact Int.emod_lt_of_pos _ (by omega)
theorem new_loop (l : List Int) (hl : l.length ≤ 1048576) : ∀ (d : Nat) (i : Nat) (x : Int), l.length ≤ i + d → i ≤ l.length → ∃ h, Ev (fun k => spec_l01New.l0 k l x (i : Int)) (l, 0, h) := by
  intro d
  induction d with
  | zero =>
    intro i x hi hj
    refine ⟨x, Ev.step (f := fun _ => some _) (fun k => ?_) (Ev.now _)⟩
    simp only [spec_l01New.l0]
    rw [if_neg (by omega)]
  | succ d ih =>
    intro i x hi hj
    by_cases c : i < l.length
    · by_cases c2 : (i : Int) < 4000
      · obtain ⟨h, hh⟩ := ih (i + 1) (Go.bits .and .i64 (wrap64 ((wrap64 ((wrap64 (x * 101)) + (wrap64 (rd l i)))) + 7)) 1073741823) (by omega) (by omega)
        refine ⟨h, Ev.step (fun k => ?_) hh⟩
        simp only [spec_l01New.l0]
        rw [if_pos (by omega), if_pos c2, if_pos (by omega), w64 (a := (i : Int) + 1) (by omega) (by omega)]
        rfl
      · refine ⟨x, Ev.step (f := fun _ => some _) (fun k => ?_) (Ev.now _)⟩
        simp only [spec_l01New.l0]
        rw [if_pos (by omega), if_neg c2]
    · refine ⟨x, Ev.step (f := fun _ => some _) (fun k => ?_) (Ev.now _)⟩
      simp only [spec_l01New.l0]
      rw [if_neg (by omega)]
theorem new_ok (l : List Int) (hl : l.length ≤ 1048576) : ∃ h, Ev (fun k => spec_l01New.f k l) (l, 0, h) := new_loop l hl l.length 0 _ (by omega) (by omega)

theorem l23_loop (l : List Int) (hl : l.length ≤ 1048576) (n : Nat) (hn : n ≤ 1000) : ∀ (d i : Nat) (s1 s2 : Int), i + d = n → 0 ≤ s1 → ∃ t1 t2, 0 ≤ t1 ∧ Ev (fun k => spec_l23New.l0 k (n : Int) (i : Int) l s1 s2) (l, t1, t2) := by
  intro d
  induction d with
  | zero =>
    intro i s1 s2 hi h
    refine ⟨s1, s2, h, Ev.step (f := fun _ => some _) (fun k => ?_) (Ev.now _)⟩
    simp only [spec_l23New.l0]
    rw [if_neg (by omega)]
  | succ d ih =>
    intro i s1 s2 hi h
    obtain ⟨b, u1, u2, e, b0, b1, hu⟩ := byte_ok l s1 s2 hl h
    obtain ⟨t1, t2, ht, hE⟩ := ih (i + 1) u1 u2 (by omega) hu
    refine ⟨t1, t2, ht, Ev.step (fun k => ?_) hE⟩
    simp only [spec_l23New.l0]
    rw [if_pos (by omega), e, w64 (by omega) (by omega)]
    rfl
theorem l23_ok (l : List Int) (hl : l.length ≤ 1048576) (n : Nat) (hn : n ≤ 1000) : ∃ t1 t2, 0 ≤ t1 ∧ Ev (fun k => spec_l23New.f k l (n : Int)) (l, t1, t2) := by
  obtain ⟨h, hh⟩ := new_ok l hl
  obtain ⟨t1, t2, ht, hE⟩ := l23_loop l hl n hn n 0 0 h (by omega) (by omega)
  exact ⟨t1, t2, ht, by unfold spec_l23New.f; exact Ev.bind hh hE⟩

/-! ### lists -/
theorem rd_mid (pre : List Int) (x : Int) (r : List Int) : rd (pre ++ x :: r) (pre.length : Int) = x := by simp [rd]
theorem rd_mid' {l pre : List Int} {x : Int} {r : List Int} (h : l = pre ++ x :: r) : rd l (pre.length : Int) = x := by subst h; exact rd_mid _ _ _
theorem snoc_eq {l pre : List Int} {x : Int} {r : List Int} (h : l = pre ++ x :: r) : l = (pre ++ [x]) ++ r := by simp [h]
theorem snoc_len {pre : List Int} (x : Int) (h : pre.length ≤ 9223372036854775806) : wrap64 ((pre.length : Int) + 1) = ((pre ++ [x]).length : Int) := by
  rw [w64 (by omega) (by omega)]; simp
/-- The whole numbers from m on, n of them. -/
def upFrom (m : Int) : Nat → List Int
  | 0 => []
  | n + 1 => m :: upFrom (m + 1) n
theorem upFrom_length (n : Nat) : ∀ m, (upFrom m n).length = n := by
  induction n with
  | zero => intro m; rfl
  | succ n ih => intro m; simp [upFrom, ih]
theorem upFrom_get (n : Nat) : ∀ (m : Int) (i : Nat) (h : i < (upFrom m n).length), (upFrom m n)[i] = m + i := by
  induction n with
  | zero => intro m i h; simp [upFrom] at h
  | succ n ih =>
    intro m i h
    cases i with
    | zero => simp [upFrom]
    | succ i => simp only [upFrom, List.getElem_cons_succ]; rw [ih]; omega
theorem upFrom_snoc (n : Nat) : ∀ m, upFrom m (n + 1) = upFrom m n ++ [m + n] := by
  induction n with
  | zero => intro m; simp [upFrom]
  | succ n ih => intro m; rw [upFrom, ih]; simp [upFrom]; omega
theorem upFrom_mem (n : Nat) : ∀ (m x : Int), x ∈ upFrom m n ↔ m ≤ x ∧ x < m + n := by
  induction n with
  | zero => intro m x; simp only [upFrom, List.not_mem_nil, false_iff]; omega
  | succ n ih => intro m x; simp only [upFrom, List.mem_cons, ih]; omega
theorem upFrom_nodup (n : Nat) : ∀ m, (upFrom m n).Nodup := by
  induction n with
  | zero => intro m; simp [upFrom]
  | succ n ih => intro m; simp only [upFrom, List.nodup_cons, ih, and_true, upFrom_mem]; omega
theorem nodup_inj {l : List Int} (h : l.Nodup) (i j : Nat) (hi : i < l.length) (hj : j < l.length) (e : l[i] = l[j]) : i = j := by
  have hp := List.pairwise_iff_getElem.1 h
  rcases Nat.lt_trichotomy i j with c | c | c
  · exact absurd e (hp i j hi hj c)
  · exact c
  · exact absurd e.symm (hp j i hj hi c)
theorem set_mid (pre : List Int) (x y : Int) (r : List Int) : (pre ++ y :: r).set pre.length x = (pre ++ [x]) ++ r := by simp
theorem lens {l pre r : List Int} (h : l = pre ++ r) : l.length = pre.length + r.length := by rw [h]; simp
theorem snoc_cast (pre : List Int) (x : Int) : ((pre ++ [x]).length : Int) = (pre.length : Int) + 1 := by simp

/-! ### permutations -/
def pokFrom (n : Nat) : List Int → List Int → Bool
  | _, [] => true
  | seen, x :: r => decide (0 ≤ x ∧ x < n) && (!decide (x ∈ seen) && pokFrom n (seen ++ [x]) r)
/-- A list of whole numbers is a permutation of at most 12 positions. -/
def permOk (a : List Int) : Bool := pokFrom a.length [] a && decide (a.length ≤ 12)
theorem pokFrom_iff (n : Nat) (r : List Int) : ∀ seen, pokFrom n seen r = true ↔ (∀ x ∈ r, 0 ≤ x ∧ x < n) ∧ r.Nodup ∧ (∀ x ∈ r, x ∉ seen) := by
  induction r with
  | nil => intro seen; simp [pokFrom]
  | cons x r ih =>
    intro seen
    simp only [pokFrom, Bool.and_eq_true, decide_eq_true_eq, Bool.not_eq_true', decide_eq_false_iff_not, ih, List.mem_cons, forall_eq_or_imp, List.nodup_cons, List.mem_append, List.not_mem_nil, or_false, not_or]
    constructor
    · rintro ⟨h1, h2, h3, h4, h5⟩
      exact ⟨⟨h1, h3⟩, ⟨fun hx => (h5 x hx).2 rfl, h4⟩, h2, fun y hy => (h5 y hy).1⟩
    · rintro ⟨⟨h1, h3⟩, ⟨h6, h4⟩, h2, h5⟩
      exact ⟨h1, h2, h3, h4, fun y hy => ⟨h5 y hy, fun e => h6 (e ▸ hy)⟩⟩
theorem permOk_iff (a : List Int) : permOk a = true ↔ (∀ x ∈ a, 0 ≤ x ∧ x < a.length) ∧ a.Nodup ∧ a.length ≤ 12 := by
  simp only [permOk, Bool.and_eq_true, pokFrom_iff, decide_eq_true_eq]
  simp [and_assoc]

def invFrom : List Int → Int → List Int → List Int
  | m, _, [] => m
  | m, i, x :: r => invFrom (m.set x.toNat i) (i + 1) r
/-- The inverse of a permutation. -/
def inverse (a : List Int) : List Int := invFrom (List.replicate a.length 0) 0 a
theorem invFrom_length (r : List Int) : ∀ m i, (invFrom m i r).length = m.length := by
  induction r with
  | nil => intro m i; rfl
  | cons x r ih => intro m i; simp [invFrom, ih]
theorem inverse_length (a : List Int) : (inverse a).length = a.length := by simp [inverse, invFrom_length]
theorem rd_set_ne {m : List Int} {x y i : Int} (hx : 0 ≤ x) (hy : 0 ≤ y) (h : x ≠ y) : rd (m.set x.toNat i) y = rd m y := by
  have : x.toNat ≠ y.toNat := by omega
  simp [rd, List.getElem?_set, this]
theorem rd_set_eq {m : List Int} {x i : Int} (hx : 0 ≤ x) (h : x < m.length) : rd (m.set x.toNat i) x = i := by
  have : x.toNat < m.length := by omega
  simp [rd, List.getElem?_set, this]
theorem invFrom_keep (r : List Int) : ∀ (m : List Int) (i y : Int), 0 ≤ y → y ∉ r → (∀ x ∈ r, 0 ≤ x) → rd (invFrom m i r) y = rd m y := by
  induction r with
  | nil => intro m i y _ _ _; rfl
  | cons x r ih =>
    intro m i y hy hn hp
    simp only [List.mem_cons, not_or] at hn
    have hx := hp x (by simp)
    rw [invFrom, ih _ _ y hy hn.2 (fun z hz => hp z (by simp [hz])), rd_set_ne hx hy (fun e => hn.1 e.symm)]
theorem invFrom_get (r : List Int) : ∀ (m : List Int) (i : Int), (∀ x ∈ r, 0 ≤ x ∧ x < m.length) → r.Nodup → ∀ (j : Nat) (h : j < r.length), rd (invFrom m i r) (r[j]) = i + j := by
  induction r with
  | nil => intro m i _ _ j h; simp at h
  | cons x r ih =>
    intro m i hp hn j h
    simp only [List.nodup_cons] at hn
    have hx := hp x (by simp)
    cases j with
    | zero =>
      simp only [List.getElem_cons_zero]
      rw [invFrom, invFrom_keep r _ _ x hx.1 hn.1 (fun z hz => (hp z (by simp [hz])).1), rd_set_eq hx.1 hx.2]
      simp
    | succ j =>
      simp only [List.getElem_cons_succ]
      rw [invFrom, ih _ _ (fun z hz => by rw [List.length_set]; exact hp z (by simp [hz])) hn.2 j (by simpa using h)]
      omega
theorem inverse_get {a : List Int} (hp : ∀ x ∈ a, 0 ≤ x ∧ x < a.length) (hn : a.Nodup) (j : Nat) (h : j < a.length) : rd (inverse a) (a[j]) = j := by
  unfold inverse
  rw [invFrom_get a _ 0 (fun x hx => by simpa using hp x hx) hn j h]
  omega

theorem nodup_le (l : List Int) : ∀ m : List Int, l.Nodup → (∀ x ∈ l, x ∈ m) → l.length ≤ m.length := by
  induction l with
  | nil => intro m _ _; simp
  | cons x l ih =>
    intro m hn hs
    simp only [List.nodup_cons] at hn
    have hx : x ∈ m := hs x (by simp)
    have h := ih (m.erase x) hn.2 (fun y hy => (List.mem_erase_of_ne (fun e => hn.1 (by rw [← e]; exact hy))).2 (hs y (by simp [hy])))
    rw [List.length_erase_of_mem hx] at h
    have := List.length_pos_of_mem hx
    simp only [List.length_cons]
    omega
theorem perm_surj {a : List Int} (hp : ∀ x ∈ a, 0 ≤ x ∧ x < a.length) (hn : a.Nodup) (v : Int) (h0 : 0 ≤ v) (h1 : v < a.length) : v ∈ a := by
  apply Decidable.byContradiction
  intro hv
  have h := nodup_le (v :: a) (upFrom 0 a.length) (by simp [hv, hn]) (fun y hy => by
    rw [upFrom_mem]
    rcases List.mem_cons.1 hy with rfl | hy
    · omega
    · have := hp y hy; omega)
  rw [upFrom_length] at h
  simp only [List.length_cons] at h
  omega
/-- Where a value of a permutation stands. -/
theorem perm_at {a : List Int} (hp : ∀ x ∈ a, 0 ≤ x ∧ x < a.length) (hn : a.Nodup) (v : Int) (h0 : 0 ≤ v) (h1 : v < a.length) : ∃ j : Nat, ∃ h : j < a.length, a[j] = v ∧ rd (inverse a) v = j := by
  obtain ⟨j, h, e⟩ := List.getElem_of_mem (perm_surj hp hn v h0 h1)
  exact ⟨j, h, e, by rw [← e]; exact inverse_get hp hn j h⟩

theorem swap_perm (p : List Int) (v : Int) (j : Nat) (h : j ≤ p.length) : (((p ++ [v]).set p.length (rd (p ++ [v]) (j : Int))).set j v).Perm (p ++ [v]) := by
  by_cases c : j = p.length
  · subst c
    rw [show rd (p ++ [v]) (p.length : Int) = v from rd_mid p v [], set_mid, List.append_nil]
    have : (p ++ [v]).set p.length v = p ++ [v] := by
      have := set_mid p v v []
      rw [List.append_nil] at this
      exact this
    rw [this]
  · have hj : j < p.length := by omega
    have ep : p = p.take j ++ p[j] :: p.drop (j + 1) := by rw [← List.drop_eq_getElem_cons hj, List.take_append_drop]
    have er : rd (p ++ [v]) (j : Int) = p[j] := by simp [rd, List.getD, List.getElem?_append_left hj, hj]
    rw [er]
    have e1 : (p ++ [v]).set p.length p[j] = p ++ [p[j]] := by
      have := set_mid p p[j] v []
      rw [List.append_nil] at this
      exact this
    rw [e1]
    generalize hu : p.take j = u at ep
    generalize hw : p.drop (j + 1) = w at ep
    generalize hx : p[j] = x at ep ⊢
    have hlu : u.length = j := by rw [← hu]; simp; omega
    rw [ep]
    have e2 : (u ++ x :: w ++ [x]).set j v = u ++ v :: (w ++ [x]) := by
      rw [show u ++ x :: w ++ [x] = u ++ x :: (w ++ [x]) by simp, ← hlu, set_mid]
      simp
    rw [e2]
    rw [List.append_assoc]
    refine List.Perm.append_left u ?_
    have h1 : (v :: (w ++ [x])).Perm (v :: ([x] ++ w)) := List.Perm.cons v List.perm_append_comm
    have h2 : ([v] ++ w).Perm (w ++ [v]) := List.perm_append_comm
    exact h1.trans ((List.Perm.swap x v w).trans (List.Perm.cons x h2))
theorem shuffle_loop (s0 : List Int) (hl : s0.length ≤ 1048576) (m : Nat) (hm : m ≤ 12) : ∀ (d i : Nat) (p : List Int) (s1 s2 : Int), i + d = m → p.Perm (upFrom 0 i) → 0 ≤ s1 →
    ∃ q t1 t2, q.Perm (upFrom 0 m) ∧ 0 ≤ t1 ∧ Ev (fun k => spec_l02Shuffle.l0 k (m : Int) p (i : Int) s0 s1 s2) (q, t1, t2) := by
  intro d
  induction d with
  | zero =>
    intro i p s1 s2 hi hp h
    obtain rfl : i = m := by omega
    refine ⟨p, s1, s2, hp, h, Ev.step (f := fun _ => some _) (fun k => ?_) (Ev.now _)⟩
    simp only [spec_l02Shuffle.l0]
    rw [if_neg (by omega)]
  | succ d ih =>
    intro i p s1 s2 hi hp h
    have hpl : p.length = i := by rw [hp.length_eq, upFrom_length]
    obtain ⟨b, u1, u2, e, b0, b1, hu⟩ := below_ok s0 s1 s2 ((i : Int) + 1) hl h (by omega) (by omega)
    have hs : (((p ++ [(i : Int)]).set i (rd (p ++ [(i : Int)]) b)).set b.toNat (i : Int)).Perm (upFrom 0 (i + 1)) := by
      have := swap_perm p (i : Int) b.toNat (by omega)
      rw [Int.toNat_of_nonneg b0, hpl] at this
      refine this.trans ?_
      rw [upFrom_snoc]
      simp only [Int.zero_add]
      exact List.Perm.append_right _ hp
    obtain ⟨q, t1, t2, hq, ht, hE⟩ := ih (i + 1) _ u1 u2 (by omega) hs hu
    refine ⟨q, t1, t2, hq, ht, Ev.step (fun k => ?_) hE⟩
    simp only [spec_l02Shuffle.l0]
    rw [if_pos (by omega), w64 (a := (i : Int) + 1) (by omega) (by omega), e]
    simp only [Option.bind_some]
    rw [if_pos (by omega), if_pos b0, if_pos (by simp; omega), if_pos (by omega), if_pos (by simp; omega), Int.toNat_natCast]
    rfl
theorem shuffle_ok (s0 : List Int) (hl : s0.length ≤ 1048576) (m : Nat) (hm : m ≤ 12) (s1 s2 : Int) (h : 0 ≤ s1) :
    ∃ q t1 t2, q.Perm (upFrom 0 m) ∧ 0 ≤ t1 ∧ Ev (fun k => spec_l02Shuffle.f k s0 s1 s2 (m : Int)) (q, t1, t2) :=
  shuffle_loop s0 hl m hm m 0 [] s1 s2 (by omega) (List.Perm.refl _) h
theorem permOk_of_perm {q : List Int} {m : Nat} (hm : m ≤ 12) (h : q.Perm (upFrom 0 m)) : permOk q = true ∧ q.length = m := by
  have hl : q.length = m := by rw [h.length_eq, upFrom_length]
  refine ⟨(permOk_iff q).2 ⟨fun x hx => ?_, h.nodup_iff.2 (upFrom_nodup _ _), by omega⟩, hl⟩
  have := h.mem_iff.1 hx
  rw [upFrom_mem] at this
  omega

def pktFrom : List Int → List Int → Bool
  | _, [] => true
  | seen, x :: r => decide (0 ≤ cardOf x) && (!decide (cardOf x ∈ seen) && pktFrom (seen ++ [cardOf x]) r)
/-- A packet: at most twelve cards, all different. -/
def packetOk (l : List Int) : Bool := pktFrom [] l
theorem pktFrom_iff (r : List Int) : ∀ seen, pktFrom seen r = true ↔ (∀ x ∈ r, 0 ≤ cardOf x) ∧ (r.map cardOf).Nodup ∧ (∀ x ∈ r, cardOf x ∉ seen) := by
  induction r with
  | nil => intro seen; simp [pktFrom]
  | cons x r ih =>
    intro seen
    simp only [pktFrom, Bool.and_eq_true, decide_eq_true_eq, Bool.not_eq_true', decide_eq_false_iff_not, ih, List.mem_cons, forall_eq_or_imp, List.map_cons, List.nodup_cons, List.mem_append, List.not_mem_nil, or_false, not_or, List.mem_map]
    constructor
    · rintro ⟨h1, h2, h3, h4, h5⟩
      exact ⟨⟨h1, h3⟩, ⟨fun ⟨y, hy, e⟩ => (h5 y hy).2 e, h4⟩, h2, fun y hy => (h5 y hy).1⟩
    · rintro ⟨⟨h1, h3⟩, ⟨h6, h4⟩, h2, h5⟩
      exact ⟨h1, h2, h3, h4, fun y hy => ⟨h5 y hy, fun e => h6 ⟨y, hy, e⟩⟩⟩
theorem packetOk_iff (l : List Int) : packetOk l = true ↔ (∀ x ∈ l, 0 ≤ cardOf x) ∧ (l.map cardOf).Nodup := by
  unfold packetOk
  rw [pktFrom_iff]
  simp
theorem cardOf_le (x : Int) : -1 ≤ cardOf x ∧ cardOf x ≤ 11 := by
  unfold cardOf
  split <;> split <;> omega
theorem packetOk_length {l : List Int} (h : packetOk l = true) : l.length ≤ 12 := by
  obtain ⟨h1, h2⟩ := (packetOk_iff l).1 h
  have := nodup_le (l.map cardOf) (upFrom 0 12) h2 (fun y hy => by
    obtain ⟨x, hx, rfl⟩ := List.mem_map.1 hy
    rw [upFrom_mem]
    have := h1 x hx
    have := cardOf_le x
    omega)
  rw [upFrom_length, List.length_map] at this
  exact this

theorem cardOf_small {x : Int} (h0 : 0 ≤ x) (h1 : x < 12) : cardOf x = x := by unfold cardOf; rw [if_pos h0, if_pos (by omega)]

theorem set_self (m : List Int) (i : Nat) (hi : i < m.length) : m.set i m[i] = m := List.set_getElem_self hi

theorem once_ok (s0 : List Int) (s1 s2 n : Int) (hl : s0.length ≤ 1048576) (h : 0 ≤ s1) (hn : 1 ≤ n) (hm : n ≤ 256) : ∃ b t1 t2, spec_l01Once.f s0 s1 s2 n = some (b, t1, t2) ∧ 0 ≤ t1 := by
  obtain ⟨b, t1, t2, e, -, -, ht⟩ := below_ok s0 s1 s2 n hl h hn hm
  exact ⟨_, t1, t2, by unfold spec_l01Once.f; rw [e]; rfl, ht⟩
theorem cardOf_flip {x : Int} (h0 : -12 ≤ x) (h1 : x ≤ 11) : cardOf (-1 - x) = cardOf x := by
  unfold cardOf
  repeat' split
  all_goals omega
theorem draw_loop (s0 : List Int) (hl : s0.length ≤ 1048576) (m : Nat) (hm : m ≤ 12) : ∀ (d i : Nat) (p : List Int) (s1 s2 : Int), i + d = m → p.length = m → (∀ x ∈ p, -12 ≤ x ∧ x ≤ 11) → 0 ≤ s1 →
    ∃ q t1 t2, q.map cardOf = p.map cardOf ∧ (∀ x ∈ q, -12 ≤ x ∧ x ≤ 11) ∧ 0 ≤ t1 ∧ Ev (fun k => spec_l02Draw.l0 k p (m : Int) (i : Int) s0 s1 s2) (q, t1, t2) := by
  intro d
  induction d with
  | zero =>
    intro i p s1 s2 hi hp hb h
    refine ⟨p, s1, s2, rfl, hb, h, Ev.step (f := fun _ => some _) (fun k => ?_) (Ev.now _)⟩
    simp only [spec_l02Draw.l0]
    rw [if_neg (by omega)]
  | succ d ih =>
    intro i p s1 s2 hi hp hb h
    obtain ⟨b, u1, u2, e, hu⟩ := once_ok s0 s1 s2 3 hl h (by omega) (by omega)
    have ew : wrap64 ((i : Int) + 1) = ((i + 1 : Nat) : Int) := by rw [w64 (by omega) (by omega)]; rfl
    cases b with
    | true =>
      have hlt : i < p.length := by omega
      have hbi := hb p[i] (List.getElem_mem hlt)
      have hmap : (p.set i (-1 - p[i])).map cardOf = p.map cardOf := by
        rw [List.map_set, cardOf_flip hbi.1 hbi.2]
        have := set_self (p.map cardOf) i (by simpa using hlt)
        rw [List.getElem_map] at this
        exact this
      obtain ⟨q, t1, t2, hq, hqb, ht, hE⟩ := ih (i + 1) (p.set i (-1 - p[i])) u1 u2 (by omega) (by simpa using hp) (fun x hx => by
        rcases List.mem_or_eq_of_mem_set hx with hx | rfl
        · exact hb x hx
        · omega) hu
      refine ⟨q, t1, t2, hq.trans hmap, hqb, ht, Ev.step (fun k => ?_) hE⟩
      simp only [spec_l02Draw.l0]
      rw [if_pos (by omega), e]
      simp only [Option.bind_some, if_true]
      rw [if_pos (by omega), if_pos (by omega), rd_lt hlt, w64 (a := -1 - p[i]) (by omega) (by omega), Int.toNat_natCast, ew]
    | false =>
      obtain ⟨q, t1, t2, hq, hqb, ht, hE⟩ := ih (i + 1) p u1 u2 (by omega) hp hb hu
      refine ⟨q, t1, t2, hq, hqb, ht, Ev.step (fun k => ?_) hE⟩
      simp only [spec_l02Draw.l0]
      rw [if_pos (by omega), e]
      simp only [Option.bind_some, Bool.false_eq_true, if_false]
      rw [ew]
theorem draw_ok (s0 : List Int) (hl : s0.length ≤ 1048576) (most : Int) (h1 : 1 ≤ most) (h2 : most ≤ 12) (s1 s2 : Int) (h : 0 ≤ s1) :
    ∃ q t1 t2, packetOk q = true ∧ 1 ≤ q.length ∧ (q.length : Int) ≤ most ∧ (∀ x ∈ q, -12 ≤ x ∧ x ≤ 11) ∧ 0 ≤ t1 ∧ Ev (fun k => spec_l02Draw.f k s0 s1 s2 most) (q, t1, t2) := by
  obtain ⟨b, u1, u2, e, b0, b1, hu⟩ := below_ok s0 s1 s2 most hl h h1 (by omega)
  obtain ⟨p, v1, v2, hp, hv, hE⟩ := shuffle_ok s0 hl (1 + b).toNat (by omega) u1 u2 hu
  rw [Int.toNat_of_nonneg (by omega)] at hE
  have hpl : p.length = (1 + b).toNat := by rw [hp.length_eq, upFrom_length]
  have hpb : ∀ x ∈ p, -12 ≤ x ∧ x ≤ 11 := fun x hx => by
    have := hp.mem_iff.1 hx
    rw [upFrom_mem] at this
    omega
  have hpc : p.map cardOf = p := by
    have : ∀ r : List Int, (∀ x ∈ r, 0 ≤ x ∧ x < 12) → r.map cardOf = r := by
      intro r
      induction r with
      | nil => intro _; rfl
      | cons x r ih => intro hr; rw [List.map_cons, ih (fun y hy => hr y (by simp [hy])), cardOf_small (hr x (by simp)).1 (hr x (by simp)).2]
    exact this p (fun x hx => by
      have := hp.mem_iff.1 hx
      rw [upFrom_mem] at this
      omega)
  have hok : ∀ q : List Int, q.map cardOf = p.map cardOf → packetOk q = true := fun q hq => by
    rw [packetOk_iff, hq, hpc]
    refine ⟨fun x hx => ?_, hp.nodup_iff.2 (upFrom_nodup _ _)⟩
    have : cardOf x ∈ q.map cardOf := List.mem_map_of_mem hx
    rw [hq, hpc, hp.mem_iff, upFrom_mem] at this
    exact this.1
  obtain ⟨c, x1, x2, e2, hx⟩ := once_ok s0 v1 v2 2 hl hv (by omega) (by omega)
  cases c with
  | true =>
    obtain ⟨q, t1, t2, hq, hqb, ht, hE2⟩ := draw_loop s0 hl p.length (by omega) p.length 0 p x1 x2 (by omega) rfl hpb hx
    have hql : q.length = p.length := by have := congrArg List.length hq; simpa using this
    refine ⟨q, t1, t2, hok q hq, by omega, by omega, hqb, ht, ?_⟩
    unfold spec_l02Draw.f
    simp only [e, Option.bind_some]
    rw [w64 (a := 1 + b) (by omega) (by omega)]
    refine Ev.bind hE ?_
    simp only [e2, Option.bind_some, if_true]
    exact hE2
  | false =>
    refine ⟨p, x1, x2, hok p rfl, by omega, by omega, hpb, hx, ?_⟩
    unfold spec_l02Draw.f
    simp only [e, Option.bind_some]
    rw [w64 (a := 1 + b) (by omega) (by omega)]
    refine Ev.bind hE ?_
    simp only [e2, Option.bind_some, Bool.false_eq_true, if_false]
    exact Ev.now _
theorem makePacket_ok (l : List Int) (hl : l.length ≤ 1048576) (n : Nat) (hn : n ≤ 1000) (most : Int) (h1 : 1 ≤ most) (h2 : most ≤ 12) :
    ∃ q, packetOk q = true ∧ 1 ≤ q.length ∧ (q.length : Int) ≤ most ∧ (∀ x ∈ q, -12 ≤ x ∧ x ≤ 11) ∧ Ev (fun k => spec_MakePacket.f k l (n : Int) most) q := by
  obtain ⟨t1, t2, ht, hE⟩ := l23_ok l hl n hn
  obtain ⟨q, u1, u2, ho, hq1, hq2, hq3, -, hE2⟩ := draw_ok l hl most h1 h2 t1 t2 ht
  refine ⟨q, ho, hq1, hq2, hq3, ?_⟩
  unfold spec_MakePacket.f
  refine Ev.bind hE ?_
  have e : mx 1 (mn most 12) = most := by unfold mx mn; repeat' split <;> omega
  simp only [e]
  exact Ev.bind hE2 (Ev.now _)

theorem impl_CardOf_eq (x : Int) (hx : -9223372036854775808 ≤ x) : impl_CardOf.f x = some (cardOf x) := by
  unfold impl_CardOf.f cardOf
  by_cases h0 : x < 0
  · rw [if_pos h0, w64 (by omega) (by omega), if_neg (show ¬ 0 ≤ x by omega)]
    by_cases h1 : -12 ≤ x
    · rw [if_neg (by omega), if_pos h1]
    · rw [if_pos (by omega), if_neg h1]
  · rw [if_neg h0, if_pos (show 0 ≤ x by omega)]
    by_cases h1 : x ≤ 11
    · rw [if_neg (by omega), if_pos h1]
    · rw [if_pos (by omega), if_neg h1]

theorem impl_TurnCard_eq (x : Int) (hx : -9223372036854775808 ≤ x) : impl_TurnCard.f x = some (turnCard x) := by
  unfold impl_TurnCard.f turnCard
  rw [impl_CardOf_eq x hx]
  simp only [Option.bind_some]
  by_cases h : cardOf x < 0
  · rw [if_pos h, if_pos h]
  · rw [if_neg h, if_neg h, w64]
    all_goals (unfold cardOf at h; split at h <;> split at h <;> omega)

theorem impl_PacketOk_loop (l : List Int) (hl : l.length ≤ 9223372036854775806) (hw : ∀ x ∈ l, (Lit.int .i64 x).wf = true) : ∀ (r pre seen : List Int) (m : List Bool), l = pre ++ r → m.length = 12 → (∀ c : Int, 0 ≤ c → c < 12 → (rdOf false m c = true ↔ c ∈ seen)) →
    Ev (fun k => impl_PacketOk.l0 k m l (pre.length : Int)) (pktFrom seen r) := by
  intro r
  induction r with
  | nil =>
    intro pre seen m h hm hs
    have e := lens h
    simp only [List.length_nil] at e
    refine Ev.step (f := fun _ => some _) (fun k => ?_) (Ev.now _)
    simp only [impl_PacketOk.l0]
    rw [if_neg (by omega)]
    simp [pktFrom]
  | cons x r ih =>
    intro pre seen m h hm hs
    have e := lens h
    simp only [List.length_cons] at e
    have hx := bd64 (hw x (by rw [h]; simp))
    have hc := cardOf_le x
    by_cases c0 : cardOf x < 0
    · have e : pktFrom seen (x :: r) = false := by simp only [pktFrom]; rw [decide_eq_false (by omega)]; rfl
      rw [e]
      refine Ev.step (f := fun _ => some _) (fun k => ?_) (Ev.now _)
      simp only [impl_PacketOk.l0]
      rw [if_pos (by omega), if_pos (by omega), rd_mid' h, impl_CardOf_eq x hx.1]
      simp only [Option.bind_some]
      rw [if_pos c0]
    have hsc := hs (cardOf x) (by omega) (by omega)
    by_cases c2 : cardOf x ∈ seen
    · have e : pktFrom seen (x :: r) = false := by simp only [pktFrom]; simp [c2]
      rw [e]
      refine Ev.step (f := fun _ => some _) (fun k => ?_) (Ev.now _)
      simp only [impl_PacketOk.l0]
      rw [if_pos (by omega), if_pos (by omega), rd_mid' h, impl_CardOf_eq x hx.1]
      simp only [Option.bind_some]
      rw [if_neg c0, if_pos (by omega), if_pos (hsc.2 c2)]
    · have e : pktFrom seen (x :: r) = pktFrom (seen ++ [cardOf x]) r := by simp only [pktFrom]; rw [decide_eq_true (by omega)]; simp [c2]
      rw [e]
      refine Ev.step (fun k => ?_) (ih (pre ++ [x]) (seen ++ [cardOf x]) (m.set (cardOf x).toNat true) (snoc_eq h) (by simp [hm]) ?_)
      · simp only [impl_PacketOk.l0]
        rw [if_pos (by omega), if_pos (by omega), rd_mid' h, impl_CardOf_eq x hx.1]
        simp only [Option.bind_some]
        rw [if_neg c0, if_pos (by omega), if_neg (fun q => c2 (hsc.1 q)), snoc_len x (by omega)]
      · intro c h0 h1
        rw [List.mem_append, List.mem_singleton, ← hs c h0 h1]
        simp only [rdOf, List.getD_eq_getElem?_getD, List.getElem?_set, hm]
        by_cases ec : c = cardOf x
        · subst ec
          rw [if_pos rfl, if_pos (by omega)]
          simp
        · rw [if_neg (by omega)]
          simp [ec]
theorem impl_PacketOk_ev (l : List Int) (hl : l.length ≤ 9223372036854775806) (hw : ∀ x ∈ l, (Lit.int .i64 x).wf = true) : Ev (fun k => impl_PacketOk.f k l) (packetOk l) := by
  unfold impl_PacketOk.f packetOk
  refine impl_PacketOk_loop l hl hw l [] [] _ rfl (by simp) ?_
  intro c h0 h1
  simp only [rdOf, List.getD_eq_getElem?_getD, List.getElem?_replicate]
  rw [if_pos (by omega)]
  simp

/-- May a move of this kind and number be done with a packet of n cards? -/
def moveOk (n k a : Int) : Bool := decide (1 ≤ n ∧ n ≤ 12 ∧ 0 ≤ a) && (if k = 1 ∨ k = 2 ∨ k = 3 then decide (a ≤ n) else if k = 4 ∨ k = 5 ∨ k = 7 then decide (a ≤ 1) else if k = 6 then decide (a = 0) else if k = 8 ∨ k = 9 then decide (a < n) else false)
theorem ev_three {α : Type} {g : Nat → Option α} {r : α} (h : ∀ k, g (k + 3) = some r) : Ev g r := ⟨3, fun k hk => by
  obtain ⟨j, rfl⟩ : ∃ j, k = j + 3 := ⟨k - 3, by omega⟩
  exact h j⟩
theorem kind_cases (k : Int) : k = 1 ∨ k = 2 ∨ k = 3 ∨ k = 4 ∨ k = 5 ∨ k = 6 ∨ k = 7 ∨ k = 8 ∨ k = 9 ∨ (k ≠ 1 ∧ k ≠ 2 ∧ k ≠ 3 ∧ k ≠ 4 ∧ k ≠ 5 ∧ k ≠ 6 ∧ k ≠ 7 ∧ k ≠ 8 ∧ k ≠ 9) := by omega

theorem impl_MoveOk_ev (n k a : Int) : Ev (fun i => impl_MoveOk.f i n k a) (moveOk n k a) := by
  refine ev_three fun i => ?_
  unfold impl_MoveOk.f moveOk
  by_cases hn : 1 ≤ n ∧ n ≤ 12 ∧ 0 ≤ a
  · rw [decide_eq_true hn, if_neg (by omega), if_neg (by omega), decide_eq_false (by omega)]
    simp only [impl_MoveOk.j0, impl_MoveOk.j1, impl_MoveOk.j2]
    rcases kind_cases k with rfl | rfl | rfl | rfl | rfl | rfl | rfl | rfl | rfl | ⟨h1, h2, h3, h4, h5, h6, h7, h8, h9⟩ <;> simp [*] <;> first | omega | (rw [Bool.eq_iff_iff]; simp)
  · rw [decide_eq_false hn]
    by_cases h1 : n < 1
    · rw [if_pos h1]; simp [impl_MoveOk.j0]
    · rw [if_neg h1]
      by_cases h2 : n > 12
      · rw [if_pos h2]; simp [impl_MoveOk.j0]
      · rw [if_neg h2, decide_eq_true (show a < 0 by omega)]; simp [impl_MoveOk.j0]

/-! ### the moves, on lists -/
def faroF (k : Int) : Nat → List Int → List Int → List Int → List Int
  | 0, _, _, out => out
  | d + 1, a, b, out => match a, b with
    | [], [] => out
    | [], y :: b => faroF k d [] b (out ++ [y])
    | x :: a, [] => faroF k d a [] (out ++ [x])
    | x :: a, y :: b => if (out.length : Int) % 2 = k then faroF k d a (y :: b) (out ++ [x]) else faroF k d (x :: a) b (out ++ [y])
def mongeF (k : Int) : List Int → Nat → List Int → List Int
  | [], _, out => out
  | x :: r, i, out => if i = 0 ∨ (i : Int) % 2 = k then mongeF k r (i + 1) (out ++ [x]) else mongeF k r (i + 1) (x :: out)
def milkF : Nat → List Int → List Int → List Int
  | 0, l, out => l ++ out
  | d + 1, l, out => if 1 < l.length then milkF d ((l.take (l.length - 1)).drop 1) ([rd l 0, rd l ((l.length : Int) - 1)] ++ out) else l ++ out
def duckF : Nat → List Int → List Int → Bool → List Int
  | 0, q, out, _ => q ++ out
  | _ + 1, [], out, _ => out
  | _ + 1, [x], out, _ => x :: out
  | d + 1, x :: y :: r, out, b => if b = true then duckF d (y :: r) (x :: out) false else duckF d (y :: r ++ [x]) out true
def doMove (l : List Int) (k a : Int) : List Int :=
  if k = 1 then l.drop a.toNat ++ l.take a.toNat
  else if k = 2 then (l.take a.toNat).reverse ++ l.drop a.toNat
  else if k = 3 then ((l.take a.toNat).map turnCard).reverse ++ l.drop a.toNat
  else if k = 4 then faroF a l.length (l.take (l.length / 2)) (l.drop (l.length / 2)) []
  else if k = 5 then mongeF a l 0 []
  else if k = 6 then milkF l.length l []
  else if k = 7 then duckF (2 * l.length) l [] (a == 1)
  else if k = 8 then l.set a.toNat (turnCard (rd l a))
  else l.take a.toNat ++ l.drop (a.toNat + 1) ++ [rd l a]

theorem slices_Reverse_int_int_loop : ∀ (d : Nat) (m p q : List Int), m.length ≤ d → p.length = q.length → p.length + m.length + q.length ≤ 100 →
    Ev (fun k => slices_Reverse_int_int.l0 k (p ++ m ++ q) (p.length : Int) ((p.length : Int) + m.length - 1)) (p ++ m.reverse ++ q) := by
  intro d
  induction d with
  | zero =>
    intro m p q h hp hl
    have hm : m = [] := List.length_eq_zero_iff.mp (by omega)
    subst hm
    refine Ev.step (f := fun _ => some _) (fun k => ?_) (Ev.now _)
    simp only [slices_Reverse_int_int.l0]
    rw [if_neg (by simp <;> omega)]
    rfl
  | succ d ih =>
    intro m p q h hp hl
    match m with
    | [] =>
      refine Ev.step (f := fun _ => some _) (fun k => ?_) (Ev.now _)
      simp only [slices_Reverse_int_int.l0]
      rw [if_neg (by simp <;> omega)]
      rfl
    | [x] =>
      refine Ev.step (f := fun _ => some _) (fun k => ?_) (Ev.now _)
      simp only [slices_Reverse_int_int.l0]
      rw [if_neg (by simp)]
      rfl
    | x :: y :: r =>
      obtain ⟨m', z, e⟩ : ∃ m' z, y :: r = m' ++ [z] := ⟨(y :: r).dropLast, (y :: r).getLast (by simp), (List.dropLast_concat_getLast (by simp)).symm⟩
      rw [e] at h hl ⊢
      simp only [List.length_cons, List.length_append, List.length_singleton] at h hl
      have hi := ih m' (p ++ [z]) (x :: q) (by omega) (by simp [hp]) (by simp <;> omega)
      have e1 : p ++ (x :: (m' ++ [z])).reverse ++ q = p ++ [z] ++ m'.reverse ++ (x :: q) := by simp
      rw [e1]
      refine Ev.step (fun k => ?_) hi
      have hj : ((p.length : Int) + ((x :: (m' ++ [z])).length : Int) - 1) = ((p.length + 1 + m'.length : Nat) : Int) := by simp <;> omega
      have ei : wrap64 ((p.length : Int) + 1) = ((p ++ [z]).length : Int) := snoc_len z (by omega)
      have ej : wrap64 (((p.length + 1 + m'.length : Nat) : Int) - 1) = ((p ++ [z]).length : Int) + (m'.length : Int) - 1 := by rw [w64 (by omega) (by omega), List.length_append, List.length_singleton]; omega
      have ex : rd (p ++ (x :: (m' ++ [z])) ++ q) (p.length : Int) = x := by simp [rd]
      have ez : rd (p ++ (x :: (m' ++ [z])) ++ q) ((p.length + 1 + m'.length : Nat) : Int) = z := by
        have : p ++ (x :: (m' ++ [z])) ++ q = (p ++ x :: m') ++ (z :: q) := by simp
        rw [this, show p.length + 1 + m'.length = (p ++ x :: m').length by simp <;> omega]
        exact rd_mid _ _ _
      have es : ((p ++ (x :: (m' ++ [z])) ++ q).set p.length z).set (p.length + 1 + m'.length) x = p ++ [z] ++ m' ++ (x :: q) := by
        have e2 : p ++ (x :: (m' ++ [z])) ++ q = p ++ x :: (m' ++ z :: q) := by simp
        rw [e2, set_mid, show (p ++ [z] ++ (m' ++ z :: q)) = (p ++ [z] ++ m') ++ z :: q by simp, show p.length + 1 + m'.length = (p ++ [z] ++ m').length by simp <;> omega, set_mid]
        simp
      simp only [slices_Reverse_int_int.l0]
      rw [hj, if_pos (by omega), if_pos (by omega), if_pos (by simp <;> omega), if_pos (by omega), if_pos (by simp <;> omega), ex, ez, ei, ej, Int.toNat_natCast, Int.toNat_natCast, es]
theorem slices_Reverse_int_int_ev (l : List Int) (hl : l.length ≤ 100) : Ev (fun k => slices_Reverse_int_int.f k l) l.reverse := by
  unfold slices_Reverse_int_int.f
  have h := slices_Reverse_int_int_loop l.length l [] [] (by omega) rfl (by simp <;> omega)
  simp only [List.nil_append, List.append_nil, List.length_nil] at h
  rw [w64 (by omega) (by omega)]
  have e : (((0 : Nat) : Int) + (l.length : Int) - 1) = (l.length : Int) - 1 := by omega
  rw [e] at h
  exact h
theorem impl_reversed_ev (l : List Int) (hl : l.length ≤ 100) : Ev (fun k => impl_reversed.f k l) l.reverse := by
  unfold impl_reversed.f
  have e : slices_Clone_int_int.f l = some l := by unfold slices_Clone_int_int.f; rw [if_pos (by omega)]
  simp only [e, Option.bind_some]
  exact Ev.bind (slices_Reverse_int_int_ev l hl) (Ev.now _)

theorem flen {ls pre r : List (List Int)} (h : ls = pre ++ r) : ls.flatten.length = pre.flatten.length + r.flatten.length := by rw [h]; simp
theorem slices_Concat_int_int_two (ls : List (List Int)) (hn : ls.length ≤ 100) (hl : ls.flatten.length ≤ 100) : ∀ (r pre : List (List Int)), ls = pre ++ r →
    Ev (fun k => slices_Concat_int_int.l1 k pre.flatten ls (ls.length : Int) (pre.length : Int)) ls.flatten := by
  intro r
  induction r with
  | nil =>
    intro pre h
    refine Ev.step (f := fun _ => some _) (fun k => ?_) (Ev.now _)
    simp only [slices_Concat_int_int.l1]
    rw [if_neg (by rw [h]; simp), h, List.append_nil]
  | cons x r ih =>
    intro pre h
    have e : ls.length = pre.length + (r.length + 1) := by rw [h]; simp
    have hf := flen h
    simp only [List.flatten_cons, List.length_append] at hf
    have hr : rd_L2 ls (pre.length : Int) = x := by rw [h]; simp [rd_L2]
    have hi := ih (pre ++ [x]) (by rw [h]; simp)
    rw [show (pre ++ [x]).flatten = pre.flatten ++ x by simp, show (pre ++ [x]).length = pre.length + 1 by simp] at hi
    refine Ev.step (fun k => ?_) hi
    simp only [slices_Concat_int_int.l1]
    rw [if_pos (by omega), if_pos (by omega), if_pos (by omega), hr, if_pos (by omega), w64 (by omega) (by omega)]
    rfl
theorem slices_Concat_int_int_one (ls : List (List Int)) (hn : ls.length ≤ 100) (hl : ls.flatten.length ≤ 100) : ∀ (r pre : List (List Int)), ls = pre ++ r →
    Ev (fun k => slices_Concat_int_int.l0 k ls (pre.flatten.length : Int) ls (ls.length : Int) (pre.length : Int)) ls.flatten := by
  intro r
  induction r with
  | nil =>
    intro pre h
    refine Ev.step (f := fun k => slices_Concat_int_int.l1 k [] ls (ls.length : Int) 0) (fun k => ?_) (slices_Concat_int_int_two ls hn hl ls [] rfl)
    have hf := flen h
    simp only [slices_Concat_int_int.l0]
    have e : slices_Grow_int_int.f ([] : List Int) (pre.flatten.length : Int) = some [] := by unfold slices_Grow_int_int.f; rw [if_pos ⟨rfl, by omega, by omega⟩]
    rw [if_neg (by rw [h]; simp), e]
    rfl
  | cons x r ih =>
    intro pre h
    have e : ls.length = pre.length + (r.length + 1) := by rw [h]; simp
    have hf := flen h
    simp only [List.flatten_cons, List.length_append] at hf
    have hr : rd_L2 ls (pre.length : Int) = x := by rw [h]; simp [rd_L2]
    have hi := ih (pre ++ [x]) (by rw [h]; simp)
    rw [show (pre ++ [x]).flatten.length = pre.flatten.length + x.length by simp, show (pre ++ [x]).length = pre.length + 1 by simp] at hi
    have ew : wrap64 ((pre.flatten.length : Int) + (x.length : Int)) = ((pre.flatten.length + x.length : Nat) : Int) := by rw [w64 (by omega) (by omega)]; rfl
    refine Ev.step (fun k => ?_) hi
    simp only [slices_Concat_int_int.l0]
    rw [if_pos (by omega), if_pos (by omega), if_pos (by omega), hr, ew, if_neg (by omega), w64 (by omega) (by omega)]
    rfl
theorem slices_Concat_int_int_ev (ls : List (List Int)) (hn : ls.length ≤ 100) (hl : ls.flatten.length ≤ 100) : Ev (fun k => slices_Concat_int_int.f k ls) ls.flatten := by
  unfold slices_Concat_int_int.f
  exact slices_Concat_int_int_one ls hn hl ls [] rfl

theorem flag_next (n : Nat) (k : Int) (hk : k = 0 ∨ k = 1) : (!decide ((n : Int) % 2 = k)) = decide (((n + 1 : Nat) : Int) % 2 = k) := by
  by_cases h : (n : Int) % 2 = k
  · rw [decide_eq_true h, decide_eq_false (by omega)]; rfl
  · rw [decide_eq_false h, decide_eq_true (by omega)]; rfl
theorem impl_faro_loop (k : Int) (hk : k = 0 ∨ k = 1) : ∀ (d : Nat) (a b out : List Int), a.length + b.length = d → out.length + d ≤ 100 → Ev (fun j => impl_faro.l0 j a b out (decide ((out.length : Int) % 2 = k))) (faroF k d a b out) := by
  intro d
  induction d with
  | zero =>
    intro a b out h ho
    have ha : a = [] := List.length_eq_zero_iff.mp (by omega)
    have hb : b = [] := List.length_eq_zero_iff.mp (by omega)
    subst ha hb
    refine Ev.step (f := fun j => impl_faro.j1 j [] [] out (decide ((out.length : Int) % 2 = k)) false) (fun j => by simp [impl_faro.l0]) ?_
    refine Ev.step (f := fun _ => some _) (fun j => by simp [impl_faro.j1, faroF]) (Ev.now _)
  | succ d ih =>
    intro a b out h ho
    refine Ev.step (f := fun j => impl_faro.j1 j a b out (decide ((out.length : Int) % 2 = k)) true) (fun j => ?_) ?_
    · simp only [impl_faro.l0]
      by_cases ha : (a.length : Int) > 0
      · rw [if_pos ha]
      · rw [if_neg ha, decide_eq_true (show (b.length : Int) > 0 by omega)]
    · have hx : ∀ z : Int, (out ++ [z]).length = out.length + 1 := fun z => by simp
      match a, b with
      | [], [] => simp at h
      | [], y :: b =>
        have hi := ih [] b (out ++ [y]) (by simpa using h) (by simp <;> omega)
        rw [hx, ← flag_next _ _ hk] at hi
        refine Ev.step (fun j => ?_) hi
        simp only [impl_faro.j1, if_true]
        by_cases c : (out.length : Int) % 2 = k
        · rw [if_pos (decide_eq_true c), if_neg (by simp), if_neg (by simp <;> omega), if_pos (by simp <;> omega), if_pos (by omega), if_pos (by simp <;> omega)]
          rfl
        · rw [if_neg (by simp [c]), if_neg (by simp <;> omega), if_pos (by simp <;> omega), if_pos (by omega), if_pos (by simp <;> omega)]
          rfl
      | x :: a, [] =>
        have hi := ih a [] (out ++ [x]) (by simpa using h) (by simp <;> omega)
        rw [hx, ← flag_next _ _ hk] at hi
        refine Ev.step (fun j => ?_) hi
        simp only [impl_faro.j1, if_true]
        by_cases c : (out.length : Int) % 2 = k
        · rw [if_pos (decide_eq_true c), if_pos (by simp <;> omega), if_pos (by simp <;> omega), if_pos (by omega), if_pos (by simp <;> omega)]
          rfl
        · rw [if_neg (by simp [c]), if_pos (by simp), if_pos (by simp <;> omega), if_pos (by omega), if_pos (by simp <;> omega)]
          rfl
      | x :: a, y :: b =>
        rw [faroF]
        by_cases c : (out.length : Int) % 2 = k
        · rw [if_pos c]
          have hi := ih a (y :: b) (out ++ [x]) (by simp at h ⊢; omega) (by simp <;> omega)
          rw [hx, ← flag_next _ _ hk] at hi
          refine Ev.step (fun j => ?_) hi
          simp only [impl_faro.j1, if_true]
          rw [if_pos (decide_eq_true c), if_pos (by simp <;> omega), if_pos (by simp <;> omega), if_pos (by omega), if_pos (by simp <;> omega)]
          rfl
        · rw [if_neg c]
          have hi := ih (x :: a) b (out ++ [y]) (by simp at h ⊢; omega) (by simp <;> omega)
          rw [hx, ← flag_next _ _ hk] at hi
          refine Ev.step (fun j => ?_) hi
          simp only [impl_faro.j1, if_true]
          rw [if_neg (by simp [c]), if_neg (by simp <;> omega), if_pos (by simp <;> omega), if_pos (by omega), if_pos (by simp <;> omega)]
          rfl
theorem impl_faro_ev (l : List Int) (k : Int) (hl : l.length ≤ 12) (hk : k = 0 ∨ k = 1) : Ev (fun j => impl_faro.f j l k) (faroF k l.length (l.take (l.length / 2)) (l.drop (l.length / 2)) []) := by
  unfold impl_faro.f
  have e : wrap64 ((l.length : Int) / 2) = ((l.length / 2 : Nat) : Int) := by rw [w64 (by omega) (by omega)]; omega
  rw [e]
  refine ev_ite_true (by omega) (ev_ite_true (by omega) ?_)
  rw [Int.toNat_natCast]
  have h := impl_faro_loop k hk l.length (l.take (l.length / 2)) (l.drop (l.length / 2)) [] (by simp <;> omega) (by simp <;> omega)
  have eb : (k == 0) = decide ((([] : List Int).length : Int) % 2 = k) := by rcases hk with rfl | rfl <;> rfl
  rw [eb]
  exact h
theorem impl_monge_loop (l : List Int) (k : Int) (hk : k = 0 ∨ k = 1) (hl : l.length ≤ 12) : ∀ (r pre out : List Int), l = pre ++ r → out.length = pre.length →
    Ev (fun j => impl_monge.l0 j k out l (l.length : Int) (pre.length : Int)) (mongeF k r pre.length out) := by
  intro r
  induction r with
  | nil =>
    intro pre out h ho
    have e := lens h
    simp only [List.length_nil] at e
    refine Ev.step (f := fun _ => some _) (fun j => ?_) (Ev.now _)
    simp only [impl_monge.l0]
    rw [if_neg (by omega)]
    rfl
  | cons x r ih =>
    intro pre out h ho
    have e := lens h
    simp only [List.length_cons] at e
    have em : Int.tmod (wrap64 ((pre.length : Int) + k)) 2 = ((pre.length : Int) + k) % 2 := by rw [w64 (by omega) (by omega)]; exact Int.tmod_eq_emod_of_nonneg (by omega)
    rw [mongeF]
    by_cases c : pre.length = 0 ∨ (pre.length : Int) % 2 = k
    · rw [if_pos c]
      have hi := ih (pre ++ [x]) (out ++ [x]) (snoc_eq h) (by simp [ho])
      rw [show (pre ++ [x]).length = pre.length + 1 by simp] at hi
      refine Ev.step (fun j => ?_) hi
      simp only [impl_monge.l0]
      rw [if_pos (by omega), if_pos (by omega), if_pos (by omega), rd_mid' h, em, w64 (by omega) (by omega)]
      by_cases c0 : (pre.length : Int) > 0
      · rw [if_pos c0, if_neg (by omega), if_pos (by omega)]; rfl
      · rw [if_neg c0, if_pos (by omega)]; rfl
    · rw [if_neg c]
      have hi := ih (pre ++ [x]) (x :: out) (snoc_eq h) (by simp [ho])
      rw [show (pre ++ [x]).length = pre.length + 1 by simp] at hi
      refine Ev.step (fun j => ?_) hi
      simp only [impl_monge.l0]
      rw [if_pos (by omega), if_pos (by omega), if_pos (by omega), rd_mid' h, em, w64 (by omega) (by omega), if_pos (by omega), if_pos (by omega)]
      simp only [Option.bind_some, List.length_singleton]
      rw [if_pos (by omega)]
      rfl
theorem impl_monge_ev (l : List Int) (k : Int) (hl : l.length ≤ 12) (hk : k = 0 ∨ k = 1) : Ev (fun j => impl_monge.f j l k) (mongeF k l 0 []) := by
  unfold impl_monge.f
  exact impl_monge_loop l k hk hl l [] [] rfl rfl
theorem impl_milk_loop : ∀ (d : Nat) (l out : List Int), l.length ≤ d → l.length + out.length ≤ 100 → Ev (fun j => impl_milk.l0 j l out) (milkF d l out) := by
  intro d
  induction d with
  | zero =>
    intro l out h ho
    refine Ev.step (f := fun _ => some _) (fun j => ?_) (Ev.now _)
    simp only [impl_milk.l0]
    rw [if_neg (by omega)]
    rw [show slices_Clone_int_int.f l = some l by unfold slices_Clone_int_int.f; rw [if_pos (by omega)]]
    (try simp only [Option.bind_some])
    rw [if_pos (by omega)]
    rfl
  | succ d ih =>
    intro l out h ho
    rw [milkF]
    by_cases c : 1 < l.length
    · rw [if_pos c]
      have hi := ih ((l.take (l.length - 1)).drop 1) ([rd l 0, rd l ((l.length : Int) - 1)] ++ out) (by simp <;> omega) (by simp <;> omega)
      refine Ev.step (fun j => ?_) hi
      have ew : wrap64 ((l.length : Int) - 1) = (l.length : Int) - 1 := w64 (by omega) (by omega)
      simp only [impl_milk.l0, ew]
      rw [if_pos (by omega), if_pos (by omega), if_pos (by omega), if_pos (by omega)]
      (try simp only [Option.bind_some])
      rw [if_pos (by simp <;> omega), if_pos (by omega), if_pos (by omega), show ((l.length : Int) - 1).toNat = l.length - 1 by omega]
    · rw [if_neg c]
      refine Ev.step (f := fun _ => some _) (fun j => ?_) (Ev.now _)
      simp only [impl_milk.l0]
      rw [if_neg (by omega)]
      rw [show slices_Clone_int_int.f l = some l by unfold slices_Clone_int_int.f; rw [if_pos (by omega)]]
      (try simp only [Option.bind_some])
      rw [if_pos (by omega)]
theorem impl_milk_ev (l : List Int) (hl : l.length ≤ 12) : Ev (fun j => impl_milk.f j l) (milkF l.length l []) := by
  unfold impl_milk.f
  exact impl_milk_loop l.length l [] (by omega) (by simp <;> omega)
theorem impl_dealt_loop : ∀ (d : Nat) (q out : List Int) (b : Bool), q ≠ [] → q.length ≤ 100 → out.length + q.length ≤ 100 → 2 * q.length + (if b = true then 0 else 1) ≤ d + 1 →
    ∃ r, Ev (fun j => impl_dealt.l0 j out q b) r ∧ r.reverse = duckF d q out.reverse b ∧ r.length = out.length + q.length := by
  intro d
  induction d with
  | zero =>
    intro q out b hq h1 ho hd
    have : 0 < q.length := List.length_pos_iff.2 hq
    split at hd <;> omega
  | succ d ih =>
    intro q out b hq h1 ho hd
    match q with
    | [] => exact absurd rfl hq
    | [x] =>
      refine ⟨out ++ [x], Ev.step (f := fun _ => some _) (fun j => ?_) (Ev.now _), by simp [duckF], by simp⟩
      simp only [impl_dealt.l0]
      rw [if_neg (by simp), if_pos (by simp at ho ⊢; omega)]
    | x :: y :: r =>
      simp only [List.length_cons] at h1 ho hd
      rw [duckF]
      by_cases c : b = true
      · rw [if_pos c] at hd
        obtain ⟨z, hz, e1, e2⟩ := ih (y :: r) (out ++ [x]) false (by simp) (by simp <;> omega) (by simp <;> omega) (by simp <;> omega)
        refine ⟨z, Ev.step (fun j => ?_) hz, by rw [if_pos c, e1]; simp, by rw [e2]; simp; omega⟩
        simp only [impl_dealt.l0]
        rw [if_pos (by simp <;> omega), if_pos c, if_pos (by simp <;> omega), if_pos (by omega), if_pos (by simp <;> omega), c]
        rfl
      · rw [if_neg c] at hd
        obtain ⟨z, hz, e1, e2⟩ := ih (y :: r ++ [x]) out true (by simp) (by simp <;> omega) (by simp <;> omega) (by simp <;> omega)
        refine ⟨z, Ev.step (fun j => ?_) hz, by rw [if_neg c, e1], by rw [e2]; simp⟩
        simp only [impl_dealt.l0]
        rw [if_pos (by simp <;> omega), if_neg c, if_pos (by simp <;> omega), if_pos (by simp <;> omega)]
        (try simp only [Option.bind_some])
        rw [if_pos (by simp <;> omega), Bool.not_eq_true] at *
        rw [c]
        rfl
theorem impl_dealt_ev (l : List Int) (a : Int) (hl : l.length ≤ 12) (h1 : 1 ≤ l.length) : ∃ r, Ev (fun j => impl_dealt.f j l a) r ∧ r.reverse = duckF (2 * l.length) l [] (a == 1) ∧ r.length = l.length := by
  obtain ⟨r, hr, e1, e2⟩ := impl_dealt_loop (2 * l.length) l [] (a == 1) (List.length_pos_iff.1 h1) (by omega) (by simp <;> omega) (by split <;> omega)
  refine ⟨r, ?_, e1, by simpa using e2⟩
  unfold impl_dealt.f
  rw [show slices_Clone_int_int.f l = some l by unfold slices_Clone_int_int.f; rw [if_pos (by omega)]]
  exact hr

theorem moveOk_parts {n k a : Int} (h : moveOk n k a = true) : 1 ≤ n ∧ n ≤ 12 ∧ 0 ≤ a ∧ ((k = 1 ∨ k = 2 ∨ k = 3) ∧ a ≤ n ∨ (k = 4 ∨ k = 5 ∨ k = 7) ∧ a ≤ 1 ∨ k = 6 ∧ a = 0 ∨ (k = 8 ∨ k = 9) ∧ a < n) := by
  unfold moveOk at h
  rw [Bool.and_eq_true, decide_eq_true_eq] at h
  refine ⟨h.1.1, h.1.2.1, h.1.2.2, ?_⟩
  have h2 := h.2
  split at h2
  · rename_i c; exact .inl ⟨c, of_decide_eq_true h2⟩
  split at h2
  · rename_i c; exact .inr (.inl ⟨c, of_decide_eq_true h2⟩)
  split at h2
  · rename_i c; exact .inr (.inr (.inl ⟨c, of_decide_eq_true h2⟩))
  split at h2
  · rename_i c; exact .inr (.inr (.inr ⟨c, of_decide_eq_true h2⟩))
  · cases h2
theorem rd_of_lt {l : List Int} {a : Int} (h0 : 0 ≤ a) (h1 : a < l.length) : rd l a = l[a.toNat]'(by omega) := by
  have := rd_lt (xs := l) (i := a.toNat) (by omega)
  rw [Int.toNat_of_nonneg h0] at this
  exact this
def perform (l : List Int) (k a : Int) : List Int × Bool := if packetOk l = true ∧ moveOk (l.length : Int) k a = true then (doMove l k a, true) else ([], false)
theorem wf_small {x : Int} (h0 : -100 ≤ x) (h1 : x ≤ 100) : (Lit.int .i64 x).wf = true := by
  simp [Lit.wf, IntKind.min, IntKind.max, IntKind.signed, IntKind.bits]
  omega
theorem cardOf_bound {x : Int} (h : 0 ≤ cardOf x) : -12 ≤ x ∧ x ≤ 11 := by
  unfold cardOf at h
  repeat' split at h
  all_goals omega

theorem impl_moved_loop (a : Nat) (v : List Int) (hv : v.length ≤ 12) : ∀ (r pre : List Int), (∀ x ∈ r, (Lit.int .i64 x).wf = true) → pre.length + r.length = a → a ≤ 12 →
    Ev (fun k => impl_moved.l0 k (a : Int) (pre ++ r ++ v) (pre.length : Int)) (pre ++ r.map turnCard ++ v) := by
  intro r
  induction r with
  | nil =>
    intro pre hw hp ha
    refine Ev.step (f := fun _ => some _) (fun k => ?_) (Ev.now _)
    simp only [impl_moved.l0]
    rw [if_neg (by simp at hp; omega)]
    rfl
  | cons x r ih =>
    intro pre hw hp ha
    simp only [List.length_cons] at hp
    have hi := ih (pre ++ [turnCard x]) (fun y hy => hw y (by simp [hy])) (by simp <;> omega) ha
    rw [show pre ++ List.map turnCard (x :: r) ++ v = pre ++ [turnCard x] ++ List.map turnCard r ++ v by simp]
    refine Ev.step (fun k => ?_) hi
    have e : pre ++ (x :: r) ++ v = pre ++ x :: (r ++ v) := by simp
    have er : rd (pre ++ (x :: r) ++ v) (pre.length : Int) = x := by rw [e]; exact rd_mid _ _ _
    have es : (pre ++ (x :: r) ++ v).set pre.length (turnCard x) = pre ++ [turnCard x] ++ r ++ v := by rw [e, set_mid]; simp
    simp only [impl_moved.l0]
    rw [if_pos (by omega), if_pos (by omega), if_pos (by simp <;> omega), er, impl_TurnCard_eq x (bd64 (hw x (by simp))).1]
    simp only [Option.bind_some]
    rw [Int.toNat_natCast, es, snoc_len (turnCard x) (by omega)]
theorem impl_moved_ev (l : List Int) (k a : Int) (hw : ∀ x ∈ l, (Lit.int .i64 x).wf = true) (h : moveOk (l.length : Int) k a = true) : Ev (fun j => impl_moved.f j l k a) (doMove l k a) := by
  obtain ⟨n1, n2, h0, hk⟩ := moveOk_parts h
  have hl : l.length ≤ 12 := by omega
  have et : ∀ z : Nat, (l.take z).length ≤ 12 := fun z => by simp; omega
  have ed : ∀ z : Nat, (l.drop z).length ≤ 12 := fun z => by simp; omega
  unfold impl_moved.f doMove
  by_cases k1 : k = 1
  · rw [if_pos k1]
    have hc := slices_Concat_int_int_ev [l.drop a.toNat, l.take a.toNat] (by simp) (by simp <;> omega)
    refine ev_ite_true k1 (ev_ite_true h0 (ev_ite_true (by omega) (Ev.bind hc ?_)))
    simp only [List.flatten_cons, List.flatten_nil, List.append_nil]
    exact Ev.now _
  rw [if_neg k1]
  refine ev_ite_false k1 ?_
  by_cases k2 : k = 2
  · rw [if_pos k2]
    have hc := slices_Concat_int_int_ev [(l.take a.toNat).reverse, l.drop a.toNat] (by simp) (by simp <;> omega)
    refine ev_ite_true k2 (ev_ite_true h0 (ev_ite_true (by omega) (Ev.bind (impl_reversed_ev _ (by have := et a.toNat; omega)) (Ev.bind hc ?_))))
    simp only [List.flatten_cons, List.flatten_nil, List.append_nil]
    exact Ev.now _
  rw [if_neg k2]
  refine ev_ite_false k2 ?_
  by_cases k3 : k = 3
  · rw [if_pos k3]
    have hc := slices_Concat_int_int_ev [(l.take a.toNat).reverse, l.drop a.toNat] (by simp) (by simp <;> omega)
    refine ev_ite_true k3 (ev_ite_true h0 (ev_ite_true (by omega) (Ev.bind (impl_reversed_ev _ (by have := et a.toNat; omega)) (Ev.bind hc ?_))))
    simp only [List.flatten_cons, List.flatten_nil, List.append_nil]
    have hm := impl_moved_loop a.toNat (l.drop a.toNat) (ed _) (l.take a.toNat).reverse [] (fun x hx => hw x (List.mem_of_mem_take (List.mem_reverse.1 hx))) (by simp <;> omega) (by omega)
    rw [Int.toNat_of_nonneg h0, List.nil_append, List.nil_append, List.map_reverse] at hm
    exact hm
  rw [if_neg k3]
  refine ev_ite_false k3 ?_
  by_cases k4 : k = 4
  · rw [if_pos k4]
    exact ev_ite_true k4 (Ev.bind (impl_faro_ev l a hl (by omega)) (Ev.now _))
  rw [if_neg k4]
  refine ev_ite_false k4 ?_
  by_cases k5 : k = 5
  · rw [if_pos k5]
    exact ev_ite_true k5 (Ev.bind (impl_monge_ev l a hl (by omega)) (Ev.now _))
  rw [if_neg k5]
  refine ev_ite_false k5 ?_
  by_cases k6 : k = 6
  · rw [if_pos k6]
    exact ev_ite_true k6 (Ev.bind (impl_milk_ev l hl) (Ev.now _))
  rw [if_neg k6]
  refine ev_ite_false k6 ?_
  by_cases k7 : k = 7
  · rw [if_pos k7]
    obtain ⟨r, hr, e1, e2⟩ := impl_dealt_ev l a hl (by omega)
    rw [← e1]
    exact ev_ite_true k7 (Ev.bind hr (Ev.bind (impl_reversed_ev r (by omega)) (Ev.now _)))
  rw [if_neg k7]
  refine ev_ite_false k7 ?_
  have ec : slices_Clone_int_int.f l = some l := by unfold slices_Clone_int_int.f; rw [if_pos (by omega)]
  by_cases k8 : k = 8
  · simp only [if_pos k8]
    refine ev_some fun j => ?_
    rw [ec]
    simp only [Option.bind_some]
    rw [if_pos (by omega), if_pos (by omega), impl_TurnCard_eq _ (bd64 (hw _ (by rw [rd_of_lt h0 (by omega)]; exact List.getElem_mem _))).1]
    rfl
  simp only [if_neg k8]
  have ew : wrap64 (a + 1) = a + 1 := w64 (by omega) (by omega)
  simp only [ew, show (a + 1).toNat = a.toNat + 1 by omega]
  have hlt : a.toNat < l.length := by omega
  have e1 : (l.take (a.toNat + 1)).drop a.toNat = [rd l a] := by
    rw [List.take_succ_eq_append_getElem hlt, List.drop_append_of_le_length (by simp <;> omega), rd_of_lt h0 (by omega)]
    simp
  rw [e1]
  have hc := slices_Concat_int_int_ev [l.take a.toNat, l.drop (a.toNat + 1), [rd l a]] (by simp) (by simp <;> omega)
  refine ev_ite_true h0 (ev_ite_true (by omega) (ev_ite_true (by omega) (ev_ite_true (by omega) (ev_ite_true (by omega) (Ev.bind hc ?_)))))
  simp only [List.flatten_cons, List.flatten_nil, List.append_nil, List.append_assoc]
  exact Ev.now _

theorem impl_Perform_ev (l : List Int) (k a : Int) (hl : l.length ≤ 9223372036854775806) (hw : ∀ x ∈ l, (Lit.int .i64 x).wf = true) : Ev (fun j => impl_Perform.f j l k a) (perform l k a) := by
  unfold impl_Perform.f perform
  refine Ev.bind (impl_PacketOk_ev l hl hw) ?_
  by_cases h1 : packetOk l = true
  · refine ev_ite_true h1 (Ev.bind (impl_MoveOk_ev _ k a) ?_)
    by_cases h2 : moveOk (l.length : Int) k a = true
    · refine ev_ite_true h2 ?_
      rw [if_pos ⟨h1, h2⟩]
      exact Ev.bind (impl_moved_ev l k a hw h2) (Ev.now _)
    · refine ev_ite_false h2 ?_
      rw [if_neg (fun h => h2 h.2)]
      exact Ev.now _
  · refine ev_ite_false h1 ?_
    rw [if_neg (fun h => h1 h.1)]
    exact Ev.now _

theorem cardOf_turn (x : Int) : cardOf (turnCard x) = cardOf x := by
  unfold turnCard
  split
  · rfl
  · rename_i h
    unfold cardOf at h ⊢
    repeat' split
    all_goals (repeat' split at h)
    all_goals omega
theorem faroF_perm (k : Int) : ∀ (d : Nat) (a b out : List Int), a.length + b.length ≤ d → (faroF k d a b out).Perm (out ++ (a ++ b)) := by
  intro d
  induction d with
  | zero =>
    intro a b out h
    have ha : a = [] := List.length_eq_zero_iff.mp (by omega)
    have hb : b = [] := List.length_eq_zero_iff.mp (by omega)
    subst ha hb
    simp [faroF]
  | succ d ih =>
    intro a b out h
    match a, b with
    | [], [] => simp [faroF]
    | [], y :: b =>
      rw [faroF]
      refine (ih [] b (out ++ [y]) (by simp at h ⊢; omega)).trans ?_
      simp
    | x :: a, [] =>
      rw [faroF]
      refine (ih a [] (out ++ [x]) (by simp at h ⊢; omega)).trans ?_
      simp
    | x :: a, y :: b =>
      rw [faroF]
      simp only [List.length_cons] at h
      split
      · refine (ih a (y :: b) (out ++ [x]) (by simp; omega)).trans ?_
        simp
      · refine (ih (x :: a) b (out ++ [y]) (by simp; omega)).trans ?_
        rw [List.append_assoc]
        refine List.Perm.append_left out ?_
        exact (List.perm_middle (l₁ := x :: a) (a := y) (l₂ := b)).symm
theorem mongeF_perm (k : Int) : ∀ (r : List Int) (i : Nat) (out : List Int), (mongeF k r i out).Perm (out ++ r) := by
  intro r
  induction r with
  | nil => intro i out; simp [mongeF]
  | cons x r ih =>
    intro i out
    rw [mongeF]
    split
    · refine (ih (i + 1) (out ++ [x])).trans ?_
      simp
    · refine (ih (i + 1) (x :: out)).trans ?_
      exact (List.perm_middle (l₁ := out) (a := x) (l₂ := r)).symm
theorem ends_of {l : List Int} (h : 1 < l.length) : ∃ x m z, l = x :: (m ++ [z]) ∧ (l.take (l.length - 1)).drop 1 = m ∧ rd l 0 = x ∧ rd l ((l.length : Int) - 1) = z := by
  match l with
  | [] => simp at h
  | [x] => simp at h
  | x :: y :: r =>
    obtain ⟨m, z, e⟩ : ∃ m z, y :: r = m ++ [z] := ⟨(y :: r).dropLast, (y :: r).getLast (by simp), (List.dropLast_concat_getLast (by simp)).symm⟩
    rw [e]
    refine ⟨x, m, z, rfl, ?_, rfl, ?_⟩
    · have : (x :: (m ++ [z])).length - 1 = (x :: m).length := by simp
      rw [this, show x :: (m ++ [z]) = (x :: m) ++ [z] by simp, List.take_left']
      · simp
      · rfl
    · have : ((x :: (m ++ [z])).length : Int) - 1 = ((x :: m).length : Int) := by simp <;> omega
      rw [this, show x :: (m ++ [z]) = (x :: m) ++ z :: [] by simp]
      exact rd_mid _ _ _
theorem milkF_perm : ∀ (d : Nat) (l out : List Int), (milkF d l out).Perm (l ++ out) := by
  intro d
  induction d with
  | zero => intro l out; simp [milkF]
  | succ d ih =>
    intro l out
    rw [milkF]
    split
    · rename_i h
      obtain ⟨x, m, z, e, e1, e2, e3⟩ := ends_of h
      rw [e1, e2, e3]
      refine (ih m ([x, z] ++ out)).trans ?_
      rw [e]
      simp only [List.cons_append, List.nil_append, List.append_assoc]
      exact List.perm_middle
    · exact List.Perm.refl _
theorem duckF_perm : ∀ (d : Nat) (q out : List Int) (b : Bool), (duckF d q out b).Perm (q ++ out) := by
  intro d
  induction d with
  | zero => intro q out b; simp [duckF]
  | succ d ih =>
    intro q out b
    match q with
    | [] => simp [duckF]
    | [x] => simp [duckF]
    | x :: y :: r =>
      rw [duckF]
      split
      · refine (ih (y :: r) (x :: out) false).trans ?_
        exact List.perm_middle
      · refine (ih (y :: r ++ [x]) out true).trans ?_
        rw [List.append_assoc]
        exact List.perm_middle
/-- A move keeps the cards. -/
theorem doMove_perm {l : List Int} {k a : Int} (h : moveOk (l.length : Int) k a = true) : ((doMove l k a).map cardOf).Perm (l.map cardOf) := by
  obtain ⟨n1, n2, h0, hk⟩ := moveOk_parts h
  unfold doMove
  by_cases k1 : k = 1
  · rw [if_pos k1]
    refine List.Perm.map _ ?_
    refine List.perm_append_comm.trans ?_
    rw [List.take_append_drop]
  rw [if_neg k1]
  by_cases k2 : k = 2
  · rw [if_pos k2]
    refine List.Perm.map _ ?_
    refine ((List.reverse_perm _).append_right _).trans ?_
    rw [List.take_append_drop]
  rw [if_neg k2]
  by_cases k3 : k = 3
  · rw [if_pos k3, List.map_append, List.map_reverse, List.map_map]
    have e : (cardOf ∘ turnCard) = cardOf := by funext x; exact cardOf_turn x
    rw [e]
    refine ((List.reverse_perm _).append_right _).trans ?_
    rw [← List.map_append, List.take_append_drop]
  rw [if_neg k3]
  by_cases k4 : k = 4
  · rw [if_pos k4]
    refine List.Perm.map _ ((faroF_perm a _ _ _ _ (by simp; omega)).trans ?_)
    rw [List.nil_append, List.take_append_drop]
  rw [if_neg k4]
  by_cases k5 : k = 5
  · rw [if_pos k5]
    exact List.Perm.map _ (mongeF_perm a l 0 [])
  rw [if_neg k5]
  by_cases k6 : k = 6
  · rw [if_pos k6]
    refine List.Perm.map _ ((milkF_perm l.length l []).trans ?_)
    rw [List.append_nil]
  rw [if_neg k6]
  by_cases k7 : k = 7
  · rw [if_pos k7]
    refine List.Perm.map _ ((duckF_perm _ l [] _).trans ?_)
    rw [List.append_nil]
  rw [if_neg k7]
  have hlt : a.toNat < l.length := by omega
  by_cases k8 : k = 8
  · rw [if_pos k8, List.map_set, cardOf_turn, rd_of_lt h0 (by omega)]
    have e : (l.map cardOf).set a.toNat (cardOf l[a.toNat]) = l.map cardOf := by
      have := set_self (l.map cardOf) a.toNat (by simpa using hlt)
      rw [List.getElem_map] at this
      exact this
    rw [e]
  rw [if_neg k8]
  refine List.Perm.map _ ?_
  rw [rd_of_lt h0 (by omega)]
  have e : l = l.take a.toNat ++ (l[a.toNat] :: l.drop (a.toNat + 1)) := by
    rw [← List.drop_eq_getElem_cons hlt, List.take_append_drop]
  have hp : (l.take a.toNat ++ l.drop (a.toNat + 1) ++ [l[a.toNat]]).Perm (l.take a.toNat ++ (l[a.toNat] :: l.drop (a.toNat + 1))) := by
    rw [List.append_assoc]
    refine List.Perm.append_left _ ?_
    exact List.perm_append_comm
  rw [← e] at hp
  exact hp
theorem doMove_length {l : List Int} {k a : Int} (h : moveOk (l.length : Int) k a = true) : (doMove l k a).length = l.length := by
  have := (doMove_perm h).length_eq
  simpa using this
theorem perform_length (l : List Int) (k a : Int) : (perform l k a).1.length ≤ 12 := by
  unfold perform
  by_cases h : packetOk l = true ∧ moveOk (l.length : Int) k a = true
  · rw [if_pos h, doMove_length h.2]; exact packetOk_length h.1
  · rw [if_neg h]; simp

def posFrom (c : Int) : Int → List Int → Int
  | _, [] => -1
  | i, x :: r => if cardOf x = c then i else posFrom c (i + 1) r
/-- Where a card lies in a packet, or -1. -/
def positionOf (l : List Int) (c : Int) : Int := if 0 ≤ c then posFrom c 0 l else -1
theorem posFrom_get (c : Int) (l : List Int) : ∀ (i : Int) (j : Nat) (h : j < l.length), cardOf (l[j]) = c → (∀ (m : Nat) (h' : m < l.length), m < j → cardOf (l[m]) ≠ c) → posFrom c i l = i + j := by
  induction l with
  | nil => intro i j h; simp at h
  | cons x r ih =>
    intro i j h hc hm
    rw [posFrom]
    cases j with
    | zero => rw [if_pos (show cardOf x = c from hc)]; simp
    | succ j =>
      rw [if_neg (show ¬ cardOf x = c from hm 0 (by simp) (by omega)), ih (i + 1) j (by simpa using h) hc (fun m h' hl => hm (m + 1) (by simpa using h') (by omega))]
      omega
theorem posFrom_nonneg (c : Int) (l : List Int) : ∀ i : Int, 0 ≤ i → (0 ≤ posFrom c i l ↔ ∃ x ∈ l, cardOf x = c) := by
  induction l with
  | nil => intro i hi; simp [posFrom]
  | cons x r ih =>
    intro i hi
    rw [posFrom]
    by_cases h : cardOf x = c
    · rw [if_pos h]; simp [h, hi]
    · rw [if_neg h, ih (i + 1) (by omega)]; simp [h]

/-- Do two packets hold the same cards? -/
def isArrangement (l b : List Int) : Bool := packetOk l && (packetOk b && (decide (l.length = b.length) && l.all fun x => !decide (positionOf b (cardOf x) < 0)))
def permBetween (l b : List Int) : List Int × Bool := if isArrangement l b = true then (b.map fun x => positionOf l (cardOf x), true) else ([], false)
theorem isArrangement_ok {l b : List Int} (h : isArrangement l b = true) : packetOk l = true ∧ packetOk b = true ∧ l.length = b.length := by
  simp only [isArrangement, Bool.and_eq_true, decide_eq_true_eq] at h
  exact ⟨h.1, h.2.1, h.2.2.1⟩
theorem permBetween_length (l b : List Int) : (permBetween l b).1.length ≤ 12 := by
  unfold permBetween
  by_cases h : isArrangement l b = true
  · rw [if_pos h, List.length_map]; exact packetOk_length (isArrangement_ok h).2.1
  · rw [if_neg h]; simp

def permOfMove (n k a : Int) : List Int × Bool := if moveOk n k a = true then ((doMove (upFrom 0 n.toNat) k a).map cardOf, true) else ([], false)
theorem cardOf_id {n : Nat} (h : n ≤ 12) : (upFrom 0 n).map cardOf = upFrom 0 n := by
  apply List.ext_getElem (by simp)
  intro i h1 h2
  have hl := upFrom_length n 0
  rw [List.getElem_map, upFrom_get]
  have : i < n := by simpa [hl] using h2
  exact cardOf_small (by omega) (by omega)
theorem posFrom_id (n : Nat) : ∀ (m c : Int), 0 ≤ m → m + n ≤ 12 → m ≤ c → c < m + n → posFrom c m (upFrom m n) = c := by
  induction n with
  | zero => intro m c h0 h1 h2 h3; omega
  | succ n ih =>
    intro m c h0 h1 h2 h3
    rw [upFrom, posFrom, cardOf_small h0 (by omega)]
    by_cases e : m = c
    · rw [if_pos e, e]
    · rw [if_neg e]
      exact ih (m + 1) c (by omega) (by omega) (by omega) (by omega)
theorem positionOf_id {n : Nat} (hn : n ≤ 12) {c : Int} (h0 : 0 ≤ c) (h1 : c < n) : positionOf (upFrom 0 n) c = c := by
  unfold positionOf
  rw [if_pos h0]
  exact posFrom_id n 0 c (by omega) (by omega) h0 (by omega)
theorem permOfMove_perm {n k a : Int} (h : moveOk n k a = true) : ((doMove (upFrom 0 n.toNat) k a).map cardOf).Perm (upFrom 0 n.toNat) := by
  obtain ⟨n1, n2, h0, hk⟩ := moveOk_parts h
  have hl : ((upFrom 0 n.toNat).length : Int) = n := by rw [upFrom_length]; omega
  have := doMove_perm (l := upFrom 0 n.toNat) (k := k) (a := a) (by rw [hl]; exact h)
  rw [cardOf_id (by omega)] at this
  exact this
theorem permOfMove_length (n k a : Int) : (permOfMove n k a).1.length ≤ 12 := by
  unfold permOfMove
  by_cases h : moveOk n k a = true
  · obtain ⟨n1, n2, h0, hk⟩ := moveOk_parts h
    rw [if_pos h, (permOfMove_perm h).length_eq, upFrom_length]; omega
  · rw [if_neg h]; simp
theorem packetOk_id {n : Nat} (hn : n ≤ 12) : packetOk (upFrom 0 n) = true := by
  rw [packetOk_iff, cardOf_id hn]
  refine ⟨fun x hx => ?_, upFrom_nodup _ _⟩
  rw [upFrom_mem] at hx
  rw [cardOf_small hx.1 (by omega)]
  exact hx.1
theorem permBetween_move {n k a : Int} (h : moveOk n k a = true) : permBetween (upFrom 0 n.toNat) (doMove (upFrom 0 n.toNat) k a) = ((doMove (upFrom 0 n.toNat) k a).map cardOf, true) := by
  obtain ⟨n1, n2, h0, hk⟩ := moveOk_parts h
  have hp := permOfMove_perm h
  have hmem : ∀ x ∈ doMove (upFrom 0 n.toNat) k a, 0 ≤ cardOf x ∧ cardOf x < n := fun x hx => by
    have := hp.mem_iff.1 (List.mem_map_of_mem (f := cardOf) hx)
    rw [upFrom_mem] at this
    omega
  have hok : packetOk (doMove (upFrom 0 n.toNat) k a) = true := by
    rw [packetOk_iff]
    exact ⟨fun x hx => (hmem x hx).1, hp.nodup_iff.2 (upFrom_nodup _ _)⟩
  have hlen : (upFrom 0 n.toNat).length = (doMove (upFrom 0 n.toNat) k a).length := by
    have := hp.length_eq
    rw [List.length_map] at this
    exact this.symm
  have harr : isArrangement (upFrom 0 n.toNat) (doMove (upFrom 0 n.toNat) k a) = true := by
    unfold isArrangement
    rw [packetOk_id (by omega), hok, Bool.true_and, Bool.true_and, decide_eq_true hlen, Bool.true_and, List.all_eq_true]
    intro x hx
    rw [upFrom_mem] at hx
    have hc : cardOf x = x := cardOf_small hx.1 (by omega)
    have hin : x ∈ (doMove (upFrom 0 n.toNat) k a).map cardOf := hp.mem_iff.2 (by rw [upFrom_mem]; exact hx)
    have : 0 ≤ positionOf (doMove (upFrom 0 n.toNat) k a) x := by
      unfold positionOf
      rw [if_pos hx.1, posFrom_nonneg _ _ _ (by omega)]
      obtain ⟨y, hy, e⟩ := List.mem_map.1 hin
      exact ⟨y, hy, e⟩
    rw [hc, decide_eq_false (by omega)]
    rfl
  unfold permBetween
  rw [if_pos harr]
  congr 1
  apply List.map_congr_left
  intro x hx
  have := hmem x hx
  exact positionOf_id (by omega) this.1 (by omega)

theorem impl_upTo_loop (n : Nat) (hn : n ≤ 17592186044415) : ∀ i, i ≤ n → Ev (fun k => impl_upTo.l0 k (n : Int) (upFrom 0 i) (i : Int)) (upFrom 0 n) := by
  refine up_ind n (fun i => Ev (fun k => impl_upTo.l0 k (n : Int) (upFrom 0 i) (i : Int)) (upFrom 0 n)) ?_ ?_
  · refine Ev.step (f := fun _ => some _) (fun k => ?_) (Ev.now _)
    simp only [impl_upTo.l0]
    rw [if_neg (by omega)]
  · intro i hi h
    refine Ev.step (fun k => ?_) h
    have hl := upFrom_length i 0
    simp only [impl_upTo.l0]
    rw [if_pos (by omega), if_pos (by omega), w64 (by omega) (by omega), upFrom_snoc]
    simp
theorem impl_upTo_ev (n : Nat) (hn : n ≤ 17592186044415) : Ev (fun k => impl_upTo.f k (n : Int)) (upFrom 0 n) := by
  unfold impl_upTo.f
  exact impl_upTo_loop n hn 0 (by omega)

theorem idxF_congr {p q : Int → Bool} {l : List Int} (h : ∀ x ∈ l, p x = q x) : ∀ i, idxF p i l = idxF q i l := by
  induction l with
  | nil => intro i; rfl
  | cons x r ih => intro i; rw [idxF, idxF, h x (by simp), ih (fun y hy => h y (by simp [hy]))]
theorem idxF_card (c : Int) (l : List Int) : ∀ i, idxF (fun x => cardOf x == c) i l = posFrom c i l := by
  induction l with
  | nil => intro i; rfl
  | cons x r ih => intro i; rw [idxF, posFrom, ih]; simp

theorem isCard_eq (c x : Int) (hx : (Lit.int .i64 x).wf = true) : isCard c x = (cardOf x == c) := by
  unfold isCard
  rw [impl_CardOf_eq x (bd64 hx).1]
  rfl
theorem impl_PositionOf_eq (l : List Int) (c : Int) (hw : ∀ x ∈ l, (Lit.int .i64 x).wf = true) : impl_PositionOf.f l c = some (positionOf l c) := by
  unfold impl_PositionOf.f positionOf
  rw [idxF_congr (fun x hx => isCard_eq c x (hw x hx)), idxF_card]
  by_cases h : c < 0
  · rw [if_pos h, if_neg (by omega)]
  · rw [if_neg h, if_pos (by omega)]
theorem impl_PositionOf_ev (l : List Int) (c : Int) (hw : ∀ x ∈ l, (Lit.int .i64 x).wf = true) : Ev (fun k => impl_PositionOf.f l c) (positionOf l c) := ev_some fun _ => impl_PositionOf_eq l c hw

theorem lacks_eq (q : List Int) (x : Int) (hx : (Lit.int .i64 x).wf = true) (hq : ∀ y ∈ q, (Lit.int .i64 y).wf = true) : lacks q x = decide (positionOf q (cardOf x) < 0) := by
  have h := impl_PositionOf_eq q (cardOf x) hq
  unfold impl_PositionOf.f at h
  unfold lacks
  rw [impl_CardOf_eq x (bd64 hx).1, ← Option.some.inj h]
  rfl
theorem impl_IsArrangement_ev (l b : List Int) (hl : l.length ≤ 9223372036854775806) (hb : b.length ≤ 9223372036854775806) (wl : ∀ x ∈ l, (Lit.int .i64 x).wf = true) (wb : ∀ x ∈ b, (Lit.int .i64 x).wf = true) : Ev (fun k => impl_IsArrangement.f k l b) (isArrangement l b) := by
  unfold impl_IsArrangement.f isArrangement
  refine Ev.bind (impl_PacketOk_ev l hl wl) ?_
  by_cases h1 : packetOk l = true
  · refine ev_ite_true h1 (Ev.bind (impl_PacketOk_ev b hb wb) ?_)
    rw [h1, Bool.true_and]
    by_cases h2 : packetOk b = true
    · refine ev_ite_true h2 ?_
      rw [h2, Bool.true_and]
      by_cases h3 : l.length = b.length
      · refine ev_ite_true (by omega) ?_
        rw [decide_eq_true h3, Bool.true_and]
        have e : (!l.any (lacks b)) = l.all fun x => !decide (positionOf b (cardOf x) < 0) := by
          rw [List.not_any_eq_all_not]
          have : ∀ m : List Int, (∀ x ∈ m, x ∈ l) → (m.all fun x => !lacks b x) = m.all fun x => !decide (positionOf b (cardOf x) < 0) := by
            intro m
            induction m with
            | nil => intro _; rfl
            | cons y m ih => intro hm; rw [List.all_cons, List.all_cons, ih (fun z hz => hm z (by simp [hz])), lacks_eq b y (wl y (hm y (by simp))) wb]
          exact this l (fun _ h => h)
        rw [e]
        exact Ev.now _
      · refine ev_ite_false (by omega) ?_
        rw [decide_eq_false h3, Bool.false_and]
        exact Ev.now _
    · rw [Bool.not_eq_true] at h2
      rw [h2, Bool.false_and]
      exact ev_ite_false (by simp) (Ev.now _)
  · rw [Bool.not_eq_true] at h1
    rw [h1, Bool.false_and]
    exact ev_ite_false (by simp) (Ev.now _)

theorem impl_PermBetween_loop (l b : List Int) (hl : l.length ≤ 9223372036854775806) (hb : b.length ≤ 17592186044415) (wl : ∀ x ∈ l, (Lit.int .i64 x).wf = true) (wb : ∀ x ∈ b, (Lit.int .i64 x).wf = true) : ∀ (r pre out : List Int), b = pre ++ r → out.length = pre.length →
    Ev (fun k => impl_PermBetween.l0 k l out b (b.length : Int) (pre.length : Int)) (out ++ r.map (fun x => positionOf l (cardOf x)), true) := by
  intro r
  induction r with
  | nil =>
    intro pre out h ho
    have e := lens h
    simp only [List.length_nil] at e
    refine Ev.step (f := fun _ => some _) (fun k => ?_) (Ev.now _)
    simp only [impl_PermBetween.l0]
    rw [if_neg (by omega)]
    simp
  | cons x r ih =>
    intro pre out h ho
    have e := lens h
    simp only [List.length_cons] at e
    refine Ev.step (f := fun k => (impl_PositionOf.f l (cardOf x)).bind fun t => impl_PermBetween.l0 k l (out ++ [t]) b (b.length : Int) ((pre ++ [x]).length : Int)) (fun k => ?_) ?_
    · simp only [impl_PermBetween.l0]
      rw [if_pos (by omega), if_pos (by omega), if_pos (by omega), rd_mid' h, impl_CardOf_eq x (bd64 (wb x (by rw [h]; simp))).1]
      simp only [Option.bind_some]
      simp only [if_pos (show out.length < 17592186044416 by omega)]
      rw [snoc_len x (by omega)]
    · refine Ev.bind (impl_PositionOf_ev l (cardOf x) wl) ?_
      have hi := ih (pre ++ [x]) (out ++ [positionOf l (cardOf x)]) (snoc_eq h) (by simp [ho])
      rw [List.append_assoc] at hi
      exact hi
theorem impl_PermBetween_ev (l b : List Int) (hl : l.length ≤ 9223372036854775806) (hb : b.length ≤ 9223372036854775806) (wl : ∀ x ∈ l, (Lit.int .i64 x).wf = true) (wb : ∀ x ∈ b, (Lit.int .i64 x).wf = true) : Ev (fun k => impl_PermBetween.f k l b) (permBetween l b) := by
  unfold impl_PermBetween.f permBetween
  refine Ev.bind (impl_IsArrangement_ev l b hl hb wl wb) ?_
  by_cases h1 : isArrangement l b = true
  · refine ev_ite_true h1 ?_
    rw [if_pos h1]
    exact impl_PermBetween_loop l b hl (by have := packetOk_length (isArrangement_ok h1).2.1; omega) wl wb b [] [] rfl rfl
  · refine ev_ite_false h1 ?_
    rw [if_neg h1]
    exact Ev.now _

theorem impl_PermOfMove_ev (n k a : Int) : Ev (fun j => impl_PermOfMove.f j n k a) (permOfMove n k a) := by
  unfold impl_PermOfMove.f
  refine Ev.bind (impl_MoveOk_ev n k a) ?_
  by_cases h : moveOk n k a = true
  · obtain ⟨n1, n2, h0, hk⟩ := moveOk_parts h
    have hu := impl_upTo_ev n.toNat (by omega)
    rw [Int.toNat_of_nonneg (by omega)] at hu
    have hw : ∀ x ∈ upFrom 0 n.toNat, (Lit.int .i64 x).wf = true := fun x hx => by rw [upFrom_mem] at hx; exact wf_small (by omega) (by omega)
    have hm : moveOk ((upFrom 0 n.toNat).length : Int) k a = true := by rw [upFrom_length, Int.toNat_of_nonneg (by omega)]; exact h
    have hl := doMove_length hm
    rw [upFrom_length] at hl
    have hp := permOfMove_perm h
    have hw2 : ∀ x ∈ doMove (upFrom 0 n.toNat) k a, (Lit.int .i64 x).wf = true := fun x hx => by
      have := hp.mem_iff.1 (List.mem_map_of_mem (f := cardOf) hx)
      rw [upFrom_mem] at this
      have := cardOf_bound this.1
      exact wf_small (by omega) (by omega)
    refine ev_ite_true h (Ev.bind hu (Ev.bind hu (Ev.bind (impl_moved_ev _ k a hw hm) (Ev.bind (impl_PermBetween_ev _ _ (by rw [upFrom_length]; omega) (by omega) hw hw2) ?_))))
    rw [permBetween_move h]
    unfold permOfMove
    rw [if_pos h]
    exact Ev.now _
  · refine ev_ite_false h ?_
    unfold permOfMove
    rw [if_neg h]
    exact Ev.now _

theorem impl_IsUp_eq (x : Int) (hx : -9223372036854775808 ≤ x) : impl_IsUp.f x = some (decide (-12 ≤ x ∧ x ≤ -1)) := by
  unfold impl_IsUp.f
  rw [impl_CardOf_eq x hx]
  by_cases h : x < 0
  · rw [if_pos h]
    simp only [Option.bind_some, cardOf]
    rw [if_neg (show ¬ 0 ≤ x by omega)]
    by_cases h1 : -12 ≤ x
    · rw [if_pos h1]; simp; omega
    · rw [if_neg h1]; simp; omega
  · rw [if_neg h]; simp; omega

def isUpB (x : Int) : Bool := decide (-12 ≤ x ∧ x ≤ -1)

theorem laws_same_loop (a b : List Int) (hab : a.length = b.length) (hl : a.length ≤ 9223372036854775806) : ∀ (r s pre qre : List Int), a = pre ++ r → b = qre ++ s → pre.length = qre.length →
    Ev (fun k => laws_same.l0 k b a (a.length : Int) (pre.length : Int)) (decide (r = s)) := by
  intro r
  induction r with
  | nil =>
    intro s pre qre h h' hp
    have e := lens h
    have e' := lens h'
    simp only [List.length_nil] at e
    have hs : s = [] := List.eq_nil_of_length_eq_zero (by omega)
    refine Ev.step (f := fun _ => some _) (fun k => ?_) (Ev.now _)
    simp only [laws_same.l0]
    rw [if_neg (by omega), hs]
    simp
  | cons x r ih =>
    intro s pre qre h h' hp
    have e := lens h
    have e' := lens h'
    simp only [List.length_cons] at e
    cases s with
    | nil => simp only [List.length_nil] at e'; omega
    | cons y s =>
      have hy := rd_mid' h'
      rw [← hp] at hy
      by_cases c : x = y
      · subst c
        have hi := ih s (pre ++ [x]) (qre ++ [x]) (snoc_eq h) (snoc_eq h') (by simp [hp])
        have ed : decide (x :: r = x :: s) = decide (r = s) := by simp
        rw [ed]
        refine Ev.step (fun k => ?_) hi
        simp only [laws_same.l0]
        rw [if_pos (by omega), if_pos (by omega), if_pos (by omega), if_pos (by omega), rd_mid' h, hy, if_pos rfl, snoc_len x (by omega)]
      · refine Ev.step (f := fun _ => some _) (fun k => ?_) (Ev.now _)
        simp only [laws_same.l0]
        rw [if_pos (by omega), if_pos (by omega), if_pos (by omega), if_pos (by omega), rd_mid' h, hy, if_neg c]
        simp [c]
theorem laws_same_ev (a b : List Int) (hl : a.length ≤ 9223372036854775806) : Ev (fun k => laws_same.f k a b) (decide (a = b)) := by
  unfold laws_same.f
  by_cases h : (a.length : Int) = (b.length : Int)
  · simp only [if_pos h]
    exact laws_same_loop a b (by omega) hl a b [] [] rfl rfl rfl
  · simp only [if_neg h]
    exact ev_some fun _ => by rw [decide_eq_false (fun e => h (by rw [e]))]

def moveAll : List Int → List (Int × Int) → List Int × Bool
  | l, [] => (l, true)
  | l, m :: r => if moveOk (l.length : Int) m.1 m.2 = true then moveAll (doMove l m.1 m.2) r else ([], false)
def performAll (l : List Int) (ms : List (Int × Int)) : List Int × Bool := if packetOk l = true ∧ ms.length ≤ 20 then moveAll l ms else ([], false)
theorem packetOk_move {l : List Int} {k a : Int} (h : packetOk l = true) (hm : moveOk (l.length : Int) k a = true) : packetOk (doMove l k a) = true := by
  have hp := doMove_perm hm
  rw [packetOk_iff] at h ⊢
  refine ⟨fun x hx => ?_, hp.nodup_iff.2 h.2⟩
  obtain ⟨y, hy, e⟩ := List.mem_map.1 (hp.mem_iff.1 (List.mem_map_of_mem (f := cardOf) hx))
  rw [← e]
  exact h.1 y hy
theorem packet_bound {l : List Int} (h : packetOk l = true) : ∀ x ∈ l, -12 ≤ x ∧ x ≤ 11 := fun x hx => cardOf_bound (((packetOk_iff l).1 h).1 x hx)
theorem packet_wf {l : List Int} (h : packetOk l = true) : ∀ x ∈ l, (Lit.int .i64 x).wf = true := fun x hx => wf_small (by have := packet_bound h x hx; omega) (by have := packet_bound h x hx; omega)
theorem moveAll_length : ∀ (ms : List (Int × Int)) (l : List Int), packetOk l = true → (moveAll l ms).1.length ≤ 12 := by
  intro ms
  induction ms with
  | nil => intro l h; exact packetOk_length h
  | cons m r ih =>
    intro l h
    rw [moveAll]
    split
    · rename_i c; exact ih _ (packetOk_move h c)
    · simp
theorem performAll_length (l : List Int) (ms : List (Int × Int)) : (performAll l ms).1.length ≤ 12 := by
  unfold performAll
  split
  · rename_i c; exact moveAll_length ms l c.1
  · simp

theorem faroF_map (f : Int → Int) (k : Int) : ∀ (d : Nat) (a b out : List Int), faroF k d (a.map f) (b.map f) (out.map f) = (faroF k d a b out).map f := by
  intro d
  induction d with
  | zero => intro a b out; rfl
  | succ d ih =>
    intro a b out
    match a, b with
    | [], [] => rfl
    | [], y :: b =>
      have := ih [] b (out ++ [y])
      rw [List.map_append] at this
      exact this
    | x :: a, [] =>
      have := ih a [] (out ++ [x])
      rw [List.map_append] at this
      exact this
    | x :: a, y :: b =>
      have h1 := ih a (y :: b) (out ++ [x])
      have h2 := ih (x :: a) b (out ++ [y])
      rw [List.map_append] at h1 h2
      simp only [List.map_cons, List.map_nil] at h1 h2 ⊢
      rw [faroF, faroF, List.length_map]
      by_cases c : (out.length : Int) % 2 = k
      · rw [if_pos c, if_pos c]; exact h1
      · rw [if_neg c, if_neg c]; exact h2
theorem mongeF_map (f : Int → Int) (k : Int) : ∀ (r : List Int) (i : Nat) (out : List Int), mongeF k (r.map f) i (out.map f) = (mongeF k r i out).map f := by
  intro r
  induction r with
  | nil => intro i out; rfl
  | cons x r ih =>
    intro i out
    have h1 := ih (i + 1) (out ++ [x])
    have h2 := ih (i + 1) (x :: out)
    rw [List.map_append] at h1
    simp only [List.map_cons, List.map_nil] at h1 h2 ⊢
    rw [mongeF, mongeF]
    by_cases c : i = 0 ∨ (i : Int) % 2 = k
    · rw [if_pos c, if_pos c]; exact h1
    · rw [if_neg c, if_neg c]; exact h2
theorem rd_map (f : Int → Int) (l : List Int) (i : Int) (h0 : 0 ≤ i) (h1 : i < l.length) : rd (l.map f) i = f (rd l i) := by
  rw [rd_of_lt h0 (by simpa using h1), rd_of_lt h0 h1, List.getElem_map]
theorem milkF_map (f : Int → Int) : ∀ (d : Nat) (l out : List Int), milkF d (l.map f) (out.map f) = (milkF d l out).map f := by
  intro d
  induction d with
  | zero => intro l out; simp [milkF]
  | succ d ih =>
    intro l out
    rw [milkF, milkF, List.length_map]
    by_cases c : 1 < l.length
    · rw [if_pos c, if_pos c, rd_map f l 0 (by omega) (by omega), rd_map f l _ (by omega) (by omega)]
      have h := ih ((l.take (l.length - 1)).drop 1) ([rd l 0, rd l ((l.length : Int) - 1)] ++ out)
      rw [List.map_append, List.map_drop, List.map_take] at h
      exact h
    · rw [if_neg c, if_neg c, List.map_append]
theorem duckF_map (f : Int → Int) : ∀ (d : Nat) (q out : List Int) (b : Bool), duckF d (q.map f) (out.map f) b = (duckF d q out b).map f := by
  intro d
  induction d with
  | zero => intro q out b; simp [duckF]
  | succ d ih =>
    intro q out b
    match q with
    | [] => rfl
    | [x] => rfl
    | x :: y :: r =>
      have h1 := ih (y :: r) (x :: out) false
      have h2 := ih (y :: r ++ [x]) out true
      rw [List.map_append] at h2
      simp only [List.map_cons, List.map_nil] at h1 h2 ⊢
      rw [duckF, duckF]
      cases b
      · rw [if_neg (by simp), if_neg (by simp)]; exact h2
      · rw [if_pos rfl, if_pos rfl]; exact h1
/-- A move does not look at the cells. -/
theorem doMove_map (f : Int → Int) (hf : ∀ x, turnCard (f x) = f (turnCard x)) {l : List Int} {k a : Int} (h : moveOk (l.length : Int) k a = true) : doMove (l.map f) k a = (doMove l k a).map f := by
  obtain ⟨n1, n2, h0, hk⟩ := moveOk_parts h
  unfold doMove
  rw [List.length_map]
  by_cases k1 : k = 1
  · rw [if_pos k1, if_pos k1, List.map_append, List.map_drop, List.map_take]
  rw [if_neg k1, if_neg k1]
  by_cases k2 : k = 2
  · rw [if_pos k2, if_pos k2, List.map_append, List.map_drop, List.map_reverse, List.map_take]
  rw [if_neg k2, if_neg k2]
  by_cases k3 : k = 3
  · rw [if_pos k3, if_pos k3, List.map_append, List.map_drop, List.map_reverse, List.map_map, ← List.map_take, List.map_map]
    congr 2
    apply List.map_congr_left
    intro x _
    exact hf x
  rw [if_neg k3, if_neg k3]
  by_cases k4 : k = 4
  · rw [if_pos k4, if_pos k4, ← List.map_take, ← List.map_drop]
    exact faroF_map f a l.length _ _ []
  rw [if_neg k4, if_neg k4]
  by_cases k5 : k = 5
  · rw [if_pos k5, if_pos k5]
    exact mongeF_map f a l 0 []
  rw [if_neg k5, if_neg k5]
  by_cases k6 : k = 6
  · rw [if_pos k6, if_pos k6]
    exact milkF_map f l.length l []
  rw [if_neg k6, if_neg k6]
  by_cases k7 : k = 7
  · rw [if_pos k7, if_pos k7]
    exact duckF_map f _ l [] _
  rw [if_neg k7, if_neg k7]
  rw [rd_map f l a h0 (by omega)]
  by_cases k8 : k = 8
  · rw [if_pos k8, if_pos k8, hf, List.map_set]
  · rw [if_neg k8, if_neg k8, List.map_append, List.map_append, List.map_take, List.map_drop]
    rfl
/-- The cell of packet p that an index stands for; a negative index stands for the cell turned over. -/
def face (p : List Int) (x : Int) : Int := if cardOf x < 0 then 100 else if x < 0 then turnCard (rd p (cardOf x)) else rd p (cardOf x)
theorem turn_turn (x : Int) : turnCard (turnCard x) = x := by
  unfold turnCard
  by_cases h : cardOf x < 0
  · rw [if_pos h, if_pos h]
  · rw [if_neg h]
    have e : turnCard x = -1 - x := by unfold turnCard; rw [if_neg h]
    have := cardOf_turn x
    rw [e] at this
    rw [this, if_neg h]
    omega
theorem face_turn (p : List Int) (x : Int) : turnCard (face p x) = face p (turnCard x) := by
  by_cases h : cardOf x < 0
  · have e : turnCard x = x := by unfold turnCard; rw [if_pos h]
    rw [e]
    unfold face
    rw [if_pos h]
    rfl
  · have e : turnCard x = -1 - x := by unfold turnCard; rw [if_neg h]
    have hc : cardOf (turnCard x) = cardOf x := cardOf_turn x
    unfold face
    rw [hc, if_neg h, if_neg h, e]
    by_cases hx : x < 0
    · rw [if_pos hx, if_neg (by omega), turn_turn]
    · rw [if_neg hx, if_pos (by omega)]
theorem ids_face {p : List Int} (h : p.length ≤ 12) : (upFrom 0 p.length).map (face p) = p := by
  have hl := upFrom_length p.length 0
  apply List.ext_getElem (by simp [hl])
  intro i h1 h2
  rw [List.getElem_map, upFrom_get]
  have hc : cardOf (0 + (i : Int)) = i := by rw [cardOf_small (by omega) (by omega)]; omega
  unfold face
  rw [hc, if_neg (by omega), if_neg (by omega), rd_lt h2]
theorem cardOf_face (p : List Int) {x : Int} (h : 0 ≤ cardOf x) : cardOf (face p x) = cardOf (rd p (cardOf x)) := by
  unfold face
  rw [if_neg (by omega)]
  split
  · exact cardOf_turn _
  · rfl
theorem positionOf_packet {p : List Int} (h : packetOk p = true) (j : Nat) (hj : j < p.length) : positionOf p (cardOf p[j]) = j := by
  obtain ⟨h1, h2⟩ := (packetOk_iff p).1 h
  unfold positionOf
  rw [if_pos (h1 _ (List.getElem_mem hj)), posFrom_get _ p 0 j hj rfl (fun m hm hl he => ?_)]
  · omega
  · have := nodup_inj h2 m j (by simpa using hm) (by simpa using hj) (by rw [List.getElem_map, List.getElem_map]; exact he)
    omega
/-- The indices after a move. -/
def after (n : Nat) (k a : Int) : List Int := doMove (upFrom 0 n) k a
theorem after_perm {n : Nat} {k a : Int} (h : moveOk (n : Int) k a = true) : ((after n k a).map cardOf).Perm (upFrom 0 n) := by
  obtain ⟨n1, n2, h0, hk⟩ := moveOk_parts h
  have hl := upFrom_length n 0
  have := doMove_perm (l := upFrom 0 n) (k := k) (a := a) (by rw [hl]; exact h)
  have e : (upFrom 0 n).map cardOf = upFrom 0 n := by
    apply List.ext_getElem (by simp)
    intro i h1 h2
    rw [List.getElem_map, upFrom_get]
    exact cardOf_small (by omega) (by omega)
  rw [e] at this
  exact this
theorem after_mem {n : Nat} {k a : Int} (h : moveOk (n : Int) k a = true) {x : Int} (hx : x ∈ after n k a) : 0 ≤ cardOf x ∧ cardOf x < n := by
  have := (after_perm h).mem_iff.1 (List.mem_map_of_mem (f := cardOf) hx)
  rw [upFrom_mem] at this
  omega
theorem move_face {p : List Int} {k a : Int} (h : moveOk (p.length : Int) k a = true) (hp : p.length ≤ 12) : doMove p k a = (after p.length k a).map (face p) := by
  have e := doMove_map (face p) (face_turn p) (l := upFrom 0 p.length) (k := k) (a := a) (by rw [upFrom_length]; exact h)
  rw [ids_face hp] at e
  exact e
theorem arr_move {p : List Int} {k a : Int} (hp : packetOk p = true) (h : moveOk (p.length : Int) k a = true) : isArrangement p (doMove p k a) = true := by
  unfold isArrangement
  rw [hp, packetOk_move hp h, decide_eq_true (doMove_length h).symm, Bool.true_and, Bool.true_and, Bool.true_and, List.all_eq_true]
  intro x hx
  have h1 := ((packetOk_iff p).1 hp).1 x hx
  have hin : cardOf x ∈ (doMove p k a).map cardOf := (doMove_perm h).mem_iff.2 (List.mem_map_of_mem hx)
  have : 0 ≤ positionOf (doMove p k a) (cardOf x) := by
    unfold positionOf
    rw [if_pos h1, posFrom_nonneg _ _ _ (by omega)]
    obtain ⟨y, hy, e⟩ := List.mem_map.1 hin
    exact ⟨y, hy, e⟩
  rw [decide_eq_false (by omega)]
  rfl
theorem permBetween_face {p : List Int} {k a : Int} (hp : packetOk p = true) (h : moveOk (p.length : Int) k a = true) : permBetween p (doMove p k a) = ((after p.length k a).map cardOf, true) := by
  have hl := packetOk_length hp
  unfold permBetween
  rw [if_pos (arr_move hp h), move_face h hl, List.map_map]
  congr 1
  apply List.map_congr_left
  intro x hx
  have hm := after_mem h hx
  show positionOf p (cardOf (face p x)) = cardOf x
  rw [cardOf_face p hm.1, rd_of_lt hm.1 hm.2, positionOf_packet hp (cardOf x).toNat (by omega)]
  omega
/-- Where a card goes, and whether it is turned over. -/
theorem goes {p : List Int} {k a : Int} (hp : packetOk p = true) (h : moveOk (p.length : Int) k a = true) (i : Nat) (hi : i < p.length) :
    ∃ (j : Nat) (x : Int), j < p.length ∧ x ∈ after p.length k a ∧ positionOf (doMove p k a) (cardOf p[i]) = j ∧ cardOf x = i ∧ rd (doMove p k a) (j : Int) = face p x := by
  have hl := packetOk_length hp
  have hq := doMove_length h
  have hin : (i : Int) ∈ (after p.length k a).map cardOf := (after_perm h).mem_iff.2 (by rw [upFrom_mem]; omega)
  obtain ⟨x, hx, ex⟩ := List.mem_map.1 hin
  obtain ⟨j, hj, ej⟩ := List.getElem_of_mem hx
  have hwl : (after p.length k a).length = p.length := by
    have := (after_perm h).length_eq
    rw [List.length_map, upFrom_length] at this
    exact this
  have hjq : j < (doMove p k a).length := by omega
  have eq : (doMove p k a)[j] = face p x := by
    have := congrArg (fun l : List Int => l[j]?) (move_face h hl)
    simp only [List.getElem?_map, List.getElem?_eq_getElem hjq, List.getElem?_eq_getElem hj, Option.map_some, Option.some.injEq] at this
    rw [this, ej]
  refine ⟨j, x, by omega, hx, ?_, ex, by rw [rd_lt hjq, eq]⟩
  have ec : cardOf (doMove p k a)[j] = cardOf p[i] := by
    rw [eq, cardOf_face p (by omega), ex, rd_lt hi]
  rw [← ec]
  exact positionOf_packet (packetOk_move hp h) j hjq
/-- Is the card at i turned over? -/
def turnedAt (k a i : Int) : Prop := (k = 3 ∧ i < a) ∨ (k = 8 ∧ i = a)
theorem after_turned {n : Nat} {k a : Int} (h : moveOk (n : Int) k a = true) {x : Int} (hx : x ∈ after n k a) : (x < 0 → turnedAt k a (-1 - x)) ∧ (0 ≤ x → ¬ turnedAt k a x) := by
  obtain ⟨n1, n2, h0, hk⟩ := moveOk_parts h
  have hul := upFrom_length n 0
  have hids : ∀ y ∈ upFrom 0 n, 0 ≤ y ∧ y < n := fun y hy => by rw [upFrom_mem] at hy; omega
  unfold turnedAt
  by_cases k3 : k = 3
  · subst k3
    simp only [after, doMove, show ¬ ((3 : Int) = 1) by omega, show ¬ ((3 : Int) = 2) by omega, if_false, if_true, List.mem_append, List.mem_reverse, List.mem_map] at hx
    rcases hx with ⟨y, hy, rfl⟩ | hx
    · obtain ⟨m, hm, rfl⟩ := List.getElem_of_mem hy
      rw [List.length_take] at hm
      rw [List.getElem_take, upFrom_get]
      have hc : cardOf (0 + (m : Int)) = m := by rw [cardOf_small (by omega) (by omega)]; omega
      have e : turnCard (0 + (m : Int)) = -1 - m := by unfold turnCard; rw [hc, if_neg (by omega)]; omega
      rw [e]
      omega
    · obtain ⟨m, hm, rfl⟩ := List.getElem_of_mem hx
      rw [List.getElem_drop, upFrom_get]
      omega
  by_cases k8 : k = 8
  · subst k8
    have hlt : a.toNat < (upFrom 0 n).length := by omega
    have er : rd (upFrom 0 n) a = a := by rw [rd_of_lt h0 (by omega), upFrom_get]; omega
    have et : turnCard a = -1 - a := by unfold turnCard; rw [cardOf_small h0 (by omega), if_neg (by omega)]
    simp only [after, doMove, show ¬ ((8 : Int) = 1) by omega, show ¬ ((8 : Int) = 2) by omega, show ¬ ((8 : Int) = 3) by omega, show ¬ ((8 : Int) = 4) by omega, show ¬ ((8 : Int) = 5) by omega, show ¬ ((8 : Int) = 6) by omega, show ¬ ((8 : Int) = 7) by omega, if_false, if_true, er, et] at hx
    obtain ⟨m, hm, rfl⟩ := List.getElem_of_mem hx
    rw [List.length_set] at hm
    rw [List.getElem_set]
    by_cases c : a.toNat = m
    · rw [if_pos c]; omega
    · rw [if_neg c, upFrom_get]; omega
  · have hx0 : 0 ≤ x := by
      have hp : (after n k a).Perm (upFrom 0 n) := by
        unfold after doMove
        by_cases k1 : k = 1
        · rw [if_pos k1]
          refine List.perm_append_comm.trans ?_
          rw [List.take_append_drop]
        rw [if_neg k1]
        by_cases k2 : k = 2
        · rw [if_pos k2]
          refine ((List.reverse_perm _).append_right _).trans ?_
          rw [List.take_append_drop]
        rw [if_neg k2, if_neg k3]
        by_cases k4 : k = 4
        · rw [if_pos k4]
          refine (faroF_perm a _ _ _ _ (by simp; omega)).trans ?_
          rw [List.nil_append, List.take_append_drop]
        rw [if_neg k4]
        by_cases k5 : k = 5
        · rw [if_pos k5]
          exact mongeF_perm a _ 0 []
        rw [if_neg k5]
        by_cases k6 : k = 6
        · rw [if_pos k6]
          refine (milkF_perm _ _ []).trans ?_
          rw [List.append_nil]
        rw [if_neg k6]
        by_cases k7 : k = 7
        · rw [if_pos k7]
          refine (duckF_perm _ _ [] _).trans ?_
          rw [List.append_nil]
        rw [if_neg k7, if_neg k8]
        have hlt : a.toNat < (upFrom 0 n).length := by omega
        rw [rd_of_lt h0 (by omega)]
        have e : upFrom 0 n = (upFrom 0 n).take a.toNat ++ ((upFrom 0 n)[a.toNat] :: (upFrom 0 n).drop (a.toNat + 1)) := by
          rw [← List.drop_eq_getElem_cons hlt, List.take_append_drop]
        have hp : ((upFrom 0 n).take a.toNat ++ (upFrom 0 n).drop (a.toNat + 1) ++ [(upFrom 0 n)[a.toNat]]).Perm ((upFrom 0 n).take a.toNat ++ ((upFrom 0 n)[a.toNat] :: (upFrom 0 n).drop (a.toNat + 1))) := by
          rw [List.append_assoc]
          refine List.Perm.append_left _ ?_
          exact List.perm_append_comm
        rw [← e] at hp
        exact hp
      exact (hids x (hp.mem_iff.1 hx)).1
    exact ⟨fun hn => by omega, fun _ ht => by rcases ht with ht | ht <;> omega⟩

theorem l04Draw_ok (s0 : List Int) (hl : s0.length ≤ 1048576) (n : Int) (h1 : 1 ≤ n) (h2 : n ≤ 12) (s1 s2 : Int) (h : 0 ≤ s1) :
    ∃ k a t1 t2, moveOk n k a = true ∧ Ev (fun j => spec_l04Draw.f j s0 s1 s2 n) (k, a, t1, t2) := by
  obtain ⟨b, u1, u2, e, b0, b1, hu⟩ := below_ok s0 s1 s2 9 hl h (by omega) (by omega)
  have ew : wrap64 (1 + b) = 1 + b := w64 (by omega) (by omega)
  have ew2 : wrap64 (n + 1) = n + 1 := w64 (by omega) (by omega)
  unfold spec_l04Draw.f
  simp only [e, Option.bind_some, ew]
  obtain ⟨c, v1, v2, e1, c0, c1, -⟩ := below_ok s0 u1 u2 (n + 1) hl hu (by omega) (by omega)
  obtain ⟨d, x1, x2, e2, d0, d1, -⟩ := below_ok s0 u1 u2 2 hl hu (by omega) (by omega)
  obtain ⟨g, y1, y2, e3, g0, g1, -⟩ := below_ok s0 u1 u2 n hl hu (by omega) (by omega)
  have ok : ∀ k a : Int, 0 ≤ a → ((k = 1 ∨ k = 2 ∨ k = 3) ∧ a ≤ n ∨ (k = 4 ∨ k = 5 ∨ k = 7) ∧ a ≤ 1 ∨ k = 6 ∧ a = 0 ∨ (k = 8 ∨ k = 9) ∧ a < n) → moveOk n k a = true := by
    intro k a ha hk
    unfold moveOk
    rw [decide_eq_true ⟨h1, h2, ha⟩, Bool.true_and]
    rcases hk with ⟨hk, hx⟩ | ⟨hk, hx⟩ | ⟨hk, hx⟩ | ⟨hk, hx⟩
    · rw [if_pos hk, decide_eq_true hx]
    · rw [if_neg (by omega), if_pos hk, decide_eq_true hx]
    · rw [if_neg (by omega), if_neg (by omega), if_pos hk, decide_eq_true hx]
    · rw [if_neg (by omega), if_neg (by omega), if_neg (by omega), if_pos hk, decide_eq_true hx]
  rcases kind_cases (1 + b) with k1 | k1 | k1 | k1 | k1 | k1 | k1 | k1 | k1 | k1
  · refine ⟨1 + b, c, v1, v2, ok _ _ c0 (.inl ⟨by omega, by omega⟩), ev_three fun j => ?_⟩
    rw [k1]
    simp [spec_l04Draw.j0, ew2, e1]
  · refine ⟨1 + b, c, v1, v2, ok _ _ c0 (.inl ⟨by omega, by omega⟩), ev_three fun j => ?_⟩
    rw [k1]
    simp [spec_l04Draw.j0, ew2, e1]
  · refine ⟨1 + b, c, v1, v2, ok _ _ c0 (.inl ⟨by omega, by omega⟩), ev_three fun j => ?_⟩
    rw [k1]
    simp [spec_l04Draw.j0, ew2, e1]
  · refine ⟨1 + b, d, x1, x2, ok _ _ d0 (.inr (.inl ⟨by omega, by omega⟩)), ev_three fun j => ?_⟩
    rw [k1]
    simp [spec_l04Draw.j0, spec_l04Draw.j1, e2]
  · refine ⟨1 + b, d, x1, x2, ok _ _ d0 (.inr (.inl ⟨by omega, by omega⟩)), ev_three fun j => ?_⟩
    rw [k1]
    simp [spec_l04Draw.j0, spec_l04Draw.j1, e2]
  · refine ⟨1 + b, 0, u1, u2, ok _ _ (by omega) (.inr (.inr (.inl ⟨by omega, by omega⟩))), ev_three fun j => ?_⟩
    rw [k1]
    simp [spec_l04Draw.j0, spec_l04Draw.j1]
  · refine ⟨1 + b, d, x1, x2, ok _ _ d0 (.inr (.inl ⟨by omega, by omega⟩)), ev_three fun j => ?_⟩
    rw [k1]
    simp [spec_l04Draw.j0, spec_l04Draw.j1, e2]
  · refine ⟨1 + b, g, y1, y2, ok _ _ g0 (.inr (.inr (.inr ⟨by omega, by omega⟩))), ev_three fun j => ?_⟩
    rw [k1]
    simp [spec_l04Draw.j0, spec_l04Draw.j1, e3]
  · refine ⟨1 + b, g, y1, y2, ok _ _ g0 (.inr (.inr (.inr ⟨by omega, by omega⟩))), ev_three fun j => ?_⟩
    rw [k1]
    simp [spec_l04Draw.j0, spec_l04Draw.j1, e3]
  · omega
theorem makeMove_ok (l : List Int) (hl : l.length ≤ 1048576) (m : Nat) (hm : m ≤ 1000) (n : Int) (h1 : 1 ≤ n) (h2 : n ≤ 12) : ∃ k a, moveOk n k a = true ∧ Ev (fun j => spec_MakeMove.f j l (m : Int) n) (k, a) := by
  obtain ⟨t1, t2, ht, hE⟩ := l23_ok l hl m hm
  obtain ⟨k, a, u1, u2, hk, hE2⟩ := l04Draw_ok l hl n h1 h2 t1 t2 ht
  refine ⟨k, a, hk, ?_⟩
  unfold spec_MakeMove.f
  refine Ev.bind hE ?_
  have e : mx 1 (mn n 12) = n := by unfold mx mn; repeat' split <;> omega
  simp only [e]
  exact Ev.bind hE2 (Ev.now _)

theorem not_bne (b : Bool) : ((!b) != b) = true := by cases b <;> rfl
theorem cardOf_two {x i : Int} (h : cardOf x = i) (h0 : 0 ≤ i) : x = i ∨ x = -1 - i := by
  unfold cardOf at h
  repeat' split at h
  all_goals omega
theorem face_at {p : List Int} {x : Int} {i : Nat} (hlt : i < p.length) (ec : cardOf x = i) : face p x = if x < 0 then turnCard p[i] else p[i] := by
  unfold face
  rw [ec, if_neg (by omega), rd_lt hlt]
theorem up_turn {x : Int} (h : 0 ≤ cardOf x) : isUpB (turnCard x) = !isUpB x := by
  have hb := cardOf_bound h
  unfold turnCard isUpB
  rw [if_neg (by omega)]
  by_cases c : -12 ≤ x ∧ x ≤ -1
  · rw [decide_eq_true c, decide_eq_false (by omega)]; rfl
  · rw [decide_eq_false c, decide_eq_true (by omega)]; rfl
/-- How many of the first i cards are turned over. -/
def turnedTo (k a i : Int) : Int := if k = 3 then (if i ≤ a then i else a) else if k = 8 then (if a < i then 1 else 0) else 0
theorem moves_loop (p : List Int) (k a : Int) (hp : packetOk p = true) (h : moveOk (p.length : Int) k a = true) : ∀ (d i : Nat), i + d = p.length →
    Ev (fun j => laws_FnMoves.l0 j (doMove p k a) (turnedTo k a i) p (p.length : Int) (i : Int) k a) true := by
  have hl := packetOk_length hp
  have hq := doMove_length h
  obtain ⟨n1, n2, h0, hk⟩ := moveOk_parts h
  intro d
  induction d with
  | zero =>
    intro i hi
    refine Ev.step (f := fun _ => some _) (fun j => ?_) (Ev.now _)
    simp only [laws_FnMoves.l0]
    rw [if_neg (by omega)]
    unfold turnedTo
    by_cases k3 : k = 3
    · rw [if_pos k3, if_pos k3, if_pos (by split <;> omega)]
    · rw [if_neg k3, if_neg k3]
      by_cases k8 : k = 8
      · rw [if_pos k8, if_pos k8, if_pos (show (if a < (i : Int) then (1 : Int) else 0) = 1 by rw [if_pos (by omega)])]
      · rw [if_neg k8, if_neg k8]; rfl
  | succ d ih =>
    intro i hi
    have hlt : i < p.length := by omega
    obtain ⟨j0, x, hj, hx, epos, ec, er⟩ := goes hp h i hlt
    obtain ⟨t1, t2⟩ := after_turned h hx
    have hi1 := ih (i + 1) (by omega)
    have hpb := packet_bound hp
    have hqb := packet_bound (packetOk_move hp h)
    have hbi := hpb p[i] (List.getElem_mem hlt)
    have hbq : -12 ≤ rd (doMove p k a) (j0 : Int) ∧ rd (doMove p k a) (j0 : Int) ≤ 11 := by
      rw [rd_lt (show j0 < (doMove p k a).length by omega)]
      exact hqb _ (List.getElem_mem _)
    have ew : wrap64 ((i : Int) + 1) = ((i + 1 : Nat) : Int) := by rw [w64 (by omega) (by omega)]; rfl
    have epo := impl_PositionOf_eq (doMove p k a) (cardOf p[i]) (packet_wf (packetOk_move hp h))
    rw [epos] at epo
    clear epos hk
    have hci : 0 ≤ cardOf p[i] := ((packetOk_iff p).1 hp).1 _ (List.getElem_mem hlt)
    have hface : face p x = if x < 0 then turnCard p[i] else p[i] := face_at hlt ec
    have eup : (isUpB (rd (doMove p k a) (j0 : Int)) != isUpB p[i]) = decide (x < 0) := by
      rw [er, hface]
      by_cases hx0 : x < 0
      · rw [if_pos hx0, up_turn hci, decide_eq_true hx0]
        exact not_bne _
      · rw [if_neg hx0, decide_eq_false hx0, bne_self_eq_false]
    clear er hface
    have hxb := cardOf_bound (show 0 ≤ cardOf x by rw [ec]; exact Int.natCast_nonneg _)
    have hxi : x = i ∨ x = -1 - i := cardOf_two ec (Int.natCast_nonneg _)
    clear ec
    refine Ev.step (f := fun j => laws_FnMoves.j2 j (doMove p k a) (turnedTo k a i) (i : Int) p[i] (j0 : Int) p (p.length : Int) (i : Int) false k a) (fun j => ?_) ?_
    · simp only [laws_FnMoves.l0]
      rw [if_pos (by omega), if_pos (by omega), if_pos (by omega), rd_lt hlt, impl_CardOf_eq _ (by omega)]
      simp only [Option.bind_some]
      rw [epo]
      simp only [Option.bind_some]
      rw [if_neg (by omega), decide_eq_false (by omega)]
    · have u1 := impl_IsUp_eq (rd (doMove p k a) (j0 : Int)) (by omega)
      have u2 := impl_IsUp_eq p[i] (by omega)
      refine Ev.step (fun j => ?_) hi1
      simp only [laws_FnMoves.j2, Bool.false_eq_true, if_false]
      rw [if_pos (by omega), if_pos (by omega), u1, u2]
      simp only [Option.bind_some]
      rw [show (decide (-12 ≤ rd (doMove p k a) (j0 : Int) ∧ rd (doMove p k a) (j0 : Int) ≤ -1) != decide (-12 ≤ p[i] ∧ p[i] ≤ -1)) = decide (x < 0) from eup, ew]
      by_cases hx0 : x < 0
      · have ht := t1 hx0
        have ex : -1 - x = i := by omega
        rw [ex] at ht
        unfold turnedAt at ht
        rw [if_pos (decide_eq_true hx0)]
        by_cases k3 : k = 3
        · have e : wrap64 (turnedTo k a (i : Int) + 1) = turnedTo k a ((i + 1 : Nat) : Int) := by
            unfold turnedTo
            rw [if_pos k3, if_pos k3, if_pos (by omega), if_pos (by omega), w64 (by omega) (by omega)]
            rfl
          rw [if_pos k3, if_neg (by omega), if_neg (by omega), e]
        · have k8 : k = 8 := by omega
          have e : wrap64 (turnedTo k a (i : Int) + 1) = turnedTo k a ((i + 1 : Nat) : Int) := by
            unfold turnedTo
            rw [if_neg k3, if_neg k3, if_pos k8, if_pos k8, if_neg (by omega), if_pos (by omega), w64 (by omega) (by omega)]
            rfl
          rw [if_neg k3, if_pos k8, if_pos (by omega), e]
      · have ht := t2 (by omega)
        have ex : x = i := by omega
        rw [ex] at ht
        unfold turnedAt at ht
        rw [if_neg (by simpa using hx0)]
        have e : turnedTo k a (i : Int) = turnedTo k a ((i + 1 : Nat) : Int) := by
          unfold turnedTo
          by_cases k3 : k = 3
          · rw [if_pos k3, if_pos k3]
            split <;> split <;> omega
          · rw [if_neg k3, if_neg k3]
            by_cases k8 : k = 8
            · rw [if_pos k8, if_pos k8]
              split <;> split <;> omega
            · rw [if_neg k8, if_neg k8]
        rw [e]
theorem FnMoves : laws_FnMoves.Pure := by
  intro l hl1 hl2 wl
  unfold laws_FnMoves.f
  by_cases gl : (l.length : Int) > 1048576
  · exact ⟨0, by rw [if_pos gl]⟩
  simp only [if_neg gl]
  obtain ⟨p, po, p1, p2, pb, pE⟩ := makePacket_ok l (by omega) 0 (by omega) 9 (by omega) (by omega)
  obtain ⟨k, a, hk, mE⟩ := makeMove_ok l (by omega) 30 (by omega) (p.length : Int) (by omega) (by omega)
  have hl := packetOk_length po
  have hw := packet_wf po
  have po2 := packetOk_move po hk
  have hw2 := packet_wf po2
  have hq := doMove_length hk
  have f1 := impl_Perform_ev p k a (by omega) hw
  have e1 : perform p k a = (doMove p k a, true) := by unfold perform; rw [if_pos ⟨po, hk⟩]
  rw [e1] at f1
  have f2 := impl_PermOfMove_ev (p.length : Int) k a
  have e2 : permOfMove (p.length : Int) k a = ((after p.length k a).map cardOf, true) := by
    unfold permOfMove after
    rw [if_pos hk, Int.toNat_natCast]
  rw [e2] at f2
  have f3 := impl_PermBetween_ev p (doMove p k a) (by omega) (by omega) hw hw2
  rw [permBetween_face po hk] at f3
  have f4 := impl_IsArrangement_ev p (doMove p k a) (by omega) (by omega) hw hw2
  rw [arr_move po hk] at f4
  have hal : ((after p.length k a).map cardOf).length ≤ 100 := by rw [(after_perm hk).length_eq, upFrom_length]; omega
  have f5 := laws_same_ev ((after p.length k a).map cardOf) ((after p.length k a).map cardOf) (by omega)
  rw [decide_eq_true rfl] at f5
  refine Ev.rounds ?_
  refine Ev.bind pE (Ev.bind mE (Ev.bind f1 (Ev.bind f2 (Ev.bind f3 ?_))))
  simp only [if_true]
  refine Ev.bind f4 ?_
  simp only [if_true]
  refine Ev.bind f5 ?_
  simp only [if_true]
  rw [hq, bne_self_eq_false]
  refine Ev.step (fun j => by rw [laws_FnMoves.j0]) ?_
  simp only [Bool.false_eq_true, if_false]
  have h := moves_loop p k a po hk p.length 0 (by omega)
  have ez : turnedTo k a ((0 : Nat) : Int) = 0 := by
    obtain ⟨n1, n2, h0, -⟩ := moveOk_parts hk
    unfold turnedTo
    by_cases k3 : k = 3
    · rw [if_pos k3, if_pos (by omega)]; rfl
    · rw [if_neg k3]
      by_cases k8 : k = 8
      · rw [if_pos k8, if_neg (by omega)]
      · rw [if_neg k8]
  rw [ez] at h
  exact h

end Go.Proofs.Ytojbjofngpcjaaa.Pure
