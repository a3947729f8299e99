/- For every code: of the packet that it makes, each choice has as many results as it should, all different, each of them an arrangement and a result. No conditions. -/
import Derived.Test.YtbghkcgglhoopaaMFnChoicesx0
import Derived.Test.YtbghkcgglhoopaaMFnChoicesx1
import Derived.Test.YtbghkcgglhoopaaMFnChoicesx2
import Derived.Test.YtbghkcgglhoopaaMFnChoicesx3
import Derived.Test.YtbghkcgglhoopaaMFnChoicesx4
import Derived.Test.YtbghkcgglhoopaaMFnChoicesx5
import Derived.Test.YtbghkcgglhoopaaMFnChoicesx6
import Derived.Test.YtbghkcgglhoopaaMFnChoicesx7
import Derived.Test.YtbghkcgglhoopaaMFnChoicesx8
import Derived.Test.YtbghkcgglhoopaaMFnChoicesx9
import Derived.OpenShut
namespace Go.Proofs.Ytbghkcgglhoopaa.Pure
open Go.RowKit Go.Proofs.Ytbghkcgglhoopaa.MFnChoices Go.Proofs.YtbghkcgglhoopaaW.PrintWords Go.Proofs.YtbghkcgglhoopaaW.PrintLast
set_option linter.unusedVariables false
set_option linter.unusedSimpArgs false

/-! ### base: numbers, reads, loops -/
theorem w64 {a : Int} (h0 : -9223372036854775808 ≤ a) (h1 : a ≤ 9223372036854775807) : wrap64 a = a := by
  unfold wrap64
  omega
theorem w64n {n : Nat} (h : n ≤ 9223372036854775807) : wrap64 (n : Int) = n := w64 (by omega) (by omega)
theorem bd64 {n : Int} (h : (Lit.int .i64 n).wf = true) : -9223372036854775808 ≤ n ∧ n ≤ 9223372036854775807 := Go.bounds_i64 h
theorem rd_nat (xs : List Int) (i : Nat) : rd xs (i : Int) = xs.getD i 0 := by simp [rd]
theorem rd_lt {xs : List Int} {i : Nat} (h : i < xs.length) : rd xs (i : Int) = xs[i] := by simp [rd, h]
theorem bt_nat {s : ByteArray} {i : Nat} (h : i < s.size) : bt s (i : Int) = (s[i].toNat : Int) := by simp [bt, h]
/-- Going up to n: what holds at n holds from i on. -/
theorem up_ind (n : Nat) (P : Nat → Prop) (h0 : P n) (hs : ∀ i, i < n → P (i + 1) → P i) : ∀ i, i ≤ n → P i := by
  have h : ∀ d i, i + d = n → P i := by
    intro d
    induction d with
    | zero => intro i hi; obtain rfl : i = n := by omega
              exact h0
    | succ d ih => intro i hi; exact hs i (by omega) (ih (i + 1) (by omega))
  intro i hi
  exact h (n - i) i (by omega)
theorem ev_some {α : Type} {g : Nat → Option α} {r : α} (h : ∀ k, g k = some r) : Ev g r := ⟨0, fun k _ => h k⟩
theorem ev_pair {α β : Type} {g : Nat → Option α} {f : Nat → Option β} {a : α} {b : β} {h : α → β → Option Bool} (hg : Ev g a) (hf : Ev f b) (hh : h a b = some true) : ∃ k, ((g k).bind fun x => (f k).bind fun y => h x y) = some true :=
  Ev.rounds (Ev.bind hg (Ev.bind hf (ev_some fun _ => hh)))

/-- What every law of one list does: it hands a copy to the reference and one to the program, compares, and looks at the copy. -/
theorem ev_ite_true {α : Type} {f g : Nat → Option α} {r : α} {c : Prop} [Decidable c] (h : c) (k : Ev f r) : Ev (fun n => if c then f n else g n) r := by simpa only [if_pos h] using k
theorem ev_ite_false {α : Type} {f g : Nat → Option α} {r : α} {c : Prop} [Decidable c] (h : ¬ c) (k : Ev g r) : Ev (fun n => if c then f n else g n) r := by simpa only [if_neg h] using k

theorem and255 (x : Int) : 0 ≤ Go.bits .and .i64 x 255 ∧ Go.bits .and .i64 x 255 ≤ 255 := by
  have h : (BitVec.ofInt 64 x &&& BitVec.ofInt 64 255).toNat ≤ 255 := by
    rw [BitVec.toNat_and]
    exact Nat.le_trans Nat.and_le_right (by decide)
  have e : Go.bits .and .i64 x 255 = (((BitVec.ofInt 64 x &&& BitVec.ofInt 64 255).toNat : Nat) : Int) := by
    have : Go.bits .and .i64 x 255 = IntKind.i64.wrap (((BitVec.ofInt 64 x &&& BitVec.ofInt 64 255).toNat : Nat) : Int) := rfl
    rw [this, i64_w, w64 (by omega) (by omega)]
  rw [e]
  omega
theorem byte_ok (s0 : List Int) (s1 s2 : Int) (hl : s0.length ≤ 1048576) (h : 0 ≤ s1) : ∃ b t1 t2, spec_l01Byte.f s0 s1 s2 = some (b, t1, t2) ∧ 0 ≤ b ∧ b ≤ 255 ∧ 0 ≤ t1 := by
  unfold spec_l01Byte.f
  by_cases c : s1 < (s0.length : Int)
  · rw [if_pos c, if_pos h]
    exact ⟨_, _, _, rfl, (and255 _).1, (and255 _).2, by rw [w64 (by omega) (by omega)]; omega⟩
  · rw [if_neg c]
    exact ⟨_, _, _, rfl, (and255 _).1, (and255 _).2, h⟩
theorem below_ok (s0 : List Int) (s1 s2 n : Int) (hl : s0.length ≤ 1048576) (h : 0 ≤ s1) (hn : 1 ≤ n) (hm : n ≤ 256) : ∃ b t1 t2, spec_l01Below.f s0 s1 s2 n = some (b, t1, t2) ∧ 0 ≤ b ∧ b < n ∧ 0 ≤ t1 := by
  unfold spec_l01Below.f
  obtain ⟨b, t1, t2, e, b0, b1, ht⟩ := byte_ok s0 s1 s2 hl h
  rw [if_neg (by omega), if_pos hm, e]
  simp only [Option.bind_some]
  rw [if_neg (by omega)]
  refine ⟨_, _, _, rfl, ?_, ?_, ht⟩
  · rw [Int.tmod_eq_emod_of_nonneg b0]; exact Int.emod_nonneg _ (by omega)
  · rw [Int.tmod_eq_emod_of_nonneg b0]; exact Int.emod_lt_of_pos _ (by omega)
theorem new_loop (l : List Int) (hl : l.length ≤ 1048576) : ∀ (d : Nat) (i : Nat) (x : Int), l.length ≤ i + d → i ≤ l.length → ∃ h, Ev (fun k => spec_l01New.l0 k l x (i : Int)) (l, 0, h) := by
  intro d
  induction d with
  | zero =>
    intro i x hi hj
    refine ⟨x, Ev.step (f := fun _ => some _) (fun k => ?_) (Ev.now _)⟩
    simp only [spec_l01New.l0]
    rw [if_neg (by omega)]
  | succ d ih =>
    intro i x hi hj
    by_cases c : i < l.length
    · by_cases c2 : (i : Int) < 4000
      · obtain ⟨h, hh⟩ := ih (i + 1) (Go.bits .and .i64 (wrap64 ((wrap64 ((wrap64 (x * 101)) + (wrap64 (rd l i)))) + 7)) 1073741823) (by omega) (by omega)
        refine ⟨h, Ev.step (fun k => ?_) hh⟩
        simp only [spec_l01New.l0]
        rw [if_pos (by omega), if_pos c2, if_pos (by omega), w64 (a := (i : Int) + 1) (by omega) (by omega)]
        rfl
      · refine ⟨x, Ev.step (f := fun _ => some _) (fun k => ?_) (Ev.now _)⟩
        simp only [spec_l01New.l0]
        rw [if_pos (by omega), if_neg c2]
    · refine ⟨x, Ev.step (f := fun _ => some _) (fun k => ?_) (Ev.now _)⟩
      simp only [spec_l01New.l0]
      rw [if_neg (by omega)]
theorem new_ok (l : List Int) (hl : l.length ≤ 1048576) : ∃ h, Ev (fun k => spec_l01New.f k l) (l, 0, h) := new_loop l hl l.length 0 _ (by omega) (by omega)

theorem l23_loop (l : List Int) (hl : l.length ≤ 1048576) (n : Nat) (hn : n ≤ 1000) : ∀ (d i : Nat) (s1 s2 : Int), i + d = n → 0 ≤ s1 → ∃ t1 t2, 0 ≤ t1 ∧ Ev (fun k => spec_l23New.l0 k (n : Int) (i : Int) l s1 s2) (l, t1, t2) := by
  intro d
  induction d with
  | zero =>
    intro i s1 s2 hi h
    refine ⟨s1, s2, h, Ev.step (f := fun _ => some _) (fun k => ?_) (Ev.now _)⟩
    simp only [spec_l23New.l0]
    rw [if_neg (by omega)]
  | succ d ih =>
    intro i s1 s2 hi h
    obtain ⟨b, u1, u2, e, b0, b1, hu⟩ := byte_ok l s1 s2 hl h
    obtain ⟨t1, t2, ht, hE⟩ := ih (i + 1) u1 u2 (by omega) hu
    refine ⟨t1, t2, ht, Ev.step (fun k => ?_) hE⟩
    simp only [spec_l23New.l0]
    rw [if_pos (by omega), e, w64 (by omega) (by omega)]
    rfl
theorem l23_ok (l : List Int) (hl : l.length ≤ 1048576) (n : Nat) (hn : n ≤ 1000) : ∃ t1 t2, 0 ≤ t1 ∧ Ev (fun k => spec_l23New.f k l (n : Int)) (l, t1, t2) := by
  obtain ⟨h, hh⟩ := new_ok l hl
  obtain ⟨t1, t2, ht, hE⟩ := l23_loop l hl n hn n 0 0 h (by omega) (by omega)
  exact ⟨t1, t2, ht, by unfold spec_l23New.f; exact Ev.bind hh hE⟩

/-! ### lists -/
theorem rd_mid (pre : List Int) (x : Int) (r : List Int) : rd (pre ++ x :: r) (pre.length : Int) = x := by simp [rd]
theorem rd_mid' {l pre : List Int} {x : Int} {r : List Int} (h : l = pre ++ x :: r) : rd l (pre.length : Int) = x := by subst h; exact rd_mid _ _ _
theorem snoc_eq {l pre : List Int} {x : Int} {r : List Int} (h : l = pre ++ x :: r) : l = (pre ++ [x]) ++ r := by simp [h]
theorem snoc_len {pre : List Int} (x : Int) (h : pre.length ≤ 9223372036854775806) : wrap64 ((pre.length : Int) + 1) = ((pre ++ [x]).length : Int) := by
  rw [w64 (by omega) (by omega)]; simp
/-- The whole numbers from m on, n of them. -/
def upFrom (m : Int) : Nat → List Int
  | 0 => []
  | n + 1 => m :: upFrom (m + 1) n
theorem upFrom_length (n : Nat) : ∀ m, (upFrom m n).length = n := by
  induction n with
  | zero => intro m; rfl
  | succ n ih => intro m; simp [upFrom, ih]
theorem upFrom_get (n : Nat) : ∀ (m : Int) (i : Nat) (h : i < (upFrom m n).length), (upFrom m n)[i] = m + i := by
  induction n with
  | zero => intro m i h; simp [upFrom] at h
  | succ n ih =>
    intro m i h
    cases i with
    | zero => simp [upFrom]
    | succ i => simp only [upFrom, List.getElem_cons_succ]; rw [ih]; omega
theorem upFrom_snoc (n : Nat) : ∀ m, upFrom m (n + 1) = upFrom m n ++ [m + n] := by
  induction n with
  | zero => intro m; simp [upFrom]
  | succ n ih => intro m; rw [upFrom, ih]; simp [upFrom]; omega
theorem upFrom_mem (n : Nat) : ∀ (m x : Int), x ∈ upFrom m n ↔ m ≤ x ∧ x < m + n := by
  induction n with
  | zero => intro m x; simp only [upFrom, List.not_mem_nil, false_iff]; omega
  | succ n ih => intro m x; simp only [upFrom, List.mem_cons, ih]; omega
theorem upFrom_nodup (n : Nat) : ∀ m, (upFrom m n).Nodup := by
  induction n with
  | zero => intro m; simp [upFrom]
  | succ n ih => intro m; simp only [upFrom, List.nodup_cons, ih, and_true, upFrom_mem]; omega
theorem nodup_inj {l : List Int} (h : l.Nodup) (i j : Nat) (hi : i < l.length) (hj : j < l.length) (e : l[i] = l[j]) : i = j := by
  have hp := List.pairwise_iff_getElem.1 h
  rcases Nat.lt_trichotomy i j with c | c | c
  · exact absurd e (hp i j hi hj c)
  · exact c
  · exact absurd e.symm (hp j i hj hi c)
theorem set_mid (pre : List Int) (x y : Int) (r : List Int) : (pre ++ y :: r).set pre.length x = (pre ++ [x]) ++ r := by simp
theorem lens {l pre r : List Int} (h : l = pre ++ r) : l.length = pre.length + r.length := by rw [h]; simp
theorem snoc_cast (pre : List Int) (x : Int) : ((pre ++ [x]).length : Int) = (pre.length : Int) + 1 := by simp

/-! ### permutations -/
def pokFrom (n : Nat) : List Int → List Int → Bool
  | _, [] => true
  | seen, x :: r => decide (0 ≤ x ∧ x < n) && (!decide (x ∈ seen) && pokFrom n (seen ++ [x]) r)
/-- A list of whole numbers is a permutation of at most 12 positions. -/
def permOk (a : List Int) : Bool := pokFrom a.length [] a && decide (a.length ≤ 12)
theorem pokFrom_iff (n : Nat) (r : List Int) : ∀ seen, pokFrom n seen r = true ↔ (∀ x ∈ r, 0 ≤ x ∧ x < n) ∧ r.Nodup ∧ (∀ x ∈ r, x ∉ seen) := by
  induction r with
  | nil => intro seen; simp [pokFrom]
  | cons x r ih =>
    intro seen
    simp only [pokFrom, Bool.and_eq_true, decide_eq_true_eq, Bool.not_eq_true', decide_eq_false_iff_not, ih, List.mem_cons, forall_eq_or_imp, List.nodup_cons, List.mem_append, List.not_mem_nil, or_false, not_or]
    constructor
    · rintro ⟨h1, h2, h3, h4, h5⟩
      exact ⟨⟨h1, h3⟩, ⟨fun hx => (h5 x hx).2 rfl, h4⟩, h2, fun y hy => (h5 y hy).1⟩
    · rintro ⟨⟨h1, h3⟩, ⟨h6, h4⟩, h2, h5⟩
      exact ⟨h1, h2, h3, h4, fun y hy => ⟨h5 y hy, fun e => h6 (e ▸ hy)⟩⟩
theorem permOk_iff (a : List Int) : permOk a = true ↔ (∀ x ∈ a, 0 ≤ x ∧ x < a.length) ∧ a.Nodup ∧ a.length ≤ 12 := by
  simp only [permOk, Bool.and_eq_true, pokFrom_iff, decide_eq_true_eq]
  simp [and_assoc]

def invFrom : List Int → Int → List Int → List Int
  | m, _, [] => m
  | m, i, x :: r => invFrom (m.set x.toNat i) (i + 1) r
/-- The inverse of a permutation. -/
def inverse (a : List Int) : List Int := invFrom (List.replicate a.length 0) 0 a
theorem invFrom_length (r : List Int) : ∀ m i, (invFrom m i r).length = m.length := by
  induction r with
  | nil => intro m i; rfl
  | cons x r ih => intro m i; simp [invFrom, ih]
theorem inverse_length (a : List Int) : (inverse a).length = a.length := by simp [inverse, invFrom_length]
theorem rd_set_ne {m : List Int} {x y i : Int} (hx : 0 ≤ x) (hy : 0 ≤ y) (h : x ≠ y) : rd (m.set x.toNat i) y = rd m y := by
  have : x.toNat ≠ y.toNat := by omega
  simp [rd, List.getElem?_set, this]
theorem rd_set_eq {m : List Int} {x i : Int} (hx : 0 ≤ x) (h : x < m.length) : rd (m.set x.toNat i) x = i := by
  have : x.toNat < m.length := by omega
  simp [rd, List.getElem?_set, this]
theorem invFrom_keep (r : List Int) : ∀ (m : List Int) (i y : Int), 0 ≤ y → y ∉ r → (∀ x ∈ r, 0 ≤ x) → rd (invFrom m i r) y = rd m y := by
  induction r with
  | nil => intro m i y _ _ _; rfl
  | cons x r ih =>
    intro m i y hy hn hp
    simp only [List.mem_cons, not_or] at hn
    have hx := hp x (by simp)
    rw [invFrom, ih _ _ y hy hn.2 (fun z hz => hp z (by simp [hz])), rd_set_ne hx hy (fun e => hn.1 e.symm)]
theorem invFrom_get (r : List Int) : ∀ (m : List Int) (i : Int), (∀ x ∈ r, 0 ≤ x ∧ x < m.length) → r.Nodup → ∀ (j : Nat) (h : j < r.length), rd (invFrom m i r) (r[j]) = i + j := by
  induction r with
  | nil => intro m i _ _ j h; simp at h
  | cons x r ih =>
    intro m i hp hn j h
    simp only [List.nodup_cons] at hn
    have hx := hp x (by simp)
    cases j with
    | zero =>
      simp only [List.getElem_cons_zero]
      rw [invFrom, invFrom_keep r _ _ x hx.1 hn.1 (fun z hz => (hp z (by simp [hz])).1), rd_set_eq hx.1 hx.2]
      simp
    | succ j =>
      simp only [List.getElem_cons_succ]
      rw [invFrom, ih _ _ (fun z hz => by rw [List.length_set]; exact hp z (by simp [hz])) hn.2 j (by simpa using h)]
      omega
theorem inverse_get {a : List Int} (hp : ∀ x ∈ a, 0 ≤ x ∧ x < a.length) (hn : a.Nodup) (j : Nat) (h : j < a.length) : rd (inverse a) (a[j]) = j := by
  unfold inverse
  rw [invFrom_get a _ 0 (fun x hx => by simpa using hp x hx) hn j h]
  omega

theorem nodup_le (l : List Int) : ∀ m : List Int, l.Nodup → (∀ x ∈ l, x ∈ m) → l.length ≤ m.length := by
  induction l with
  | nil => intro m _ _; simp
  | cons x l ih =>
    intro m hn hs
    simp only [List.nodup_cons] at hn
    have hx : x ∈ m := hs x (by simp)
    have h := ih (m.erase x) hn.2 (fun y hy => (List.mem_erase_of_ne (fun e => hn.1 (by rw [← e]; exact hy))).2 (hs y (by simp [hy])))
    rw [List.length_erase_of_mem hx] at h
    have := List.length_pos_of_mem hx
    simp only [List.length_cons]
    omega
theorem perm_surj {a : List Int} (hp : ∀ x ∈ a, 0 ≤ x ∧ x < a.length) (hn : a.Nodup) (v : Int) (h0 : 0 ≤ v) (h1 : v < a.length) : v ∈ a := by
  apply Decidable.byContradiction
  intro hv
  have h := nodup_le (v :: a) (upFrom 0 a.length) (by simp [hv, hn]) (fun y hy => by
    rw [upFrom_mem]
    rcases List.mem_cons.1 hy with rfl | hy
    · omega
    · have := hp y hy; omega)
  rw [upFrom_length] at h
  simp only [List.length_cons] at h
  omega
/-- Where a value of a permutation stands. -/
theorem perm_at {a : List Int} (hp : ∀ x ∈ a, 0 ≤ x ∧ x < a.length) (hn : a.Nodup) (v : Int) (h0 : 0 ≤ v) (h1 : v < a.length) : ∃ j : Nat, ∃ h : j < a.length, a[j] = v ∧ rd (inverse a) v = j := by
  obtain ⟨j, h, e⟩ := List.getElem_of_mem (perm_surj hp hn v h0 h1)
  exact ⟨j, h, e, by rw [← e]; exact inverse_get hp hn j h⟩

theorem swap_perm (p : List Int) (v : Int) (j : Nat) (h : j ≤ p.length) : (((p ++ [v]).set p.length (rd (p ++ [v]) (j : Int))).set j v).Perm (p ++ [v]) := by
  by_cases c : j = p.length
  · subst c
    rw [show rd (p ++ [v]) (p.length : Int) = v from rd_mid p v [], set_mid, List.append_nil]
    have : (p ++ [v]).set p.length v = p ++ [v] := by
      have := set_mid p v v []
      rw [List.append_nil] at this
      exact this
    rw [this]
  · have hj : j < p.length := by omega
    have ep : p = p.take j ++ p[j] :: p.drop (j + 1) := by rw [← List.drop_eq_getElem_cons hj, List.take_append_drop]
    have er : rd (p ++ [v]) (j : Int) = p[j] := by simp [rd, List.getD, List.getElem?_append_left hj, hj]
    rw [er]
    have e1 : (p ++ [v]).set p.length p[j] = p ++ [p[j]] := by
      have := set_mid p p[j] v []
      rw [List.append_nil] at this
      exact this
    rw [e1]
    generalize hu : p.take j = u at ep
    generalize hw : p.drop (j + 1) = w at ep
    generalize hx : p[j] = x at ep ⊢
    have hlu : u.length = j := by rw [← hu]; simp; omega
    rw [ep]
    have e2 : (u ++ x :: w ++ [x]).set j v = u ++ v :: (w ++ [x]) := by
      rw [show u ++ x :: w ++ [x] = u ++ x :: (w ++ [x]) by simp, ← hlu, set_mid]
      simp
    rw [e2]
    rw [List.append_assoc]
    refine List.Perm.append_left u ?_
    have h1 : (v :: (w ++ [x])).Perm (v :: ([x] ++ w)) := List.Perm.cons v List.perm_append_comm
    have h2 : ([v] ++ w).Perm (w ++ [v]) := List.perm_append_comm
    exact h1.trans ((List.Perm.swap x v w).trans (List.Perm.cons x h2))
theorem shuffle_loop (s0 : List Int) (hl : s0.length ≤ 1048576) (m : Nat) (hm : m ≤ 12) : ∀ (d i : Nat) (p : List Int) (s1 s2 : Int), i + d = m → p.Perm (upFrom 0 i) → 0 ≤ s1 →
    ∃ q t1 t2, q.Perm (upFrom 0 m) ∧ 0 ≤ t1 ∧ Ev (fun k => spec_l02Shuffle.l0 k (m : Int) p (i : Int) s0 s1 s2) (q, t1, t2) := by
  intro d
  induction d with
  | zero =>
    intro i p s1 s2 hi hp h
    obtain rfl : i = m := by omega
    refine ⟨p, s1, s2, hp, h, Ev.step (f := fun _ => some _) (fun k => ?_) (Ev.now _)⟩
    simp only [spec_l02Shuffle.l0]
    rw [if_neg (by omega)]
  | succ d ih =>
    intro i p s1 s2 hi hp h
    have hpl : p.length = i := by rw [hp.length_eq, upFrom_length]
    obtain ⟨b, u1, u2, e, b0, b1, hu⟩ := below_ok s0 s1 s2 ((i : Int) + 1) hl h (by omega) (by omega)
    have hs : (((p ++ [(i : Int)]).set i (rd (p ++ [(i : Int)]) b)).set b.toNat (i : Int)).Perm (upFrom 0 (i + 1)) := by
      have := swap_perm p (i : Int) b.toNat (by omega)
      rw [Int.toNat_of_nonneg b0, hpl] at this
      refine this.trans ?_
      rw [upFrom_snoc]
      simp only [Int.zero_add]
      exact List.Perm.append_right _ hp
    obtain ⟨q, t1, t2, hq, ht, hE⟩ := ih (i + 1) _ u1 u2 (by omega) hs hu
    refine ⟨q, t1, t2, hq, ht, Ev.step (fun k => ?_) hE⟩
    simp only [spec_l02Shuffle.l0]
    rw [if_pos (by omega), w64 (a := (i : Int) + 1) (by omega) (by omega), e]
    simp only [Option.bind_some]
    rw [if_pos (by omega), if_pos b0, if_pos (by simp; omega), if_pos (by omega), if_pos (by simp; omega), Int.toNat_natCast]
    rfl
theorem shuffle_ok (s0 : List Int) (hl : s0.length ≤ 1048576) (m : Nat) (hm : m ≤ 12) (s1 s2 : Int) (h : 0 ≤ s1) :
    ∃ q t1 t2, q.Perm (upFrom 0 m) ∧ 0 ≤ t1 ∧ Ev (fun k => spec_l02Shuffle.f k s0 s1 s2 (m : Int)) (q, t1, t2) :=
  shuffle_loop s0 hl m hm m 0 [] s1 s2 (by omega) (List.Perm.refl _) h
theorem permOk_of_perm {q : List Int} {m : Nat} (hm : m ≤ 12) (h : q.Perm (upFrom 0 m)) : permOk q = true ∧ q.length = m := by
  have hl : q.length = m := by rw [h.length_eq, upFrom_length]
  refine ⟨(permOk_iff q).2 ⟨fun x hx => ?_, h.nodup_iff.2 (upFrom_nodup _ _), by omega⟩, hl⟩
  have := h.mem_iff.1 hx
  rw [upFrom_mem] at this
  omega

/-- The card of a cell, or -1. -/
def cardOf (x : Int) : Int := if 0 ≤ x then (if x ≤ 11 then x else -1) else (if -12 ≤ x then -1 - x else -1)

def pktFrom : List Int → List Int → Bool
  | _, [] => true
  | seen, x :: r => decide (0 ≤ cardOf x) && (!decide (cardOf x ∈ seen) && pktFrom (seen ++ [cardOf x]) r)
/-- A packet: at most twelve cards, all different. -/
def packetOk (l : List Int) : Bool := pktFrom [] l
theorem pktFrom_iff (r : List Int) : ∀ seen, pktFrom seen r = true ↔ (∀ x ∈ r, 0 ≤ cardOf x) ∧ (r.map cardOf).Nodup ∧ (∀ x ∈ r, cardOf x ∉ seen) := by
  induction r with
  | nil => intro seen; simp [pktFrom]
  | cons x r ih =>
    intro seen
    simp only [pktFrom, Bool.and_eq_true, decide_eq_true_eq, Bool.not_eq_true', decide_eq_false_iff_not, ih, List.mem_cons, forall_eq_or_imp, List.map_cons, List.nodup_cons, List.mem_append, List.not_mem_nil, or_false, not_or, List.mem_map]
    constructor
    · rintro ⟨h1, h2, h3, h4, h5⟩
      exact ⟨⟨h1, h3⟩, ⟨fun ⟨y, hy, e⟩ => (h5 y hy).2 e, h4⟩, h2, fun y hy => (h5 y hy).1⟩
    · rintro ⟨⟨h1, h3⟩, ⟨h6, h4⟩, h2, h5⟩
      exact ⟨h1, h2, h3, h4, fun y hy => ⟨h5 y hy, fun e => h6 ⟨y, hy, e⟩⟩⟩
theorem packetOk_iff (l : List Int) : packetOk l = true ↔ (∀ x ∈ l, 0 ≤ cardOf x) ∧ (l.map cardOf).Nodup := by
  unfold packetOk
  rw [pktFrom_iff]
  simp
theorem cardOf_le (x : Int) : -1 ≤ cardOf x ∧ cardOf x ≤ 11 := by
  unfold cardOf
  split <;> split <;> omega
theorem packetOk_length {l : List Int} (h : packetOk l = true) : l.length ≤ 12 := by
  obtain ⟨h1, h2⟩ := (packetOk_iff l).1 h
  have := nodup_le (l.map cardOf) (upFrom 0 12) h2 (fun y hy => by
    obtain ⟨x, hx, rfl⟩ := List.mem_map.1 hy
    rw [upFrom_mem]
    have := h1 x hx
    have := cardOf_le x
    omega)
  rw [upFrom_length, List.length_map] at this
  exact this

theorem cardOf_small {x : Int} (h0 : 0 ≤ x) (h1 : x < 12) : cardOf x = x := by unfold cardOf; rw [if_pos h0, if_pos (by omega)]

theorem set_self (m : List Int) (i : Nat) (hi : i < m.length) : m.set i m[i] = m := List.set_getElem_self hi

theorem once_ok (s0 : List Int) (s1 s2 n : Int) (hl : s0.length ≤ 1048576) (h : 0 ≤ s1) (hn : 1 ≤ n) (hm : n ≤ 256) : ∃ b t1 t2, spec_l01Once.f s0 s1 s2 n = some (b, t1, t2) ∧ 0 ≤ t1 := by
  obtain ⟨b, t1, t2, e, -, -, ht⟩ := below_ok s0 s1 s2 n hl h hn hm
  exact ⟨_, t1, t2, by unfold spec_l01Once.f; rw [e]; rfl, ht⟩
theorem cardOf_flip {x : Int} (h0 : -12 ≤ x) (h1 : x ≤ 11) : cardOf (-1 - x) = cardOf x := by
  unfold cardOf
  repeat' split
  all_goals omega
theorem draw_loop (s0 : List Int) (hl : s0.length ≤ 1048576) (m : Nat) (hm : m ≤ 12) : ∀ (d i : Nat) (p : List Int) (s1 s2 : Int), i + d = m → p.length = m → (∀ x ∈ p, -12 ≤ x ∧ x ≤ 11) → 0 ≤ s1 →
    ∃ q t1 t2, q.map cardOf = p.map cardOf ∧ (∀ x ∈ q, -12 ≤ x ∧ x ≤ 11) ∧ 0 ≤ t1 ∧ Ev (fun k => spec_l02Draw.l0 k p (m : Int) (i : Int) s0 s1 s2) (q, t1, t2) := by
  intro d
  induction d with
  | zero =>
    intro i p s1 s2 hi hp hb h
    refine ⟨p, s1, s2, rfl, hb, h, Ev.step (f := fun _ => some _) (fun k => ?_) (Ev.now _)⟩
    simp only [spec_l02Draw.l0]
    rw [if_neg (by omega)]
  | succ d ih =>
    intro i p s1 s2 hi hp hb h
    obtain ⟨b, u1, u2, e, hu⟩ := once_ok s0 s1 s2 3 hl h (by omega) (by omega)
    have ew : wrap64 ((i : Int) + 1) = ((i + 1 : Nat) : Int) := by rw [w64 (by omega) (by omega)]; rfl
    cases b with
    | true =>
      have hlt : i < p.length := by omega
      have hbi := hb p[i] (List.getElem_mem hlt)
      have hmap : (p.set i (-1 - p[i])).map cardOf = p.map cardOf := by
        rw [List.map_set, cardOf_flip hbi.1 hbi.2]
        have := set_self (p.map cardOf) i (by simpa using hlt)
        rw [List.getElem_map] at this
        exact this
      obtain ⟨q, t1, t2, hq, hqb, ht, hE⟩ := ih (i + 1) (p.set i (-1 - p[i])) u1 u2 (by omega) (by simpa using hp) (fun x hx => by
        rcases List.mem_or_eq_of_mem_set hx with hx | rfl
        · exact hb x hx
        · omega) hu
      refine ⟨q, t1, t2, hq.trans hmap, hqb, ht, Ev.step (fun k => ?_) hE⟩
      simp only [spec_l02Draw.l0]
      rw [if_pos (by omega), e]
      simp only [Option.bind_some, if_true]
      rw [if_pos (by omega), if_pos (by omega), rd_lt hlt, w64 (a := -1 - p[i]) (by omega) (by omega), Int.toNat_natCast, ew]
    | false =>
      obtain ⟨q, t1, t2, hq, hqb, ht, hE⟩ := ih (i + 1) p u1 u2 (by omega) hp hb hu
      refine ⟨q, t1, t2, hq, hqb, ht, Ev.step (fun k => ?_) hE⟩
      simp only [spec_l02Draw.l0]
      rw [if_pos (by omega), e]
      simp only [Option.bind_some, Bool.false_eq_true, if_false]
      rw [ew]
theorem draw_ok (s0 : List Int) (hl : s0.length ≤ 1048576) (most : Int) (h1 : 1 ≤ most) (h2 : most ≤ 12) (s1 s2 : Int) (h : 0 ≤ s1) :
    ∃ q t1 t2, packetOk q = true ∧ 1 ≤ q.length ∧ (q.length : Int) ≤ most ∧ (∀ x ∈ q, -12 ≤ x ∧ x ≤ 11) ∧ 0 ≤ t1 ∧ Ev (fun k => spec_l02Draw.f k s0 s1 s2 most) (q, t1, t2) := by
  obtain ⟨b, u1, u2, e, b0, b1, hu⟩ := below_ok s0 s1 s2 most hl h h1 (by omega)
  obtain ⟨p, v1, v2, hp, hv, hE⟩ := shuffle_ok s0 hl (1 + b).toNat (by omega) u1 u2 hu
  rw [Int.toNat_of_nonneg (by omega)] at hE
  have hpl : p.length = (1 + b).toNat := by rw [hp.length_eq, upFrom_length]
  have hpb : ∀ x ∈ p, -12 ≤ x ∧ x ≤ 11 := fun x hx => by
    have := hp.mem_iff.1 hx
    rw [upFrom_mem] at this
    omega
  have hpc : p.map cardOf = p := by
    have : ∀ r : List Int, (∀ x ∈ r, 0 ≤ x ∧ x < 12) → r.map cardOf = r := by
      intro r
      induction r with
      | nil => intro _; rfl
      | cons x r ih => intro hr; rw [List.map_cons, ih (fun y hy => hr y (by simp [hy])), cardOf_small (hr x (by simp)).1 (hr x (by simp)).2]
    exact this p (fun x hx => by
      have := hp.mem_iff.1 hx
      rw [upFrom_mem] at this
      omega)
  have hok : ∀ q : List Int, q.map cardOf = p.map cardOf → packetOk q = true := fun q hq => by
    rw [packetOk_iff, hq, hpc]
    refine ⟨fun x hx => ?_, hp.nodup_iff.2 (upFrom_nodup _ _)⟩
    have : cardOf x ∈ q.map cardOf := List.mem_map_of_mem hx
    rw [hq, hpc, hp.mem_iff, upFrom_mem] at this
    exact this.1
  obtain ⟨c, x1, x2, e2, hx⟩ := once_ok s0 v1 v2 2 hl hv (by omega) (by omega)
  cases c with
  | true =>
    obtain ⟨q, t1, t2, hq, hqb, ht, hE2⟩ := draw_loop s0 hl p.length (by omega) p.length 0 p x1 x2 (by omega) rfl hpb hx
    have hql : q.length = p.length := by have := congrArg List.length hq; simpa using this
    refine ⟨q, t1, t2, hok q hq, by omega, by omega, hqb, ht, ?_⟩
    unfold spec_l02Draw.f
    simp only [e, Option.bind_some]
    rw [w64 (a := 1 + b) (by omega) (by omega)]
    refine Ev.bind hE ?_
    simp only [e2, Option.bind_some, if_true]
    exact hE2
  | false =>
    refine ⟨p, x1, x2, hok p rfl, by omega, by omega, hpb, hx, ?_⟩
    unfold spec_l02Draw.f
    simp only [e, Option.bind_some]
    rw [w64 (a := 1 + b) (by omega) (by omega)]
    refine Ev.bind hE ?_
    simp only [e2, Option.bind_some, Bool.false_eq_true, if_false]
    exact Ev.now _
theorem makePacket_ok (l : List Int) (hl : l.length ≤ 1048576) (n : Nat) (hn : n ≤ 1000) (most : Int) (h1 : 1 ≤ most) (h2 : most ≤ 12) :
    ∃ q, packetOk q = true ∧ 1 ≤ q.length ∧ (q.length : Int) ≤ most ∧ (∀ x ∈ q, -12 ≤ x ∧ x ≤ 11) ∧ Ev (fun k => spec_MakePacket.f k l (n : Int) most) q := by
  obtain ⟨t1, t2, ht, hE⟩ := l23_ok l hl n hn
  obtain ⟨q, u1, u2, ho, hq1, hq2, hq3, -, hE2⟩ := draw_ok l hl most h1 h2 t1 t2 ht
  refine ⟨q, ho, hq1, hq2, hq3, ?_⟩
  unfold spec_MakePacket.f
  refine Ev.bind hE ?_
  have e : mx 1 (mn most 12) = most := by unfold mx mn; repeat' split <;> omega
  simp only [e]
  exact Ev.bind hE2 (Ev.now _)

/-- A cell turned over. -/
def turnCard (x : Int) : Int := if cardOf x < 0 then x else -1 - x

/-! ### the moves, on lists -/
def faroF (k : Int) : Nat → List Int → List Int → List Int → List Int
  | 0, _, _, out => out
  | d + 1, a, b, out => match a, b with
    | [], [] => out
    | [], y :: b => faroF k d [] b (out ++ [y])
    | x :: a, [] => faroF k d a [] (out ++ [x])
    | x :: a, y :: b => if (out.length : Int) % 2 = k then faroF k d a (y :: b) (out ++ [x]) else faroF k d (x :: a) b (out ++ [y])
def mongeF (k : Int) : List Int → Nat → List Int → List Int
  | [], _, out => out
  | x :: r, i, out => if i = 0 ∨ (i : Int) % 2 = k then mongeF k r (i + 1) (out ++ [x]) else mongeF k r (i + 1) (x :: out)
def milkF : Nat → List Int → List Int → List Int
  | 0, l, out => l ++ out
  | d + 1, l, out => if 1 < l.length then milkF d ((l.take (l.length - 1)).drop 1) ([rd l 0, rd l ((l.length : Int) - 1)] ++ out) else l ++ out
def duckF : Nat → List Int → List Int → Bool → List Int
  | 0, q, out, _ => q ++ out
  | _ + 1, [], out, _ => out
  | _ + 1, [x], out, _ => x :: out
  | d + 1, x :: y :: r, out, b => if b = true then duckF d (y :: r) (x :: out) false else duckF d (y :: r ++ [x]) out true
def doMove (l : List Int) (k a : Int) : List Int :=
  if k = 1 then l.drop a.toNat ++ l.take a.toNat
  else if k = 2 then (l.take a.toNat).reverse ++ l.drop a.toNat
  else if k = 3 then ((l.take a.toNat).map turnCard).reverse ++ l.drop a.toNat
  else if k = 4 then faroF a l.length (l.take (l.length / 2)) (l.drop (l.length / 2)) []
  else if k = 5 then mongeF a l 0 []
  else if k = 6 then milkF l.length l []
  else if k = 7 then duckF (2 * l.length) l [] (a == 1)
  else if k = 8 then l.set a.toNat (turnCard (rd l a))
  else l.take a.toNat ++ l.drop (a.toNat + 1) ++ [rd l a]

/-- May a move of this kind and number be done with a packet of n cards? -/
def moveOk (n k a : Int) : Bool := decide (1 ≤ n ∧ n ≤ 12 ∧ 0 ≤ a) && (if k = 1 ∨ k = 2 ∨ k = 3 then decide (a ≤ n) else if k = 4 ∨ k = 5 ∨ k = 7 then decide (a ≤ 1) else if k = 6 then decide (a = 0) else if k = 8 ∨ k = 9 then decide (a < n) else false)
theorem ev_three {α : Type} {g : Nat → Option α} {r : α} (h : ∀ k, g (k + 3) = some r) : Ev g r := ⟨3, fun k hk => by
  obtain ⟨j, rfl⟩ : ∃ j, k = j + 3 := ⟨k - 3, by omega⟩
  exact h j⟩
theorem kind_cases (k : Int) : k = 1 ∨ k = 2 ∨ k = 3 ∨ k = 4 ∨ k = 5 ∨ k = 6 ∨ k = 7 ∨ k = 8 ∨ k = 9 ∨ (k ≠ 1 ∧ k ≠ 2 ∧ k ≠ 3 ∧ k ≠ 4 ∧ k ≠ 5 ∧ k ≠ 6 ∧ k ≠ 7 ∧ k ≠ 8 ∧ k ≠ 9) := by omega

theorem moveOk_parts {n k a : Int} (h : moveOk n k a = true) : 1 ≤ n ∧ n ≤ 12 ∧ 0 ≤ a ∧ ((k = 1 ∨ k = 2 ∨ k = 3) ∧ a ≤ n ∨ (k = 4 ∨ k = 5 ∨ k = 7) ∧ a ≤ 1 ∨ k = 6 ∧ a = 0 ∨ (k = 8 ∨ k = 9) ∧ a < n) := by
  unfold moveOk at h
  rw [Bool.and_eq_true, decide_eq_true_eq] at h
  refine ⟨h.1.1, h.1.2.1, h.1.2.2, ?_⟩
  have h2 := h.2
  split at h2
  · rename_i c; exact .inl ⟨c, of_decide_eq_true h2⟩
  split at h2
  · rename_i c; exact .inr (.inl ⟨c, of_decide_eq_true h2⟩)
  split at h2
  · rename_i c; exact .inr (.inr (.inl ⟨c, of_decide_eq_true h2⟩))
  split at h2
  · rename_i c; exact .inr (.inr (.inr ⟨c, of_decide_eq_true h2⟩))
  · cases h2
theorem rd_of_lt {l : List Int} {a : Int} (h0 : 0 ≤ a) (h1 : a < l.length) : rd l a = l[a.toNat]'(by omega) := by
  have := rd_lt (xs := l) (i := a.toNat) (by omega)
  rw [Int.toNat_of_nonneg h0] at this
  exact this
def perform (l : List Int) (k a : Int) : List Int × Bool := if packetOk l = true ∧ moveOk (l.length : Int) k a = true then (doMove l k a, true) else ([], false)
theorem wf_small {x : Int} (h0 : -100 ≤ x) (h1 : x ≤ 100) : (Lit.int .i64 x).wf = true := by
  simp [Lit.wf, IntKind.min, IntKind.max, IntKind.signed, IntKind.bits]
  omega
theorem cardOf_bound {x : Int} (h : 0 ≤ cardOf x) : -12 ≤ x ∧ x ≤ 11 := by
  unfold cardOf at h
  repeat' split at h
  all_goals omega

/-! ### weave0: the ways to put two lists together -/
/-- a and b put together as bs tells: true takes from b. -/
def wv : List Bool → List Int → List Int → List Int
  | [], _, _ => []
  | true :: bs, a, b => b.headD 0 :: wv bs a b.tail
  | false :: bs, a, b => a.headD 0 :: wv bs a.tail b
def weaveU : Nat → List Int → List Int → List Int → List (List Int)
  | 0, don, _, _ => [don]
  | d + 1, don, a, b => if a = [] ∧ b = [] then [don] else
    (if a = [] then [] else weaveU d (don ++ [a.headD 0]) a.tail b) ++ (if b = [] then [] else weaveU d (don ++ [b.headD 0]) a b.tail)
theorem wv_length : ∀ bs a b, (wv bs a b).length = bs.length := by
  intro bs
  induction bs with
  | nil => intro a b; rfl
  | cons c bs ih => intro a b; cases c <;> simp [wv, ih]
theorem mem_weaveU (x : List Int) : ∀ (d : Nat) (don a b : List Int), a.length + b.length ≤ d → (x ∈ weaveU d don a b ↔ ∃ bs : List Bool, bs.count false = a.length ∧ bs.count true = b.length ∧ x = don ++ wv bs a b) := by
  intro d
  induction d with
  | zero =>
    intro don a b hd
    have e1 : a = [] := List.length_eq_zero_iff.1 (by omega)
    have e2 : b = [] := List.length_eq_zero_iff.1 (by omega)
    subst e1 e2
    simp only [weaveU, List.mem_singleton, List.length_nil]
    constructor
    · rintro rfl; exact ⟨[], rfl, rfl, by simp [wv]⟩
    · rintro ⟨bs, h1, h2, rfl⟩
      cases bs with
      | nil => simp [wv]
      | cons c bs => cases c <;> simp at h1 h2
  | succ d ih =>
    intro don a b hd
    rw [weaveU]
    by_cases c0 : a = [] ∧ b = []
    · rw [if_pos c0, c0.1, c0.2]
      simp only [List.mem_singleton, List.length_nil]
      constructor
      · rintro rfl; exact ⟨[], rfl, rfl, by simp [wv]⟩
      · rintro ⟨bs, h1, h2, rfl⟩
        cases bs with
        | nil => simp [wv]
        | cons c bs => cases c <;> simp at h1 h2
    · rw [if_neg c0, List.mem_append]
      have h1 : (x ∈ (if a = [] then [] else weaveU d (don ++ [a.headD 0]) a.tail b)) ↔ ∃ bs : List Bool, (false :: bs).count false = a.length ∧ (false :: bs).count true = b.length ∧ x = don ++ wv (false :: bs) a b := by
        cases a with
        | nil => simp
        | cons y a =>
          rw [if_neg (by simp)]
          simp only [List.headD_cons, List.tail_cons]
          rw [ih _ _ _ (by simp at hd; omega)]
          constructor
          · rintro ⟨bs, e1, e2, rfl⟩; exact ⟨bs, by simp [e1], by simp [e2], by simp [wv]⟩
          · rintro ⟨bs, e1, e2, rfl⟩; exact ⟨bs, by simpa using e1, by simpa using e2, by simp [wv]⟩
      have h2 : (x ∈ (if b = [] then [] else weaveU d (don ++ [b.headD 0]) a b.tail)) ↔ ∃ bs : List Bool, (true :: bs).count false = a.length ∧ (true :: bs).count true = b.length ∧ x = don ++ wv (true :: bs) a b := by
        cases b with
        | nil => simp
        | cons y b =>
          rw [if_neg (by simp)]
          simp only [List.headD_cons, List.tail_cons]
          rw [ih _ _ _ (by simp at hd; omega)]
          constructor
          · rintro ⟨bs, e1, e2, rfl⟩; exact ⟨bs, by simp [e1], by simp [e2], by simp [wv]⟩
          · rintro ⟨bs, e1, e2, rfl⟩; exact ⟨bs, by simpa using e1, by simpa using e2, by simp [wv]⟩
      rw [h1, h2]
      constructor
      · rintro (⟨bs, h⟩ | ⟨bs, h⟩)
        · exact ⟨_, h⟩
        · exact ⟨_, h⟩
      · rintro ⟨bs, e1, e2, e3⟩
        cases bs with
        | nil =>
          exact absurd ⟨List.length_eq_zero_iff.1 e1.symm, List.length_eq_zero_iff.1 e2.symm⟩ c0
        | cons c bs => cases c
                       · exact .inl ⟨bs, e1, e2, e3⟩
                       · exact .inr ⟨bs, e1, e2, e3⟩
theorem count_tf (bs : List Bool) : bs.count false + bs.count true = bs.length := by
  induction bs with
  | nil => rfl
  | cons c bs ih => cases c <;> simp <;> omega
/-- p's first part and its second one, put together as bs tells. -/
def rif (p : List Int) (bs : List Bool) : List Int := wv bs (p.take (bs.count false)) (p.drop (bs.count false))
theorem mem_weaves (p x : List Int) : x ∈ (List.range (p.length + 1)).flatMap (fun k => weaveU p.length [] (p.take k) (p.drop k)) ↔ ∃ bs : List Bool, bs.length = p.length ∧ x = rif p bs := by
  rw [List.mem_flatMap]
  constructor
  · rintro ⟨k, hk, hx⟩
    rw [List.mem_range] at hk
    rw [mem_weaveU _ _ _ _ _ (by simp; omega)] at hx
    obtain ⟨bs, h1, h2, h3⟩ := hx
    rw [List.length_take, Nat.min_eq_left (by omega)] at h1
    rw [List.length_drop] at h2
    refine ⟨bs, by have := count_tf bs; omega, ?_⟩
    rw [rif, h1]
    simpa using h3
  · rintro ⟨bs, h1, h2⟩
    have hc := count_tf bs
    refine ⟨bs.count false, by rw [List.mem_range]; omega, ?_⟩
    rw [mem_weaveU _ _ _ _ _ (by simp; omega)]
    exact ⟨bs, by rw [List.length_take]; omega, by rw [List.length_drop]; omega, by simpa [rif] using h2⟩
/-- The bits of a number, from the lowest on. -/
def bitsOf : Nat → Nat → List Bool
  | 0, _ => []
  | n + 1, w => decide (w % 2 = 1) :: bitsOf n (w / 2)
theorem bitsOf_length : ∀ n w, (bitsOf n w).length = n := by
  intro n
  induction n with
  | zero => intro w; rfl
  | succ n ih => intro w; simp [bitsOf, ih]
theorem bitsOf_all : ∀ bs : List Bool, ∃ w, w < 2 ^ bs.length ∧ bitsOf bs.length w = bs := by
  intro bs
  induction bs with
  | nil => exact ⟨0, by simp, rfl⟩
  | cons c bs ih =>
    obtain ⟨w, hw, e⟩ := ih
    refine ⟨2 * w + (if c = true then 1 else 0), ?_, ?_⟩
    · rw [List.length_cons, Nat.pow_succ]; split <;> omega
    · rw [List.length_cons, bitsOf]
      cases c with
      | true => rw [if_pos rfl, show (2 * w + 1) / 2 = w by omega, e]; simp
      | false => rw [if_neg (by simp), show (2 * w + 0) / 2 = w by omega, e]; simp
theorem mem_masks (p x : List Int) : x ∈ (List.range (2 ^ p.length)).map (fun w => rif p (bitsOf p.length w)) ↔ ∃ bs : List Bool, bs.length = p.length ∧ x = rif p bs := by
  rw [List.mem_map]
  constructor
  · rintro ⟨w, hw, rfl⟩; exact ⟨_, bitsOf_length _ _, rfl⟩
  · rintro ⟨bs, h1, h2⟩
    obtain ⟨w, hw, e⟩ := bitsOf_all bs
    rw [h1] at hw e
    exact ⟨w, List.mem_range.2 hw, by rw [e, h2]⟩
/-- Both ways to name the riffles give the same lists. -/
theorem weaves_masks (p x : List Int) : x ∈ (List.range (2 ^ p.length)).map (fun w => rif p (bitsOf p.length w)) ↔ x ∈ (List.range (p.length + 1)).flatMap (fun k => weaveU p.length [] (p.take k) (p.drop k)) := by
  rw [mem_masks, mem_weaves]

/-! ### count0: how many different lists there are -/
theorem length_le_sub {α : Type} [DecidableEq α] : ∀ (a b : List α), a.Nodup → (∀ x ∈ a, x ∈ b) → a.length ≤ b.length := by
  intro a
  induction a with
  | nil => intro b _ _; exact Nat.zero_le _
  | cons x a ih =>
    intro b hn hs
    rw [List.nodup_cons] at hn
    have hx : x ∈ b := hs x (by simp)
    have h := ih (b.erase x) hn.2 (fun y hy => (List.mem_erase_of_ne (fun e => hn.1 (by rw [← e]; exact hy))).2 (hs y (by simp [hy])))
    rw [List.length_erase_of_mem hx] at h
    have := List.length_pos_of_mem hx
    rw [List.length_cons]
    omega
theorem sortU_nodup (l : List (List Int)) : (sortU l).Nodup := by
  refine (strict_sortU l).imp ?_
  intro a b h e
  rw [e, lexLt_irrefl] at h
  cases h
theorem nodup_map_inj {α β : Type} (g : α → β) : ∀ (l : List α), l.Nodup → (∀ x ∈ l, ∀ y ∈ l, g x = g y → x = y) → (l.map g).Nodup := by
  intro l
  induction l with
  | nil => intro _ _; simp
  | cons x l ih =>
    intro hn hg
    rw [List.nodup_cons] at hn
    rw [List.map_cons, List.nodup_cons]
    refine ⟨fun h => ?_, ih hn.2 (fun y hy z hz => hg y (by simp [hy]) z (by simp [hz]))⟩
    obtain ⟨y, hy, e⟩ := List.mem_map.1 h
    rw [hg y (by simp [hy]) x (by simp) e] at hy
    exact hn.1 hy
/-- As many different lists are told by other names, where the names differ. -/
theorem length_sortU_map (g : List Int → List Int) (l : List (List Int)) (hg : ∀ x ∈ l, ∀ y ∈ l, g x = g y → x = y) : (sortU (l.map g)).length = (sortU l).length := by
  have h1 : ((sortU l).map g).Nodup := nodup_map_inj g _ (sortU_nodup l) (fun x hx y hy => hg x ((mem_sortU x l).1 hx) y ((mem_sortU y l).1 hy))
  have e : ∀ x, x ∈ (sortU l).map g ↔ x ∈ sortU (l.map g) := fun x => by
    rw [mem_sortU, List.mem_map, List.mem_map]
    constructor
    · rintro ⟨y, hy, e⟩; exact ⟨y, (mem_sortU y l).1 hy, e⟩
    · rintro ⟨y, hy, e⟩; exact ⟨y, (mem_sortU y l).2 hy, e⟩
  have a := length_le_sub _ _ h1 (fun x hx => (e x).1 hx)
  have b := length_le_sub _ _ (sortU_nodup (l.map g)) (fun x hx => (e x).2 hx)
  rw [List.length_map] at a b
  omega

/-! ### riffle0: how many riffles there are -/
theorem wv_map (g : Int → Int) : ∀ (bs : List Bool) (a b : List Int), bs.count false ≤ a.length → bs.count true ≤ b.length → wv bs (a.map g) (b.map g) = (wv bs a b).map g := by
  intro bs
  induction bs with
  | nil => intro a b _ _; rfl
  | cons c bs ih =>
    intro a b ha hb
    cases c with
    | true =>
      cases b with
      | nil => simp at hb
      | cons y b =>
        simp only [wv, List.map_cons, List.headD_cons, List.tail_cons]
        rw [ih a b (by simpa using ha) (by simpa using hb)]
    | false =>
      cases a with
      | nil => simp at ha
      | cons y a =>
        simp only [wv, List.map_cons, List.headD_cons, List.tail_cons]
        rw [ih a b (by simpa using ha) (by simpa using hb)]
theorem rif_map (g : Int → Int) (p : List Int) (bs : List Bool) (h : bs.length = p.length) : rif (p.map g) bs = (rif p bs).map g := by
  have hc := count_tf bs
  unfold rif
  rw [← List.map_take, ← List.map_drop, wv_map g bs _ _ (by rw [List.length_take]; omega) (by rw [List.length_drop]; omega)]
/-- The numbers from 0 on. -/
def iota (n : Nat) : List Int := (List.range n).map Int.ofNat
theorem iota_length (n : Nat) : (iota n).length = n := by simp [iota]
theorem mem_iota (n : Nat) (x : Int) : x ∈ iota n ↔ 0 ≤ x ∧ x < n := by
  unfold iota
  rw [List.mem_map]
  constructor
  · rintro ⟨i, hi, rfl⟩
    have := List.mem_range.1 hi
    constructor
    · exact Int.natCast_nonneg i
    · show (i : Int) < n
      omega
  · rintro ⟨h0, h1⟩
    exact ⟨x.toNat, List.mem_range.2 (by omega), by show (x.toNat : Int) = x; omega⟩
theorem iota_map (p : List Int) : (iota p.length).map (fun i => p.getD i.toNat 0) = p := by
  apply List.ext_getElem
  · simp [iota]
  · intro i h1 h2
    simp [iota, h2]
theorem getD_inj {p : List Int} (hn : p.Nodup) {i j : Nat} (hi : i < p.length) (hj : j < p.length) (e : p.getD i 0 = p.getD j 0) : i = j := by
  rw [List.getD_eq_getElem?_getD, List.getD_eq_getElem?_getD, List.getElem?_eq_getElem hi, List.getElem?_eq_getElem hj] at e
  have hp := List.pairwise_iff_getElem.1 hn
  have e' : p[i] = p[j] := e
  rcases Nat.lt_trichotomy i j with h | h | h
  · exact absurd e' (hp i j hi hj h)
  · exact h
  · exact absurd e'.symm (hp j i hj hi h)
theorem mapg_inj {p : List Int} (hn : p.Nodup) : ∀ (x y : List Int), (∀ i ∈ x, 0 ≤ i ∧ i < p.length) → (∀ i ∈ y, 0 ≤ i ∧ i < p.length) → x.map (fun i => p.getD i.toNat 0) = y.map (fun i => p.getD i.toNat 0) → x = y := by
  intro x
  induction x with
  | nil => intro y _ _ e; cases y with
    | nil => rfl
    | cons b y => simp at e
  | cons a x ih =>
    intro y hx hy e
    cases y with
    | nil => simp at e
    | cons b y =>
      rw [List.map_cons, List.map_cons] at e
      injection e with e1 e2
      have h1 := hx a (by simp)
      have h2 := hy b (by simp)
      have := getD_inj hn (by omega) (by omega) e1
      rw [ih y (fun i hi => hx i (by simp [hi])) (fun i hi => hy i (by simp [hi])) e2, show a = b by omega]
theorem wv_mem : ∀ (bs : List Bool) (a b : List Int), bs.count false ≤ a.length → bs.count true ≤ b.length → ∀ x ∈ wv bs a b, x ∈ a ∨ x ∈ b := by
  intro bs
  induction bs with
  | nil => intro a b _ _ x hx; simp [wv] at hx
  | cons c bs ih =>
    intro a b ha hb x hx
    cases c with
    | true =>
      cases b with
      | nil => simp at hb
      | cons y b =>
        simp only [wv, List.headD_cons, List.tail_cons, List.mem_cons] at hx
        rcases hx with rfl | hx
        · exact .inr (by simp)
        · rcases ih a b (by simpa using ha) (by simpa using hb) x hx with h | h
          · exact .inl h
          · exact .inr (by simp [h])
    | false =>
      cases a with
      | nil => simp at ha
      | cons y a =>
        simp only [wv, List.headD_cons, List.tail_cons, List.mem_cons] at hx
        rcases hx with rfl | hx
        · exact .inl (by simp)
        · rcases ih a b (by simpa using ha) (by simpa using hb) x hx with h | h
          · exact .inl (by simp [h])
          · exact .inr h
theorem rif_mem {p : List Int} {bs : List Bool} (h : bs.length = p.length) : ∀ x ∈ rif p bs, x ∈ p := by
  intro x hx
  have hc := count_tf bs
  rcases wv_mem bs _ _ (by rw [List.length_take]; omega) (by rw [List.length_drop]; omega) x hx with h | h
  · exact List.mem_of_mem_take h
  · exact List.mem_of_mem_drop h
/-- All riffles of a list, by masks. -/
def rifs (p : List Int) : List (List Int) := (List.range (2 ^ p.length)).map (fun w => rif p (bitsOf p.length w))
theorem rifs_map (p : List Int) : rifs p = (rifs (iota p.length)).map (fun x => x.map (fun i => p.getD i.toNat 0)) := by
  unfold rifs
  rw [List.map_map, iota_length]
  apply List.map_congr_left
  intro w _
  show rif p _ = List.map _ (rif (iota p.length) _)
  rw [← rif_map _ _ _ (by rw [bitsOf_length, iota_length]), iota_map]
theorem rifs_count {p : List Int} (hn : p.Nodup) : (sortU (rifs p)).length = (sortU (rifs (iota p.length))).length := by
  rw [rifs_map]
  refine length_sortU_map _ _ (fun x hx y hy e => ?_)
  have hm : ∀ x ∈ rifs (iota p.length), ∀ i ∈ x, 0 ≤ i ∧ i < p.length := by
    intro x hx i hi
    unfold rifs at hx
    obtain ⟨w, _, rfl⟩ := List.mem_map.1 hx
    have := rif_mem (by rw [bitsOf_length]) i hi
    exact (mem_iota _ _).1 this
  exact mapg_inj hn x y (hm x hx) (hm y hy) e
theorem rifs_counts : ∀ n, n < 8 → (sortU (rifs (iota n))).length = 2 ^ n - n := by decide +kernel
/-- The way that a riffle of the numbers from 0 on, other than these, tells. -/
def firstOff : Int → List Int → Option Int
  | _, [] => none
  | i, x :: l => if x = i then firstOff (i + 1) l else some x
def wayOf : Int → List Int → Nat
  | _, [] => 0
  | k, x :: l => (if k ≤ x then 1 else 0) + 2 * wayOf k l
def way (l : List Int) : Option Nat := (firstOff 0 l).map (fun k => wayOf k l)
theorem ways12_many : 3000 < ((List.range 4096).filter (fun w => decide (way (rif (iota 12) (bitsOf 12 w)) = some w))).length := by decide +kernel
theorem rifs12 : 3000 < (sortU (rifs (iota 12))).length := by
  refine Nat.lt_of_lt_of_le ways12_many ?_
  let W := (List.range 4096).filter (fun w => decide (way (rif (iota 12) (bitsOf 12 w)) = some w))
  have h1 : (W.map (fun w => rif (iota 12) (bitsOf 12 w))).Nodup := by
    refine nodup_map_inj _ _ (List.nodup_range.filter _) (fun x hx y hy e => ?_)
    have hx' := (List.mem_filter.1 hx).2
    have hy' := (List.mem_filter.1 hy).2
    simp only [decide_eq_true_eq] at hx' hy'
    have e' : rif (iota 12) (bitsOf 12 x) = rif (iota 12) (bitsOf 12 y) := e
    rw [e', hy'] at hx'
    injection hx' with h
    exact h.symm
  have h2 := length_le_sub _ (sortU (rifs (iota 12))) h1 (fun x hx => by
    rw [mem_sortU]
    obtain ⟨w, hw, e⟩ := List.mem_map.1 hx
    refine List.mem_map.2 ⟨w, ?_, by rw [← e, iota_length]⟩
    have := (List.mem_filter.1 hw).1
    rw [iota_length]
    exact this)
  rw [List.length_map] at h2
  exact h2

/-! ### choice0: the results of a choice, on lists -/
def cutsU (p : List Int) : List (List Int) := (List.range' 0 p.length).map (fun k => doMove p 1 (k : Nat))
def pickU (p : List Int) (i : Nat) : List Int := [rd p i] ++ p.take i ++ p.drop (i + 1)
def choiceU (p : List Int) (kind : Int) : List (List Int) :=
  if kind = 1 then cutsU p else if kind = 2 then rifs p else if kind = 3 then cutsU (doMove p 3 2) else if kind = 4 then (List.range' 0 p.length).map (pickU p) else [p]
def choiceOk (p : List Int) (kind : Int) : Prop := packetOk p = true ∧ ¬ p.length = 0 ∧ 0 ≤ kind ∧ kind ≤ 4 ∧ (kind = 3 → 2 ≤ p.length) ∧ (kind = 2 → p.length ≤ 11)
instance (p : List Int) (kind : Int) : Decidable (choiceOk p kind) := by unfold choiceOk; exact inferInstance
/-- What a packet and a choice result in. -/
def resultsOf (p : List Int) (kind : Int) : List (List Int) × Bool := if choiceOk p kind then (sortU (choiceU p kind), true) else ([], false)
theorem cutsU_length (p : List Int) : (cutsU p).length = p.length := by simp [cutsU]
theorem doMove1_length (p : List Int) (k : Nat) (h : k ≤ p.length) : (doMove p 1 k).length = p.length := by
  unfold doMove
  rw [if_pos rfl]
  simp
  omega
theorem doMove3_length (p : List Int) (h : 2 ≤ p.length) : (doMove p 3 2).length = p.length := by
  unfold doMove
  rw [if_neg (by omega), if_neg (by omega), if_pos rfl]
  simp
  omega
theorem rif_length (p : List Int) (bs : List Bool) : (rif p bs).length = bs.length := wv_length _ _ _
theorem choiceU_len (p : List Int) (kind : Int) (h3 : kind = 3 → 2 ≤ p.length) : ∀ x ∈ choiceU p kind, x.length = p.length := by
  have hc : ∀ q : List Int, ∀ x ∈ cutsU q, x.length = q.length := by
    intro q x hx
    obtain ⟨k, hk, rfl⟩ := List.mem_map.1 hx
    rw [List.mem_range'_1] at hk
    exact doMove1_length q k (by omega)
  intro x hx
  unfold choiceU at hx
  split at hx
  · exact hc p x hx
  split at hx
  · obtain ⟨w, _, rfl⟩ := List.mem_map.1 hx
    rw [rif_length, bitsOf_length]
  split at hx
  · rename_i h
    rw [hc _ x hx, doMove3_length p (h3 h)]
  split at hx
  · obtain ⟨k, hk, rfl⟩ := List.mem_map.1 hx
    rw [List.mem_range'_1] at hk
    simp [pickU]
    omega
  · rw [List.mem_singleton.1 hx]
theorem choiceU_count (p : List Int) (kind : Int) (h3 : kind = 3 → 2 ≤ p.length) (h1 : 1 ≤ p.length) : (choiceU p kind).length ≤ 2 ^ p.length := by
  have hb : p.length ≤ 2 ^ p.length := Nat.le_of_lt Nat.lt_two_pow_self
  unfold choiceU
  split
  · rw [cutsU_length]; exact hb
  split
  · simp [rifs]
  split
  · rename_i h
    rw [cutsU_length, doMove3_length p (h3 h)]; exact hb
  split
  · simpa using hb
  · simpa using Nat.one_le_two_pow
theorem packet_nodup {p : List Int} (h : packetOk p = true) : p.Nodup := by
  have h2 := ((packetOk_iff p).1 h).2
  have h3 : ∀ l : List Int, (l.map cardOf).Nodup → l.Nodup := by
    intro l
    induction l with
    | nil => intro _; simp
    | cons x l ih =>
      intro hn
      rw [List.map_cons, List.nodup_cons] at hn
      rw [List.nodup_cons]
      exact ⟨fun hx => hn.1 (List.mem_map.2 ⟨x, hx, rfl⟩), ih hn.2⟩
  exact h3 p h2
theorem packet_wf {p : List Int} (h : packetOk p = true) : ∀ x ∈ p, (Lit.int .i64 x).wf = true := by
  intro x hx
  have := cardOf_bound (((packetOk_iff p).1 h).1 x hx)
  exact wf_small (by omega) (by omega)
theorem turn_wf {x : Int} (h : -12 ≤ x ∧ x ≤ 11) : (Lit.int .i64 (turnCard x)).wf = true := by
  have : -13 ≤ turnCard x ∧ turnCard x ≤ 12 := by
    unfold turnCard
    split <;> omega
  exact wf_small (by omega) (by omega)
theorem flip_wf {p : List Int} (h : packetOk p = true) : ∀ x ∈ doMove p 3 2, (Lit.int .i64 x).wf = true := by
  intro x hx
  unfold doMove at hx
  rw [if_neg (by omega), if_neg (by omega), if_pos rfl] at hx
  rcases List.mem_append.1 hx with hx | hx
  · rw [List.mem_reverse] at hx
    obtain ⟨y, hy, rfl⟩ := List.mem_map.1 hx
    exact turn_wf (cardOf_bound (((packetOk_iff p).1 h).1 y (List.mem_of_mem_take hy)))
  · exact packet_wf h x (List.mem_of_mem_drop hx)
theorem pow_le_2048 {n : Nat} (h : n ≤ 11) : 2 ^ n ≤ 2048 := Nat.pow_le_pow_right (by omega) h
theorem moveOk_cut {n : Nat} {a : Nat} (h0 : 1 ≤ n) (h1 : n ≤ 12) (h2 : a ≤ n) : moveOk (n : Int) 1 (a : Int) = true := by
  unfold moveOk
  simp
  omega
theorem moveOk_flip {n : Nat} (h0 : 2 ≤ n) (h1 : n ≤ 12) : moveOk (n : Int) 3 2 = true := by
  unfold moveOk
  simp
  omega
theorem wv_prefix : ∀ (bs : List Bool) (a z b : List Int), bs.count false ≤ a.length → wv bs (a ++ z) b = wv bs a b := by
  intro bs
  induction bs with
  | nil => intro a z b _; rfl
  | cons c bs ih =>
    intro a z b h
    cases c with
    | true => simp only [wv]; rw [ih a z _ (by simpa using h)]
    | false =>
      cases a with
      | nil => simp at h
      | cons x a =>
        simp only [wv, List.cons_append, List.headD_cons, List.tail_cons]
        rw [ih a z b (by simpa using h)]
theorem rif_whole (p : List Int) (bs : List Bool) (h : bs.length = p.length) : wv bs p (p.drop (bs.count false)) = rif p bs := by
  have hc := count_tf bs
  have e := wv_prefix bs (p.take (bs.count false)) (p.drop (bs.count false)) (p.drop (bs.count false)) (by rw [List.length_take]; omega)
  rw [List.take_append_drop] at e
  exact e
theorem resultsOf_small (p : List Int) (kind : Int) : (resultsOf p kind).1.length ≤ 4096 ∧ ∀ x ∈ (resultsOf p kind).1, x.length ≤ 12 := by
  unfold resultsOf
  by_cases h : choiceOk p kind
  · rw [if_pos h]
    obtain ⟨hpk, hz, h0, h4, h3, h2⟩ := h
    have hp := packetOk_length hpk
    constructor
    · have := length_sortU (choiceU p kind)
      have := choiceU_count p kind h3 (by omega)
      have : 2 ^ p.length ≤ 4096 := Nat.pow_le_pow_right (n := 2) (by omega) hp
      show (sortU (choiceU p kind)).length ≤ 4096
      omega
    · intro x hx
      rw [choiceU_len p kind h3 x ((mem_sortU x _).1 hx)]
      exact hp
  · rw [if_neg h]
    exact ⟨by simp, fun x hx => by simp at hx⟩

theorem impl_CardOf_eq (x : Int) (hx : -9223372036854775808 ≤ x) : impl_CardOf.f x = some (cardOf x) := by
  unfold impl_CardOf.f cardOf
  by_cases h0 : x < 0
  · rw [if_pos h0, w64 (by omega) (by omega), if_neg (show ¬ 0 ≤ x by omega)]
    by_cases h1 : -12 ≤ x
    · rw [if_neg (by omega), if_pos h1]
    · rw [if_pos (by omega), if_neg h1]
  · rw [if_neg h0, if_pos (show 0 ≤ x by omega)]
    by_cases h1 : x ≤ 11
    · rw [if_neg (by omega), if_pos h1]
    · rw [if_pos (by omega), if_neg h1]

theorem impl_PacketOk_loop (l : List Int) (hl : l.length ≤ 9223372036854775806) (hw : ∀ x ∈ l, (Lit.int .i64 x).wf = true) : ∀ (r pre seen : List Int) (m : List Bool), l = pre ++ r → m.length = 12 → (∀ c : Int, 0 ≤ c → c < 12 → (rdOf false m c = true ↔ c ∈ seen)) →
    Ev (fun k => impl_PacketOk.l0 k m l (pre.length : Int)) (pktFrom seen r) := by
  intro r
  induction r with
  | nil =>
    intro pre seen m h hm hs
    have e := lens h
    simp only [List.length_nil] at e
    refine Ev.step (f := fun _ => some _) (fun k => ?_) (Ev.now _)
    simp only [impl_PacketOk.l0]
    rw [if_neg (by omega)]
    simp [pktFrom]
  | cons x r ih =>
    intro pre seen m h hm hs
    have e := lens h
    simp only [List.length_cons] at e
    have hx := bd64 (hw x (by rw [h]; simp))
    have hc := cardOf_le x
    by_cases c0 : cardOf x < 0
    · have e : pktFrom seen (x :: r) = false := by simp only [pktFrom]; rw [decide_eq_false (by omega)]; rfl
      rw [e]
      refine Ev.step (f := fun _ => some _) (fun k => ?_) (Ev.now _)
      simp only [impl_PacketOk.l0]
      rw [if_pos (by omega), if_pos (by omega), rd_mid' h, impl_CardOf_eq x hx.1]
      simp only [Option.bind_some]
      rw [if_pos c0]
    have hsc := hs (cardOf x) (by omega) (by omega)
    by_cases c2 : cardOf x ∈ seen
    · have e : pktFrom seen (x :: r) = false := by simp only [pktFrom]; simp [c2]
      rw [e]
      refine Ev.step (f := fun _ => some _) (fun k => ?_) (Ev.now _)
      simp only [impl_PacketOk.l0]
      rw [if_pos (by omega), if_pos (by omega), rd_mid' h, impl_CardOf_eq x hx.1]
      simp only [Option.bind_some]
      rw [if_neg c0, if_pos (by omega), if_pos (hsc.2 c2)]
    · have e : pktFrom seen (x :: r) = pktFrom (seen ++ [cardOf x]) r := by simp only [pktFrom]; rw [decide_eq_true (by omega)]; simp [c2]
      rw [e]
      refine Ev.step (fun k => ?_) (ih (pre ++ [x]) (seen ++ [cardOf x]) (m.set (cardOf x).toNat true) (snoc_eq h) (by simp [hm]) ?_)
      · simp only [impl_PacketOk.l0]
        rw [if_pos (by omega), if_pos (by omega), rd_mid' h, impl_CardOf_eq x hx.1]
        simp only [Option.bind_some]
        rw [if_neg c0, if_pos (by omega), if_neg (fun q => c2 (hsc.1 q)), snoc_len x (by omega)]
      · intro c h0 h1
        rw [List.mem_append, List.mem_singleton, ← hs c h0 h1]
        simp only [rdOf, List.getD_eq_getElem?_getD, List.getElem?_set, hm]
        by_cases ec : c = cardOf x
        · subst ec
          rw [if_pos rfl, if_pos (by omega)]
          simp
        · rw [if_neg (by omega)]
          simp [ec]
theorem impl_PacketOk_ev (l : List Int) (hl : l.length ≤ 9223372036854775806) (hw : ∀ x ∈ l, (Lit.int .i64 x).wf = true) : Ev (fun k => impl_PacketOk.f k l) (packetOk l) := by
  unfold impl_PacketOk.f packetOk
  refine impl_PacketOk_loop l hl hw l [] [] _ rfl (by simp) ?_
  intro c h0 h1
  simp only [rdOf, List.getD_eq_getElem?_getD, List.getElem?_replicate]
  rw [if_pos (by omega)]
  simp

theorem impl_TurnCard_eq (x : Int) (hx : -9223372036854775808 ≤ x) : impl_TurnCard.f x = some (turnCard x) := by
  unfold impl_TurnCard.f turnCard
  rw [impl_CardOf_eq x hx]
  simp only [Option.bind_some]
  by_cases h : cardOf x < 0
  · rw [if_pos h, if_pos h]
  · rw [if_neg h, if_neg h, w64]
    all_goals (unfold cardOf at h; split at h <;> split at h <;> omega)

theorem slices_Reverse_int_int_loop : ∀ (d : Nat) (m p q : List Int), m.length ≤ d → p.length = q.length → p.length + m.length + q.length ≤ 100 →
    Ev (fun k => slices_Reverse_int_int.l0 k (p ++ m ++ q) (p.length : Int) ((p.length : Int) + m.length - 1)) (p ++ m.reverse ++ q) := by
  intro d
  induction d with
  | zero =>
    intro m p q h hp hl
    have hm : m = [] := List.length_eq_zero_iff.mp (by omega)
    subst hm
    refine Ev.step (f := fun _ => some _) (fun k => ?_) (Ev.now _)
    simp only [slices_Reverse_int_int.l0]
    rw [if_neg (by simp <;> omega)]
    rfl
  | succ d ih =>
    intro m p q h hp hl
    match m with
    | [] =>
      refine Ev.step (f := fun _ => some _) (fun k => ?_) (Ev.now _)
      simp only [slices_Reverse_int_int.l0]
      rw [if_neg (by simp <;> omega)]
      rfl
    | [x] =>
      refine Ev.step (f := fun _ => some _) (fun k => ?_) (Ev.now _)
      simp only [slices_Reverse_int_int.l0]
      rw [if_neg (by simp)]
      rfl
    | x :: y :: r =>
      obtain ⟨m', z, e⟩ : ∃ m' z, y :: r = m' ++ [z] := ⟨(y :: r).dropLast, (y :: r).getLast (by simp), (List.dropLast_concat_getLast (by simp)).symm⟩
      rw [e] at h hl ⊢
      simp only [List.length_cons, List.length_append, List.length_singleton] at h hl
      have hi := ih m' (p ++ [z]) (x :: q) (by omega) (by simp [hp]) (by simp <;> omega)
      have e1 : p ++ (x :: (m' ++ [z])).reverse ++ q = p ++ [z] ++ m'.reverse ++ (x :: q) := by simp
      rw [e1]
      refine Ev.step (fun k => ?_) hi
      have hj : ((p.length : Int) + ((x :: (m' ++ [z])).length : Int) - 1) = ((p.length + 1 + m'.length : Nat) : Int) := by simp <;> omega
      have ei : wrap64 ((p.length : Int) + 1) = ((p ++ [z]).length : Int) := snoc_len z (by omega)
      have ej : wrap64 (((p.length + 1 + m'.length : Nat) : Int) - 1) = ((p ++ [z]).length : Int) + (m'.length : Int) - 1 := by rw [w64 (by omega) (by omega), List.length_append, List.length_singleton]; omega
      have ex : rd (p ++ (x :: (m' ++ [z])) ++ q) (p.length : Int) = x := by simp [rd]
      have ez : rd (p ++ (x :: (m' ++ [z])) ++ q) ((p.length + 1 + m'.length : Nat) : Int) = z := by
        have : p ++ (x :: (m' ++ [z])) ++ q = (p ++ x :: m') ++ (z :: q) := by simp
        rw [this, show p.length + 1 + m'.length = (p ++ x :: m').length by simp <;> omega]
        exact rd_mid _ _ _
      have es : ((p ++ (x :: (m' ++ [z])) ++ q).set p.length z).set (p.length + 1 + m'.length) x = p ++ [z] ++ m' ++ (x :: q) := by
        have e2 : p ++ (x :: (m' ++ [z])) ++ q = p ++ x :: (m' ++ z :: q) := by simp
        rw [e2, set_mid, show (p ++ [z] ++ (m' ++ z :: q)) = (p ++ [z] ++ m') ++ z :: q by simp, show p.length + 1 + m'.length = (p ++ [z] ++ m').length by simp <;> omega, set_mid]
        simp
      simp only [slices_Reverse_int_int.l0]
      rw [hj, if_pos (by omega), if_pos (by omega), if_pos (by simp <;> omega), if_pos (by omega), if_pos (by simp <;> omega), ex, ez, ei, ej, Int.toNat_natCast, Int.toNat_natCast, es]
theorem slices_Reverse_int_int_ev (l : List Int) (hl : l.length ≤ 100) : Ev (fun k => slices_Reverse_int_int.f k l) l.reverse := by
  unfold slices_Reverse_int_int.f
  have h := slices_Reverse_int_int_loop l.length l [] [] (by omega) rfl (by simp <;> omega)
  simp only [List.nil_append, List.append_nil, List.length_nil] at h
  rw [w64 (by omega) (by omega)]
  have e : (((0 : Nat) : Int) + (l.length : Int) - 1) = (l.length : Int) - 1 := by omega
  rw [e] at h
  exact h
theorem impl_reversed_ev (l : List Int) (hl : l.length ≤ 100) : Ev (fun k => impl_reversed.f k l) l.reverse := by
  unfold impl_reversed.f
  have e : slices_Clone_int_int.f l = some l := by unfold slices_Clone_int_int.f; rw [if_pos (by omega)]
  simp only [e, Option.bind_some]
  exact Ev.bind (slices_Reverse_int_int_ev l hl) (Ev.now _)

theorem flen {ls pre r : List (List Int)} (h : ls = pre ++ r) : ls.flatten.length = pre.flatten.length + r.flatten.length := by rw [h]; simp
theorem slices_Concat_int_int_two (ls : List (List Int)) (hn : ls.length ≤ 100) (hl : ls.flatten.length ≤ 100) : ∀ (r pre : List (List Int)), ls = pre ++ r →
    Ev (fun k => slices_Concat_int_int.l1 k pre.flatten ls (ls.length : Int) (pre.length : Int)) ls.flatten := by
  intro r
  induction r with
  | nil =>
    intro pre h
    refine Ev.step (f := fun _ => some _) (fun k => ?_) (Ev.now _)
    simp only [slices_Concat_int_int.l1]
    rw [if_neg (by rw [h]; simp), h, List.append_nil]
  | cons x r ih =>
    intro pre h
    have e : ls.length = pre.length + (r.length + 1) := by rw [h]; simp
    have hf := flen h
    simp only [List.flatten_cons, List.length_append] at hf
    have hr : rd_L2 ls (pre.length : Int) = x := by rw [h]; simp [rd_L2]
    have hi := ih (pre ++ [x]) (by rw [h]; simp)
    rw [show (pre ++ [x]).flatten = pre.flatten ++ x by simp, show (pre ++ [x]).length = pre.length + 1 by simp] at hi
    refine Ev.step (fun k => ?_) hi
    simp only [slices_Concat_int_int.l1]
    rw [if_pos (by omega), if_pos (by omega), if_pos (by omega), hr, if_pos (by omega), w64 (by omega) (by omega)]
    rfl
theorem slices_Concat_int_int_one (ls : List (List Int)) (hn : ls.length ≤ 100) (hl : ls.flatten.length ≤ 100) : ∀ (r pre : List (List Int)), ls = pre ++ r →
    Ev (fun k => slices_Concat_int_int.l0 k ls (pre.flatten.length : Int) ls (ls.length : Int) (pre.length : Int)) ls.flatten := by
  intro r
  induction r with
  | nil =>
    intro pre h
    refine Ev.step (f := fun k => slices_Concat_int_int.l1 k [] ls (ls.length : Int) 0) (fun k => ?_) (slices_Concat_int_int_two ls hn hl ls [] rfl)
    have hf := flen h
    simp only [slices_Concat_int_int.l0]
    have e : slices_Grow_int_int.f ([] : List Int) (pre.flatten.length : Int) = some [] := by unfold slices_Grow_int_int.f; rw [if_pos ⟨rfl, by omega, by omega⟩]
    rw [if_neg (by rw [h]; simp), e]
    rfl
  | cons x r ih =>
    intro pre h
    have e : ls.length = pre.length + (r.length + 1) := by rw [h]; simp
    have hf := flen h
    simp only [List.flatten_cons, List.length_append] at hf
    have hr : rd_L2 ls (pre.length : Int) = x := by rw [h]; simp [rd_L2]
    have hi := ih (pre ++ [x]) (by rw [h]; simp)
    rw [show (pre ++ [x]).flatten.length = pre.flatten.length + x.length by simp, show (pre ++ [x]).length = pre.length + 1 by simp] at hi
    have ew : wrap64 ((pre.flatten.length : Int) + (x.length : Int)) = ((pre.flatten.length + x.length : Nat) : Int) := by rw [w64 (by omega) (by omega)]; rfl
    refine Ev.step (fun k => ?_) hi
    simp only [slices_Concat_int_int.l0]
    rw [if_pos (by omega), if_pos (by omega), if_pos (by omega), hr, ew, if_neg (by omega), w64 (by omega) (by omega)]
    rfl
theorem slices_Concat_int_int_ev (ls : List (List Int)) (hn : ls.length ≤ 100) (hl : ls.flatten.length ≤ 100) : Ev (fun k => slices_Concat_int_int.f k ls) ls.flatten := by
  unfold slices_Concat_int_int.f
  exact slices_Concat_int_int_one ls hn hl ls [] rfl

/-! ### impl_moved at a cut and at a flip alone (its text tells the other kinds as none) -/
theorem impl_moved_loop (a : Nat) (v : List Int) (hv : v.length ≤ 12) : ∀ (r pre : List Int), (∀ x ∈ r, (Lit.int .i64 x).wf = true) → pre.length + r.length = a → a ≤ 12 →
    Ev (fun k => impl_moved.l0 k (a : Int) (pre ++ r ++ v) (pre.length : Int)) (pre ++ r.map turnCard ++ v) := by
  intro r
  induction r with
  | nil =>
    intro pre hw hp ha
    refine Ev.step (f := fun _ => some _) (fun k => ?_) (Ev.now _)
    simp only [impl_moved.l0]
    rw [if_neg (by simp at hp; omega)]
    rfl
  | cons x r ih =>
    intro pre hw hp ha
    simp only [List.length_cons] at hp
    have hi := ih (pre ++ [turnCard x]) (fun y hy => hw y (by simp [hy])) (by simp <;> omega) ha
    rw [show pre ++ List.map turnCard (x :: r) ++ v = pre ++ [turnCard x] ++ List.map turnCard r ++ v by simp]
    refine Ev.step (fun k => ?_) hi
    have e : pre ++ (x :: r) ++ v = pre ++ x :: (r ++ v) := by simp
    have er : rd (pre ++ (x :: r) ++ v) (pre.length : Int) = x := by rw [e]; exact rd_mid _ _ _
    have es : (pre ++ (x :: r) ++ v).set pre.length (turnCard x) = pre ++ [turnCard x] ++ r ++ v := by rw [e, set_mid]; simp
    simp only [impl_moved.l0]
    rw [if_pos (by omega), if_pos (by omega), if_pos (by simp <;> omega), er, impl_TurnCard_eq x (bd64 (hw x (by simp))).1]
    simp only [Option.bind_some]
    rw [Int.toNat_natCast, es, snoc_len (turnCard x) (by omega)]
theorem impl_moved_cut (l : List Int) (a : Nat) (hl : l.length ≤ 12) (ha : a ≤ l.length) : Ev (fun j => impl_moved.f j l 1 (a : Int)) (doMove l 1 (a : Nat)) := by
  have ed : doMove l 1 (a : Nat) = l.drop a ++ l.take a := by
    unfold doMove
    rw [if_pos rfl, Int.toNat_natCast]
  rw [ed]
  unfold impl_moved.f
  have hc := slices_Concat_int_int_ev [l.drop a, l.take a] (by simp) (by simp <;> omega)
  simp only [if_true, Int.toNat_natCast]
  refine ev_ite_true (by omega) (ev_ite_true (by omega) (Ev.bind hc ?_))
  simp only [List.flatten_cons, List.flatten_nil, List.append_nil]
  exact Ev.now _
theorem impl_moved_flip (l : List Int) (hw : ∀ x ∈ l, (Lit.int .i64 x).wf = true) (hl : l.length ≤ 12) (ha : 2 ≤ l.length) : Ev (fun j => impl_moved.f j l 3 2) (doMove l 3 2) := by
  have ed : doMove l 3 2 = ((l.take 2).map turnCard).reverse ++ l.drop 2 := by
    unfold doMove
    rw [if_neg (by omega), if_neg (by omega), if_pos rfl]
    rfl
  rw [ed]
  unfold impl_moved.f
  have hc := slices_Concat_int_int_ev [(l.take 2).reverse, l.drop 2] (by simp) (by simp <;> omega)
  refine ev_ite_false (by omega) (ev_ite_false (by omega) (ev_ite_true rfl (ev_ite_true (by omega) (ev_ite_true (by omega) (Ev.bind (impl_reversed_ev _ (by simp; omega)) (Ev.bind hc ?_))))))
  simp only [List.flatten_cons, List.flatten_nil, List.append_nil]
  have hm := impl_moved_loop 2 (l.drop 2) (by simp; omega) (l.take 2).reverse [] (fun x hx => hw x (List.mem_of_mem_take (List.mem_reverse.1 hx))) (by simp <;> omega) (by omega)
  rw [List.nil_append, List.nil_append, List.map_reverse] at hm
  exact hm

/-! ### impl_ResultsOf -/
theorem bit_lt' : ∀ a, a < 64 → ∀ b, b < 64 → Go.bits .and .i64 ((64 * a + b : Nat) : Int) 1 = (((64 * a + b) % 2 : Nat) : Int) := by decide +kernel
theorem bit_lt (y : Nat) (h : y < 4096) : Go.bits .and .i64 (y : Int) 1 = ((y % 2 : Nat) : Int) := by
  have := bit_lt' (y / 64) (by omega) (y % 64) (by omega)
  rw [Nat.div_add_mod] at this
  exact this
theorem bit_at (w i : Nat) (hw : w < 4096) (hi : i < 13) : Go.bits .and .i64 (Go.Proofs.YtbghkcgglhoopaaW.PrintWords.shr .i64 (w : Int) (i : Int)) 1 = ((w / 2 ^ i % 2 : Nat) : Int) := by
  have e : Go.Proofs.YtbghkcgglhoopaaW.PrintWords.shr .i64 (w : Int) (i : Int) = ((w / 2 ^ i : Nat) : Int) := by
    unfold Go.Proofs.YtbghkcgglhoopaaW.PrintWords.shr
    rw [Int.toNat_natCast, Nat.min_eq_left (by simp [IntKind.bits]; omega)]
    rw [Int.natCast_ediv, Int.natCast_pow]
    rfl
  rw [e]
  exact bit_lt _ (Nat.lt_of_le_of_lt (Nat.div_le_self _ _) hw)
theorem two_shl : ∀ n : Nat, n < 13 → Go.Proofs.YtbghkcgglhoopaaW.PrintWords.shl .i64 1 (n : Nat) = ((2 ^ n : Nat) : Int) := by decide +kernel
theorem bits_div (w i d : Nat) : bitsOf (d + 1) (w / 2 ^ i) = decide (w / 2 ^ i % 2 = 1) :: bitsOf d (w / 2 ^ (i + 1)) := by
  rw [bitsOf, Nat.div_div_eq_div_mul, Nat.pow_succ]
theorem riffled_two (p : List Int) (w : Nat) (hw : w < 4096) (hp : p.length ≤ 12) : ∀ (d i f s : Nat) (out : List Int), i + d = p.length → f + (bitsOf d (w / 2 ^ i)).count false ≤ p.length → s + (bitsOf d (w / 2 ^ i)).count true ≤ p.length → out.length ≤ 100 - d →
    Ev (fun k => impl_riffled.l1 k p (w : Int) (f : Int) (s : Int) out (p.length : Int) (i : Int)) (out ++ wv (bitsOf d (w / 2 ^ i)) (p.drop f) (p.drop s)) := by
  intro d
  induction d with
  | zero =>
    intro i f s out hi _ _ _
    refine Ev.step (f := fun _ => some _) (fun k => ?_) (Ev.now _)
    simp only [impl_riffled.l1]
    rw [if_neg (by omega)]
    simp [bitsOf, wv]
  | succ d ih =>
    intro i f s out hi hf hs ho
    rw [bits_div] at hf hs ⊢
    by_cases c : w / 2 ^ i % 2 = 1
    · simp only [c, decide_true, List.count_cons_self] at hf hs
      rw [List.count_cons_of_ne (by simp)] at hf
      have hlt : s < p.length := by omega
      have hi' := ih (i + 1) f (s + 1) (out ++ [rd p s]) (by omega) hf (by omega) (by simp; omega)
      have e : out ++ wv (decide (w / 2 ^ i % 2 = 1) :: bitsOf d (w / 2 ^ (i + 1))) (p.drop f) (p.drop s) = out ++ [rd p s] ++ wv (bitsOf d (w / 2 ^ (i + 1))) (p.drop f) (p.drop (s + 1)) := by
        simp only [c, decide_true, wv]
        rw [List.drop_eq_getElem_cons hlt, rd_lt hlt]
        simp [hlt]
      rw [e]
      refine Ev.step (fun k => ?_) hi'
      simp only [impl_riffled.l1]
      rw [if_pos (by omega), if_pos (by omega), bit_at w i hw (by omega), c, if_pos (by rfl), if_pos (by omega), if_pos (by omega), if_pos (by omega), w64 (by omega) (by omega), w64 (by omega) (by omega)]
      rfl
    · have c0 : w / 2 ^ i % 2 = 0 := by omega
      have hf' : decide (w / 2 ^ i % 2 = 1) = false := by simp [c0]
      rw [hf'] at hf hs ⊢
      rw [List.count_cons_self] at hf
      rw [List.count_cons_of_ne (by simp)] at hs
      have hlt : f < p.length := by omega
      have hi' := ih (i + 1) (f + 1) s (out ++ [rd p f]) (by omega) (by omega) hs (by simp; omega)
      have e : out ++ wv (false :: bitsOf d (w / 2 ^ (i + 1))) (p.drop f) (p.drop s) = out ++ [rd p f] ++ wv (bitsOf d (w / 2 ^ (i + 1))) (p.drop (f + 1)) (p.drop s) := by
        simp only [wv]
        rw [List.drop_eq_getElem_cons hlt, rd_lt hlt]
        simp [hlt]
      rw [e]
      refine Ev.step (fun k => ?_) hi'
      simp only [impl_riffled.l1]
      rw [if_pos (by omega), if_pos (by omega), bit_at w i hw (by omega), c0, if_neg (by decide), if_pos (by omega), if_pos (by omega), if_pos (by omega), w64 (by omega) (by omega), w64 (by omega) (by omega)]
      rfl
theorem riffled_one (p : List Int) (w : Nat) (hw : w < 4096) (hp : p.length ≤ 12) (R : List Int) : ∀ (d i c : Nat), i + d = p.length → c + d ≤ 100 →
    Ev (fun k => impl_riffled.l1 k p (w : Int) 0 ((c + (bitsOf d (w / 2 ^ i)).count false : Nat) : Int) [] (p.length : Int) 0) R → Ev (fun k => impl_riffled.l0 k p (w : Int) 0 (c : Int) (p.length : Int) (i : Int)) R := by
  intro d
  induction d with
  | zero =>
    intro i c hi hc h
    refine Ev.step (fun k => ?_) h
    simp only [impl_riffled.l0]
    rw [if_neg (by omega)]
    simp [bitsOf]
  | succ d ih =>
    intro i c hi hc h
    rw [bits_div] at h
    by_cases g : w / 2 ^ i % 2 = 1
    · rw [List.count_cons_of_ne (by simp [g])] at h
      refine Ev.step (fun k => ?_) (ih (i + 1) c (by omega) (by omega) h)
      simp only [impl_riffled.l0]
      rw [if_pos (by omega), if_pos (by omega), bit_at w i hw (by omega), g, show wrap64 (1 - ((1 : Nat) : Int)) = 0 by rw [w64 (by omega) (by omega)]; rfl, Int.add_zero, w64 (by omega) (by omega), w64 (by omega) (by omega)]
      rfl
    · have c0 : w / 2 ^ i % 2 = 0 := by omega
      have hf' : decide (w / 2 ^ i % 2 = 1) = false := by simp [c0]
      rw [hf', List.count_cons_self] at h
      refine Ev.step (fun k => ?_) (ih (i + 1) (c + 1) (by omega) (by omega) (by rw [show c + 1 + (bitsOf d (w / 2 ^ (i + 1))).count false = c + ((bitsOf d (w / 2 ^ (i + 1))).count false + 1) by omega]; exact h))
      simp only [impl_riffled.l0]
      rw [if_pos (by omega), if_pos (by omega), bit_at w i hw (by omega), c0, show wrap64 (1 - ((0 : Nat) : Int)) = 1 by rw [w64 (by omega) (by omega)]; rfl, w64 (by omega) (by omega), w64 (by omega) (by omega)]
      rfl
theorem impl_riffled_ev (p : List Int) (w : Nat) (hw : w < 4096) (hp : p.length ≤ 12) : Ev (fun k => impl_riffled.f k p (w : Int)) (rif p (bitsOf p.length w)) := by
  unfold impl_riffled.f
  have hb := bitsOf_length p.length w
  have hc := count_tf (bitsOf p.length w)
  have h2 := riffled_two p w hw hp p.length 0 0 ((bitsOf p.length w).count false) [] (by omega) (by simp <;> omega) (by simp <;> omega) (by simp <;> omega)
  simp only [Nat.pow_zero, Nat.div_one, List.drop_zero, List.nil_append] at h2
  rw [rif_whole p _ hb] at h2
  refine riffled_one p w hw hp _ p.length 0 0 (by omega) (by omega) ?_
  simp only [Nat.pow_zero, Nat.div_one, Nat.zero_add]
  exact h2
theorem impl_all_riffles (p : List Int) (hp : p.length ≤ 12) : ∀ (d w : Nat) (out : List (List Int)), w + d = 2 ^ p.length → out.length + d ≤ 100000 →
    Ev (fun k => impl_all.l0 k p out (w : Int)) (out ++ (List.range' w d).map (fun v => rif p (bitsOf p.length v)), true) := by
  have hpow : 2 ^ p.length ≤ 4096 := Nat.pow_le_pow_right (n := 2) (by omega) hp
  intro d
  induction d with
  | zero =>
    intro w out hw ho
    refine Ev.step (f := fun _ => some _) (fun k => ?_) (Ev.now _)
    simp only [impl_all.l0]
    rw [two_shl _ (by omega), if_neg (by omega)]
    simp
  | succ d ih =>
    intro w out hw ho
    have hi := ih (w + 1) (out ++ [rif p (bitsOf p.length w)]) (by omega) (by simp; omega)
    rw [List.range'_succ, List.map_cons, show out ++ rif p (bitsOf p.length w) :: List.map (fun v => rif p (bitsOf p.length v)) (List.range' (w + 1) d) = out ++ [rif p (bitsOf p.length w)] ++ List.map (fun v => rif p (bitsOf p.length v)) (List.range' (w + 1) d) by simp]
    refine Ev.step (f := fun k => (impl_riffled.f k p (w : Int)).bind fun t => impl_all.l0 k p (out ++ [t]) ((w + 1 : Nat) : Int)) (fun k => ?_) (Ev.bind (impl_riffled_ev p w (by omega) hp) hi)
    simp only [impl_all.l0]
    rw [two_shl _ (by omega), if_pos (by omega), w64 (by omega) (by omega)]
    simp only [if_pos (show out.length < 5864062014805 by omega)]
    rfl
theorem pick_concat (p : List Int) (i : Nat) (h : i < p.length) : (((p.take (i + 1)).drop i) :: (p.take i) :: [p.drop (i + 1)]).flatten = pickU p i := by
  have e1 : (p.take (i + 1)).drop i = [rd p (i : Int)] := by
    rw [List.take_succ_eq_append_getElem h, List.drop_append_of_le_length (by simp; omega), rd_lt h]
    simp
  rw [e1]
  simp [pickU]
theorem impl_all_picks (p : List Int) (hp : p.length ≤ 12) : ∀ (d i : Nat) (out : List (List Int)), i + d = p.length → out.length + d ≤ 100000 →
    Ev (fun k => impl_all.l1 k p out (p.length : Int) (i : Int)) (out ++ (List.range' i d).map (pickU p), true) := by
  intro d
  induction d with
  | zero =>
    intro i out hi ho
    refine Ev.step (f := fun _ => some _) (fun k => ?_) (Ev.now _)
    simp only [impl_all.l1]
    rw [if_neg (by omega)]
    simp
  | succ d ih =>
    intro i out hi ho
    have hh := ih (i + 1) (out ++ [pickU p i]) (by omega) (by simp; omega)
    rw [List.range'_succ, List.map_cons, show out ++ pickU p i :: List.map (pickU p) (List.range' (i + 1) d) = out ++ [pickU p i] ++ List.map (pickU p) (List.range' (i + 1) d) by simp]
    have hcc := slices_Concat_int_int_ev [((p.take (i + 1)).drop i), (p.take i), (p.drop (i + 1))] (by simp) (by simp; omega)
    rw [pick_concat p i (by omega)] at hcc
    refine Ev.step (f := fun k => (slices_Concat_int_int.f k [((p.take (i + 1)).drop i), (p.take i), (p.drop (i + 1))]).bind fun t => impl_all.l1 k p (out ++ [t]) (p.length : Int) ((i + 1 : Nat) : Int)) (fun k => ?_) (Ev.bind hcc hh)
    simp only [impl_all.l1]
    rw [w64 (by omega) (by omega), if_pos (by omega), if_pos (by omega), if_pos (by omega), if_pos (by omega), if_pos (by omega), if_pos (by omega)]
    simp only [if_pos (show out.length < 5864062014805 by omega), Int.toNat_natCast, show ((i : Int) + 1).toNat = i + 1 by omega]
    rfl
theorem impl_cuts_loop (p : List Int) (hp : p.length ≤ 12) (hw : ∀ x ∈ p, (Lit.int .i64 x).wf = true) : ∀ (d i : Nat) (out : List (List Int)), i + d = p.length → out.length + d ≤ 100000 →
    Ev (fun k => impl_cuts.l0 k p out (p.length : Int) (i : Int)) (out ++ (List.range' i d).map (fun k => doMove p 1 (k : Nat))) := by
  intro d
  induction d with
  | zero =>
    intro i out hi ho
    refine Ev.step (f := fun _ => some _) (fun k => ?_) (Ev.now _)
    simp only [impl_cuts.l0]
    rw [if_neg (by omega)]
    simp
  | succ d ih =>
    intro i out hi ho
    have hh := ih (i + 1) (out ++ [doMove p 1 (i : Nat)]) (by omega) (by simp; omega)
    rw [List.range'_succ, List.map_cons, show out ++ doMove p 1 (i : Nat) :: List.map (fun k => doMove p 1 (k : Nat)) (List.range' (i + 1) d) = out ++ [doMove p 1 (i : Nat)] ++ List.map (fun k => doMove p 1 (k : Nat)) (List.range' (i + 1) d) by simp]
    refine Ev.step (f := fun k => (impl_moved.f k p 1 (i : Int)).bind fun t => impl_cuts.l0 k p (out ++ [t]) (p.length : Int) ((i + 1 : Nat) : Int)) (fun k => ?_) (Ev.bind (impl_moved_cut p i hp (by omega)) hh)
    simp only [impl_cuts.l0]
    rw [if_pos (by omega), w64 (by omega) (by omega)]
    simp only [if_pos (show out.length < 5864062014805 by omega)]
    rfl
theorem impl_cuts_ev (p : List Int) (hp : p.length ≤ 12) (hw : ∀ x ∈ p, (Lit.int .i64 x).wf = true) : Ev (fun k => impl_cuts.f k p) (cutsU p) := by
  unfold impl_cuts.f
  exact impl_cuts_loop p hp hw p.length 0 [] (by omega) (by simp; omega)
theorem impl_all_ev (p : List Int) (kind : Int) (h : packetOk p = true) (h1 : 1 ≤ p.length) :
    Ev (fun k => impl_all.f k p kind) (if 0 ≤ kind ∧ kind ≤ 4 ∧ (kind = 3 → 2 ≤ p.length) then (choiceU p kind, true) else ([], false)) := by
  have hp := packetOk_length h
  have hw := packet_wf h
  unfold impl_all.f
  have ec : slices_Clone_int_int.f p = some p := by unfold slices_Clone_int_int.f; rw [if_pos (by omega)]
  by_cases k0 : kind = 0
  · rw [if_pos ⟨by omega, by omega, by omega⟩]
    simp only [if_pos k0]
    refine ev_some fun j => ?_
    rw [ec]
    simp [choiceU, k0]
  refine ev_ite_false k0 ?_
  by_cases k1 : kind = 1
  · rw [if_pos ⟨by omega, by omega, by omega⟩]
    refine ev_ite_true k1 (Ev.bind (impl_cuts_ev p hp hw) ?_)
    simp only [choiceU, if_pos k1]
    exact Ev.now _
  refine ev_ite_false k1 ?_
  by_cases k2 : kind = 2
  · rw [if_pos ⟨by omega, by omega, by omega⟩]
    refine ev_ite_true k2 ?_
    have := impl_all_riffles p hp (2 ^ p.length) 0 [] (by omega) (by have : 2 ^ p.length ≤ 4096 := Nat.pow_le_pow_right (n := 2) (by omega) hp; simp; omega)
    simp only [choiceU, if_neg k1, if_pos k2]
    rw [rifs, List.range_eq_range']
    exact this
  refine ev_ite_false k2 ?_
  by_cases k3 : kind = 3
  · refine ev_ite_true k3 ?_
    by_cases g : p.length < 2
    · rw [if_neg (fun h => by have := h.2.2 k3; omega)]
      exact ev_ite_true (by omega) (Ev.now _)
    · rw [if_pos ⟨by omega, by omega, fun _ => by omega⟩]
      refine ev_ite_false (by omega) (Ev.bind (impl_moved_flip p hw hp (by omega)) (Ev.bind (impl_cuts_ev _ (by rw [doMove3_length p (by omega)]; exact hp) (flip_wf h)) ?_))
      simp only [choiceU, if_neg k1, if_neg k2, if_pos k3]
      exact Ev.now _
  refine ev_ite_false k3 ?_
  by_cases k4 : kind = 4
  · rw [if_pos ⟨by omega, by omega, by omega⟩]
    refine ev_ite_true k4 ?_
    simp only [choiceU, if_neg k1, if_neg k2, if_neg k3, if_pos k4]
    exact impl_all_picks p hp p.length 0 [] (by omega) (by simp; omega)
  refine ev_ite_false k4 ?_
  rw [if_neg (by omega)]
  exact Ev.now _
theorem impl_SortPackets_small (l : List (List Int)) (hl : l.length ≤ 4194304) (hs : ∀ x ∈ l, x.length ≤ 4194304) : impl_SortPackets.f l = some (sortU l) := by
  unfold impl_SortPackets.f
  rw [if_pos ⟨by omega, fun x hx => by have := hs x hx; omega⟩]
theorem rifs_many {p : List Int} (h : packetOk p = true) (hp : p.length = 12) : 3000 < (sortU (rifs p)).length := by
  rw [rifs_count (packet_nodup h), hp]
  exact rifs12
theorem choiceU_few {p : List Int} {kind : Int} (h : packetOk p = true) (h1 : 1 ≤ p.length) (h3 : kind = 3 → 2 ≤ p.length) (hk : ¬ (kind = 2 ∧ 11 < p.length)) : (sortU (choiceU p kind)).length ≤ 3000 := by
  have hp := packetOk_length h
  refine Nat.le_trans (length_sortU _) ?_
  by_cases k2 : p.length ≤ 11
  · have := choiceU_count p kind h3 h1
    have := pow_le_2048 k2
    omega
  · have hn : kind ≠ 2 := fun e => hk ⟨e, by omega⟩
    by_cases e1 : kind = 1
    · simp only [choiceU, if_pos e1]; rw [cutsU_length]; omega
    by_cases e3 : kind = 3
    · simp only [choiceU, if_neg e1, if_neg hn, if_pos e3]; rw [cutsU_length, doMove3_length p (h3 e3)]; omega
    by_cases e4 : kind = 4
    · simp only [choiceU, if_neg e1, if_neg hn, if_neg e3, if_pos e4]; simp; omega
    · simp only [choiceU, if_neg e1, if_neg hn, if_neg e3, if_neg e4]; simp
theorem impl_ResultsOf_ev (p : List Int) (kind : Int) (hl : p.length ≤ 9223372036854775806) (hw : ∀ x ∈ p, (Lit.int .i64 x).wf = true) : Ev (fun k => impl_ResultsOf.f k p kind) (resultsOf p kind) := by
  unfold impl_ResultsOf.f
  refine Ev.bind (impl_PacketOk_ev p hl hw) ?_
  by_cases h : packetOk p = true
  · refine ev_ite_false (by rw [h]; simp) ?_
    have hp := packetOk_length h
    by_cases z : p.length = 0
    · refine ev_ite_true z ?_
      rw [resultsOf, if_neg (fun hc => hc.2.1 z)]
      exact Ev.now _
    · refine ev_ite_false z ?_
      have ha := impl_all_ev p kind h (by omega)
      by_cases g : 0 ≤ kind ∧ kind ≤ 4 ∧ (kind = 3 → 2 ≤ p.length)
      · rw [if_pos g] at ha
        have hs : impl_SortPackets.f (choiceU p kind) = some (sortU (choiceU p kind)) := by
          refine impl_SortPackets_small _ ?_ (fun x hx => by rw [choiceU_len p kind g.2.2 x hx]; omega)
          have := choiceU_count p kind g.2.2 (by omega)
          have : 2 ^ p.length ≤ 4096 := Nat.pow_le_pow_right (n := 2) (by omega) hp
          omega
        refine Ev.bind ha ?_
        simp only [hs, Option.bind_some, if_neg (show ¬ (true = false) by simp)]
        by_cases big : kind = 2 ∧ 11 < p.length
        · have er : resultsOf p kind = ([], false) := by rw [resultsOf, if_neg (fun hc => by have := hc.2.2.2.2.2 big.1; omega)]
          rw [er]
          have := rifs_many h (by omega)
          have e : choiceU p kind = rifs p := by simp [choiceU, big.1]
          rw [e]
          simp only [if_pos this]
          exact Ev.now _
        · have er : resultsOf p kind = (sortU (choiceU p kind), true) := by
            rw [resultsOf, if_pos ⟨h, z, g.1, g.2.1, g.2.2, fun e => by
              apply Decidable.byContradiction
              intro hh
              exact big ⟨e, by omega⟩⟩]
          rw [er]
          have := choiceU_few h (by omega) g.2.2 big
          simp only [if_neg (show ¬ 3000 < (sortU (choiceU p kind)).length by omega)]
          exact Ev.now _
      · rw [if_neg g] at ha
        have er : resultsOf p kind = ([], false) := by rw [resultsOf, if_neg (fun hc => g ⟨hc.2.2.1, hc.2.2.2.1, hc.2.2.2.2.1⟩)]
        rw [er]
        refine Ev.bind ha ?_
        simp only [impl_SortPackets_small [] (by simp) (by simp), Option.bind_some, if_true]
        exact Ev.now _
  · have hf : packetOk p = false := by simpa using h
    refine ev_ite_true hf ?_
    rw [resultsOf, if_neg (fun hc => h hc.1)]
    exact Ev.now _

theorem impl_IsResult_ev (p : List Int) (kind : Int) (q : List Int) (hl : p.length ≤ 9223372036854775806) (hw : ∀ x ∈ p, (Lit.int .i64 x).wf = true) : Ev (fun k => impl_IsResult.f k p kind q) ((resultsOf p kind).1.any fun x => decide (x = q)) := by
  unfold impl_IsResult.f
  refine Ev.bind (impl_ResultsOf_ev p kind hl hw) ?_
  have h := (resultsOf_small p kind).2
  refine ev_ite_true (List.all_eq_true.2 (fun x hx => by have := h x hx; simp; omega)) (Ev.now _)

def posFrom (c : Int) : Int → List Int → Int
  | _, [] => -1
  | i, x :: r => if cardOf x = c then i else posFrom c (i + 1) r
/-- Where a card lies in a packet, or -1. -/
def positionOf (l : List Int) (c : Int) : Int := if 0 ≤ c then posFrom c 0 l else -1
theorem posFrom_get (c : Int) (l : List Int) : ∀ (i : Int) (j : Nat) (h : j < l.length), cardOf (l[j]) = c → (∀ (m : Nat) (h' : m < l.length), m < j → cardOf (l[m]) ≠ c) → posFrom c i l = i + j := by
  induction l with
  | nil => intro i j h; simp at h
  | cons x r ih =>
    intro i j h hc hm
    rw [posFrom]
    cases j with
    | zero => rw [if_pos (show cardOf x = c from hc)]; simp
    | succ j =>
      rw [if_neg (show ¬ cardOf x = c from hm 0 (by simp) (by omega)), ih (i + 1) j (by simpa using h) hc (fun m h' hl => hm (m + 1) (by simpa using h') (by omega))]
      omega
theorem posFrom_nonneg (c : Int) (l : List Int) : ∀ i : Int, 0 ≤ i → (0 ≤ posFrom c i l ↔ ∃ x ∈ l, cardOf x = c) := by
  induction l with
  | nil => intro i hi; simp [posFrom]
  | cons x r ih =>
    intro i hi
    rw [posFrom]
    by_cases h : cardOf x = c
    · rw [if_pos h]; simp [h, hi]
    · rw [if_neg h, ih (i + 1) (by omega)]; simp [h]

/-- Do two packets hold the same cards? -/
def isArrangement (l b : List Int) : Bool := packetOk l && (packetOk b && (decide (l.length = b.length) && l.all fun x => !decide (positionOf b (cardOf x) < 0)))
def permBetween (l b : List Int) : List Int × Bool := if isArrangement l b = true then (b.map fun x => positionOf l (cardOf x), true) else ([], false)
theorem isArrangement_ok {l b : List Int} (h : isArrangement l b = true) : packetOk l = true ∧ packetOk b = true ∧ l.length = b.length := by
  simp only [isArrangement, Bool.and_eq_true, decide_eq_true_eq] at h
  exact ⟨h.1, h.2.1, h.2.2.1⟩
theorem permBetween_length (l b : List Int) : (permBetween l b).1.length ≤ 12 := by
  unfold permBetween
  by_cases h : isArrangement l b = true
  · rw [if_pos h, List.length_map]; exact packetOk_length (isArrangement_ok h).2.1
  · rw [if_neg h]; simp

theorem idxF_congr {p q : Int → Bool} {l : List Int} (h : ∀ x ∈ l, p x = q x) : ∀ i, idxF p i l = idxF q i l := by
  induction l with
  | nil => intro i; rfl
  | cons x r ih => intro i; rw [idxF, idxF, h x (by simp), ih (fun y hy => h y (by simp [hy]))]
theorem idxF_card (c : Int) (l : List Int) : ∀ i, idxF (fun x => cardOf x == c) i l = posFrom c i l := by
  induction l with
  | nil => intro i; rfl
  | cons x r ih => intro i; rw [idxF, posFrom, ih]; simp

theorem isCard_eq (c x : Int) (hx : (Lit.int .i64 x).wf = true) : isCard c x = (cardOf x == c) := by
  unfold isCard
  rw [impl_CardOf_eq x (bd64 hx).1]
  rfl
theorem impl_PositionOf_eq (l : List Int) (c : Int) (hw : ∀ x ∈ l, (Lit.int .i64 x).wf = true) : impl_PositionOf.f l c = some (positionOf l c) := by
  unfold impl_PositionOf.f positionOf
  rw [idxF_congr (fun x hx => isCard_eq c x (hw x hx)), idxF_card]
  by_cases h : c < 0
  · rw [if_pos h, if_neg (by omega)]
  · rw [if_neg h, if_pos (by omega)]
theorem impl_PositionOf_ev (l : List Int) (c : Int) (hw : ∀ x ∈ l, (Lit.int .i64 x).wf = true) : Ev (fun k => impl_PositionOf.f l c) (positionOf l c) := ev_some fun _ => impl_PositionOf_eq l c hw

theorem lacks_eq (q : List Int) (x : Int) (hx : (Lit.int .i64 x).wf = true) (hq : ∀ y ∈ q, (Lit.int .i64 y).wf = true) : lacks q x = decide (positionOf q (cardOf x) < 0) := by
  have h := impl_PositionOf_eq q (cardOf x) hq
  unfold impl_PositionOf.f at h
  unfold lacks
  rw [impl_CardOf_eq x (bd64 hx).1, ← Option.some.inj h]
  rfl
theorem impl_IsArrangement_ev (l b : List Int) (hl : l.length ≤ 9223372036854775806) (hb : b.length ≤ 9223372036854775806) (wl : ∀ x ∈ l, (Lit.int .i64 x).wf = true) (wb : ∀ x ∈ b, (Lit.int .i64 x).wf = true) : Ev (fun k => impl_IsArrangement.f k l b) (isArrangement l b) := by
  unfold impl_IsArrangement.f isArrangement
  refine Ev.bind (impl_PacketOk_ev l hl wl) ?_
  by_cases h1 : packetOk l = true
  · refine ev_ite_true h1 (Ev.bind (impl_PacketOk_ev b hb wb) ?_)
    rw [h1, Bool.true_and]
    by_cases h2 : packetOk b = true
    · refine ev_ite_true h2 ?_
      rw [h2, Bool.true_and]
      by_cases h3 : l.length = b.length
      · refine ev_ite_true (by omega) ?_
        rw [decide_eq_true h3, Bool.true_and]
        have e : (!l.any (lacks b)) = l.all fun x => !decide (positionOf b (cardOf x) < 0) := by
          rw [List.not_any_eq_all_not]
          have : ∀ m : List Int, (∀ x ∈ m, x ∈ l) → (m.all fun x => !lacks b x) = m.all fun x => !decide (positionOf b (cardOf x) < 0) := by
            intro m
            induction m with
            | nil => intro _; rfl
            | cons y m ih => intro hm; rw [List.all_cons, List.all_cons, ih (fun z hz => hm z (by simp [hz])), lacks_eq b y (wl y (hm y (by simp))) wb]
          exact this l (fun _ h => h)
        rw [e]
        exact Ev.now _
      · refine ev_ite_false (by omega) ?_
        rw [decide_eq_false h3, Bool.false_and]
        exact Ev.now _
    · rw [Bool.not_eq_true] at h2
      rw [h2, Bool.false_and]
      exact ev_ite_false (by simp) (Ev.now _)
  · rw [Bool.not_eq_true] at h1
    rw [h1, Bool.false_and]
    exact ev_ite_false (by simp) (Ev.now _)

theorem laws_same_loop (a b : List Int) (hab : a.length = b.length) (hl : a.length ≤ 9223372036854775806) : ∀ (r s pre qre : List Int), a = pre ++ r → b = qre ++ s → pre.length = qre.length →
    Ev (fun k => laws_same.l0 k b a (a.length : Int) (pre.length : Int)) (decide (r = s)) := by
  intro r
  induction r with
  | nil =>
    intro s pre qre h h' hp
    have e := lens h
    have e' := lens h'
    simp only [List.length_nil] at e
    have hs : s = [] := List.eq_nil_of_length_eq_zero (by omega)
    refine Ev.step (f := fun _ => some _) (fun k => ?_) (Ev.now _)
    simp only [laws_same.l0]
    rw [if_neg (by omega), hs]
    simp
  | cons x r ih =>
    intro s pre qre h h' hp
    have e := lens h
    have e' := lens h'
    simp only [List.length_cons] at e
    cases s with
    | nil => simp only [List.length_nil] at e'; omega
    | cons y s =>
      have hy := rd_mid' h'
      rw [← hp] at hy
      by_cases c : x = y
      · subst c
        have hi := ih s (pre ++ [x]) (qre ++ [x]) (snoc_eq h) (snoc_eq h') (by simp [hp])
        have ed : decide (x :: r = x :: s) = decide (r = s) := by simp
        rw [ed]
        refine Ev.step (fun k => ?_) hi
        simp only [laws_same.l0]
        rw [if_pos (by omega), if_pos (by omega), if_pos (by omega), if_pos (by omega), rd_mid' h, hy, if_pos rfl, snoc_len x (by omega)]
      · refine Ev.step (f := fun _ => some _) (fun k => ?_) (Ev.now _)
        simp only [laws_same.l0]
        rw [if_pos (by omega), if_pos (by omega), if_pos (by omega), if_pos (by omega), rd_mid' h, hy, if_neg c]
        simp [c]
theorem laws_same_ev (a b : List Int) (hl : a.length ≤ 9223372036854775806) : Ev (fun k => laws_same.f k a b) (decide (a = b)) := by
  unfold laws_same.f
  by_cases h : (a.length : Int) = (b.length : Int)
  · simp only [if_pos h]
    exact laws_same_loop a b (by omega) hl a b [] [] rfl rfl rfl
  · simp only [if_neg h]
    exact ev_some fun _ => by rw [decide_eq_false (fun e => h (by rw [e]))]

/-! ### choice1: the results of a choice are arrangements, and how many they are -/
theorem arr_of_perm {p q : List Int} (hp : packetOk p = true) (h : (q.map cardOf).Perm (p.map cardOf)) : packetOk q = true ∧ isArrangement p q = true := by
  obtain ⟨h1, h2⟩ := (packetOk_iff p).1 hp
  have hq : packetOk q = true := (packetOk_iff q).2 ⟨fun x hx => by
    obtain ⟨y, hy, e⟩ := List.mem_map.1 (h.mem_iff.1 (List.mem_map.2 ⟨x, hx, rfl⟩))
    rw [← e]
    exact h1 y hy, h.nodup_iff.2 h2⟩
  refine ⟨hq, ?_⟩
  have hl : p.length = q.length := by have := h.length_eq; simpa using this.symm
  simp only [isArrangement, hp, hq, hl, Bool.true_and, decide_true, List.all_eq_true, Bool.not_eq_true', decide_eq_false_iff_not]
  intro x hx
  obtain ⟨y, hy, e⟩ := List.mem_map.1 (h.mem_iff.2 (List.mem_map.2 ⟨x, hx, rfl⟩))
  have h0 := h1 x hx
  have := (posFrom_nonneg (cardOf x) q 0 (by omega)).2 ⟨y, hy, e⟩
  unfold positionOf
  rw [if_pos h0]
  omega
theorem wv_perm : ∀ (bs : List Bool) (a b : List Int), bs.count false = a.length → bs.count true = b.length → (wv bs a b).Perm (a ++ b) := by
  intro bs
  induction bs with
  | nil =>
    intro a b ha hb
    have e1 : a = [] := List.length_eq_zero_iff.1 (by simpa using ha.symm)
    have e2 : b = [] := List.length_eq_zero_iff.1 (by simpa using hb.symm)
    subst e1 e2
    exact List.Perm.refl _
  | cons c bs ih =>
    intro a b ha hb
    cases c with
    | true =>
      cases b with
      | nil => simp at hb
      | cons y b =>
        simp only [wv, List.headD_cons, List.tail_cons]
        exact ((ih a b (by simpa using ha) (by simpa using hb)).cons y).trans List.perm_middle.symm
    | false =>
      cases a with
      | nil => simp at ha
      | cons y a =>
        simp only [wv, List.headD_cons, List.tail_cons, List.cons_append]
        exact (ih a b (by simpa using ha) (by simpa using hb)).cons y
theorem rif_perm (p : List Int) (bs : List Bool) (h : bs.length = p.length) : (rif p bs).Perm p := by
  have hc := count_tf bs
  have := wv_perm bs (p.take (bs.count false)) (p.drop (bs.count false)) (by rw [List.length_take]; omega) (by rw [List.length_drop]; omega)
  rw [List.take_append_drop] at this
  exact this
theorem cut_eq (p : List Int) (k : Nat) : doMove p 1 (k : Nat) = p.drop k ++ p.take k := by
  unfold doMove
  rw [if_pos rfl, Int.toNat_natCast]
theorem cut_perm (p : List Int) (k : Nat) : (doMove p 1 (k : Nat)).Perm p := by
  rw [cut_eq]
  exact List.perm_append_comm.trans (List.Perm.of_eq (List.take_append_drop k p))
theorem cutsU_perm (p : List Int) : ∀ q ∈ cutsU p, q.Perm p := by
  intro q hq
  obtain ⟨k, _, rfl⟩ := List.mem_map.1 hq
  exact cut_perm p k
theorem card_turn {x : Int} (h : 0 ≤ cardOf x) : cardOf (turnCard x) = cardOf x := by
  unfold turnCard
  rw [if_neg (by omega)]
  unfold cardOf at h ⊢
  split at h <;> split at h <;> (try omega) <;> split <;> split <;> omega
theorem flip_eq (p : List Int) : doMove p 3 2 = ((p.take 2).map turnCard).reverse ++ p.drop 2 := by
  unfold doMove
  rw [if_neg (by omega), if_neg (by omega), if_pos rfl]
  rfl
theorem flip_perm {p : List Int} (hp : packetOk p = true) : ((doMove p 3 2).map cardOf).Perm (p.map cardOf) := by
  have h1 := ((packetOk_iff p).1 hp).1
  rw [flip_eq, List.map_append, List.map_reverse, List.map_map]
  have e : (p.take 2).map (cardOf ∘ turnCard) = (p.take 2).map cardOf := List.map_congr_left (fun x hx => card_turn (h1 x (List.mem_of_mem_take hx)))
  rw [e]
  refine ((List.reverse_perm _).append_right _).trans (List.Perm.of_eq ?_)
  rw [← List.map_append, List.take_append_drop]
theorem pick_perm (p : List Int) (i : Nat) (h : i < p.length) : (pickU p i).Perm p := by
  have e : p = p.take i ++ p[i] :: p.drop (i + 1) := by rw [← List.drop_eq_getElem_cons h, List.take_append_drop]
  rw [pickU, rd_lt h, List.singleton_append, List.cons_append]
  refine List.perm_middle.symm.trans (List.Perm.of_eq ?_)
  exact e.symm
theorem choiceU_perm {p : List Int} {kind : Int} (hp : packetOk p = true) : ∀ q ∈ choiceU p kind, (q.map cardOf).Perm (p.map cardOf) := by
  intro q hq
  unfold choiceU at hq
  split at hq
  · exact (cutsU_perm p q hq).map _
  split at hq
  · obtain ⟨w, _, rfl⟩ := List.mem_map.1 hq
    exact (rif_perm p _ (bitsOf_length _ _)).map _
  split at hq
  · exact ((cutsU_perm _ q hq).map _).trans (flip_perm hp)
  split at hq
  · obtain ⟨i, hi, rfl⟩ := List.mem_map.1 hq
    rw [List.mem_range'_1] at hi
    exact (pick_perm p i (by omega)).map _
  · rw [List.mem_singleton.1 hq]
theorem cutsU_map (g : Int → Int) (p : List Int) : cutsU (p.map g) = (cutsU p).map (fun x => x.map g) := by
  unfold cutsU
  rw [List.length_map, List.map_map]
  apply List.map_congr_left
  intro k _
  show doMove (p.map g) 1 (k : Nat) = (doMove p 1 (k : Nat)).map g
  rw [cut_eq, cut_eq, List.map_append, List.map_drop, List.map_take]
theorem picks_map (g : Int → Int) (p : List Int) : (List.range' 0 (p.map g).length).map (pickU (p.map g)) = ((List.range' 0 p.length).map (pickU p)).map (fun x => x.map g) := by
  rw [List.length_map, List.map_map]
  apply List.map_congr_left
  intro i hi
  rw [List.mem_range'_1] at hi
  show pickU (p.map g) i = (pickU p i).map g
  have hi' : i < p.length := by omega
  rw [pickU, pickU, rd_lt (by rw [List.length_map]; exact hi'), rd_lt hi']
  simp
theorem count_iota (f : List Int → List (List Int)) (hf : ∀ (g : Int → Int) (p : List Int), f (p.map g) = (f p).map (fun x => x.map g)) (hm : ∀ p, ∀ x ∈ f p, ∀ i ∈ x, i ∈ p) {p : List Int} (hn : p.Nodup) : (sortU (f p)).length = (sortU (f (iota p.length))).length := by
  have e : f p = (f (iota p.length)).map (fun x => x.map (fun i => p.getD i.toNat 0)) := by rw [← hf, iota_map]
  rw [e]
  refine length_sortU_map _ _ (fun x hx y hy e => ?_)
  exact mapg_inj hn x y (fun i hi => (mem_iota _ _).1 (hm _ x hx i hi)) (fun i hi => (mem_iota _ _).1 (hm _ y hy i hi)) e
theorem cuts_count {p : List Int} (hn : p.Nodup) : (sortU (cutsU p)).length = (sortU (cutsU (iota p.length))).length :=
  count_iota cutsU cutsU_map (fun p x hx i hi => (cutsU_perm p x hx).mem_iff.1 hi) hn
theorem picks_count {p : List Int} (hn : p.Nodup) : (sortU ((List.range' 0 p.length).map (pickU p))).length = (sortU ((List.range' 0 (iota p.length).length).map (pickU (iota p.length)))).length :=
  count_iota (fun p => (List.range' 0 p.length).map (pickU p)) picks_map (fun p x hx i hi => by
    obtain ⟨j, hj, rfl⟩ := List.mem_map.1 hx
    rw [List.mem_range'_1] at hj
    exact (pick_perm p j (by omega)).mem_iff.1 hi) hn
theorem cuts_counts : ∀ n, n < 8 → (sortU (cutsU (iota n))).length = n := by decide +kernel
theorem picks_counts : ∀ n, n < 8 → (sortU ((List.range' 0 (iota n).length).map (pickU (iota n)))).length = n := by decide +kernel
/-- How many results a choice of a packet of at most seven cards has. -/
theorem choice_count {p : List Int} {kind : Int} (hp : packetOk p = true) (h1 : 1 ≤ p.length) (h7 : p.length < 8) (h0 : 0 ≤ kind) (h4 : kind ≤ 4) (h3 : kind = 3 → 2 ≤ p.length) :
    (sortU (choiceU p kind)).length = if kind = 0 then 1 else if kind = 2 then 2 ^ p.length - p.length else p.length := by
  have hn := packet_nodup hp
  by_cases k0 : kind = 0
  · rw [if_pos k0]
    simp only [choiceU, k0]
    rfl
  rw [if_neg k0]
  by_cases k2 : kind = 2
  · rw [if_pos k2]
    have e : choiceU p kind = rifs p := by simp [choiceU, k2]
    rw [e, rifs_count hn, rifs_counts _ h7]
  rw [if_neg k2]
  by_cases k1 : kind = 1
  · have e : choiceU p kind = cutsU p := by simp [choiceU, k1]
    rw [e, cuts_count hn, cuts_counts _ h7]
  by_cases k3 : kind = 3
  · have e : choiceU p kind = cutsU (doMove p 3 2) := by simp [choiceU, k3]
    have hf := (arr_of_perm hp (flip_perm hp)).1
    have hl := doMove3_length p (h3 k3)
    rw [e, cuts_count (packet_nodup hf), hl, cuts_counts _ h7]
  · have e : choiceU p kind = (List.range' 0 p.length).map (pickU p) := by simp only [choiceU, if_neg k1, if_neg k2, if_neg k3, if_pos (show kind = 4 by omega)]
    rw [e, picks_count hn, picks_counts _ h7]

theorem impl_CountResults_ev (p : List Int) (kind : Int) (hl : p.length ≤ 9223372036854775806) (hw : ∀ x ∈ p, (Lit.int .i64 x).wf = true) (h : (resultsOf p kind).2 = true) : Ev (fun k => impl_CountResults.f k p kind) ((resultsOf p kind).1.length : Int) := by
  unfold impl_CountResults.f
  exact Ev.bind (impl_ResultsOf_ev p kind hl hw) (ev_ite_true h (Ev.now _))
theorem choices_l1 (p : List Int) (n kind : Int) (L : List (List Int)) (R : Bool) (hp : packetOk p = true) (hE : Ev (fun k => laws_FnChoices.l0 k p n (wrap64 (kind + 1))) R) (hL : L.length ≤ 4096) (hst : Strict L) (hA : ∀ x ∈ L, isArrangement p x = true ∧ ((resultsOf p kind).1.any fun y => decide (y = x)) = true) : ∀ (r pre : List (List Int)), L = pre ++ r →
    Ev (fun k => laws_FnChoices.l1 k p n kind L L (L.length : Int) (pre.length : Int)) R := by
  have hlen := packetOk_length hp
  intro r
  induction r with
  | nil =>
    intro pre h
    have e : L.length = pre.length := by rw [h]; simp
    refine Ev.step (fun k => ?_) hE
    simp only [laws_FnChoices.l1]
    rw [if_neg (by omega)]
  | cons x r ih =>
    intro pre h
    have e : L.length = pre.length + (r.length + 1) := by rw [h]; simp
    have hx : x ∈ L := by rw [h]; simp
    have hrd : rd_L2 L (pre.length : Int) = x := by rw [h]; simp [rd_L2]
    have ew : wrap64 ((pre.length : Int) + 1) = ((pre ++ [x]).length : Int) := by rw [w64 (by omega) (by omega)]; simp
    obtain ⟨a1, a2⟩ := hA x hx
    have hok := (isArrangement_ok a1).2.1
    have hxl := packetOk_length hok
    have i1 := impl_IsArrangement_ev p x (by omega) (by omega) (packet_wf hp) (packet_wf hok)
    have i2 := impl_IsResult_ev p kind x (by omega) (packet_wf hp)
    rw [a1] at i1
    rw [a2] at i2
    have hi := ih (pre ++ [x]) (by rw [h]; simp)
    have hcon : Ev (fun k => (if (pre.length : Int) > 0 then (if 0 ≤ (wrap64 ((pre.length : Int) - 1)) then (if (wrap64 ((pre.length : Int) - 1)) < (L.length : Int) then ((laws_same.f k (rd_L2 L (wrap64 ((pre.length : Int) - 1))) x).bind fun t314 => (if t314 = true then (some false) else (laws_FnChoices.l1 k p n kind L L (L.length : Int) ((pre ++ [x]).length : Int)))) else (none)) else (none)) else (laws_FnChoices.l1 k p n kind L L (L.length : Int) ((pre ++ [x]).length : Int)))) R := by
      by_cases c : (pre.length : Int) > 0
      · have hw : wrap64 ((pre.length : Int) - 1) = ((pre.length - 1 : Nat) : Int) := by rw [w64 (by omega) (by omega)]; omega
        refine ev_ite_true c (ev_ite_true (by omega) (ev_ite_true (by omega) ?_))
        have hlt : pre.length - 1 < pre.length := by omega
        have hy : rd_L2 L (wrap64 ((pre.length : Int) - 1)) = pre[pre.length - 1] := by
          rw [hw, h]
          simp [rd_L2, List.getElem?_append_left hlt, hlt]
        have hym : pre[pre.length - 1] ∈ pre := List.getElem_mem hlt
        have hne : ¬ pre[pre.length - 1] = x := fun e => by
          have hs := hst
          rw [h, Strict, List.pairwise_append] at hs
          have := hs.2.2 _ hym x (by simp)
          rw [e, lexLt_irrefl] at this
          cases this
        have hyl : (pre[pre.length - 1]).length ≤ 12 := packetOk_length (isArrangement_ok (hA _ (by rw [h]; exact List.mem_append_left _ hym)).1).2.1
        rw [hy]
        refine Ev.bind (laws_same_ev _ _ (by omega)) ?_
        rw [decide_eq_false hne]
        exact ev_ite_false (by simp) hi
      · exact ev_ite_false c hi
    refine Ev.step (f := fun k => (impl_IsArrangement.f k p x).bind fun t => if t = true then ((impl_IsResult.f k p kind x).bind fun u => if u = true then (if (pre.length : Int) > 0 then (if 0 ≤ (wrap64 ((pre.length : Int) - 1)) then (if (wrap64 ((pre.length : Int) - 1)) < (L.length : Int) then ((laws_same.f k (rd_L2 L (wrap64 ((pre.length : Int) - 1))) x).bind fun t314 => (if t314 = true then (some false) else (laws_FnChoices.l1 k p n kind L L (L.length : Int) ((pre ++ [x]).length : Int)))) else (none)) else (none)) else (laws_FnChoices.l1 k p n kind L L (L.length : Int) ((pre ++ [x]).length : Int))) else some false) else some false) (fun k => ?_) (Ev.bind i1 (ev_ite_true rfl (Ev.bind i2 (ev_ite_true rfl hcon))))
    rw [laws_FnChoices.l1, if_pos (by omega), if_pos (by omega), if_pos (by omega), hrd, ew]
theorem name_of (kind : Int) (h0 : 0 ≤ kind) (h4 : kind ≤ 4) : ∃ s, impl_ChoiceName.f kind = some s ∧ s.toList.isEmpty = false := by
  have : kind = 0 ∨ kind = 1 ∨ kind = 2 ∨ kind = 3 ∨ kind = 4 := by omega
  rcases this with rfl | rfl | rfl | rfl | rfl
  · exact ⟨_, rfl, by decide +kernel⟩
  · exact ⟨_, rfl, by decide +kernel⟩
  · exact ⟨_, rfl, by decide +kernel⟩
  · exact ⟨_, rfl, by decide +kernel⟩
  · exact ⟨_, rfl, by decide +kernel⟩
theorem want_of (n : Nat) (kind : Int) (h1 : 1 ≤ n) (h7 : n < 8) (h0 : 0 ≤ kind) (h4 : kind ≤ 4) : rd [1, (n : Int), wrap64 ((Go.Proofs.YtbghkcgglhoopaaW.PrintWords.shl .i64 1 (n : Int)) - (n : Int)), (n : Int), (n : Int)] kind = ((if kind = 0 then 1 else if kind = 2 then 2 ^ n - n else n : Nat) : Int) := by
  have hb : n < 2 ^ n := Nat.lt_two_pow_self
  have hb2 : 2 ^ n ≤ 2 ^ 7 := Nat.pow_le_pow_right (by omega) (by omega)
  rw [two_shl n (by omega), w64 (by omega) (by omega)]
  have : kind = 0 ∨ kind = 1 ∨ kind = 2 ∨ kind = 3 ∨ kind = 4 := by omega
  rcases this with rfl | rfl | rfl | rfl | rfl
  · rfl
  · rfl
  · show ((2 ^ n : Nat) : Int) - n = ((2 ^ n - n : Nat) : Int)
    omega
  · rfl
  · rfl
theorem choices_step (p : List Int) (kind : Int) (hp : packetOk p = true) (h1 : 1 ≤ p.length) (h6 : p.length ≤ 6) (h0 : 0 ≤ kind) (h4 : kind ≤ 4) (hE : Ev (fun k => laws_FnChoices.l0 k p (p.length : Int) (kind + 1)) true) : Ev (fun k => laws_FnChoices.l0 k p (p.length : Int) kind) true := by
  have ew : wrap64 (kind + 1) = kind + 1 := w64 (by omega) (by omega)
  have hR := impl_ResultsOf_ev p kind (by omega) (packet_wf hp)
  by_cases bad : kind = 3 ∧ p.length < 2
  · have er : resultsOf p kind = ([], false) := by unfold resultsOf; rw [if_neg (fun hc => by have := hc.2.2.2.2.1 bad.1; omega)]
    rw [er] at hR
    have hJ : Ev (fun k => laws_FnChoices.j1 k p (p.length : Int) kind [] false (kind == 3)) true := by
      refine Ev.step (fun k => ?_) hE
      simp only [laws_FnChoices.j1]
      rw [if_pos (by rw [bad.1]; rfl), if_neg (by simp), ew]
    refine Ev.step (f := fun k => (impl_ResultsOf.f k p kind).bind fun bt300 => (if (p.length : Int) < 2 then (laws_FnChoices.j1 k p (p.length : Int) kind bt300.1 bt300.2 (kind == 3)) else (laws_FnChoices.j1 k p (p.length : Int) kind bt300.1 bt300.2 false))) (fun k => ?_) (Ev.bind hR (ev_ite_true (by omega) hJ))
    rw [laws_FnChoices.l0, if_pos h4]
  · have hok : choiceOk p kind := ⟨hp, by omega, h0, h4, fun e => by
      apply Decidable.byContradiction
      intro hh
      exact bad ⟨e, by omega⟩, fun _ => by omega⟩
    have er : resultsOf p kind = (sortU (choiceU p kind), true) := by unfold resultsOf; rw [if_pos hok]
    have hC := impl_CountResults_ev p kind (by omega) (packet_wf hp) (by rw [er])
    rw [er] at hR hC
    have hcnt := choice_count hp h1 (by omega) h0 h4 hok.2.2.2.2.1
    have hsmall := (resultsOf_small p kind).1
    rw [er] at hsmall
    obtain ⟨s, hs1, hs2⟩ := name_of kind h0 h4
    have hl1 := choices_l1 p (p.length : Int) kind (sortU (choiceU p kind)) true hp (by rw [ew]; exact hE) hsmall (strict_sortU _) (fun x hx => ⟨(arr_of_perm hp (choiceU_perm hp x ((mem_sortU x _).1 hx))).2, by
      rw [er]
      exact List.any_eq_true.2 ⟨x, hx, by simp⟩⟩) (sortU (choiceU p kind)) [] rfl
    have hJ2 : Ev (fun k => laws_FnChoices.j2 k p (p.length : Int) kind (sortU (choiceU p kind)) false) true := by
      refine Ev.step (fun k => ?_) hl1
      simp only [laws_FnChoices.j2, Option.bind_some]
      rw [if_neg (by simp), if_pos (by omega), if_pos h0, if_pos (by simp; omega), if_pos (by rw [want_of p.length kind h1 (by omega) h0 h4, hcnt])]
      rfl
    have hJ : Ev (fun k => laws_FnChoices.j1 k p (p.length : Int) kind (sortU (choiceU p kind)) true false) true := by
      refine Ev.step (f := fun k => (impl_CountResults.f k p kind).bind fun t304 => (if t304 = ((sortU (choiceU p kind)).length : Int) then ((impl_ChoiceName.f kind).bind fun t305 => (laws_FnChoices.j2 k p (p.length : Int) kind (sortU (choiceU p kind)) t305.toList.isEmpty)) else (laws_FnChoices.j2 k p (p.length : Int) kind (sortU (choiceU p kind)) true))) (fun k => ?_) (Ev.bind hC (ev_ite_true rfl ?_))
      · simp only [laws_FnChoices.j1]
        rw [if_neg (by simp), if_pos (by simp)]
      · rw [hs1]
        simp only [Option.bind_some, hs2]
        exact hJ2
    refine Ev.step (f := fun k => (impl_ResultsOf.f k p kind).bind fun bt300 => (if (p.length : Int) < 2 then (laws_FnChoices.j1 k p (p.length : Int) kind bt300.1 bt300.2 (kind == 3)) else (laws_FnChoices.j1 k p (p.length : Int) kind bt300.1 bt300.2 false))) (fun k => ?_) (Ev.bind hR ?_)
    · rw [laws_FnChoices.l0, if_pos h4]
    · by_cases c : (p.length : Int) < 2
      · have hk : (kind == 3) = false := by
          rw [beq_eq_false_iff_ne]
          exact fun e => bad ⟨e, by omega⟩
        rw [hk]
        exact ev_ite_true c hJ
      · exact ev_ite_false c hJ
theorem FnChoices : laws_FnChoices.Pure := by
  intro code h1 h2 hw
  unfold laws_FnChoices.f
  by_cases g : (code.length : Int) > 1048576
  · exact ⟨0, by rw [if_pos g]⟩
  simp only [if_neg g]
  obtain ⟨p, ho, hq1, hq2, hq3, hE⟩ := makePacket_ok code (by omega) 0 (by omega) 6 (by omega) (by omega)
  refine Ev.rounds (Ev.bind hE ?_)
  have e5 : Ev (fun k => laws_FnChoices.l0 k p (p.length : Int) 5) true := by
    refine Ev.step (f := fun _ => some _) (fun k => ?_) (Ev.now _)
    simp only [laws_FnChoices.l0]
    rw [if_neg (by omega)]
  have e4 := choices_step p 4 ho hq1 (by omega) (by omega) (by omega) e5
  have e3 := choices_step p 3 ho hq1 (by omega) (by omega) (by omega) e4
  have e2 := choices_step p 2 ho hq1 (by omega) (by omega) (by omega) e3
  have e1 := choices_step p 1 ho hq1 (by omega) (by omega) (by omega) e2
  exact choices_step p 0 ho hq1 (by omega) (by omega) (by omega) e1

end Go.Proofs.Ytbghkcgglhoopaa.Pure
