/- Every arrangement is reached by as many riffles as its rising sequences need, step by step: for every code. No conditions. -/
import Derived.Test.YtplacpfdmcnaiaaMFnUnshufflesx0
import Derived.Test.YtplacpfdmcnaiaaMFnUnshufflesx1
import Derived.Test.YtplacpfdmcnaiaaMFnUnshufflesx2
import Derived.Test.YtplacpfdmcnaiaaMFnUnshufflesx3
import Derived.Test.YtplacpfdmcnaiaaMFnUnshufflesx4
import Derived.Test.YtplacpfdmcnaiaaMFnUnshufflesx5
import Derived.Test.YtplacpfdmcnaiaaMFnUnshufflesx6
import Derived.OpenShut
namespace Go.Proofs.Ytplacpfdmcnaiaa.Pure
open Go.RowKit Go.Proofs.Ytplacpfdmcnaiaa.MFnUnshuffles Go.Proofs.YtplacpfdmcnaiaaW.PrintWords Go.Proofs.YtplacpfdmcnaiaaW.PrintLast
set_option linter.unusedVariables false
set_option linter.unusedSimpArgs false

/-! ### base: numbers, reads, loops -/
theorem w64 {a : Int} (h0 : -9223372036854775808 ≤ a) (h1 : a ≤ 9223372036854775807) : wrap64 a = a := by
  unfold wrap64
  omega
theorem w64n {n : Nat} (h : n ≤ 9223372036854775807) : wrap64 (n : Int) = n := w64 (by omega) (by omega)
theorem bd64 {n : Int} (h : (Lit.int .i64 n).wf = true) : -9223372036854775808 ≤ n ∧ n ≤ 9223372036854775807 := Go.bounds_i64 h
theorem rd_nat (xs : List Int) (i : Nat) : rd xs (i : Int) = xs.getD i 0 := by simp [rd]
theorem rd_lt {xs : List Int} {i : Nat} (h : i < xs.length) : rd xs (i : Int) = xs[i] := by simp [rd, h]
theorem bt_nat {s : ByteArray} {i : Nat} (h : i < s.size) : bt s (i : Int) = (s[i].toNat : Int) := by simp [bt, h]
/-- Going up to n: what holds at n holds from i on. -/
theorem up_ind (n : Nat) (P : Nat → Prop) (h0 : P n) (hs : ∀ i, i < n → P (i + 1) → P i) : ∀ i, i ≤ n → P i := by
  have h : ∀ d i, i + d = n → P i := by
    intro d
    induction d with
    | zero => intro i hi; obtain rfl : i = n := by omega
              exact h0
    | succ d ih => intro i hi; exact hs i (by omega) (ih (i + 1) (by omega))
  intro i hi
  exact h (n - i) i (by omega)
theorem ev_some {α : Type} {g : Nat → Option α} {r : α} (h : ∀ k, g k = some r) : Ev g r := ⟨0, fun k _ => h k⟩
theorem ev_pair {α β : Type} {g : Nat → Option α} {f : Nat → Option β} {a : α} {b : β} {h : α → β → Option Bool} (hg : Ev g a) (hf : Ev f b) (hh : h a b = some true) : ∃ k, ((g k).bind fun x => (f k).bind fun y => h x y) = some true :=
  Ev.rounds (Ev.bind hg (Ev.bind hf (ev_some fun _ => hh)))

/-- What every law of one list does: it hands a copy to the reference and one to the program, compares, and looks at the copy. -/
theorem ev_ite_true {α : Type} {f g : Nat → Option α} {r : α} {c : Prop} [Decidable c] (h : c) (k : Ev f r) : Ev (fun n => if c then f n else g n) r := by simpa only [if_pos h] using k
theorem ev_ite_false {α : Type} {f g : Nat → Option α} {r : α} {c : Prop} [Decidable c] (h : ¬ c) (k : Ev g r) : Ev (fun n => if c then f n else g n) r := by simpa only [if_neg h] using k

theorem and255 (x : Int) : 0 ≤ Go.bits .and .i64 x 255 ∧ Go.bits .and .i64 x 255 ≤ 255 := by
  have h : (BitVec.ofInt 64 x &&& BitVec.ofInt 64 255).toNat ≤ 255 := by
    rw [BitVec.toNat_and]
    exact Nat.le_trans Nat.and_le_right (by decide)
  have e : Go.bits .and .i64 x 255 = (((BitVec.ofInt 64 x &&& BitVec.ofInt 64 255).toNat : Nat) : Int) := by
    have : Go.bits .and .i64 x 255 = IntKind.i64.wrap (((BitVec.ofInt 64 x &&& BitVec.ofInt 64 255).toNat : Nat) : Int) := rfl
    rw [this, i64_w, w64 (by omega) (by omega)]
  rw [e]
  omega
theorem byte_ok (s0 : List Int) (s1 s2 : Int) (hl : s0.length ≤ 1048576) (h : 0 ≤ s1) : ∃ b t1 t2, spec_l01Byte.f s0 s1 s2 = some (b, t1, t2) ∧ 0 ≤ b ∧ b ≤ 255 ∧ 0 ≤ t1 := by
  unfold spec_l01Byte.f
  by_cases c : s1 < (s0.length : Int)
  · rw [if_pos c, if_pos h]
    exact ⟨_, _, _, rfl, (and255 _).1, (and255 _).2, by rw [w64 (by omega) (by omega)]; omega⟩
  · rw [if_neg c]
    exact ⟨_, _, _, rfl, (and255 _).1, (and255 _).2, h⟩
theorem below_ok (s0 : List Int) (s1 s2 n : Int) (hl : s0.length ≤ 1048576) (h : 0 ≤ s1) (hn : 1 ≤ n) (hm : n ≤ 256) : ∃ b t1 t2, spec_l01Below.f s0 s1 s2 n = some (b, t1, t2) ∧ 0 ≤ b ∧ b < n ∧ 0 ≤ t1 := by
  unfold spec_l01Below.f
  obtain ⟨b, t1, t2, e, b0, b1, ht⟩ := byte_ok s0 s1 s2 hl h
  rw [if_neg (by omega), if_pos hm, e]
  simp only [Option.bind_some]
  rw [if_neg (by omega)]
  refine ⟨_, _, _, rfl, ?_, ?_, ht⟩
  · rw [Int.tmod_eq_emod_of_nonneg b0]; exact Int.emod_nonneg _ (by omega)
  · rw [Int.tmod_eq_emod_of_nonneg b0]; exact Int.emod_lt_of_pos _ (by omega)
theorem new_loop (l : List Int) (hl : l.length ≤ 1048576) : ∀ (d : Nat) (i : Nat) (x : Int), l.length ≤ i + d → i ≤ l.length → ∃ h, Ev (fun k => spec_l01New.l0 k l x (i : Int)) (l, 0, h) := by
  intro d
  induction d with
  | zero =>
    intro i x hi hj
    refine ⟨x, Ev.step (f := fun _ => some _) (fun k => ?_) (Ev.now _)⟩
    simp only [spec_l01New.l0]
    rw [if_neg (by omega)]
  | succ d ih =>
    intro i x hi hj
    by_cases c : i < l.length
    · by_cases c2 : (i : Int) < 4000
      · obtain ⟨h, hh⟩ := ih (i + 1) (Go.bits .and .i64 (wrap64 ((wrap64 ((wrap64 (x * 101)) + (wrap64 (rd l i)))) + 7)) 1073741823) (by omega) (by omega)
        refine ⟨h, Ev.step (fun k => ?_) hh⟩
        simp only [spec_l01New.l0]
        rw [if_pos (by omega), if_pos c2, if_pos (by omega), w64 (a := (i : Int) + 1) (by omega) (by omega)]
        rfl
      · refine ⟨x, Ev.step (f := fun _ => some _) (fun k => ?_) (Ev.now _)⟩
        simp only [spec_l01New.l0]
        rw [if_pos (by omega), if_neg c2]
    · refine ⟨x, Ev.step (f := fun _ => some _) (fun k => ?_) (Ev.now _)⟩
      simp only [spec_l01New.l0]
      rw [if_neg (by omega)]
theorem new_ok (l : List Int) (hl : l.length ≤ 1048576) : ∃ h, Ev (fun k => spec_l01New.f k l) (l, 0, h) := new_loop l hl l.length 0 _ (by omega) (by omega)

theorem l23_loop (l : List Int) (hl : l.length ≤ 1048576) (n : Nat) (hn : n ≤ 1000) : ∀ (d i : Nat) (s1 s2 : Int), i + d = n → 0 ≤ s1 → ∃ t1 t2, 0 ≤ t1 ∧ Ev (fun k => spec_l23New.l0 k (n : Int) (i : Int) l s1 s2) (l, t1, t2) := by
  intro d
  induction d with
  | zero =>
    intro i s1 s2 hi h
    refine ⟨s1, s2, h, Ev.step (f := fun _ => some _) (fun k => ?_) (Ev.now _)⟩
    simp only [spec_l23New.l0]
    rw [if_neg (by omega)]
  | succ d ih =>
    intro i s1 s2 hi h
    obtain ⟨b, u1, u2, e, b0, b1, hu⟩ := byte_ok l s1 s2 hl h
    obtain ⟨t1, t2, ht, hE⟩ := ih (i + 1) u1 u2 (by omega) hu
    refine ⟨t1, t2, ht, Ev.step (fun k => ?_) hE⟩
    simp only [spec_l23New.l0]
    rw [if_pos (by omega), e, w64 (by omega) (by omega)]
    rfl
theorem l23_ok (l : List Int) (hl : l.length ≤ 1048576) (n : Nat) (hn : n ≤ 1000) : ∃ t1 t2, 0 ≤ t1 ∧ Ev (fun k => spec_l23New.f k l (n : Int)) (l, t1, t2) := by
  obtain ⟨h, hh⟩ := new_ok l hl
  obtain ⟨t1, t2, ht, hE⟩ := l23_loop l hl n hn n 0 0 h (by omega) (by omega)
  exact ⟨t1, t2, ht, by unfold spec_l23New.f; exact Ev.bind hh hE⟩

/-! ### lists -/
theorem rd_mid (pre : List Int) (x : Int) (r : List Int) : rd (pre ++ x :: r) (pre.length : Int) = x := by simp [rd]
theorem rd_mid' {l pre : List Int} {x : Int} {r : List Int} (h : l = pre ++ x :: r) : rd l (pre.length : Int) = x := by subst h; exact rd_mid _ _ _
theorem snoc_eq {l pre : List Int} {x : Int} {r : List Int} (h : l = pre ++ x :: r) : l = (pre ++ [x]) ++ r := by simp [h]
theorem snoc_len {pre : List Int} (x : Int) (h : pre.length ≤ 9223372036854775806) : wrap64 ((pre.length : Int) + 1) = ((pre ++ [x]).length : Int) := by
  rw [w64 (by omega) (by omega)]; simp
/-- The whole numbers from m on, n of them. -/
def upFrom (m : Int) : Nat → List Int
  | 0 => []
  | n + 1 => m :: upFrom (m + 1) n
theorem upFrom_length (n : Nat) : ∀ m, (upFrom m n).length = n := by
  induction n with
  | zero => intro m; rfl
  | succ n ih => intro m; simp [upFrom, ih]
theorem upFrom_get (n : Nat) : ∀ (m : Int) (i : Nat) (h : i < (upFrom m n).length), (upFrom m n)[i] = m + i := by
  induction n with
  | zero => intro m i h; simp [upFrom] at h
  | succ n ih =>
    intro m i h
    cases i with
    | zero => simp [upFrom]
    | succ i => simp only [upFrom, List.getElem_cons_succ]; rw [ih]; omega
theorem upFrom_snoc (n : Nat) : ∀ m, upFrom m (n + 1) = upFrom m n ++ [m + n] := by
  induction n with
  | zero => intro m; simp [upFrom]
  | succ n ih => intro m; rw [upFrom, ih]; simp [upFrom]; omega
theorem upFrom_mem (n : Nat) : ∀ (m x : Int), x ∈ upFrom m n ↔ m ≤ x ∧ x < m + n := by
  induction n with
  | zero => intro m x; simp only [upFrom, List.not_mem_nil, false_iff]; omega
  | succ n ih => intro m x; simp only [upFrom, List.mem_cons, ih]; omega
theorem upFrom_nodup (n : Nat) : ∀ m, (upFrom m n).Nodup := by
  induction n with
  | zero => intro m; simp [upFrom]
  | succ n ih => intro m; simp only [upFrom, List.nodup_cons, ih, and_true, upFrom_mem]; omega
theorem nodup_inj {l : List Int} (h : l.Nodup) (i j : Nat) (hi : i < l.length) (hj : j < l.length) (e : l[i] = l[j]) : i = j := by
  have hp := List.pairwise_iff_getElem.1 h
  rcases Nat.lt_trichotomy i j with c | c | c
  · exact absurd e (hp i j hi hj c)
  · exact c
  · exact absurd e.symm (hp j i hj hi c)
theorem set_mid (pre : List Int) (x y : Int) (r : List Int) : (pre ++ y :: r).set pre.length x = (pre ++ [x]) ++ r := by simp
theorem lens {l pre r : List Int} (h : l = pre ++ r) : l.length = pre.length + r.length := by rw [h]; simp
theorem snoc_cast (pre : List Int) (x : Int) : ((pre ++ [x]).length : Int) = (pre.length : Int) + 1 := by simp

/-! ### permutations -/
def pokFrom (n : Nat) : List Int → List Int → Bool
  | _, [] => true
  | seen, x :: r => decide (0 ≤ x ∧ x < n) && (!decide (x ∈ seen) && pokFrom n (seen ++ [x]) r)
/-- A list of whole numbers is a permutation of at most 12 positions. -/
def permOk (a : List Int) : Bool := pokFrom a.length [] a && decide (a.length ≤ 12)
theorem pokFrom_iff (n : Nat) (r : List Int) : ∀ seen, pokFrom n seen r = true ↔ (∀ x ∈ r, 0 ≤ x ∧ x < n) ∧ r.Nodup ∧ (∀ x ∈ r, x ∉ seen) := by
  induction r with
  | nil => intro seen; simp [pokFrom]
  | cons x r ih =>
    intro seen
    simp only [pokFrom, Bool.and_eq_true, decide_eq_true_eq, Bool.not_eq_true', decide_eq_false_iff_not, ih, List.mem_cons, forall_eq_or_imp, List.nodup_cons, List.mem_append, List.not_mem_nil, or_false, not_or]
    constructor
    · rintro ⟨h1, h2, h3, h4, h5⟩
      exact ⟨⟨h1, h3⟩, ⟨fun hx => (h5 x hx).2 rfl, h4⟩, h2, fun y hy => (h5 y hy).1⟩
    · rintro ⟨⟨h1, h3⟩, ⟨h6, h4⟩, h2, h5⟩
      exact ⟨h1, h2, h3, h4, fun y hy => ⟨h5 y hy, fun e => h6 (e ▸ hy)⟩⟩
theorem permOk_iff (a : List Int) : permOk a = true ↔ (∀ x ∈ a, 0 ≤ x ∧ x < a.length) ∧ a.Nodup ∧ a.length ≤ 12 := by
  simp only [permOk, Bool.and_eq_true, pokFrom_iff, decide_eq_true_eq]
  simp [and_assoc]

def invFrom : List Int → Int → List Int → List Int
  | m, _, [] => m
  | m, i, x :: r => invFrom (m.set x.toNat i) (i + 1) r
/-- The inverse of a permutation. -/
def inverse (a : List Int) : List Int := invFrom (List.replicate a.length 0) 0 a
theorem invFrom_length (r : List Int) : ∀ m i, (invFrom m i r).length = m.length := by
  induction r with
  | nil => intro m i; rfl
  | cons x r ih => intro m i; simp [invFrom, ih]
theorem inverse_length (a : List Int) : (inverse a).length = a.length := by simp [inverse, invFrom_length]
theorem rd_set_ne {m : List Int} {x y i : Int} (hx : 0 ≤ x) (hy : 0 ≤ y) (h : x ≠ y) : rd (m.set x.toNat i) y = rd m y := by
  have : x.toNat ≠ y.toNat := by omega
  simp [rd, List.getElem?_set, this]
theorem rd_set_eq {m : List Int} {x i : Int} (hx : 0 ≤ x) (h : x < m.length) : rd (m.set x.toNat i) x = i := by
  have : x.toNat < m.length := by omega
  simp [rd, List.getElem?_set, this]
theorem invFrom_keep (r : List Int) : ∀ (m : List Int) (i y : Int), 0 ≤ y → y ∉ r → (∀ x ∈ r, 0 ≤ x) → rd (invFrom m i r) y = rd m y := by
  induction r with
  | nil => intro m i y _ _ _; rfl
  | cons x r ih =>
    intro m i y hy hn hp
    simp only [List.mem_cons, not_or] at hn
    have hx := hp x (by simp)
    rw [invFrom, ih _ _ y hy hn.2 (fun z hz => hp z (by simp [hz])), rd_set_ne hx hy (fun e => hn.1 e.symm)]
theorem invFrom_get (r : List Int) : ∀ (m : List Int) (i : Int), (∀ x ∈ r, 0 ≤ x ∧ x < m.length) → r.Nodup → ∀ (j : Nat) (h : j < r.length), rd (invFrom m i r) (r[j]) = i + j := by
  induction r with
  | nil => intro m i _ _ j h; simp at h
  | cons x r ih =>
    intro m i hp hn j h
    simp only [List.nodup_cons] at hn
    have hx := hp x (by simp)
    cases j with
    | zero =>
      simp only [List.getElem_cons_zero]
      rw [invFrom, invFrom_keep r _ _ x hx.1 hn.1 (fun z hz => (hp z (by simp [hz])).1), rd_set_eq hx.1 hx.2]
      simp
    | succ j =>
      simp only [List.getElem_cons_succ]
      rw [invFrom, ih _ _ (fun z hz => by rw [List.length_set]; exact hp z (by simp [hz])) hn.2 j (by simpa using h)]
      omega
theorem inverse_get {a : List Int} (hp : ∀ x ∈ a, 0 ≤ x ∧ x < a.length) (hn : a.Nodup) (j : Nat) (h : j < a.length) : rd (inverse a) (a[j]) = j := by
  unfold inverse
  rw [invFrom_get a _ 0 (fun x hx => by simpa using hp x hx) hn j h]
  omega

theorem nodup_le (l : List Int) : ∀ m : List Int, l.Nodup → (∀ x ∈ l, x ∈ m) → l.length ≤ m.length := by
  induction l with
  | nil => intro m _ _; simp
  | cons x l ih =>
    intro m hn hs
    simp only [List.nodup_cons] at hn
    have hx : x ∈ m := hs x (by simp)
    have h := ih (m.erase x) hn.2 (fun y hy => (List.mem_erase_of_ne (fun e => hn.1 (by rw [← e]; exact hy))).2 (hs y (by simp [hy])))
    rw [List.length_erase_of_mem hx] at h
    have := List.length_pos_of_mem hx
    simp only [List.length_cons]
    omega
theorem perm_surj {a : List Int} (hp : ∀ x ∈ a, 0 ≤ x ∧ x < a.length) (hn : a.Nodup) (v : Int) (h0 : 0 ≤ v) (h1 : v < a.length) : v ∈ a := by
  apply Decidable.byContradiction
  intro hv
  have h := nodup_le (v :: a) (upFrom 0 a.length) (by simp [hv, hn]) (fun y hy => by
    rw [upFrom_mem]
    rcases List.mem_cons.1 hy with rfl | hy
    · omega
    · have := hp y hy; omega)
  rw [upFrom_length] at h
  simp only [List.length_cons] at h
  omega
/-- Where a value of a permutation stands. -/
theorem perm_at {a : List Int} (hp : ∀ x ∈ a, 0 ≤ x ∧ x < a.length) (hn : a.Nodup) (v : Int) (h0 : 0 ≤ v) (h1 : v < a.length) : ∃ j : Nat, ∃ h : j < a.length, a[j] = v ∧ rd (inverse a) v = j := by
  obtain ⟨j, h, e⟩ := List.getElem_of_mem (perm_surj hp hn v h0 h1)
  exact ⟨j, h, e, by rw [← e]; exact inverse_get hp hn j h⟩

theorem swap_perm (p : List Int) (v : Int) (j : Nat) (h : j ≤ p.length) : (((p ++ [v]).set p.length (rd (p ++ [v]) (j : Int))).set j v).Perm (p ++ [v]) := by
  by_cases c : j = p.length
  · subst c
    rw [show rd (p ++ [v]) (p.length : Int) = v from rd_mid p v [], set_mid, List.append_nil]
    have : (p ++ [v]).set p.length v = p ++ [v] := by
      have := set_mid p v v []
      rw [List.append_nil] at this
      exact this
    rw [this]
  · have hj : j < p.length := by omega
    have ep : p = p.take j ++ p[j] :: p.drop (j + 1) := by rw [← List.drop_eq_getElem_cons hj, List.take_append_drop]
    have er : rd (p ++ [v]) (j : Int) = p[j] := by simp [rd, List.getD, List.getElem?_append_left hj, hj]
    rw [er]
    have e1 : (p ++ [v]).set p.length p[j] = p ++ [p[j]] := by
      have := set_mid p p[j] v []
      rw [List.append_nil] at this
      exact this
    rw [e1]
    generalize hu : p.take j = u at ep
    generalize hw : p.drop (j + 1) = w at ep
    generalize hx : p[j] = x at ep ⊢
    have hlu : u.length = j := by rw [← hu]; simp; omega
    rw [ep]
    have e2 : (u ++ x :: w ++ [x]).set j v = u ++ v :: (w ++ [x]) := by
      rw [show u ++ x :: w ++ [x] = u ++ x :: (w ++ [x]) by simp, ← hlu, set_mid]
      simp
    rw [e2]
    rw [List.append_assoc]
    refine List.Perm.append_left u ?_
    have h1 : (v :: (w ++ [x])).Perm (v :: ([x] ++ w)) := List.Perm.cons v List.perm_append_comm
    have h2 : ([v] ++ w).Perm (w ++ [v]) := List.perm_append_comm
    exact h1.trans ((List.Perm.swap x v w).trans (List.Perm.cons x h2))
theorem shuffle_loop (s0 : List Int) (hl : s0.length ≤ 1048576) (m : Nat) (hm : m ≤ 12) : ∀ (d i : Nat) (p : List Int) (s1 s2 : Int), i + d = m → p.Perm (upFrom 0 i) → 0 ≤ s1 →
    ∃ q t1 t2, q.Perm (upFrom 0 m) ∧ 0 ≤ t1 ∧ Ev (fun k => spec_l02Shuffle.l0 k (m : Int) p (i : Int) s0 s1 s2) (q, t1, t2) := by
  intro d
  induction d with
  | zero =>
    intro i p s1 s2 hi hp h
    obtain rfl : i = m := by omega
    refine ⟨p, s1, s2, hp, h, Ev.step (f := fun _ => some _) (fun k => ?_) (Ev.now _)⟩
    simp only [spec_l02Shuffle.l0]
    rw [if_neg (by omega)]
  | succ d ih =>
    intro i p s1 s2 hi hp h
    have hpl : p.length = i := by rw [hp.length_eq, upFrom_length]
    obtain ⟨b, u1, u2, e, b0, b1, hu⟩ := below_ok s0 s1 s2 ((i : Int) + 1) hl h (by omega) (by omega)
    have hs : (((p ++ [(i : Int)]).set i (rd (p ++ [(i : Int)]) b)).set b.toNat (i : Int)).Perm (upFrom 0 (i + 1)) := by
      have := swap_perm p (i : Int) b.toNat (by omega)
      rw [Int.toNat_of_nonneg b0, hpl] at this
      refine this.trans ?_
      rw [upFrom_snoc]
      simp only [Int.zero_add]
      exact List.Perm.append_right _ hp
    obtain ⟨q, t1, t2, hq, ht, hE⟩ := ih (i + 1) _ u1 u2 (by omega) hs hu
    refine ⟨q, t1, t2, hq, ht, Ev.step (fun k => ?_) hE⟩
    simp only [spec_l02Shuffle.l0]
    rw [if_pos (by omega), w64 (a := (i : Int) + 1) (by omega) (by omega), e]
    simp only [Option.bind_some]
    rw [if_pos (by omega), if_pos b0, if_pos (by simp; omega), if_pos (by omega), if_pos (by simp; omega), Int.toNat_natCast]
    rfl
theorem shuffle_ok (s0 : List Int) (hl : s0.length ≤ 1048576) (m : Nat) (hm : m ≤ 12) (s1 s2 : Int) (h : 0 ≤ s1) :
    ∃ q t1 t2, q.Perm (upFrom 0 m) ∧ 0 ≤ t1 ∧ Ev (fun k => spec_l02Shuffle.f k s0 s1 s2 (m : Int)) (q, t1, t2) :=
  shuffle_loop s0 hl m hm m 0 [] s1 s2 (by omega) (List.Perm.refl _) h
theorem permOk_of_perm {q : List Int} {m : Nat} (hm : m ≤ 12) (h : q.Perm (upFrom 0 m)) : permOk q = true ∧ q.length = m := by
  have hl : q.length = m := by rw [h.length_eq, upFrom_length]
  refine ⟨(permOk_iff q).2 ⟨fun x hx => ?_, h.nodup_iff.2 (upFrom_nodup _ _), by omega⟩, hl⟩
  have := h.mem_iff.1 hx
  rw [upFrom_mem] at this
  omega

theorem makeNum_ok (l : List Int) (hl : l.length ≤ 1048576) (n : Nat) (hn : n ≤ 1000) : ∃ v, 0 ≤ v ∧ v ≤ 65535 ∧ Ev (fun k => spec_MakeNum.f k l (n : Int)) v := by
  obtain ⟨t1, t2, ht, hE⟩ := l23_ok l hl n hn
  obtain ⟨b, u1, u2, e, b0, b1, hu⟩ := byte_ok l t1 t2 hl ht
  obtain ⟨c, v1, v2, e2, c0, c1, hv⟩ := byte_ok l u1 u2 hl hu
  refine ⟨b * 256 + c, by omega, by omega, ?_⟩
  unfold spec_MakeNum.f
  refine Ev.bind hE ?_
  simp only [e, e2, Option.bind_some]
  rw [w64 (a := b * 256) (by omega) (by omega), w64 (by omega) (by omega)]
  exact Ev.now _

theorem makePerm_ok (l : List Int) (hl : l.length ≤ 1048576) (m : Nat) (hm : m ≤ 1000) (n : Int) (h1 : 1 ≤ n) (h2 : n ≤ 12) : ∃ q, permOk q = true ∧ (q.length : Int) = n ∧ Ev (fun k => spec_MakePerm.f k l (m : Int) n) q := by
  obtain ⟨t1, t2, ht, hE⟩ := l23_ok l hl m hm
  have en : mx 1 (mn n 12) = ((n.toNat : Nat) : Int) := by
    unfold mx mn
    split <;> split <;> omega
  obtain ⟨q, u1, u2, hp, hu, hq⟩ := shuffle_ok l hl n.toNat (by omega) t1 t2 ht
  obtain ⟨p1, p2⟩ := permOk_of_perm (by omega) hp
  refine ⟨q, p1, by omega, ?_⟩
  unfold spec_MakePerm.f
  refine Ev.bind hE ?_
  simp only [en]
  exact Ev.bind hq (Ev.now _)

/-- The card of a cell, or -1. -/
def cardOf (x : Int) : Int := if 0 ≤ x then (if x ≤ 11 then x else -1) else (if -12 ≤ x then -1 - x else -1)

def posFrom (c : Int) : Int → List Int → Int
  | _, [] => -1
  | i, x :: r => if cardOf x = c then i else posFrom c (i + 1) r
/-- Where a card lies in a packet, or -1. -/
def positionOf (l : List Int) (c : Int) : Int := if 0 ≤ c then posFrom c 0 l else -1
theorem posFrom_get (c : Int) (l : List Int) : ∀ (i : Int) (j : Nat) (h : j < l.length), cardOf (l[j]) = c → (∀ (m : Nat) (h' : m < l.length), m < j → cardOf (l[m]) ≠ c) → posFrom c i l = i + j := by
  induction l with
  | nil => intro i j h; simp at h
  | cons x r ih =>
    intro i j h hc hm
    rw [posFrom]
    cases j with
    | zero => rw [if_pos (show cardOf x = c from hc)]; simp
    | succ j =>
      rw [if_neg (show ¬ cardOf x = c from hm 0 (by simp) (by omega)), ih (i + 1) j (by simpa using h) hc (fun m h' hl => hm (m + 1) (by simpa using h') (by omega))]
      omega
theorem posFrom_nonneg (c : Int) (l : List Int) : ∀ i : Int, 0 ≤ i → (0 ≤ posFrom c i l ↔ ∃ x ∈ l, cardOf x = c) := by
  induction l with
  | nil => intro i hi; simp [posFrom]
  | cons x r ih =>
    intro i hi
    rw [posFrom]
    by_cases h : cardOf x = c
    · rw [if_pos h]; simp [h, hi]
    · rw [if_neg h, ih (i + 1) (by omega)]; simp [h]

/-! ### rising sequences -/
def addLast (out : List (List Int)) (v : Int) : List (List Int) := out.set (out.length - 1) (out.getD (out.length - 1) [] ++ [v])
def riseFrom (at_ : Int → Int) : Nat → List (List Int) → Int → List (List Int)
  | 0, out, _ => out
  | n + 1, out, v => riseFrom at_ n (if v = 0 ∨ at_ v < at_ (v - 1) then out ++ [[v]] else addLast out v) (v + 1)
/-- The rising sequences of a permutation. -/
def rising (a : List Int) : List (List Int) := if permOk a = true then riseFrom (fun v => rd (inverse a) v) a.length [] 0 else []
theorem addLast_length (out : List (List Int)) (v : Int) : (addLast out v).length = out.length := by simp [addLast]
/-- No more and no longer than so. -/
def Small (out : List (List Int)) (n : Nat) : Prop := out.length ≤ n ∧ ∀ l ∈ out, l.length ≤ n
theorem Small.last {out : List (List Int)} {n : Nat} (h : Small out n) : (out.getD (out.length - 1) []).length ≤ n := by
  by_cases hl : out.length - 1 < out.length
  · have e : out.getD (out.length - 1) [] = out[out.length - 1] := by simp [hl]
    rw [e]
    exact h.2 _ (List.getElem_mem hl)
  · have e : out = [] := List.eq_nil_of_length_eq_zero (by omega)
    subst e
    simp
theorem Small.new {out : List (List Int)} {n : Nat} (h : Small out n) (v : Int) : Small (out ++ [[v]]) (n + 1) := by
  refine ⟨by simp; exact h.1, fun l hl => ?_⟩
  rcases List.mem_append.1 hl with hl | hl
  · have := h.2 l hl; omega
  · simp at hl; subst hl; simp
theorem Small.more {out : List (List Int)} {n : Nat} (h : Small out n) (v : Int) : Small (addLast out v) (n + 1) := by
  refine ⟨by rw [addLast_length]; have := h.1; omega, fun l hl => ?_⟩
  rcases List.mem_or_eq_of_mem_set hl with hl | hl
  · have := h.2 l hl; omega
  · have := h.last
    rw [hl, List.length_append]
    simp only [List.length_cons, List.length_nil]
    omega
theorem riseFrom_small (at_ : Int → Int) (n : Nat) : ∀ (m : Nat) (out : List (List Int)) (v : Int), Small out m → Small (riseFrom at_ n out v) (m + n) := by
  induction n with
  | zero => intro m out v h; exact h
  | succ n ih =>
    intro m out v h
    rw [riseFrom]
    have e : m + (n + 1) = (m + 1) + n := by omega
    rw [e]
    by_cases c : v = 0 ∨ at_ v < at_ (v - 1)
    · rw [if_pos c]; exact ih _ _ _ (h.new v)
    · rw [if_neg c]; exact ih _ _ _ (h.more v)
theorem rising_small (a : List Int) : Small (rising a) 12 := by
  unfold rising
  by_cases h : permOk a = true
  · rw [if_pos h]
    have h3 := ((permOk_iff a).1 h).2.2
    have hs := riseFrom_small (fun v => rd (inverse a) v) a.length 0 [] 0 ⟨by simp, by simp⟩
    refine ⟨by have := hs.1; omega, fun l hl => by have := hs.2 l hl; omega⟩
  · rw [if_neg h]
    exact ⟨by simp, by simp⟩
theorem set_new (out : List (List Int)) (v : Int) : (out ++ [[]]).set out.length (((out ++ [[]]).getD out.length []) ++ [v]) = out ++ [[v]] := by simp

def fillRow {α : Type} (v : α) : List α → List Int → List α
  | m, [] => m
  | m, x :: r => fillRow v (m.set x.toNat v) r
def fillAll {α : Type} (g : Nat → α) : Nat → List α → List (List Int) → List α
  | _, m, [] => m
  | i, m, l :: r => fillAll g (i + 1) (fillRow (g i) m l) r
theorem fillRow_length {α : Type} (v : α) (r : List Int) : ∀ m : List α, (fillRow v m r).length = m.length := by
  induction r with
  | nil => intro m; rfl
  | cons x r ih => intro m; rw [fillRow, ih, List.length_set]
theorem fillAll_length {α : Type} (g : Nat → α) (r : List (List Int)) : ∀ (i : Nat) (m : List α), (fillAll g i m r).length = m.length := by
  induction r with
  | nil => intro i m; rfl
  | cons l r ih => intro i m; rw [fillAll, ih, fillRow_length]
theorem fillRow_map {α β : Type} (h : α → β) (v : α) (r : List Int) : ∀ m : List α, (fillRow v m r).map h = fillRow (h v) (m.map h) r := by
  induction r with
  | nil => intro m; rfl
  | cons x r ih => intro m; rw [fillRow, ih, fillRow, List.map_set]
theorem fillAll_map {α β : Type} (h : α → β) (g : Nat → α) (r : List (List Int)) : ∀ (i : Nat) (m : List α), (fillAll g i m r).map h = fillAll (fun j => h (g j)) i (m.map h) r := by
  induction r with
  | nil => intro i m; rfl
  | cons l r ih => intro i m; rw [fillAll, ih, fillAll, fillRow_map]
/-- For each card the index of its rising sequence. -/
def partsOf (a : List Int) : List Int := fillAll (fun i => (i : Int)) 0 (List.replicate a.length 0) (rising a)
def oddOf (a : List Int) : List Bool := fillAll (fun i => Int.tmod (i : Int) 2 == 1) 0 (List.replicate a.length false) (rising a)
theorem oddOf_parts (a : List Int) : oddOf a = (partsOf a).map (fun p => Int.tmod p 2 == 1) := by
  rw [partsOf, fillAll_map, List.map_replicate]
  rfl
theorem partsOf_length (a : List Int) : (partsOf a).length = a.length := by rw [partsOf, fillAll_length, List.length_replicate]
theorem oddOf_length (a : List Int) : (oddOf a).length = a.length := by rw [oddOf, fillAll_length, List.length_replicate]
theorem fillRow_mem {α : Type} (v : α) (r : List Int) : ∀ (m : List α) (y : α), y ∈ fillRow v m r → y = v ∨ y ∈ m := by
  induction r with
  | nil => intro m y h; exact .inr h
  | cons x r ih =>
    intro m y h
    rcases ih _ y h with h | h
    · exact .inl h
    · rcases List.mem_or_eq_of_mem_set h with h | h
      · exact .inr h
      · exact .inl h
theorem fillAll_mem {α : Type} (g : Nat → α) (r : List (List Int)) : ∀ (i : Nat) (m : List α) (y : α), y ∈ fillAll g i m r → y ∈ m ∨ ∃ j, i ≤ j ∧ j < i + r.length ∧ y = g j := by
  induction r with
  | nil => intro i m y h; exact .inl h
  | cons l r ih =>
    intro i m y h
    rcases ih _ _ y h with h | ⟨j, h1, h2, h3⟩
    · rcases fillRow_mem _ _ _ _ h with h | h
      · exact .inr ⟨i, Nat.le_refl _, by simp, h⟩
      · exact .inl h
    · exact .inr ⟨j, by omega, by simp; omega, h3⟩
theorem partsOf_bound (a : List Int) : ∀ y ∈ partsOf a, 0 ≤ y ∧ y ≤ 12 := by
  intro y h
  have hs := (rising_small a).1
  rcases fillAll_mem _ _ _ _ _ h with h | ⟨j, h1, h2, h3⟩
  · have := List.eq_of_mem_replicate h; omega
  · omega
/-- Whether a card's rising sequence has an odd index. -/
def oddAt (a : List Int) (x : Int) : Bool := Int.tmod (rd (partsOf a) x) 2 == 1
theorem oddAt_odd {a : List Int} {x : Int} (h0 : 0 ≤ x) (h1 : x < a.length) : rdOf false (oddOf a) x = oddAt a x := by
  have hl := partsOf_length a
  have hn : x.toNat < (partsOf a).length := by omega
  have e : rdOf false ((partsOf a).map (fun p => Int.tmod p 2 == 1)) x = (Int.tmod ((partsOf a)[x.toNat]) 2 == 1) := by
    simp [rdOf, hn]
  have e2 : rd (partsOf a) x = (partsOf a)[x.toNat] := by
    have := rd_lt (xs := partsOf a) (i := x.toNat) hn
    rwa [Int.toNat_of_nonneg h0] at this
  rw [oddOf_parts, e, oddAt, e2]
theorem parts_two {a : List Int} {x : Int} (h0 : 0 ≤ x) (h1 : x < a.length) : Int.tmod (rd (partsOf a) x) 2 = if oddAt a x = true then 1 else 0 := by
  have hl := partsOf_length a
  have hn : x.toNat < (partsOf a).length := by omega
  have e2 : rd (partsOf a) x = (partsOf a)[x.toNat] := by
    have := rd_lt (xs := partsOf a) (i := x.toNat) hn
    rwa [Int.toNat_of_nonneg h0] at this
  have hb := partsOf_bound a _ (List.getElem_mem hn)
  unfold oddAt
  rw [e2, Int.tmod_eq_emod_of_nonneg hb.1]
  by_cases c : (partsOf a)[x.toNat] % 2 = 1
  · rw [c]; rfl
  · have : (partsOf a)[x.toNat] % 2 = 0 := by omega
    rw [this]; rfl
/-- The permutation before the last riffle. -/
def beforeP (a : List Int) : List Int := a.filter (fun x => !oddAt a x) ++ a.filter (fun x => oddAt a x)
theorem filter_two_perm (p : Int → Bool) (l : List Int) : (l.filter (fun x => !p x) ++ l.filter p).Perm l := by
  induction l with
  | nil => exact List.Perm.refl _
  | cons x l ih =>
    cases h : p x with
    | true =>
      rw [List.filter_cons_of_neg (by simp [h]), List.filter_cons_of_pos h]
      exact List.perm_middle.trans (List.Perm.cons x ih)
    | false =>
      rw [List.filter_cons_of_pos (by simp [h]), List.filter_cons_of_neg (by simp [h])]
      exact List.Perm.cons x ih
theorem beforeP_perm (a : List Int) : (beforeP a).Perm a := filter_two_perm _ a
theorem beforeP_length (a : List Int) : (beforeP a).length = a.length := (beforeP_perm a).length_eq
theorem permOk_perm {a b : List Int} (h : b.Perm a) (ha : permOk a = true) : permOk b = true := by
  obtain ⟨p1, p2, p3⟩ := (permOk_iff a).1 ha
  have hl := h.length_eq
  exact (permOk_iff b).2 ⟨fun x hx => by rw [hl]; exact p1 x (h.mem_iff.1 hx), h.nodup_iff.2 p2, by omega⟩
theorem riseFrom_range (at_ : Int → Int) (n : Nat) : ∀ (d : Nat) (out : List (List Int)) (v : Int), 0 ≤ v → v + d ≤ n → (∀ l ∈ out, ∀ x ∈ l, 0 ≤ x ∧ x < n) → ∀ l ∈ riseFrom at_ d out v, ∀ x ∈ l, 0 ≤ x ∧ x < n := by
  intro d
  induction d with
  | zero => intro out v _ _ h; exact h
  | succ d ih =>
    intro out v h0 h1 h
    rw [riseFrom]
    refine ih _ _ (by omega) (by omega) ?_
    intro l hl x hx
    split at hl
    · rcases List.mem_append.1 hl with hl | hl
      · exact h l hl x hx
      · rw [List.mem_singleton.1 hl] at hx; rw [List.mem_singleton.1 hx]; omega
    · rcases List.mem_or_eq_of_mem_set hl with hl | hl
      · exact h l hl x hx
      · rw [hl] at hx
        rcases List.mem_append.1 hx with hx | hx
        · by_cases hq : out.length - 1 < out.length
          · have e : out.getD (out.length - 1) [] = out[out.length - 1] := by simp [hq]
            rw [e] at hx
            exact h _ (List.getElem_mem hq) x hx
          · have e : out = [] := List.eq_nil_of_length_eq_zero (by omega)
            subst e
            simp at hx
        · rw [List.mem_singleton.1 hx]; omega
theorem rising_range (a : List Int) : ∀ l ∈ rising a, ∀ x ∈ l, 0 ≤ x ∧ x < a.length := by
  unfold rising
  by_cases h : permOk a = true
  · rw [if_pos h]
    exact riseFrom_range _ a.length a.length [] 0 (by omega) (by omega) (by simp)
  · rw [if_neg h]; simp

/-- The least k with 2 to the power of k at least r, for r to 16. -/
def leastOf (r : Int) : Int := if 1 < r then (if 2 < r then (if 4 < r then (if 8 < r then 4 else 3) else 2) else 1) else 0
def leastRiffles (a : List Int) : Int := if permOk a = true ∧ ¬ a.length = 0 then leastOf (rising a).length else -1

def unS : Nat → List (List Int) → List (List Int)
  | 0, out => out
  | d + 1, out => unS d (beforeP (out.headD []) :: out)
def unshuffleTo (a : List Int) : List (List Int) × Bool := if permOk a = true ∧ ¬ a.length = 0 then (unS (leastRiffles a).toNat [a], true) else ([], false)
theorem leastOf_bound (r : Int) : 0 ≤ leastOf r ∧ leastOf r ≤ 4 := by unfold leastOf; repeat' split <;> omega
theorem unS_small (n : Nat) : ∀ (d : Nat) (out : List (List Int)), (∀ l ∈ out, l.length ≤ n) → (unS d out).length = out.length + d ∧ ∀ l ∈ unS d out, l.length ≤ n := by
  intro d
  induction d with
  | zero => intro out h; exact ⟨rfl, h⟩
  | succ d ih =>
    intro out h
    rw [unS]
    have := ih (beforeP (out.headD []) :: out) (fun l hl => by
      rcases List.mem_cons.1 hl with rfl | hl
      · rw [beforeP_length]
        cases out with
        | nil => simp
        | cons x out => exact h x (by simp)
      · exact h l hl)
    refine ⟨by rw [this.1, List.length_cons]; omega, this.2⟩
theorem unshuffleTo_small (a : List Int) : (unshuffleTo a).1.length ≤ 5 ∧ ∀ l ∈ (unshuffleTo a).1, l.length ≤ 12 := by
  unfold unshuffleTo
  by_cases h : permOk a = true ∧ ¬ a.length = 0
  · rw [if_pos h]
    have h3 := ((permOk_iff a).1 h.1).2.2
    have hb := leastOf_bound (rising a).length
    have hs := unS_small 12 (leastRiffles a).toNat [a] (fun l hl => by rw [List.mem_singleton.1 hl]; exact h3)
    refine ⟨?_, hs.2⟩
    rw [hs.1]
    unfold leastRiffles
    rw [if_pos h, List.length_singleton]
    omega
  · rw [if_neg h]; simp

theorem cardOf_small {x : Int} (h0 : 0 ≤ x) (h1 : x < 12) : cardOf x = x := by unfold cardOf; rw [if_pos h0, if_pos (by omega)]

theorem positionOf_perm {a : List Int} (h : permOk a = true) (v : Int) (h0 : 0 ≤ v) (h1 : v < a.length) : positionOf a v = rd (inverse a) v := by
  obtain ⟨p1, p2, p3⟩ := (permOk_iff a).1 h
  obtain ⟨j, hj, e, e'⟩ := perm_at p1 p2 v h0 h1
  have hc : ∀ (m : Nat) (hm : m < a.length), cardOf (a[m]) = a[m] := fun m hm => by have := p1 _ (List.getElem_mem hm); exact cardOf_small this.1 (by omega)
  unfold positionOf
  rw [if_pos h0, e', posFrom_get v a 0 j hj (by rw [hc, e]) (fun m hm hl he => ?_)]
  · omega
  · rw [hc, ← e] at he
    have := nodup_inj p2 m j hm hj he
    omega
theorem inverse_ne {a : List Int} (h : permOk a = true) (v u : Int) (h0 : 0 ≤ v) (h1 : v < a.length) (g0 : 0 ≤ u) (g1 : u < a.length) (hne : v ≠ u) : rd (inverse a) v ≠ rd (inverse a) u := by
  obtain ⟨p1, p2, p3⟩ := (permOk_iff a).1 h
  obtain ⟨j, hj, e, e'⟩ := perm_at p1 p2 v h0 h1
  obtain ⟨i, hi, f, f'⟩ := perm_at p1 p2 u g0 g1
  intro q
  rw [e', f'] at q
  have : j = i := by omega
  subst this
  exact hne (e.symm.trans f)

def isRiffle (a : List Int) : Bool := permOk a && decide ((rising a).length ≤ 2)
def splitOf (a : List Int) : Int := if (rising a).length = 2 then ((rising a).getD 0 []).length else -1
def riffleWays (a : List Int) : Int := if isRiffle a = true then (if (rising a).length = 2 then 1 else (a.length : Int) + 1) else 0

def pktFrom : List Int → List Int → Bool
  | _, [] => true
  | seen, x :: r => decide (0 ≤ cardOf x) && (!decide (cardOf x ∈ seen) && pktFrom (seen ++ [cardOf x]) r)
/-- A packet: at most twelve cards, all different. -/
def packetOk (l : List Int) : Bool := pktFrom [] l
theorem pktFrom_iff (r : List Int) : ∀ seen, pktFrom seen r = true ↔ (∀ x ∈ r, 0 ≤ cardOf x) ∧ (r.map cardOf).Nodup ∧ (∀ x ∈ r, cardOf x ∉ seen) := by
  induction r with
  | nil => intro seen; simp [pktFrom]
  | cons x r ih =>
    intro seen
    simp only [pktFrom, Bool.and_eq_true, decide_eq_true_eq, Bool.not_eq_true', decide_eq_false_iff_not, ih, List.mem_cons, forall_eq_or_imp, List.map_cons, List.nodup_cons, List.mem_append, List.not_mem_nil, or_false, not_or, List.mem_map]
    constructor
    · rintro ⟨h1, h2, h3, h4, h5⟩
      exact ⟨⟨h1, h3⟩, ⟨fun ⟨y, hy, e⟩ => (h5 y hy).2 e, h4⟩, h2, fun y hy => (h5 y hy).1⟩
    · rintro ⟨⟨h1, h3⟩, ⟨h6, h4⟩, h2, h5⟩
      exact ⟨h1, h2, h3, h4, fun y hy => ⟨h5 y hy, fun e => h6 ⟨y, hy, e⟩⟩⟩
theorem packetOk_iff (l : List Int) : packetOk l = true ↔ (∀ x ∈ l, 0 ≤ cardOf x) ∧ (l.map cardOf).Nodup := by
  unfold packetOk
  rw [pktFrom_iff]
  simp
theorem cardOf_le (x : Int) : -1 ≤ cardOf x ∧ cardOf x ≤ 11 := by
  unfold cardOf
  split <;> split <;> omega
theorem packetOk_length {l : List Int} (h : packetOk l = true) : l.length ≤ 12 := by
  obtain ⟨h1, h2⟩ := (packetOk_iff l).1 h
  have := nodup_le (l.map cardOf) (upFrom 0 12) h2 (fun y hy => by
    obtain ⟨x, hx, rfl⟩ := List.mem_map.1 hy
    rw [upFrom_mem]
    have := h1 x hx
    have := cardOf_le x
    omega)
  rw [upFrom_length, List.length_map] at this
  exact this

/-- Do two packets hold the same cards? -/
def isArrangement (l b : List Int) : Bool := packetOk l && (packetOk b && (decide (l.length = b.length) && l.all fun x => !decide (positionOf b (cardOf x) < 0)))
def permBetween (l b : List Int) : List Int × Bool := if isArrangement l b = true then (b.map fun x => positionOf l (cardOf x), true) else ([], false)
theorem isArrangement_ok {l b : List Int} (h : isArrangement l b = true) : packetOk l = true ∧ packetOk b = true ∧ l.length = b.length := by
  simp only [isArrangement, Bool.and_eq_true, decide_eq_true_eq] at h
  exact ⟨h.1, h.2.1, h.2.2.1⟩
theorem permBetween_length (l b : List Int) : (permBetween l b).1.length ≤ 12 := by
  unfold permBetween
  by_cases h : isArrangement l b = true
  · rw [if_pos h, List.length_map]; exact packetOk_length (isArrangement_ok h).2.1
  · rw [if_neg h]; simp

/-! ### unshuffles0: what dividing a permutation by its rising sequences does -/
/-- The number of falls among the places of 0 .. v. -/
def falls (at_ : Int → Int) : Nat → Nat
  | 0 => 0
  | v + 1 => falls at_ v + (if at_ ((v + 1 : Nat) : Int) < at_ (v : Int) then 1 else 0)
structure RiseInv (at_ : Int → Int) (out : List (List Int)) (v : Nat) : Prop where
  inn : ∀ u, u < v → ∃ l, out[falls at_ u]? = some l ∧ (u : Int) ∈ l
  only : ∀ (j : Nat) (l : List Int), out[j]? = some l → ∀ x ∈ l, ∃ u : Nat, u < v ∧ x = (u : Int) ∧ falls at_ u = j
  len : 0 < v → out.length = falls at_ (v - 1) + 1
  none : v = 0 → out = []
theorem RiseInv.step {at_ : Int → Int} {out : List (List Int)} {v : Nat} (h : RiseInv at_ out v) : RiseInv at_ (if (v : Int) = 0 ∨ at_ (v : Int) < at_ ((v : Int) - 1) then out ++ [[(v : Int)]] else addLast out v) (v + 1) := by
  by_cases c : (v : Int) = 0 ∨ at_ (v : Int) < at_ ((v : Int) - 1)
  · rw [if_pos c]
    have hf : falls at_ v = out.length := by
      by_cases hv : v = 0
      · subst hv; rw [h.none rfl]; rfl
      · obtain ⟨u, rfl⟩ : ∃ u, v = u + 1 := ⟨v - 1, by omega⟩
        have hl := h.len (by omega)
        have hc : at_ ((u + 1 : Nat) : Int) < at_ (u : Int) := by
          rcases c with c | c
          · omega
          · rw [show ((u + 1 : Nat) : Int) - 1 = (u : Int) by omega] at c; exact c
        rw [falls, if_pos hc, hl]
        rfl
    refine ⟨fun u hu => ?_, fun j l hj x hx => ?_, fun _ => ?_, fun h0 => by omega⟩
    · by_cases e : u = v
      · subst e; exact ⟨[(u : Int)], by rw [hf]; simp, by simp⟩
      · obtain ⟨l, h1, h2⟩ := h.inn u (by omega)
        exact ⟨l, by rw [List.getElem?_append_left (List.getElem?_eq_some_iff.1 h1).1]; exact h1, h2⟩
    · by_cases hj2 : j < out.length
      · rw [List.getElem?_append_left hj2] at hj
        obtain ⟨u, h1, h2⟩ := h.only j l hj x hx
        exact ⟨u, by omega, h2⟩
      · rw [List.getElem?_append_right (by omega)] at hj
        have hz : j - out.length = 0 := by
          apply Decidable.byContradiction
          intro hne
          rw [List.getElem?_eq_none (by simp; omega)] at hj
          cases hj
        rw [hz] at hj
        simp at hj
        subst hj
        exact ⟨v, by omega, by simpa using hx, by omega⟩
    · rw [List.length_append, List.length_singleton, Nat.add_sub_cancel, hf]
  · rw [if_neg c]
    have hv : v ≠ 0 := fun e => c (.inl (by omega))
    obtain ⟨u0, rfl⟩ : ∃ u, v = u + 1 := ⟨v - 1, by omega⟩
    have hl := h.len (by omega)
    rw [Nat.add_sub_cancel] at hl
    have hc : ¬ at_ ((u0 + 1 : Nat) : Int) < at_ (u0 : Int) := fun h' => c (.inr (by rw [show ((u0 + 1 : Nat) : Int) - 1 = (u0 : Int) by omega]; exact h'))
    have hf : falls at_ (u0 + 1) = out.length - 1 := by rw [falls, if_neg hc, hl]; omega
    have hq : out.length - 1 < out.length := by omega
    have hg : out.getD (out.length - 1) [] = out[out.length - 1] := by simp [hq]
    unfold addLast
    rw [hg]
    refine ⟨fun u hu => ?_, fun j l hj x hx => ?_, fun _ => ?_, fun h0 => by omega⟩
    · by_cases e : u = u0 + 1
      · subst e
        exact ⟨_, by rw [hf, List.getElem?_set_self hq], by simp⟩
      · obtain ⟨l, h1, h2⟩ := h.inn u (by omega)
        by_cases e2 : falls at_ u = out.length - 1
        · rw [e2, List.getElem?_eq_getElem hq] at h1
          injection h1 with h1
          exact ⟨_, by rw [e2, List.getElem?_set_self hq], by rw [h1]; simp [h2]⟩
        · exact ⟨l, by rw [List.getElem?_set_ne (fun e => e2 e.symm)]; exact h1, h2⟩
    · by_cases e : j = out.length - 1
      · subst e
        rw [List.getElem?_set_self hq] at hj
        injection hj with hj
        rw [← hj] at hx
        rcases List.mem_append.1 hx with hx | hx
        · obtain ⟨u, h1, h2⟩ := h.only _ _ (List.getElem?_eq_getElem hq) x hx
          exact ⟨u, by omega, h2⟩
        · exact ⟨u0 + 1, by omega, by simpa using hx, hf⟩
      · rw [List.getElem?_set_ne (fun e' => e e'.symm)] at hj
        obtain ⟨u, h1, h2⟩ := h.only j l hj x hx
        exact ⟨u, by omega, h2⟩
    · rw [List.length_set, Nat.add_sub_cancel, hf]
      omega
theorem riseFrom_inv (at_ : Int → Int) : ∀ (d v : Nat) (out : List (List Int)), RiseInv at_ out v → RiseInv at_ (riseFrom at_ d out (v : Int)) (v + d) := by
  intro d
  induction d with
  | zero => intro v out h; exact h
  | succ d ih =>
    intro v out h
    rw [riseFrom]
    have := ih (v + 1) _ h.step
    rw [show v + 1 + d = v + (d + 1) by omega] at this
    exact this
def placeOf (a : List Int) (v : Int) : Int := rd (inverse a) v
theorem rising_inv {a : List Int} (h : permOk a = true) : RiseInv (placeOf a) (rising a) a.length := by
  have h0 : RiseInv (placeOf a) [] 0 := ⟨fun u hu => by omega, fun j l hj => by simp at hj, fun h => by omega, fun _ => rfl⟩
  have := riseFrom_inv (placeOf a) a.length 0 [] h0
  rw [Nat.zero_add] at this
  unfold rising
  rw [if_pos h]
  exact this
theorem rd_fillRow {v : Int} : ∀ (r : List Int) (m : List Int) (u : Int), 0 ≤ u → u < m.length → (∀ x ∈ r, 0 ≤ x) → rd (fillRow v m r) u = if u ∈ r then v else rd m u := by
  intro r
  induction r with
  | nil => intro m u _ _ _; simp [fillRow]
  | cons x r ih =>
    intro m u h0 h1 hx
    rw [fillRow, ih _ _ h0 (by simpa using h1) (fun y hy => hx y (by simp [hy]))]
    by_cases c : u ∈ r
    · rw [if_pos c, if_pos (by simp [c])]
    · rw [if_neg c]
      by_cases e : u = x
      · subst e; rw [rd_set_eq h0 h1, if_pos (by simp)]
      · rw [rd_set_ne (hx x (by simp)) h0 (fun e' => e e'.symm), if_neg (by simp [c, e])]
theorem rd_fillAll : ∀ (r : List (List Int)) (i : Nat) (m : List Int) (u : Int) (j : Nat), 0 ≤ u → u < m.length → (∀ l ∈ r, ∀ x ∈ l, 0 ≤ x) → (∃ l, r[j]? = some l ∧ u ∈ l) → (∀ j' l, r[j']? = some l → u ∈ l → j' = j) → rd (fillAll (fun i => (i : Int)) i m r) u = ((i + j : Nat) : Int) := by
  have keep : ∀ (r : List (List Int)) (i : Nat) (m : List Int) (u : Int), 0 ≤ u → u < m.length → (∀ l ∈ r, ∀ x ∈ l, 0 ≤ x) → (∀ l ∈ r, u ∉ l) → rd (fillAll (fun i => (i : Int)) i m r) u = rd m u := by
    intro r
    induction r with
    | nil => intro i m u _ _ _ _; rfl
    | cons l r ih =>
      intro i m u h0 h1 hx hn
      rw [fillAll, ih _ _ _ h0 (by rw [fillRow_length]; exact h1) (fun l' hl' => hx l' (by simp [hl'])) (fun l' hl' => hn l' (by simp [hl'])), rd_fillRow _ _ _ h0 h1 (hx l (by simp)), if_neg (hn l (by simp))]
  intro r
  induction r with
  | nil => intro i m u j _ _ _ ⟨l, hl, _⟩; simp at hl
  | cons l r ih =>
    intro i m u j h0 h1 hx ⟨l', hl', hu⟩ hone
    rw [fillAll]
    cases j with
    | zero =>
      rw [keep r _ _ u h0 (by rw [fillRow_length]; exact h1) (fun l' hl' => hx l' (by simp [hl'])) (fun l2 hl2 hu2 => by
        obtain ⟨q, hq, e⟩ := List.getElem_of_mem hl2
        have := hone (q + 1) l2 (by rw [List.getElem?_cons_succ, List.getElem?_eq_getElem hq, e]) hu2
        omega)]
      rw [List.getElem?_cons_zero] at hl'
      injection hl' with hl'
      subst hl'
      rw [rd_fillRow _ _ _ h0 h1 (hx l (by simp)), if_pos hu]
      rfl
    | succ j =>
      rw [List.getElem?_cons_succ] at hl'
      rw [ih (i + 1) _ u j h0 (by rw [fillRow_length]; exact h1) (fun l' hl' => hx l' (by simp [hl'])) ⟨l', hl', hu⟩ (fun j' l2 h2 hu2 => by have := hone (j' + 1) l2 (by rw [List.getElem?_cons_succ]; exact h2) hu2; omega)]
      congr 1
      omega
theorem parts_falls {a : List Int} (h : permOk a = true) (u : Nat) (hu : u < a.length) : rd (partsOf a) (u : Int) = (falls (placeOf a) u : Int) := by
  have hi := rising_inv h
  have := rd_fillAll (rising a) 0 (List.replicate a.length 0) (u : Int) (falls (placeOf a) u) (by omega) (by simp; omega) (fun l hl x hx => (rising_range a l hl x hx).1) (hi.inn u hu) (fun j' l hl hx => by
    obtain ⟨u', _, e, e2⟩ := hi.only j' l hl _ hx
    have : u' = u := by omega
    rw [← this]; exact e2.symm)
  rw [Nat.zero_add] at this
  exact this
theorem rising_count {a : List Int} (h : permOk a = true) (hn : 0 < a.length) : (rising a).length = falls (placeOf a) (a.length - 1) + 1 := (rising_inv h).len hn
theorem oddAt_falls {a : List Int} (h : permOk a = true) (u : Nat) (hu : u < a.length) : oddAt a (u : Int) = decide (falls (placeOf a) u % 2 = 1) := by
  unfold oddAt
  rw [parts_falls h u hu, Int.tmod_eq_emod_of_nonneg (by omega), Bool.eq_iff_iff]
  simp only [beq_iff_eq, decide_eq_true_eq]
  omega
theorem place_get {a : List Int} (h : permOk a = true) (j : Nat) (hj : j < a.length) : placeOf a a[j] = j := by
  obtain ⟨p1, p2, p3⟩ := (permOk_iff a).1 h
  exact inverse_get p1 p2 j hj
theorem place_ex {a : List Int} (h : permOk a = true) (v : Int) (h0 : 0 ≤ v) (h1 : v < a.length) : ∃ j : Nat, ∃ hj : j < a.length, a[j] = v ∧ placeOf a v = j := by
  obtain ⟨p1, p2, p3⟩ := (permOk_iff a).1 h
  exact perm_at p1 p2 v h0 h1
/-- In the order of their places. -/
theorem places_up {a : List Int} (h : permOk a = true) : a.Pairwise (fun u v => placeOf a u < placeOf a v) := by
  rw [List.pairwise_iff_getElem]
  intro i j hi hj hij
  rw [place_get h i hi, place_get h j hj]
  omega
theorem before_even {a : List Int} (h : permOk a = true) (u v : Int) (hu : u ∈ a) (hv : v ∈ a) (e : oddAt a u = oddAt a v) (hlt : placeOf a u < placeOf a v) : placeOf (beforeP a) u < placeOf (beforeP a) v := by
  have hb := permOk_perm (beforeP_perm a) h
  have key : ∀ (E pre post : List Int), beforeP a = pre ++ E ++ post → E.Pairwise (fun u v => placeOf a u < placeOf a v) → u ∈ E → v ∈ E → placeOf (beforeP a) u < placeOf (beforeP a) v := by
    intro E pre post he hp hu hv
    obtain ⟨i, hi, ei⟩ := List.getElem_of_mem hu
    obtain ⟨j, hj, ej⟩ := List.getElem_of_mem hv
    have hat : ∀ (i : Nat) (hi : i < E.length), placeOf (beforeP a) E[i] = ((pre.length + i : Nat) : Int) := fun i hi => by
      have hl : pre.length + i < (beforeP a).length := by rw [he]; simp; omega
      have e2 : (beforeP a)[pre.length + i] = E[i] := by
        have : (pre ++ E ++ post)[pre.length + i]'(by simp; omega) = E[i] := by
          rw [List.getElem_append_left (by simp; omega), List.getElem_append_right (by omega)]
          simp
        simpa only [he] using this
      rw [← e2]
      exact place_get hb _ hl
    rw [← ei, ← ej, hat i hi, hat j hj]
    have hij : i < j := by
      rcases Nat.lt_trichotomy i j with c | c | c
      · exact c
      · subst c; rw [ei] at ej; rw [ej] at hlt; omega
      · have := List.pairwise_iff_getElem.1 hp j i hj hi c
        rw [ei, ej] at this
        omega
    omega
  cases c : oddAt a u with
  | false =>
    rw [c] at e
    exact key (a.filter (fun x => !oddAt a x)) [] (a.filter (fun x => oddAt a x)) rfl ((places_up h).filter _) (List.mem_filter.2 ⟨hu, by simp [c]⟩) (List.mem_filter.2 ⟨hv, by simp [← e]⟩)
  | true =>
    rw [c] at e
    exact key (a.filter (fun x => oddAt a x)) (a.filter (fun x => !oddAt a x)) [] (by simp [beforeP]) ((places_up h).filter _) (List.mem_filter.2 ⟨hu, c⟩) (List.mem_filter.2 ⟨hv, e.symm⟩)
theorem app_at (E O : List Int) (j : Nat) (hj : j < O.length) (h : E.length + j < (E ++ O).length) : (E ++ O)[E.length + j] = O[j] := by
  rw [List.getElem_append_right (by omega)]
  congr 1
  omega
theorem before_cross {a : List Int} (h : permOk a = true) (u v : Int) (hu : u ∈ a) (hv : v ∈ a) (cu : oddAt a u = false) (cv : oddAt a v = true) : placeOf (beforeP a) u < placeOf (beforeP a) v := by
  have hb := permOk_perm (beforeP_perm a) h
  obtain ⟨i, hi, ei⟩ := List.getElem_of_mem (List.mem_filter.2 ⟨hu, by simp [cu]⟩ : u ∈ a.filter (fun x => !oddAt a x))
  obtain ⟨j, hj, ej⟩ := List.getElem_of_mem (List.mem_filter.2 ⟨hv, cv⟩ : v ∈ a.filter (fun x => oddAt a x))
  have e1 : placeOf (beforeP a) u = i := by
    have hl : i < (beforeP a).length := by unfold beforeP; rw [List.length_append]; omega
    have : (beforeP a)[i] = u := by rw [← ei]; exact List.getElem_append_left hi
    rw [← this]
    exact place_get hb i hl
  have e2 : placeOf (beforeP a) v = (((a.filter (fun x => !oddAt a x)).length + j : Nat) : Int) := by
    have hl : (a.filter (fun x => !oddAt a x)).length + j < (beforeP a).length := by unfold beforeP; rw [List.length_append]; omega
    have : (beforeP a)[(a.filter (fun x => !oddAt a x)).length + j] = v := by
      rw [← ej]
      exact app_at _ _ j hj hl
    rw [← this]
    exact place_get hb _ hl
  omega
theorem mem_perm {a : List Int} (h : permOk a = true) (u : Nat) (hu : u < a.length) : (u : Int) ∈ a := by
  obtain ⟨j, hj, e, _⟩ := place_ex h (u : Int) (by omega) (by omega)
  rw [← e]; exact List.getElem_mem hj
/-- Dividing halves the number of falls. -/
theorem falls_before {a : List Int} (h : permOk a = true) : ∀ v, v < a.length → falls (placeOf (beforeP a)) v = falls (placeOf a) v / 2 := by
  intro v
  induction v with
  | zero => intro _; simp [falls]
  | succ v ih =>
    intro hv
    have h1 := ih (by omega)
    have m1 := mem_perm h v (by omega)
    have m2 := mem_perm h (v + 1) hv
    have o1 := oddAt_falls h v (by omega)
    have o2 := oddAt_falls h (v + 1) hv
    have hne : placeOf a ((v + 1 : Nat) : Int) ≠ placeOf a (v : Int) := inverse_ne h _ _ (by omega) (by omega) (by omega) (by omega) (by omega)
    rw [falls, h1]
    by_cases c : placeOf a ((v + 1 : Nat) : Int) < placeOf a (v : Int)
    · have e : falls (placeOf a) (v + 1) = falls (placeOf a) v + 1 := by rw [falls, if_pos c]
      by_cases p : falls (placeOf a) v % 2 = 1
      · have := before_cross h ((v + 1 : Nat) : Int) (v : Int) m2 m1 (by rw [o2, e]; exact decide_eq_false (by omega)) (by rw [o1]; exact decide_eq_true p)
        rw [if_pos this, e]
        omega
      · have := before_cross h (v : Int) ((v + 1 : Nat) : Int) m1 m2 (by rw [o1]; exact decide_eq_false p) (by rw [o2, e]; exact decide_eq_true (by omega))
        rw [if_neg (by omega), e]
        omega
    · have e : falls (placeOf a) (v + 1) = falls (placeOf a) v := by rw [falls, if_neg c]; rfl
      have := before_even h (v : Int) ((v + 1 : Nat) : Int) m1 m2 (by rw [o1, o2, e]) (by omega)
      rw [if_neg (by omega), e]
      rfl
theorem rising_before {a : List Int} (h : permOk a = true) (hn : 0 < a.length) : (rising (beforeP a)).length = ((rising a).length - 1) / 2 + 1 := by
  have hb := permOk_perm (beforeP_perm a) h
  have hl := beforeP_length a
  rw [rising_count hb (by omega), rising_count h hn, hl, falls_before h _ (by omega)]
  rfl
theorem leastOf_half (r : Nat) (h1 : 2 ≤ r) (h2 : r ≤ 16) : leastOf ((r - 1) / 2 + 1 : Nat) = leastOf r - 1 := by
  have : ∀ r : Nat, r < 17 → 2 ≤ r → leastOf ((r - 1) / 2 + 1 : Nat) = leastOf r - 1 := by decide
  exact this r (by omega) h1
theorem falls_mono (at_ : Int → Int) (u v : Nat) (h : u ≤ v) : falls at_ u ≤ falls at_ v := by
  induction v with
  | zero => obtain rfl : u = 0 := by omega
            exact Nat.le_refl _
  | succ v ih =>
    by_cases c : u = v + 1
    · subst c; exact Nat.le_refl _
    · have := ih (by omega)
      rw [falls]
      omega
/-- One rising sequence: the identity. -/
theorem one_rising {a : List Int} (h : permOk a = true) (hn : 0 < a.length) (hr : (rising a).length = 1) : a = upFrom 0 a.length := by
  have hc := rising_count h hn
  have hz : ∀ v, v < a.length → falls (placeOf a) v = 0 := fun v hv => by have := falls_mono (placeOf a) v (a.length - 1) (by omega); omega
  have hup : ∀ v, v + 1 < a.length → placeOf a (v : Int) < placeOf a ((v + 1 : Nat) : Int) := fun v hv => by
    have hne : placeOf a ((v + 1 : Nat) : Int) ≠ placeOf a (v : Int) := inverse_ne h _ _ (by omega) (by omega) (by omega) (by omega) (by omega)
    have h1 := hz (v + 1) hv
    rw [falls] at h1
    by_cases c : placeOf a ((v + 1 : Nat) : Int) < placeOf a (v : Int)
    · rw [if_pos c] at h1; omega
    · omega
  have hge : ∀ v, v < a.length → (v : Int) ≤ placeOf a (v : Int) := by
    intro v
    induction v with
    | zero => intro hv; obtain ⟨j, _, _, e⟩ := place_ex h ((0 : Nat) : Int) (by omega) (by omega); omega
    | succ v ih => intro hv; have := ih (by omega); have := hup v hv; omega
  have hle : ∀ d v, v + d + 1 = a.length → placeOf a (v : Int) ≤ (v : Int) := by
    intro d
    induction d with
    | zero => intro v hv; obtain ⟨j, hj, _, e⟩ := place_ex h (v : Int) (by omega) (by omega); omega
    | succ d ih => intro v hv; have := ih (v + 1) (by omega); have := hup v (by omega); omega
  refine List.ext_getElem (by rw [upFrom_length]) (fun i h1 h2 => ?_)
  rw [upFrom_get]
  obtain ⟨j, hj, e1, e2⟩ := place_ex h (i : Int) (by omega) (by omega)
  have := hge i h1
  have := hle (a.length - 1 - i) i (by omega)
  have : j = i := by omega
  subst this
  rw [e1]; omega
theorem unS_cons : ∀ (d : Nat) (x : List Int) (out : List (List Int)), ∃ pre, unS d (x :: out) = pre ++ x :: out ∧ pre.length = d ∧ ∀ i (h : i + 1 < (pre ++ [x]).length), (pre ++ [x])[i] = beforeP ((pre ++ [x])[i + 1]) := by
  intro d
  induction d with
  | zero => intro x out; exact ⟨[], rfl, rfl, fun i h => by simp at h⟩
  | succ d ih =>
    intro x out
    obtain ⟨pre, e, hl, hb⟩ := ih (beforeP x) (x :: out)
    refine ⟨pre ++ [beforeP x], by rw [unS]; simpa using e, by simp [hl], fun i h => ?_⟩
    simp only [List.length_append, List.length_singleton] at h
    by_cases c : i + 1 < pre.length + 1
    · have h1 := hb i (by rw [List.length_append, List.length_singleton]; omega)
      have g1 : (pre ++ [beforeP x] ++ [x])[i] = (pre ++ [beforeP x])[i]'(by rw [List.length_append, List.length_singleton]; omega) := List.getElem_append_left _
      have g2 : (pre ++ [beforeP x] ++ [x])[i + 1] = (pre ++ [beforeP x])[i + 1]'(by rw [List.length_append, List.length_singleton]; omega) := List.getElem_append_left _
      rw [g1, g2, h1]
    · obtain rfl : i = pre.length := by omega
      rw [List.getElem_append_left (by simp), List.getElem_append_right (by omega), List.getElem_append_right (by simp)]
      simp
/-- As many steps as the rising sequences need lead to the identity. -/
theorem unS_head : ∀ (d : Nat) (x : List Int) (out : List (List Int)), permOk x = true → 0 < x.length → leastOf (rising x).length = (d : Int) → ((unS d (x :: out)).headD []) = upFrom 0 x.length := by
  intro d
  induction d with
  | zero =>
    intro x out h hn hk
    rw [unS]
    have hs := (rising_small x).1
    have hc := rising_count h hn
    refine one_rising h hn ?_
    apply Decidable.byContradiction
    intro hne
    have : ∀ r : Nat, r < 17 → 2 ≤ r → ¬ leastOf (r : Int) = 0 := by decide
    have hpos : 1 ≤ (rising x).length := by rw [hc]; exact Nat.le_add_left 1 _
    exact this (rising x).length (Nat.lt_of_le_of_lt hs (by decide)) (Nat.lt_of_le_of_ne hpos (fun e => hne e.symm)) hk
  | succ d ih =>
    intro x out h hn hk
    rw [unS]
    have hs := (rising_small x).1
    have hr2 : 2 ≤ (rising x).length := by
      have hc := rising_count h hn
      apply Decidable.byContradiction
      intro hlt
      have e : (rising x).length = 1 := by omega
      rw [e] at hk
      have : leastOf ((1 : Nat) : Int) = 0 := by decide
      omega
    have := ih (beforeP x) (x :: out) (permOk_perm (beforeP_perm x) h) (by rw [beforeP_length]; exact hn) (by rw [rising_before h hn, leastOf_half _ hr2 (by omega)]; omega)
    rw [beforeP_length] at this
    exact this
/-- The permutation from beforeP a to a. -/
def riffleOf (a : List Int) : List Int := a.map (fun x => placeOf (beforeP a) x)
theorem riffleOf_ok {a : List Int} (h : permOk a = true) : permOk (riffleOf a) = true := by
  obtain ⟨p1, p2, p3⟩ := (permOk_iff a).1 h
  have hb := permOk_perm (beforeP_perm a) h
  have hl := beforeP_length a
  have hrl : (riffleOf a).length = a.length := List.length_map ..
  rw [permOk_iff]
  refine ⟨?_, ?_, by omega⟩
  · intro z hz
    obtain ⟨x, hx, rfl⟩ := List.mem_map.1 hz
    obtain ⟨j, hj, _, e⟩ := place_ex hb x (p1 x hx).1 (by rw [hl]; exact (p1 x hx).2)
    rw [e, hrl]; omega
  · unfold List.Nodup riffleOf
    rw [List.pairwise_map]
    refine List.Pairwise.imp_of_mem ?_ p2
    intro x y hx hy hxy e
    obtain ⟨i, hi, e1, e2⟩ := place_ex hb x (p1 x hx).1 (by rw [hl]; exact (p1 x hx).2)
    obtain ⟨j, hj, f1, f2⟩ := place_ex hb y (p1 y hy).1 (by rw [hl]; exact (p1 y hy).2)
    rw [e2, f2] at e
    have : i = j := by omega
    subst this
    exact hxy (e1.symm.trans f1)
theorem place_riffle {a : List Int} (h : permOk a = true) (i : Nat) (hi : i < (beforeP a).length) : placeOf (riffleOf a) (i : Int) = placeOf a ((beforeP a)[i]) := by
  obtain ⟨p1, p2, p3⟩ := (permOk_iff a).1 h
  have hb := permOk_perm (beforeP_perm a) h
  have hm : (beforeP a)[i] ∈ a := (beforeP_perm a).mem_iff.1 (List.getElem_mem hi)
  obtain ⟨j, hj, e1, e2⟩ := place_ex h ((beforeP a)[i]) (p1 _ hm).1 (p1 _ hm).2
  have hrl : (riffleOf a).length = a.length := List.length_map ..
  have e3 : (riffleOf a)[j]'(by omega) = (i : Int) := by
    unfold riffleOf
    rw [List.getElem_map, e1]
    exact place_get hb i hi
  rw [e2, ← e3]
  exact place_get (riffleOf_ok h) j (by omega)
theorem riffleOf_riffle {a : List Int} (h : permOk a = true) (hn : 0 < a.length) : isRiffle (riffleOf a) = true := by
  have hr := riffleOf_ok h
  have hl := beforeP_length a
  have hrl : (riffleOf a).length = a.length := List.length_map ..
  have key : ∀ v, v < a.length → falls (placeOf (riffleOf a)) v ≤ if v < (a.filter (fun x => !oddAt a x)).length then 0 else 1 := by
    intro v
    induction v with
    | zero => intro _; exact Nat.zero_le _
    | succ v ih =>
      intro hv
      have h1 := ih (by omega)
      rw [falls, place_riffle h (v + 1) (by omega), place_riffle h v (by omega)]
      have hel : (beforeP a).length = (a.filter (fun x => !oddAt a x)).length + (a.filter (fun x => oddAt a x)).length := by unfold beforeP; rw [List.length_append]
      by_cases c1 : v + 1 < (a.filter (fun x => !oddAt a x)).length
      · rw [if_pos c1]
        rw [if_pos (by omega)] at h1
        have := List.pairwise_iff_getElem.1 ((places_up h).filter (fun x => !oddAt a x)) v (v + 1) (by omega) c1 (by omega)
        have g1 : (beforeP a)[v]'(by omega) = (a.filter (fun x => !oddAt a x))[v]'(by omega) := List.getElem_append_left (by omega)
        have g2 : (beforeP a)[v + 1]'(by omega) = (a.filter (fun x => !oddAt a x))[v + 1] := List.getElem_append_left c1
        rw [g1, g2, if_neg (by omega)]
        omega
      · rw [if_neg c1]
        by_cases c2 : v < (a.filter (fun x => !oddAt a x)).length
        · rw [if_pos c2] at h1
          split <;> omega
        · rw [if_neg c2] at h1
          have hp := List.pairwise_iff_getElem.1 ((places_up h).filter (fun x => oddAt a x)) (v - (a.filter (fun x => !oddAt a x)).length) (v + 1 - (a.filter (fun x => !oddAt a x)).length) (by omega) (by omega) (by omega)
          have g1 : (beforeP a)[v]'(by omega) = (a.filter (fun x => oddAt a x))[v - (a.filter (fun x => !oddAt a x)).length]'(by omega) := List.getElem_append_right (by omega)
          have g2 : (beforeP a)[v + 1]'(by omega) = (a.filter (fun x => oddAt a x))[v + 1 - (a.filter (fun x => !oddAt a x)).length]'(by omega) := List.getElem_append_right (by omega)
          rw [g1, g2, if_neg (by omega)]
          omega
  have h2 := key (a.length - 1) (by omega)
  have hc := rising_count hr (by omega)
  unfold isRiffle
  rw [hr, hc, hrl]
  simp only [Bool.true_and, decide_eq_true_eq]
  split at h2 <;> omega

theorem laws_same_loop (a b : List Int) (hab : a.length = b.length) (hl : a.length ≤ 9223372036854775806) : ∀ (r s pre qre : List Int), a = pre ++ r → b = qre ++ s → pre.length = qre.length →
    Ev (fun k => laws_same.l0 k b a (a.length : Int) (pre.length : Int)) (decide (r = s)) := by
  intro r
  induction r with
  | nil =>
    intro s pre qre h h' hp
    have e := lens h
    have e' := lens h'
    simp only [List.length_nil] at e
    have hs : s = [] := List.eq_nil_of_length_eq_zero (by omega)
    refine Ev.step (f := fun _ => some _) (fun k => ?_) (Ev.now _)
    simp only [laws_same.l0]
    rw [if_neg (by omega), hs]
    simp
  | cons x r ih =>
    intro s pre qre h h' hp
    have e := lens h
    have e' := lens h'
    simp only [List.length_cons] at e
    cases s with
    | nil => simp only [List.length_nil] at e'; omega
    | cons y s =>
      have hy := rd_mid' h'
      rw [← hp] at hy
      by_cases c : x = y
      · subst c
        have hi := ih s (pre ++ [x]) (qre ++ [x]) (snoc_eq h) (snoc_eq h') (by simp [hp])
        have ed : decide (x :: r = x :: s) = decide (r = s) := by simp
        rw [ed]
        refine Ev.step (fun k => ?_) hi
        simp only [laws_same.l0]
        rw [if_pos (by omega), if_pos (by omega), if_pos (by omega), if_pos (by omega), rd_mid' h, hy, if_pos rfl, snoc_len x (by omega)]
      · refine Ev.step (f := fun _ => some _) (fun k => ?_) (Ev.now _)
        simp only [laws_same.l0]
        rw [if_pos (by omega), if_pos (by omega), if_pos (by omega), if_pos (by omega), rd_mid' h, hy, if_neg c]
        simp [c]
theorem laws_same_ev (a b : List Int) (hl : a.length ≤ 9223372036854775806) : Ev (fun k => laws_same.f k a b) (decide (a = b)) := by
  unfold laws_same.f
  by_cases h : (a.length : Int) = (b.length : Int)
  · simp only [if_pos h]
    exact laws_same_loop a b (by omega) hl a b [] [] rfl rfl rfl
  · simp only [if_neg h]
    exact ev_some fun _ => by rw [decide_eq_false (fun e => h (by rw [e]))]

/-! ### slices.Index, slices.Contains -/
def findFrom (v : Int) : Int → List Int → Int
  | _, [] => -1
  | i, x :: r => if v = x then i else findFrom v (i + 1) r
theorem findFrom_nonneg (v : Int) (l : List Int) : ∀ i : Int, 0 ≤ i → (0 ≤ findFrom v i l ↔ v ∈ l) := by
  induction l with
  | nil => intro i hi; simp [findFrom]
  | cons x r ih =>
    intro i hi
    simp only [findFrom, List.mem_cons]
    by_cases c : v = x
    · rw [if_pos c]; simp [c, hi]
    · rw [if_neg c, ih (i + 1) (by omega)]; simp [c]
theorem slices_Index_loop (l : List Int) (v : Int) (hl : l.length ≤ 9223372036854775806) : ∀ (r pre : List Int), l = pre ++ r →
    Ev (fun k => slices_Index_int_int.l0 k l v (l.length : Int) (pre.length : Int)) (findFrom v pre.length r) := by
  intro r
  induction r with
  | nil =>
    intro pre h
    refine Ev.step (f := fun _ => some _) (fun k => ?_) (Ev.now _)
    subst h
    simp only [slices_Index_int_int.l0, findFrom]
    rw [if_neg (by simp)]
  | cons x r ih =>
    intro pre h
    have hlen : l.length = pre.length + (r.length + 1) := by rw [h]; simp
    have hx := rd_mid' h
    have e : ((pre ++ [x]).length : Int) = (pre.length : Int) + 1 := by simp
    simp only [findFrom]
    by_cases c : v = x
    · rw [if_pos c]
      refine Ev.step (f := fun _ => some _) (fun k => ?_) (Ev.now _)
      simp only [slices_Index_int_int.l0]
      rw [if_pos (by omega), if_pos (by omega), if_pos (by omega), hx, if_pos c]
    · rw [if_neg c, ← e]
      refine Ev.step (fun k => ?_) (ih (pre ++ [x]) (snoc_eq h))
      simp only [slices_Index_int_int.l0]
      rw [if_pos (by omega), if_pos (by omega), if_pos (by omega), hx, if_neg c, snoc_len x (by omega)]
theorem slices_Contains_ev (l : List Int) (v : Int) (hl : l.length ≤ 9223372036854775806) : Ev (fun k => slices_Contains_int_int.f k l v) (decide (v ∈ l)) := by
  unfold slices_Contains_int_int.f slices_Index_int_int.f
  refine Ev.bind (slices_Index_loop l v hl l [] rfl) (ev_some fun _ => ?_)
  have := findFrom_nonneg v l 0 (by omega)
  simp only [List.length_nil, Int.ofNat_zero, Option.some.injEq, decide_eq_decide]
  exact this

theorem impl_PermOk_loop (a : List Int) (ha : a.length ≤ 9223372036854775806) : ∀ (r pre : List Int), a = pre ++ r →
    Ev (fun k => impl_PermOk.l0 k a a (a.length : Int) (pre.length : Int)) (pokFrom a.length pre r && decide (a.length ≤ 12)) := by
  intro r
  induction r with
  | nil =>
    intro pre h
    refine Ev.step (f := fun _ => some _) (fun k => ?_) (Ev.now _)
    have hlen : a.length = pre.length := by rw [h]; simp
    simp only [impl_PermOk.l0, pokFrom, Bool.true_and]
    rw [if_neg (by omega)]
    simp; omega
  | cons x r ih =>
    intro pre h
    have hlen : a.length = pre.length + (r.length + 1) := by rw [h]; simp
    have hx := rd_mid' h
    have ht : a.take ((pre.length : Int).toNat) = pre := by rw [h]; simp
    by_cases c0 : x < 0
    · have e : pokFrom a.length pre (x :: r) = false := by simp only [pokFrom]; rw [decide_eq_false (by omega)]; rfl
      rw [e, Bool.false_and]
      refine Ev.step (f := fun _ => some _) (fun k => ?_) (Ev.now _)
      simp only [impl_PermOk.l0]
      rw [if_pos (by omega), if_pos (by omega), if_pos (by omega), hx, if_pos c0]
    by_cases c1 : x ≥ (a.length : Int)
    · have e : pokFrom a.length pre (x :: r) = false := by simp only [pokFrom]; rw [decide_eq_false (by omega)]; rfl
      rw [e, Bool.false_and]
      refine Ev.step (f := fun _ => some _) (fun k => ?_) (Ev.now _)
      simp only [impl_PermOk.l0]
      rw [if_pos (by omega), if_pos (by omega), if_pos (by omega), hx, if_neg c0, if_pos c1]
    refine Ev.step (f := fun k => (slices_Contains_int_int.f k pre x).bind fun t => if t = true then some false else impl_PermOk.l0 k a a (a.length : Int) ((pre ++ [x]).length : Int)) (fun k => ?_) ?_
    · simp only [impl_PermOk.l0]
      rw [if_pos (by omega), if_pos (by omega), if_pos (by omega), hx, if_neg c0, if_neg c1, if_pos (by omega), ht, snoc_len x (by omega)]
    · refine Ev.bind (slices_Contains_ev pre x (by omega)) ?_
      by_cases c2 : x ∈ pre
      · have e : pokFrom a.length pre (x :: r) = false := by simp only [pokFrom]; simp [c2]
        rw [e, Bool.false_and]
        exact ev_some fun _ => by simp [c2]
      · have e : pokFrom a.length pre (x :: r) = pokFrom a.length (pre ++ [x]) r := by simp only [pokFrom]; rw [decide_eq_true (by omega)]; simp [c2]
        rw [e]
        simp only [c2, decide_false, Bool.false_eq_true, if_false]
        exact ih (pre ++ [x]) (snoc_eq h)
theorem impl_PermOk_ev (a : List Int) (ha : a.length ≤ 9223372036854775806) : Ev (fun k => impl_PermOk.f k a) (permOk a) := by
  unfold impl_PermOk.f permOk
  exact impl_PermOk_loop a ha a [] rfl

theorem impl_inverse_loop (a : List Int) (ha : a.length ≤ 9223372036854775806) : ∀ (r pre m : List Int), a = pre ++ r → (∀ x ∈ r, 0 ≤ x ∧ x < m.length) →
    Ev (fun k => impl_inverse.l0 k m a (a.length : Int) (pre.length : Int)) (invFrom m pre.length r) := by
  intro r
  induction r with
  | nil =>
    intro pre m h _
    have e := lens h
    simp only [List.length_nil] at e
    refine Ev.step (f := fun _ => some _) (fun k => ?_) (Ev.now _)
    simp only [impl_inverse.l0]
    rw [if_neg (by omega)]
    rfl
  | cons x r ih =>
    intro pre m h hp
    have e := lens h
    simp only [List.length_cons] at e
    have hx := hp x (by simp)
    have hi := ih (pre ++ [x]) (m.set x.toNat pre.length) (snoc_eq h) (fun z hz => by rw [List.length_set]; exact hp z (by simp [hz]))
    rw [snoc_cast] at hi
    refine Ev.step (fun k => ?_) hi
    simp only [impl_inverse.l0]
    rw [if_pos (by omega), if_pos (by omega), if_pos (by omega), rd_mid' h, if_pos hx.1, if_pos hx.2, w64 (by omega) (by omega)]
theorem impl_inverse_ev (a : List Int) (ha : a.length ≤ 17592186044415) (hp : ∀ x ∈ a, 0 ≤ x ∧ x < a.length) : Ev (fun k => impl_inverse.f k a) (inverse a) := by
  unfold impl_inverse.f inverse
  refine ev_ite_true (by omega) (ev_ite_true (by omega) ?_)
  simp only [Int.toNat_natCast]
  exact impl_inverse_loop a (by omega) a [] _ rfl (fun x hx => by simpa using hp x hx)

theorem impl_RisingSequences_loop (m : List Int) (n : Nat) (hm : m.length = n) (hn : n ≤ 12) : ∀ (d i : Nat) (out : List (List Int)), i + d = n → Small out i → (0 < i → 0 < out.length) →
    Ev (fun k => impl_RisingSequences.l0 k out m (n : Int) (i : Int)) (riseFrom (fun v => rd m v) d out (i : Int)) := by
  intro d
  induction d with
  | zero =>
    intro i out hi hs hp
    refine Ev.step (f := fun _ => some _) (fun k => ?_) (Ev.now _)
    simp only [impl_RisingSequences.l0]
    rw [if_neg (by omega)]
    rfl
  | succ d ih =>
    intro i out hi hs hp
    have hs1 := hs.1
    have hw : wrap64 ((i : Int) + 1) = ((i + 1 : Nat) : Int) := by rw [w64 (by omega) (by omega)]; omega
    have hlen : ((out ++ [[]]).length : Int) - 1 = out.length := by simp
    have hl1 : (out ++ [[]]).length = out.length + 1 := by simp
    have hrd : rd_L2 (out ++ [[]]) (out.length : Int) = [] := by simp [rd_L2]
    have hset : (out ++ [[]]).set ((out.length : Int)).toNat ([] ++ [(i : Int)]) = out ++ [[(i : Int)]] := by simp
    rw [riseFrom]
    by_cases c0 : i = 0
    · have hc : (i : Int) = 0 ∨ (fun v => rd m v) (i : Int) < (fun v => rd m v) ((i : Int) - 1) := .inl (by omega)
      rw [if_pos hc]
      have hi2 := ih (i + 1) (out ++ [[(i : Int)]]) (by omega) (hs.new _) (fun _ => by simp)
      refine Ev.step (fun k => ?_) hi2
      simp only [impl_RisingSequences.l0]
      rw [if_pos (by omega), if_pos (by omega), if_pos (by omega)]
      simp only [Option.bind_some]
      rw [hlen, w64 (by omega) (by omega), if_pos (by omega), if_pos (by omega), hrd, if_pos (by simp), hset, hw]
    · have hq := hp (by omega)
      have hv : wrap64 ((i : Int) - 1) = (i : Int) - 1 := w64 (by omega) (by omega)
      by_cases c1 : rd m (i : Int) < rd m ((i : Int) - 1)
      · rw [if_pos (.inr c1)]
        have hi2 := ih (i + 1) (out ++ [[(i : Int)]]) (by omega) (hs.new _) (fun _ => by simp)
        refine Ev.step (fun k => ?_) hi2
        simp only [impl_RisingSequences.l0]
        rw [if_pos (by omega), if_neg (by omega), if_pos (by omega), if_pos (by omega), hv, if_pos (by omega), if_pos (by omega), if_pos c1, if_pos (by omega)]
        simp only [Option.bind_some]
        rw [hlen, w64 (by omega) (by omega), if_pos (by omega), if_pos (by omega), hrd, if_pos (by simp), hset, hw]
      · rw [if_neg (fun h => h.elim (by omega) c1)]
        have hi2 := ih (i + 1) (addLast out i) (by omega) (hs.more _) (fun _ => by rw [addLast_length]; exact hq)
        have hl := hs.last
        have hL : wrap64 ((out.length : Int) - 1) = ((out.length - 1 : Nat) : Int) := by rw [w64 (by omega) (by omega)]; omega
        have hrd2 : rd_L2 out ((out.length - 1 : Nat) : Int) = out.getD (out.length - 1) [] := by simp [rd_L2]
        refine Ev.step (fun k => ?_) hi2
        simp only [impl_RisingSequences.l0]
        rw [if_pos (by omega), if_neg (by omega), if_pos (by omega), if_pos (by omega), hv, if_pos (by omega), if_pos (by omega), if_neg c1, hL, if_pos (by omega), if_pos (by omega), hrd2, if_pos (by omega), hw, Int.toNat_natCast]
        rfl
theorem impl_RisingSequences_ev (a : List Int) (ha : a.length ≤ 9223372036854775806) : Ev (fun k => impl_RisingSequences.f k a) (rising a) := by
  unfold impl_RisingSequences.f rising
  refine Ev.bind (impl_PermOk_ev a ha) ?_
  by_cases h : permOk a = true
  · obtain ⟨p1, p2, p3⟩ := (permOk_iff a).1 h
    refine ev_ite_true h ?_
    rw [if_pos h]
    refine Ev.bind (impl_inverse_ev a (by omega) p1) ?_
    exact impl_RisingSequences_loop (inverse a) a.length (inverse_length a) p3 a.length 0 [] (by omega) ⟨by simp, by simp⟩ (by omega)
  · refine ev_ite_false h ?_
    rw [if_neg h]
    exact Ev.now _

theorem impl_before_in (a : List Int) (i : Nat) (R : List (List Int)) (B : List Int) (l : List Int) (hl : l.length ≤ 1000) (hr : ∀ x ∈ l, 0 ≤ x ∧ x < a.length) (hn : R.length ≤ 1000) : ∀ (r pre : List Int) (m : List Bool), l = pre ++ r → m.length = a.length →
    Ev (fun k => impl_before.l0 k a (fillRow (Int.tmod (i : Int) 2 == 1) m r) R (R.length : Int) (wrap64 ((i : Int) + 1))) B →
    Ev (fun k => impl_before.l1 k a m (i : Int) R (R.length : Int) (i : Int) l (l.length : Int) (pre.length : Int)) B := by
  intro r
  induction r with
  | nil =>
    intro pre m h hm hk
    refine Ev.step (fun k => ?_) hk
    simp only [impl_before.l1]
    rw [if_neg (by rw [h]; simp)]
    rfl
  | cons x r ih =>
    intro pre m h hm hk
    have hx := hr x (by rw [h]; simp)
    have e : l.length = pre.length + (r.length + 1) := by rw [h]; simp
    have hrd : rd l (pre.length : Int) = x := rd_mid' h
    refine Ev.step (fun k => ?_) (ih (pre ++ [x]) (m.set x.toNat (Int.tmod (i : Int) 2 == 1)) (snoc_eq h) (by simpa using hm) hk)
    simp only [impl_before.l1]
    rw [if_pos (by omega), if_pos (by omega), if_pos (by omega), hrd, if_pos hx.1, if_pos (by omega), snoc_len x (by omega)]
theorem impl_before_out (a : List Int) (R : List (List Int)) (B : List Int) (hn : R.length ≤ 1000) (hR : ∀ l ∈ R, l.length ≤ 1000 ∧ ∀ x ∈ l, 0 ≤ x ∧ x < a.length) : ∀ (r pre : List (List Int)) (m : List Bool), R = pre ++ r → m.length = a.length →
    Ev (fun k => impl_before.l2 k (fillAll (fun i => Int.tmod (i : Int) 2 == 1) pre.length m r) [] [] a (a.length : Int) 0) B →
    Ev (fun k => impl_before.l0 k a m R (R.length : Int) (pre.length : Int)) B := by
  intro r
  induction r with
  | nil =>
    intro pre m h hm hk
    refine Ev.step (fun k => ?_) hk
    simp only [impl_before.l0]
    rw [if_neg (by rw [h]; simp)]
    rfl
  | cons l r ih =>
    intro pre m h hm hk
    have e : R.length = pre.length + (r.length + 1) := by rw [h]; simp
    have hrd : rd_L2 R (pre.length : Int) = l := by rw [h]; simp [rd_L2]
    have hl := hR l (by rw [h]; simp)
    have e2 : (pre.length : Int) + 1 = ((pre ++ [l]).length : Int) := by simp
    have hi := ih (pre ++ [l]) (fillRow (Int.tmod (pre.length : Int) 2 == 1) m l) (by rw [h]; simp) (by rw [fillRow_length]; exact hm) (by rw [List.length_append, List.length_singleton]; exact hk)
    refine Ev.step (fun k => ?_) (impl_before_in a pre.length R B l hl.1 hl.2 hn l [] m rfl hm (by rw [w64 (by omega) (by omega), e2]; exact hi))
    simp only [impl_before.l0]
    rw [if_pos (by omega), if_pos (by omega), if_pos (by omega), hrd]
    rfl
theorem impl_before_split (a : List Int) (ha : a.length ≤ 1000) (hp : ∀ x ∈ a, 0 ≤ x ∧ x < a.length) : ∀ (r pre : List Int) (p q : List Int), a = pre ++ r → p.length + q.length ≤ pre.length →
    Ev (fun k => impl_before.l2 k (oddOf a) p q a (a.length : Int) (pre.length : Int)) ((p ++ r.filter (fun x => !oddAt a x)) ++ (q ++ r.filter (fun x => oddAt a x))) := by
  have ho := oddOf_length a
  intro r
  induction r with
  | nil =>
    intro pre p q h hl
    have e : a.length = pre.length := by rw [h]; simp
    refine Ev.step (f := fun _ => some (p ++ q)) (fun k => ?_) (by simpa using Ev.now _)
    simp only [impl_before.l2]
    rw [if_neg (by omega), if_pos (by omega)]
  | cons x r ih =>
    intro pre p q h hl
    have e : a.length = pre.length + (r.length + 1) := lens h
    have hx := hp x (by rw [h]; simp)
    have hrd : rd a (pre.length : Int) = x := rd_mid' h
    have hod := oddAt_odd hx.1 hx.2
    cases c : oddAt a x with
    | true =>
      have hi := ih (pre ++ [x]) p (q ++ [x]) (snoc_eq h) (by simp; omega)
      rw [List.filter_cons_of_neg (by simp [c]), List.filter_cons_of_pos c]
      have e2 : (p ++ List.filter (fun x => !oddAt a x) r) ++ ((q ++ [x]) ++ List.filter (fun x => oddAt a x) r) = (p ++ List.filter (fun x => !oddAt a x) r) ++ (q ++ x :: List.filter (fun x => oddAt a x) r) := by simp
      rw [e2] at hi
      refine Ev.step (fun k => ?_) hi
      simp only [impl_before.l2]
      rw [if_pos (by omega), if_pos (by omega), if_pos (by omega), hrd, if_pos hx.1, if_pos (by omega), hod, if_pos c, if_pos (by omega), snoc_len x (by omega)]
    | false =>
      have hi := ih (pre ++ [x]) (p ++ [x]) q (snoc_eq h) (by simp; omega)
      rw [List.filter_cons_of_pos (by simp [c]), List.filter_cons_of_neg (by simp [c])]
      have e2 : ((p ++ [x]) ++ List.filter (fun x => !oddAt a x) r) ++ (q ++ List.filter (fun x => oddAt a x) r) = (p ++ x :: List.filter (fun x => !oddAt a x) r) ++ (q ++ List.filter (fun x => oddAt a x) r) := by simp
      rw [e2] at hi
      refine Ev.step (fun k => ?_) hi
      simp only [impl_before.l2]
      rw [if_pos (by omega), if_pos (by omega), if_pos (by omega), hrd, if_pos hx.1, if_pos (by omega), hod, if_neg (by simp [c]), if_pos (by omega), snoc_len x (by omega)]
theorem impl_before_ev (a : List Int) (ha : permOk a = true) : Ev (fun k => impl_before.f k a) (beforeP a) := by
  obtain ⟨p1, p2, p3⟩ := (permOk_iff a).1 ha
  have hs := rising_small a
  unfold impl_before.f
  refine ev_ite_true (by omega) (ev_ite_true (by omega) (Ev.bind (impl_RisingSequences_ev a (by omega)) ?_))
  rw [Int.toNat_natCast]
  refine impl_before_out a (rising a) _ (by have := hs.1; omega) (fun l hl => ⟨by have := hs.2 l hl; omega, rising_range a l hl⟩) (rising a) [] (List.replicate a.length false) rfl (by simp) ?_
  exact impl_before_split a (by omega) p1 a [] [] [] rfl (by simp)

theorem impl_LeastRiffles_loop (a : List Int) (ha : a.length ≤ 9223372036854775806) : Ev (fun k => impl_LeastRiffles.l0 k a 0) (leastOf (rising a).length) := by
  have hs := (rising_small a).1
  have hr := impl_RisingSequences_ev a ha
  obtain ⟨r, hrr⟩ : ∃ r : Int, r = (rising a).length := ⟨_, rfl⟩
  have hb : r ≤ 16 := by omega
  unfold leastOf
  rw [← hrr]
  have e0 : Go.Proofs.YtplacpfdmcnaiaaW.PrintWords.shl .i64 1 0 = 1 := by kernel_rfl
  have e1 : Go.Proofs.YtplacpfdmcnaiaaW.PrintWords.shl .i64 1 1 = 2 := by kernel_rfl
  have e2 : Go.Proofs.YtplacpfdmcnaiaaW.PrintWords.shl .i64 1 2 = 4 := by kernel_rfl
  have e3 : Go.Proofs.YtplacpfdmcnaiaaW.PrintWords.shl .i64 1 3 = 8 := by kernel_rfl
  have e4 : Go.Proofs.YtplacpfdmcnaiaaW.PrintWords.shl .i64 1 4 = 16 := by kernel_rfl
  have f4 : Ev (fun k => impl_LeastRiffles.l0 k a 4) 4 := by
    refine Ev.step (fun k => by rw [impl_LeastRiffles.l0, e4]) (ev_ite_true (by omega) (Ev.bind hr ?_))
    rw [← hrr]; exact ev_ite_false (by omega) (Ev.now _)
  have f3 : Ev (fun k => impl_LeastRiffles.l0 k a 3) (if 8 < r then 4 else 3) := by
    refine Ev.step (fun k => by rw [impl_LeastRiffles.l0, e3, w64 (by omega) (by omega)]) (ev_ite_true (by omega) (Ev.bind hr ?_))
    rw [← hrr]
    by_cases h : 8 < r
    · rw [if_pos h]; exact ev_ite_true h f4
    · rw [if_neg h]; exact ev_ite_false h (Ev.now _)
  have f2 : Ev (fun k => impl_LeastRiffles.l0 k a 2) (if 4 < r then (if 8 < r then 4 else 3) else 2) := by
    refine Ev.step (fun k => by rw [impl_LeastRiffles.l0, e2, w64 (by omega) (by omega)]) (ev_ite_true (by omega) (Ev.bind hr ?_))
    rw [← hrr]
    by_cases h : 4 < r
    · rw [if_pos h]; exact ev_ite_true h f3
    · rw [if_neg h]; exact ev_ite_false h (Ev.now _)
  have f1 : Ev (fun k => impl_LeastRiffles.l0 k a 1) (if 2 < r then (if 4 < r then (if 8 < r then 4 else 3) else 2) else 1) := by
    refine Ev.step (fun k => by rw [impl_LeastRiffles.l0, e1, w64 (by omega) (by omega)]) (ev_ite_true (by omega) (Ev.bind hr ?_))
    rw [← hrr]
    by_cases h : 2 < r
    · rw [if_pos h]; exact ev_ite_true h f2
    · rw [if_neg h]; exact ev_ite_false h (Ev.now _)
  refine Ev.step (fun k => by rw [impl_LeastRiffles.l0, e0, w64 (by omega) (by omega)]) (ev_ite_true (by omega) (Ev.bind hr ?_))
  rw [← hrr]
  by_cases h : 1 < r
  · rw [if_pos h]; exact ev_ite_true h f1
  · rw [if_neg h]; exact ev_ite_false h (Ev.now _)
theorem impl_LeastRiffles_ev (a : List Int) (ha : a.length ≤ 9223372036854775806) : Ev (fun k => impl_LeastRiffles.f k a) (leastRiffles a) := by
  unfold impl_LeastRiffles.f leastRiffles
  have hj : Ev (fun n => impl_LeastRiffles.j0 n a true) (-1) := Ev.step (fun n => by rw [impl_LeastRiffles.j0]) (ev_ite_true rfl (Ev.now _))
  refine Ev.bind (impl_PermOk_ev a ha) ?_
  by_cases h : permOk a = true
  · refine ev_ite_true h ?_
    by_cases h0 : a.length = 0
    · rw [if_neg (fun q => q.2 h0)]
      simp only [h0]
      exact hj
    · rw [if_pos ⟨h, h0⟩, show ((a.length : Int) == 0) = false from beq_eq_false_iff_ne.mpr (by omega)]
      exact Ev.step (fun n => by rw [impl_LeastRiffles.j0]) (ev_ite_false (by simp) (impl_LeastRiffles_loop a ha))
  · refine ev_ite_false h ?_
    rw [if_neg (fun q => h q.1)]
    exact hj

theorem impl_UnshuffleTo_loop : ∀ (d : Nat) (x0 : List Int) (out : List (List Int)), d + out.length ≤ 50 → permOk x0 = true →
    Ev (fun k => impl_UnshuffleTo.l0 k x0 (out.reverse ++ [x0]) (d : Int)) (unS d (x0 :: out), true) := by
  intro d
  induction d with
  | zero =>
    intro x0 out h hp
    refine Ev.step (f := fun _ => some _) (fun k => ?_) (Ev.now _)
    simp only [impl_UnshuffleTo.l0]
    rw [if_neg (by omega), unS]
    simp
  | succ d ih =>
    intro x0 out h hp
    have hi := ih (beforeP x0) (x0 :: out) (by simp; omega) (permOk_perm (beforeP_perm x0) hp)
    rw [unS]
    refine Ev.step (f := fun k => (impl_before.f k x0).bind fun t => impl_UnshuffleTo.l0 k t ((out.reverse ++ [x0]) ++ [t]) (d : Int)) (fun k => ?_) (Ev.bind (impl_before_ev x0 hp) ?_)
    · simp only [impl_UnshuffleTo.l0]
      rw [if_pos (by omega), if_pos (by simp; omega), w64 (by omega) (by omega)]
      have e : ((d + 1 : Nat) : Int) - 1 = d := by omega
      rw [e]
    · rw [List.reverse_cons] at hi
      exact hi
theorem impl_UnshuffleTo_ev (a : List Int) (ha : a.length ≤ 1048576) : Ev (fun k => impl_UnshuffleTo.f k a) (unshuffleTo a) := by
  unfold impl_UnshuffleTo.f unshuffleTo
  refine Ev.bind (impl_LeastRiffles_ev a (by omega)) ?_
  by_cases h : permOk a = true ∧ ¬ a.length = 0
  · have hb := leastOf_bound (rising a).length
    have e : leastRiffles a = leastOf (rising a).length := by unfold leastRiffles; rw [if_pos h]
    rw [if_pos h]
    refine ev_ite_false (by omega) (ev_ite_true (by omega) ?_)
    have := impl_UnshuffleTo_loop (leastRiffles a).toNat a [] (by simp; omega) h.1
    rw [Int.toNat_of_nonneg (by omega)] at this
    exact this
  · rw [if_neg h]
    have e : leastRiffles a = -1 := by unfold leastRiffles; rw [if_neg h]
    exact ev_ite_true (by omega) (Ev.now _)

/-- The packet of n cards in order; empty where n is out of range. -/
def newPacket (n : Int) : List Int := if 0 ≤ n ∧ n ≤ 12 then upFrom 0 n.toNat else []

theorem impl_upTo_loop (n : Nat) (hn : n ≤ 17592186044415) : ∀ i, i ≤ n → Ev (fun k => impl_upTo.l0 k (n : Int) (upFrom 0 i) (i : Int)) (upFrom 0 n) := by
  refine up_ind n (fun i => Ev (fun k => impl_upTo.l0 k (n : Int) (upFrom 0 i) (i : Int)) (upFrom 0 n)) ?_ ?_
  · refine Ev.step (f := fun _ => some _) (fun k => ?_) (Ev.now _)
    simp only [impl_upTo.l0]
    rw [if_neg (by omega)]
  · intro i hi h
    refine Ev.step (fun k => ?_) h
    have hl := upFrom_length i 0
    simp only [impl_upTo.l0]
    rw [if_pos (by omega), if_pos (by omega), w64 (by omega) (by omega), upFrom_snoc]
    simp
theorem impl_upTo_ev (n : Nat) (hn : n ≤ 17592186044415) : Ev (fun k => impl_upTo.f k (n : Int)) (upFrom 0 n) := by
  unfold impl_upTo.f
  exact impl_upTo_loop n hn 0 (by omega)

theorem impl_NewPacket_ev (n : Int) : Ev (fun k => impl_NewPacket.f k n) (newPacket n) := by
  unfold impl_NewPacket.f newPacket
  by_cases h0 : n < 0
  · simp only [if_pos h0]
    rw [if_neg (by omega)]
    exact Ev.now _
  · by_cases h1 : n > 12
    · simp only [if_neg h0, if_pos h1]
      rw [if_neg (by omega)]
      exact Ev.now _
    · simp only [if_neg h0, if_neg h1]
      rw [if_pos (by omega)]
      have := impl_upTo_ev n.toNat (by omega)
      rw [Int.toNat_of_nonneg (by omega)] at this
      exact Ev.bind this (Ev.now _)

theorem impl_IdentityPerm_ev (n : Int) : Ev (fun k => impl_IdentityPerm.f k n) (newPacket n) := by
  unfold impl_IdentityPerm.f
  exact Ev.bind (impl_NewPacket_ev n) (Ev.now _)

theorem impl_CardOf_eq (x : Int) (hx : -9223372036854775808 ≤ x) : impl_CardOf.f x = some (cardOf x) := by
  unfold impl_CardOf.f cardOf
  by_cases h0 : x < 0
  · rw [if_pos h0, w64 (by omega) (by omega), if_neg (show ¬ 0 ≤ x by omega)]
    by_cases h1 : -12 ≤ x
    · rw [if_neg (by omega), if_pos h1]
    · rw [if_pos (by omega), if_neg h1]
  · rw [if_neg h0, if_pos (show 0 ≤ x by omega)]
    by_cases h1 : x ≤ 11
    · rw [if_neg (by omega), if_pos h1]
    · rw [if_pos (by omega), if_neg h1]

theorem impl_PacketOk_loop (l : List Int) (hl : l.length ≤ 9223372036854775806) (hw : ∀ x ∈ l, (Lit.int .i64 x).wf = true) : ∀ (r pre seen : List Int) (m : List Bool), l = pre ++ r → m.length = 12 → (∀ c : Int, 0 ≤ c → c < 12 → (rdOf false m c = true ↔ c ∈ seen)) →
    Ev (fun k => impl_PacketOk.l0 k m l (pre.length : Int)) (pktFrom seen r) := by
  intro r
  induction r with
  | nil =>
    intro pre seen m h hm hs
    have e := lens h
    simp only [List.length_nil] at e
    refine Ev.step (f := fun _ => some _) (fun k => ?_) (Ev.now _)
    simp only [impl_PacketOk.l0]
    rw [if_neg (by omega)]
    simp [pktFrom]
  | cons x r ih =>
    intro pre seen m h hm hs
    have e := lens h
    simp only [List.length_cons] at e
    have hx := bd64 (hw x (by rw [h]; simp))
    have hc := cardOf_le x
    by_cases c0 : cardOf x < 0
    · have e : pktFrom seen (x :: r) = false := by simp only [pktFrom]; rw [decide_eq_false (by omega)]; rfl
      rw [e]
      refine Ev.step (f := fun _ => some _) (fun k => ?_) (Ev.now _)
      simp only [impl_PacketOk.l0]
      rw [if_pos (by omega), if_pos (by omega), rd_mid' h, impl_CardOf_eq x hx.1]
      simp only [Option.bind_some]
      rw [if_pos c0]
    have hsc := hs (cardOf x) (by omega) (by omega)
    by_cases c2 : cardOf x ∈ seen
    · have e : pktFrom seen (x :: r) = false := by simp only [pktFrom]; simp [c2]
      rw [e]
      refine Ev.step (f := fun _ => some _) (fun k => ?_) (Ev.now _)
      simp only [impl_PacketOk.l0]
      rw [if_pos (by omega), if_pos (by omega), rd_mid' h, impl_CardOf_eq x hx.1]
      simp only [Option.bind_some]
      rw [if_neg c0, if_pos (by omega), if_pos (hsc.2 c2)]
    · have e : pktFrom seen (x :: r) = pktFrom (seen ++ [cardOf x]) r := by simp only [pktFrom]; rw [decide_eq_true (by omega)]; simp [c2]
      rw [e]
      refine Ev.step (fun k => ?_) (ih (pre ++ [x]) (seen ++ [cardOf x]) (m.set (cardOf x).toNat true) (snoc_eq h) (by simp [hm]) ?_)
      · simp only [impl_PacketOk.l0]
        rw [if_pos (by omega), if_pos (by omega), rd_mid' h, impl_CardOf_eq x hx.1]
        simp only [Option.bind_some]
        rw [if_neg c0, if_pos (by omega), if_neg (fun q => c2 (hsc.1 q)), snoc_len x (by omega)]
      · intro c h0 h1
        rw [List.mem_append, List.mem_singleton, ← hs c h0 h1]
        simp only [rdOf, List.getD_eq_getElem?_getD, List.getElem?_set, hm]
        by_cases ec : c = cardOf x
        · subst ec
          rw [if_pos rfl, if_pos (by omega)]
          simp
        · rw [if_neg (by omega)]
          simp [ec]
theorem impl_PacketOk_ev (l : List Int) (hl : l.length ≤ 9223372036854775806) (hw : ∀ x ∈ l, (Lit.int .i64 x).wf = true) : Ev (fun k => impl_PacketOk.f k l) (packetOk l) := by
  unfold impl_PacketOk.f packetOk
  refine impl_PacketOk_loop l hl hw l [] [] _ rfl (by simp) ?_
  intro c h0 h1
  simp only [rdOf, List.getD_eq_getElem?_getD, List.getElem?_replicate]
  rw [if_pos (by omega)]
  simp

theorem idxF_congr {p q : Int → Bool} {l : List Int} (h : ∀ x ∈ l, p x = q x) : ∀ i, idxF p i l = idxF q i l := by
  induction l with
  | nil => intro i; rfl
  | cons x r ih => intro i; rw [idxF, idxF, h x (by simp), ih (fun y hy => h y (by simp [hy]))]
theorem idxF_card (c : Int) (l : List Int) : ∀ i, idxF (fun x => cardOf x == c) i l = posFrom c i l := by
  induction l with
  | nil => intro i; rfl
  | cons x r ih => intro i; rw [idxF, posFrom, ih]; simp

theorem isCard_eq (c x : Int) (hx : (Lit.int .i64 x).wf = true) : isCard c x = (cardOf x == c) := by
  unfold isCard
  rw [impl_CardOf_eq x (bd64 hx).1]
  rfl
theorem impl_PositionOf_eq (l : List Int) (c : Int) (hw : ∀ x ∈ l, (Lit.int .i64 x).wf = true) : impl_PositionOf.f l c = some (positionOf l c) := by
  unfold impl_PositionOf.f positionOf
  rw [idxF_congr (fun x hx => isCard_eq c x (hw x hx)), idxF_card]
  by_cases h : c < 0
  · rw [if_pos h, if_neg (by omega)]
  · rw [if_neg h, if_pos (by omega)]
theorem impl_PositionOf_ev (l : List Int) (c : Int) (hw : ∀ x ∈ l, (Lit.int .i64 x).wf = true) : Ev (fun k => impl_PositionOf.f l c) (positionOf l c) := ev_some fun _ => impl_PositionOf_eq l c hw

theorem lacks_eq (q : List Int) (x : Int) (hx : (Lit.int .i64 x).wf = true) (hq : ∀ y ∈ q, (Lit.int .i64 y).wf = true) : lacks q x = decide (positionOf q (cardOf x) < 0) := by
  have h := impl_PositionOf_eq q (cardOf x) hq
  unfold impl_PositionOf.f at h
  unfold lacks
  rw [impl_CardOf_eq x (bd64 hx).1, ← Option.some.inj h]
  rfl
theorem impl_IsArrangement_ev (l b : List Int) (hl : l.length ≤ 9223372036854775806) (hb : b.length ≤ 9223372036854775806) (wl : ∀ x ∈ l, (Lit.int .i64 x).wf = true) (wb : ∀ x ∈ b, (Lit.int .i64 x).wf = true) : Ev (fun k => impl_IsArrangement.f k l b) (isArrangement l b) := by
  unfold impl_IsArrangement.f isArrangement
  refine Ev.bind (impl_PacketOk_ev l hl wl) ?_
  by_cases h1 : packetOk l = true
  · refine ev_ite_true h1 (Ev.bind (impl_PacketOk_ev b hb wb) ?_)
    rw [h1, Bool.true_and]
    by_cases h2 : packetOk b = true
    · refine ev_ite_true h2 ?_
      rw [h2, Bool.true_and]
      by_cases h3 : l.length = b.length
      · refine ev_ite_true (by omega) ?_
        rw [decide_eq_true h3, Bool.true_and]
        have e : (!l.any (lacks b)) = l.all fun x => !decide (positionOf b (cardOf x) < 0) := by
          rw [List.not_any_eq_all_not]
          have : ∀ m : List Int, (∀ x ∈ m, x ∈ l) → (m.all fun x => !lacks b x) = m.all fun x => !decide (positionOf b (cardOf x) < 0) := by
            intro m
            induction m with
            | nil => intro _; rfl
            | cons y m ih => intro hm; rw [List.all_cons, List.all_cons, ih (fun z hz => hm z (by simp [hz])), lacks_eq b y (wl y (hm y (by simp))) wb]
          exact this l (fun _ h => h)
        rw [e]
        exact Ev.now _
      · refine ev_ite_false (by omega) ?_
        rw [decide_eq_false h3, Bool.false_and]
        exact Ev.now _
    · rw [Bool.not_eq_true] at h2
      rw [h2, Bool.false_and]
      exact ev_ite_false (by simp) (Ev.now _)
  · rw [Bool.not_eq_true] at h1
    rw [h1, Bool.false_and]
    exact ev_ite_false (by simp) (Ev.now _)

theorem impl_PermBetween_loop (l b : List Int) (hl : l.length ≤ 9223372036854775806) (hb : b.length ≤ 17592186044415) (wl : ∀ x ∈ l, (Lit.int .i64 x).wf = true) (wb : ∀ x ∈ b, (Lit.int .i64 x).wf = true) : ∀ (r pre out : List Int), b = pre ++ r → out.length = pre.length →
    Ev (fun k => impl_PermBetween.l0 k l out b (b.length : Int) (pre.length : Int)) (out ++ r.map (fun x => positionOf l (cardOf x)), true) := by
  intro r
  induction r with
  | nil =>
    intro pre out h ho
    have e := lens h
    simp only [List.length_nil] at e
    refine Ev.step (f := fun _ => some _) (fun k => ?_) (Ev.now _)
    simp only [impl_PermBetween.l0]
    rw [if_neg (by omega)]
    simp
  | cons x r ih =>
    intro pre out h ho
    have e := lens h
    simp only [List.length_cons] at e
    refine Ev.step (f := fun k => (impl_PositionOf.f l (cardOf x)).bind fun t => impl_PermBetween.l0 k l (out ++ [t]) b (b.length : Int) ((pre ++ [x]).length : Int)) (fun k => ?_) ?_
    · simp only [impl_PermBetween.l0]
      rw [if_pos (by omega), if_pos (by omega), if_pos (by omega), rd_mid' h, impl_CardOf_eq x (bd64 (wb x (by rw [h]; simp))).1]
      simp only [Option.bind_some]
      simp only [if_pos (show out.length < 17592186044416 by omega)]
      rw [snoc_len x (by omega)]
    · refine Ev.bind (impl_PositionOf_ev l (cardOf x) wl) ?_
      have hi := ih (pre ++ [x]) (out ++ [positionOf l (cardOf x)]) (snoc_eq h) (by simp [ho])
      rw [List.append_assoc] at hi
      exact hi
theorem impl_PermBetween_ev (l b : List Int) (hl : l.length ≤ 9223372036854775806) (hb : b.length ≤ 9223372036854775806) (wl : ∀ x ∈ l, (Lit.int .i64 x).wf = true) (wb : ∀ x ∈ b, (Lit.int .i64 x).wf = true) : Ev (fun k => impl_PermBetween.f k l b) (permBetween l b) := by
  unfold impl_PermBetween.f permBetween
  refine Ev.bind (impl_IsArrangement_ev l b hl hb wl wb) ?_
  by_cases h1 : isArrangement l b = true
  · refine ev_ite_true h1 ?_
    rw [if_pos h1]
    exact impl_PermBetween_loop l b hl (by have := packetOk_length (isArrangement_ok h1).2.1; omega) wl wb b [] [] rfl rfl
  · refine ev_ite_false h1 ?_
    rw [if_neg h1]
    exact Ev.now _

theorem impl_IsRiffle_ev (a : List Int) (ha : a.length ≤ 9223372036854775806) : Ev (fun k => impl_IsRiffle.f k a) (isRiffle a) := by
  unfold impl_IsRiffle.f isRiffle
  refine Ev.bind (impl_PermOk_ev a ha) ?_
  by_cases h : permOk a = true
  · refine ev_ite_true h (Ev.bind (impl_RisingSequences_ev a ha) (ev_some fun _ => ?_))
    rw [h]; simp; omega
  · refine ev_ite_false h (ev_some fun _ => ?_)
    simp [h]

theorem wf_le {x : Int} (h0 : 0 ≤ x) (h1 : x ≤ 100) : (Lit.int .i64 x).wf = true := by
  have : ∀ n : Nat, n < 101 → (Lit.int .i64 (n : Int)).wf = true := by decide
  have h := this x.toNat (by omega)
  rwa [Int.toNat_of_nonneg h0] at h
theorem perm_packet {a : List Int} (h : permOk a = true) : packetOk a = true ∧ ∀ x ∈ a, (Lit.int .i64 x).wf = true := by
  obtain ⟨p1, p2, p3⟩ := (permOk_iff a).1 h
  have hc : ∀ x ∈ a, cardOf x = x := fun x hx => by have := p1 x hx; exact cardOf_small this.1 (by omega)
  refine ⟨(packetOk_iff a).2 ⟨fun x hx => by rw [hc x hx]; exact (p1 x hx).1, ?_⟩, fun x hx => ?_⟩
  · have e : a.map cardOf = a := by
      have := List.map_congr_left hc
      rw [this, List.map_id']
    rw [e]; exact p2
  · have := p1 x hx
    exact wf_le (by omega) (by omega)
theorem between_before {a : List Int} (h : permOk a = true) : permBetween (beforeP a) a = (riffleOf a, true) := by
  obtain ⟨p1, p2, p3⟩ := (permOk_iff a).1 h
  have hb := permOk_perm (beforeP_perm a) h
  have hl := beforeP_length a
  have hc : ∀ x ∈ a, cardOf x = x := fun x hx => by have := p1 x hx; exact cardOf_small this.1 (by omega)
  have hok : isArrangement (beforeP a) a = true := by
    unfold isArrangement
    rw [(perm_packet hb).1, (perm_packet h).1, hl]
    simp only [Bool.true_and, decide_true, List.all_eq_true, Bool.not_eq_true', decide_eq_false_iff_not]
    intro x hx
    have hx' := (beforeP_perm a).mem_iff.1 hx
    have := p1 x hx'
    rw [hc x hx', positionOf_perm h x this.1 this.2]
    obtain ⟨j, hj, _, e⟩ := place_ex h x this.1 this.2
    unfold placeOf at e
    omega
  unfold permBetween riffleOf
  rw [if_pos hok]
  congr 1
  refine List.map_congr_left (fun x hx => ?_)
  have := p1 x hx
  rw [hc x hx, positionOf_perm hb x this.1 (by rw [hl]; exact this.2)]
  rfl
theorem unsh_steps (l : List (List Int)) (hs : l.length ≤ 100) (h : ∀ i (hi : i + 1 < l.length), l[i] = beforeP l[i + 1]) (hp : ∀ x ∈ l, permOk x = true ∧ 0 < x.length) (kk : Int) (r : List (List Int)) (need : Int) (hn : need = kk) (hr : (r.length : Int) > 0) : ∀ (d i : Nat), 1 ≤ i → i + d = l.length →
    Ev (fun k => laws_FnUnshuffles.l1 k l kk r need (i : Int)) true := by
  intro d
  induction d with
  | zero =>
    intro i h1 hi
    refine Ev.step (f := fun _ => some _) (fun k => ?_) (Ev.now _)
    simp only [laws_FnUnshuffles.l1]
    rw [if_neg (by omega), if_pos hr, hn, beq_self_eq_true]
  | succ d ih =>
    intro i h1 hi
    obtain ⟨j, rfl⟩ : ∃ j, i = j + 1 := ⟨i - 1, by omega⟩
    have hlt : j + 1 < l.length := by omega
    have ew : wrap64 (((j + 1 : Nat) : Int) - 1) = (j : Int) := by rw [w64 (by omega) (by omega)]; omega
    have ew2 : wrap64 (((j + 1 : Nat) : Int) + 1) = ((j + 1 + 1 : Nat) : Int) := by rw [w64 (by omega) (by omega)]; omega
    have r1 : rd_L2 l (j : Int) = beforeP l[j + 1] := by
      rw [← h j hlt]
      simp [rd_L2, show j < l.length by omega]
    have r2 : rd_L2 l ((j + 1 : Nat) : Int) = l[j + 1] := by
      have : ((j + 1 : Nat) : Int).toNat = j + 1 := by omega
      unfold rd_L2
      rw [this]
      simp [hlt]
    have hx := hp l[j + 1] (List.getElem_mem hlt)
    have hb := permOk_perm (beforeP_perm l[j + 1]) hx.1
    have hl3 := ((permOk_iff _).1 hx.1).2.2
    have hbl := beforeP_length l[j + 1]
    have pb := impl_PermBetween_ev (beforeP l[j + 1]) l[j + 1] (by omega) (by omega) (perm_packet hb).2 (perm_packet hx.1).2
    rw [between_before hx.1] at pb
    have hro := riffleOf_ok hx.1
    have hrl : (riffleOf l[j + 1]).length = l[j + 1].length := List.length_map ..
    have ir := impl_IsRiffle_ev (riffleOf l[j + 1]) (by omega)
    rw [riffleOf_riffle hx.1 hx.2] at ir
    refine Ev.step (fun k => by rw [laws_FnUnshuffles.l1, ew, ew2, r1, r2]) ?_
    refine ev_ite_true (by omega) (ev_ite_true (by omega) (ev_ite_true (by omega) (ev_ite_true (by omega) (Ev.bind pb ?_))))
    simp only [if_true]
    refine Ev.bind ir ?_
    simp only [if_true]
    exact ih (j + 1 + 1) (by omega) (by omega)
theorem unsh_need (l r : List (List Int)) (kk : Int) (hr : r.length ≤ 16) (h : ∀ need, need = leastOf r.length → Ev (fun k => laws_FnUnshuffles.l1 k l kk r need 1) true) : Ev (fun k => laws_FnUnshuffles.l0 k l kk r 0 1) true := by
  obtain ⟨q, hq⟩ : ∃ q : Int, q = (r.length : Int) := ⟨_, rfl⟩
  have hb : q ≤ 16 := by omega
  rw [← hq] at h
  unfold leastOf at h
  have f4 : (8 < q) → Ev (fun k => laws_FnUnshuffles.l0 k l kk r 4 16) true := fun c => by
    refine Ev.step (fun k => by rw [laws_FnUnshuffles.l0]) (ev_ite_false (by omega) (h 4 ?_))
    rw [if_pos (by omega), if_pos (by omega), if_pos (by omega), if_pos c]
  have f3 : (4 < q) → Ev (fun k => laws_FnUnshuffles.l0 k l kk r 3 8) true := fun c => by
    refine Ev.step (fun k => by rw [laws_FnUnshuffles.l0, show wrap64 (3 + 1) = 4 from w64 (by omega) (by omega), show wrap64 (2 * 8) = 16 from w64 (by omega) (by omega)]) ?_
    by_cases c2 : 8 < q
    · exact ev_ite_true (by omega) (f4 c2)
    · refine ev_ite_false (by omega) (h 3 ?_)
      rw [if_pos (by omega), if_pos (by omega), if_pos c, if_neg c2]
  have f2 : (2 < q) → Ev (fun k => laws_FnUnshuffles.l0 k l kk r 2 4) true := fun c => by
    refine Ev.step (fun k => by rw [laws_FnUnshuffles.l0, show wrap64 (2 + 1) = 3 from w64 (by omega) (by omega), show wrap64 (2 * 4) = 8 from w64 (by omega) (by omega)]) ?_
    by_cases c2 : 4 < q
    · exact ev_ite_true (by omega) (f3 c2)
    · refine ev_ite_false (by omega) (h 2 ?_)
      rw [if_pos (by omega), if_pos c, if_neg c2]
  have f1 : (1 < q) → Ev (fun k => laws_FnUnshuffles.l0 k l kk r 1 2) true := fun c => by
    refine Ev.step (fun k => by rw [laws_FnUnshuffles.l0, show wrap64 (1 + 1) = 2 from w64 (by omega) (by omega), show wrap64 (2 * 2) = 4 from w64 (by omega) (by omega)]) ?_
    by_cases c2 : 2 < q
    · exact ev_ite_true (by omega) (f2 c2)
    · refine ev_ite_false (by omega) (h 1 ?_)
      rw [if_pos c, if_neg c2]
  refine Ev.step (fun k => by rw [laws_FnUnshuffles.l0, show wrap64 (0 + 1) = 1 from w64 (by omega) (by omega), show wrap64 (2 * 1) = 2 from w64 (by omega) (by omega)]) ?_
  by_cases c2 : 1 < q
  · exact ev_ite_true (by omega) (f1 c2)
  · refine ev_ite_false (by omega) (h 0 ?_)
    rw [if_neg c2]
theorem FnUnshuffles : laws_FnUnshuffles.Pure := by
  intro l h1 h2 w
  unfold laws_FnUnshuffles.f
  by_cases g : (l.length : Int) > 1048576
  · exact ⟨0, by rw [if_pos g]⟩
  simp only [if_neg g]
  obtain ⟨v, v0, v1, hv⟩ := makeNum_ok l (by omega) 1 (by omega)
  obtain ⟨n, hn⟩ : ∃ n : Nat, (n : Int) = wrap64 (1 + (Int.tmod v 8)) := by
    rw [Int.tmod_eq_emod_of_nonneg v0]
    exact ⟨(1 + v % 8).toNat, by rw [w64 (by omega) (by omega)]; omega⟩
  have hb : 1 ≤ n ∧ n ≤ 8 := by
    rw [Int.tmod_eq_emod_of_nonneg v0, w64 (by omega) (by omega)] at hn
    omega
  obtain ⟨a, a1, a2, ha⟩ := makePerm_ok l (by omega) 3 (by omega) (n : Int) (by omega) (by omega)
  have la : a.length = n := by omega
  have hs := rising_small a
  have hs1 := hs.1
  have hlb := leastOf_bound (rising a).length
  have ek : leastRiffles a = leastOf (rising a).length := by unfold leastRiffles; rw [if_pos ⟨a1, by omega⟩]
  obtain ⟨kk, hkk⟩ : ∃ kk : Nat, (kk : Int) = leastOf (rising a).length := ⟨(leastOf (rising a).length).toNat, by omega⟩
  obtain ⟨pre, epre, lpre, hstep⟩ := unS_cons kk a []
  have hhead := unS_head kk a [] a1 (by omega) hkk.symm
  have E1 := impl_UnshuffleTo_ev a (by omega)
  have e1 : unshuffleTo a = (pre ++ [a], true) := by
    unfold unshuffleTo
    rw [if_pos ⟨a1, by omega⟩, ek, ← hkk, Int.toNat_natCast, epre]
  rw [e1] at E1
  have E2 := impl_LeastRiffles_ev a (by omega)
  rw [ek, ← hkk] at E2
  have E3 := impl_RisingSequences_ev a (by omega)
  have hlen : (pre ++ [a]).length = kk + 1 := by rw [List.length_append, List.length_singleton, lpre]
  have hall : ∀ d i (hi : i < (pre ++ [a]).length), i + d = kk → permOk ((pre ++ [a])[i]) = true ∧ ((pre ++ [a])[i]).length = n := by
    intro d
    induction d with
    | zero =>
      intro i hi he
      obtain rfl : i = pre.length := by omega
      rw [List.getElem_append_right (by omega)]
      simp [a1, la]
    | succ d ih =>
      intro i hi he
      have := ih (i + 1) (by omega) (by omega)
      rw [hstep i (by omega)]
      exact ⟨permOk_perm (beforeP_perm _) this.1, by rw [beforeP_length]; exact this.2⟩
  have hp : ∀ x ∈ pre ++ [a], permOk x = true ∧ 0 < x.length := fun x hx => by
    obtain ⟨i, hi, rfl⟩ := List.getElem_of_mem hx
    have := hall (kk - i) i hi (by omega)
    exact ⟨this.1, by omega⟩
  have r0 : rd_L2 (pre ++ [a]) 0 = upFrom 0 n := by
    rw [epre] at hhead
    rw [← la, ← hhead]
    unfold rd_L2
    cases pre <;> rfl
  have rk : rd_L2 (pre ++ [a]) (kk : Int) = a := by
    unfold rd_L2
    rw [Int.toNat_natCast, ← lpre]
    simp
  have enp : newPacket (n : Int) = upFrom 0 n := by unfold newPacket; rw [if_pos (by omega), Int.toNat_natCast]
  have hkb : kk ≤ 4 := by omega
  refine Ev.rounds ?_
  refine Ev.bind hv ?_
  simp only [← hn]
  refine Ev.bind ha (Ev.bind E1 (Ev.bind E2 (Ev.bind E3 ?_)))
  simp only [if_true]
  refine ev_ite_false (by omega) (ev_ite_true (by rw [hlen, w64 (by omega) (by omega)]; omega) (ev_ite_true (by rw [hlen]; omega) (Ev.bind (impl_IdentityPerm_ev n) ?_)))
  rw [enp, r0]
  refine Ev.bind (laws_same_ev _ _ (by rw [upFrom_length]; omega)) ?_
  simp only [decide_true, if_true]
  refine ev_ite_true (by omega) (ev_ite_true (by rw [hlen]; omega) ?_)
  rw [rk]
  refine Ev.bind (laws_same_ev _ _ (by omega)) ?_
  simp only [decide_true, Bool.not_true]
  refine Ev.step (fun k => by rw [laws_FnUnshuffles.j0]) ?_
  simp only [Bool.false_eq_true, if_false]
  have hrc := rising_count a1 (by omega)
  refine unsh_need (pre ++ [a]) (rising a) (kk : Int) (by omega) (fun need hneed => ?_)
  exact unsh_steps (pre ++ [a]) (by omega) hstep hp (kk : Int) (rising a) need (by rw [hneed, hkk]) (by omega) kk 1 (by omega) (by omega)

end Go.Proofs.Ytplacpfdmcnaiaa.Pure
