/- Permutations form a group, the order of one is a multiple of its cycles' lengths, which make up all of it, and signs multiply: for every code. No conditions. -/
import Derived.Test.YtojbjofngpcjaaaMFnPermsx0
import Derived.Test.YtojbjofngpcjaaaMFnPermsx1
import Derived.Test.YtojbjofngpcjaaaMFnPermsx2
import Derived.Test.YtojbjofngpcjaaaMFnPermsx3
import Derived.Test.YtojbjofngpcjaaaMFnPermsx4
import Derived.Test.YtojbjofngpcjaaaMFnPermsx5
import Derived.OpenShut
namespace Go.Proofs.Ytojbjofngpcjaaa.Pure
open Go.RowKit Go.Proofs.Ytojbjofngpcjaaa.MFnPerms Go.Proofs.YtojbjofngpcjaaaW.PrintWords Go.Proofs.YtojbjofngpcjaaaW.PrintLast
set_option linter.unusedVariables false
set_option linter.unusedSimpArgs false

/-! ### base: numbers, reads, loops -/
theorem w64 {a : Int} (h0 : -9223372036854775808 ≤ a) (h1 : a ≤ 9223372036854775807) : wrap64 a = a := by
  unfold wrap64
  omega
theorem w64n {n : Nat} (h : n ≤ 9223372036854775807) : wrap64 (n : Int) = n := w64 (by omega) (by omega)
theorem bd64 {n : Int} (h : (Lit.int .i64 n).wf = true) : -9223372036854775808 ≤ n ∧ n ≤ 9223372036854775807 := Go.bounds_i64 h
theorem rd_nat (xs : List Int) (i : Nat) : rd xs (i : Int) = xs.getD i 0 := by simp [rd]
theorem rd_lt {xs : List Int} {i : Nat} (h : i < xs.length) : rd xs (i : Int) = xs[i] := by simp [rd, h]
theorem bt_nat {s : ByteArray} {i : Nat} (h : i < s.size) : bt s (i : Int) = (s[i].toNat : Int) := by simp [bt, h]
/-- Going up to n: what holds at n holds from i on. -/
theorem up_ind (n : Nat) (P : Nat → Prop) (h0 : P n) (hs : ∀ i, i < n → P (i + 1) → P i) : ∀ i, i ≤ n → P i := by
  have h : ∀ d i, i + d = n → P i := by
    intro d
    induction d with
    | zero => intro i hi; obtain rfl : i = n := by omega
              exact h0
    | succ d ih => intro i hi; exact hs i (by omega) (ih (i + 1) (by omega))
  intro i hi
  exact h (n - i) i (by omega)
theorem ev_some {α : Type} {g : Nat → Option α} {r : α} (h : ∀ k, g k = some r) : Ev g r := ⟨0, fun k _ => h k⟩
theorem ev_pair {α β : Type} {g : Nat → Option α} {f : Nat → Option β} {a : α} {b : β} {h : α → β → Option Bool} (hg : Ev g a) (hf : Ev f b) (hh : h a b = some true) : ∃ k, ((g k).bind fun x => (f k).bind fun y => h x y) = some true :=
  Ev.rounds (Ev.bind hg (Ev.bind hf (ev_some fun _ => hh)))

/-- What every law of one list does: it hands a copy to the reference and one to the program, compares, and looks at the copy. -/
theorem ev_ite_true {α : Type} {f g : Nat → Option α} {r : α} {c : Prop} [Decidable c] (h : c) (k : Ev f r) : Ev (fun n => if c then f n else g n) r := by simpa only [if_pos h] using k
theorem ev_ite_false {α : Type} {f g : Nat → Option α} {r : α} {c : Prop} [Decidable c] (h : ¬ c) (k : Ev g r) : Ev (fun n => if c then f n else g n) r := by simpa only [if_neg h] using k

theorem and255 (x : Int) : 0 ≤ Go.bits .and .i64 x 255 ∧ Go.bits .and .i64 x 255 ≤ 255 := by
  have h : (BitVec.ofInt 64 x &&& BitVec.ofInt 64 255).toNat ≤ 255 := by
    rw [BitVec.toNat_and]
    exact Nat.le_trans Nat.and_le_right (by decide)
  have e : Go.bits .and .i64 x 255 = (((BitVec.ofInt 64 x &&& BitVec.ofInt 64 255).toNat : Nat) : Int) := by
    have : Go.bits .and .i64 x 255 = IntKind.i64.wrap (((BitVec.ofInt 64 x &&& BitVec.ofInt 64 255).toNat : Nat) : Int) := rfl
    rw [this, i64_w, w64 (by omega) (by omega)]
  rw [e]
  omega
theorem byte_ok (s0 : List Int) (s1 s2 : Int) (hl : s0.length ≤ 1048576) (h : 0 ≤ s1) : ∃ b t1 t2, spec_l01Byte.f s0 s1 s2 = some (b, t1, t2) ∧ 0 ≤ b ∧ b ≤ 255 ∧ 0 ≤ t1 := by
  unfold spec_l01Byte.f
  by_cases c : s1 < (s0.length : Int)
  · rw [if_pos c, if_pos h]
    exact ⟨_, _, _, rfl, (and255 _).1, (and255 _).2, by rw [w64 (by omega) (by omega)]; omega⟩
  · rw [if_neg c]
    exact ⟨_, _, _, rfl, (and255 _).1, (and255 _).2, h⟩
theorem below_ok (s0 : List Int) (s1 s2 n : Int) (hl : s0.length ≤ 1048576) (h : 0 ≤ s1) (hn : 1 ≤ n) (hm : n ≤ 256) : ∃ b t1 t2, spec_l01Below.f s0 s1 s2 n = some (b, t1, t2) ∧ 0 ≤ b ∧ b < n ∧ 0 ≤ t1 := by
  unfold spec_l01Below.f
  obtain ⟨b, t1, t2, e, b0, b1, ht⟩ := byte_ok s0 s1 s2 hl h
  rw [if_neg (by omega), if_pos hm, e]
  simp only [Option.bind_some]
  rw [if_neg (by omega)]
  refine ⟨_, _, _, rfl, ?_, ?_, ht⟩
  · rw [Int.tmod_eq_emod_of_nonneg b0]; exact Int.emod_nonneg _ (by omega)
  · rw [Int.tmod_eq_emod_of_nonneg b0]; exact Int.emod_lt_of_pos _ (by omega)
theorem new_loop (l : List Int) (hl : l.length ≤ 1048576) : ∀ (d : Nat) (i : Nat) (x : Int), l.length ≤ i + d → i ≤ l.length → ∃ h, Ev (fun k => spec_l01New.l0 k l x (i : Int)) (l, 0, h) := by
  intro d
  induction d with
  | zero =>
    intro i x hi hj
    refine ⟨x, Ev.step (f := fun _ => some _) (fun k => ?_) (Ev.now _)⟩
    simp only [spec_l01New.l0]
    rw [if_neg (by omega)]
  | succ d ih =>
    intro i x hi hj
    by_cases c : i < l.length
    · by_cases c2 : (i : Int) < 4000
      · obtain ⟨h, hh⟩ := ih (i + 1) (Go.bits .and .i64 (wrap64 ((wrap64 ((wrap64 (x * 101)) + (wrap64 (rd l i)))) + 7)) 1073741823) (by omega) (by omega)
        refine ⟨h, Ev.step (fun k => ?_) hh⟩
        simp only [spec_l01New.l0]
        rw [if_pos (by omega), if_pos c2, if_pos (by omega), w64 (a := (i : Int) + 1) (by omega) (by omega)]
        rfl
      · refine ⟨x, Ev.step (f := fun _ => some _) (fun k => ?_) (Ev.now _)⟩
        simp only [spec_l01New.l0]
        rw [if_pos (by omega), if_neg c2]
    · refine ⟨x, Ev.step (f := fun _ => some _) (fun k => ?_) (Ev.now _)⟩
      simp only [spec_l01New.l0]
      rw [if_neg (by omega)]
theorem new_ok (l : List Int) (hl : l.length ≤ 1048576) : ∃ h, Ev (fun k => spec_l01New.f k l) (l, 0, h) := new_loop l hl l.length 0 _ (by omega) (by omega)

theorem l23_loop (l : List Int) (hl : l.length ≤ 1048576) (n : Nat) (hn : n ≤ 1000) : ∀ (d i : Nat) (s1 s2 : Int), i + d = n → 0 ≤ s1 → ∃ t1 t2, 0 ≤ t1 ∧ Ev (fun k => spec_l23New.l0 k (n : Int) (i : Int) l s1 s2) (l, t1, t2) := by
  intro d
  induction d with
  | zero =>
    intro i s1 s2 hi h
    refine ⟨s1, s2, h, Ev.step (f := fun _ => some _) (fun k => ?_) (Ev.now _)⟩
    simp only [spec_l23New.l0]
    rw [if_neg (by omega)]
  | succ d ih =>
    intro i s1 s2 hi h
    obtain ⟨b, u1, u2, e, b0, b1, hu⟩ := byte_ok l s1 s2 hl h
    obtain ⟨t1, t2, ht, hE⟩ := ih (i + 1) u1 u2 (by omega) hu
    refine ⟨t1, t2, ht, Ev.step (fun k => ?_) hE⟩
    simp only [spec_l23New.l0]
    rw [if_pos (by omega), e, w64 (by omega) (by omega)]
    rfl
theorem l23_ok (l : List Int) (hl : l.length ≤ 1048576) (n : Nat) (hn : n ≤ 1000) : ∃ t1 t2, 0 ≤ t1 ∧ Ev (fun k => spec_l23New.f k l (n : Int)) (l, t1, t2) := by
  obtain ⟨h, hh⟩ := new_ok l hl
  obtain ⟨t1, t2, ht, hE⟩ := l23_loop l hl n hn n 0 0 h (by omega) (by omega)
  exact ⟨t1, t2, ht, by unfold spec_l23New.f; exact Ev.bind hh hE⟩

/-! ### lists -/
theorem rd_mid (pre : List Int) (x : Int) (r : List Int) : rd (pre ++ x :: r) (pre.length : Int) = x := by simp [rd]
theorem rd_mid' {l pre : List Int} {x : Int} {r : List Int} (h : l = pre ++ x :: r) : rd l (pre.length : Int) = x := by subst h; exact rd_mid _ _ _
theorem snoc_eq {l pre : List Int} {x : Int} {r : List Int} (h : l = pre ++ x :: r) : l = (pre ++ [x]) ++ r := by simp [h]
theorem snoc_len {pre : List Int} (x : Int) (h : pre.length ≤ 9223372036854775806) : wrap64 ((pre.length : Int) + 1) = ((pre ++ [x]).length : Int) := by
  rw [w64 (by omega) (by omega)]; simp
/-- The whole numbers from m on, n of them. -/
def upFrom (m : Int) : Nat → List Int
  | 0 => []
  | n + 1 => m :: upFrom (m + 1) n
theorem upFrom_length (n : Nat) : ∀ m, (upFrom m n).length = n := by
  induction n with
  | zero => intro m; rfl
  | succ n ih => intro m; simp [upFrom, ih]
theorem upFrom_get (n : Nat) : ∀ (m : Int) (i : Nat) (h : i < (upFrom m n).length), (upFrom m n)[i] = m + i := by
  induction n with
  | zero => intro m i h; simp [upFrom] at h
  | succ n ih =>
    intro m i h
    cases i with
    | zero => simp [upFrom]
    | succ i => simp only [upFrom, List.getElem_cons_succ]; rw [ih]; omega
theorem upFrom_snoc (n : Nat) : ∀ m, upFrom m (n + 1) = upFrom m n ++ [m + n] := by
  induction n with
  | zero => intro m; simp [upFrom]
  | succ n ih => intro m; rw [upFrom, ih]; simp [upFrom]; omega
theorem upFrom_mem (n : Nat) : ∀ (m x : Int), x ∈ upFrom m n ↔ m ≤ x ∧ x < m + n := by
  induction n with
  | zero => intro m x; simp only [upFrom, List.not_mem_nil, false_iff]; omega
  | succ n ih => intro m x; simp only [upFrom, List.mem_cons, ih]; omega
theorem upFrom_nodup (n : Nat) : ∀ m, (upFrom m n).Nodup := by
  induction n with
  | zero => intro m; simp [upFrom]
  | succ n ih => intro m; simp only [upFrom, List.nodup_cons, ih, and_true, upFrom_mem]; omega
theorem nodup_inj {l : List Int} (h : l.Nodup) (i j : Nat) (hi : i < l.length) (hj : j < l.length) (e : l[i] = l[j]) : i = j := by
  have hp := List.pairwise_iff_getElem.1 h
  rcases Nat.lt_trichotomy i j with c | c | c
  · exact absurd e (hp i j hi hj c)
  · exact c
  · exact absurd e.symm (hp j i hj hi c)
theorem set_mid (pre : List Int) (x y : Int) (r : List Int) : (pre ++ y :: r).set pre.length x = (pre ++ [x]) ++ r := by simp
theorem lens {l pre r : List Int} (h : l = pre ++ r) : l.length = pre.length + r.length := by rw [h]; simp
theorem snoc_cast (pre : List Int) (x : Int) : ((pre ++ [x]).length : Int) = (pre.length : Int) + 1 := by simp

/-! ### permutations -/
def pokFrom (n : Nat) : List Int → List Int → Bool
  | _, [] => true
  | seen, x :: r => decide (0 ≤ x ∧ x < n) && (!decide (x ∈ seen) && pokFrom n (seen ++ [x]) r)
/-- A list of whole numbers is a permutation of at most 12 positions. -/
def permOk (a : List Int) : Bool := pokFrom a.length [] a && decide (a.length ≤ 12)
theorem pokFrom_iff (n : Nat) (r : List Int) : ∀ seen, pokFrom n seen r = true ↔ (∀ x ∈ r, 0 ≤ x ∧ x < n) ∧ r.Nodup ∧ (∀ x ∈ r, x ∉ seen) := by
  induction r with
  | nil => intro seen; simp [pokFrom]
  | cons x r ih =>
    intro seen
    simp only [pokFrom, Bool.and_eq_true, decide_eq_true_eq, Bool.not_eq_true', decide_eq_false_iff_not, ih, List.mem_cons, forall_eq_or_imp, List.nodup_cons, List.mem_append, List.not_mem_nil, or_false, not_or]
    constructor
    · rintro ⟨h1, h2, h3, h4, h5⟩
      exact ⟨⟨h1, h3⟩, ⟨fun hx => (h5 x hx).2 rfl, h4⟩, h2, fun y hy => (h5 y hy).1⟩
    · rintro ⟨⟨h1, h3⟩, ⟨h6, h4⟩, h2, h5⟩
      exact ⟨h1, h2, h3, h4, fun y hy => ⟨h5 y hy, fun e => h6 (e ▸ hy)⟩⟩
theorem permOk_iff (a : List Int) : permOk a = true ↔ (∀ x ∈ a, 0 ≤ x ∧ x < a.length) ∧ a.Nodup ∧ a.length ≤ 12 := by
  simp only [permOk, Bool.and_eq_true, pokFrom_iff, decide_eq_true_eq]
  simp [and_assoc]

def invFrom : List Int → Int → List Int → List Int
  | m, _, [] => m
  | m, i, x :: r => invFrom (m.set x.toNat i) (i + 1) r
/-- The inverse of a permutation. -/
def inverse (a : List Int) : List Int := invFrom (List.replicate a.length 0) 0 a
theorem invFrom_length (r : List Int) : ∀ m i, (invFrom m i r).length = m.length := by
  induction r with
  | nil => intro m i; rfl
  | cons x r ih => intro m i; simp [invFrom, ih]
theorem inverse_length (a : List Int) : (inverse a).length = a.length := by simp [inverse, invFrom_length]
theorem rd_set_ne {m : List Int} {x y i : Int} (hx : 0 ≤ x) (hy : 0 ≤ y) (h : x ≠ y) : rd (m.set x.toNat i) y = rd m y := by
  have : x.toNat ≠ y.toNat := by omega
  simp [rd, List.getElem?_set, this]
theorem rd_set_eq {m : List Int} {x i : Int} (hx : 0 ≤ x) (h : x < m.length) : rd (m.set x.toNat i) x = i := by
  have : x.toNat < m.length := by omega
  simp [rd, List.getElem?_set, this]
theorem invFrom_keep (r : List Int) : ∀ (m : List Int) (i y : Int), 0 ≤ y → y ∉ r → (∀ x ∈ r, 0 ≤ x) → rd (invFrom m i r) y = rd m y := by
  induction r with
  | nil => intro m i y _ _ _; rfl
  | cons x r ih =>
    intro m i y hy hn hp
    simp only [List.mem_cons, not_or] at hn
    have hx := hp x (by simp)
    rw [invFrom, ih _ _ y hy hn.2 (fun z hz => hp z (by simp [hz])), rd_set_ne hx hy (fun e => hn.1 e.symm)]
theorem invFrom_get (r : List Int) : ∀ (m : List Int) (i : Int), (∀ x ∈ r, 0 ≤ x ∧ x < m.length) → r.Nodup → ∀ (j : Nat) (h : j < r.length), rd (invFrom m i r) (r[j]) = i + j := by
  induction r with
  | nil => intro m i _ _ j h; simp at h
  | cons x r ih =>
    intro m i hp hn j h
    simp only [List.nodup_cons] at hn
    have hx := hp x (by simp)
    cases j with
    | zero =>
      simp only [List.getElem_cons_zero]
      rw [invFrom, invFrom_keep r _ _ x hx.1 hn.1 (fun z hz => (hp z (by simp [hz])).1), rd_set_eq hx.1 hx.2]
      simp
    | succ j =>
      simp only [List.getElem_cons_succ]
      rw [invFrom, ih _ _ (fun z hz => by rw [List.length_set]; exact hp z (by simp [hz])) hn.2 j (by simpa using h)]
      omega
theorem inverse_get {a : List Int} (hp : ∀ x ∈ a, 0 ≤ x ∧ x < a.length) (hn : a.Nodup) (j : Nat) (h : j < a.length) : rd (inverse a) (a[j]) = j := by
  unfold inverse
  rw [invFrom_get a _ 0 (fun x hx => by simpa using hp x hx) hn j h]
  omega

theorem nodup_le (l : List Int) : ∀ m : List Int, l.Nodup → (∀ x ∈ l, x ∈ m) → l.length ≤ m.length := by
  induction l with
  | nil => intro m _ _; simp
  | cons x l ih =>
    intro m hn hs
    simp only [List.nodup_cons] at hn
    have hx : x ∈ m := hs x (by simp)
    have h := ih (m.erase x) hn.2 (fun y hy => (List.mem_erase_of_ne (fun e => hn.1 (by rw [← e]; exact hy))).2 (hs y (by simp [hy])))
    rw [List.length_erase_of_mem hx] at h
    have := List.length_pos_of_mem hx
    simp only [List.length_cons]
    omega
theorem perm_surj {a : List Int} (hp : ∀ x ∈ a, 0 ≤ x ∧ x < a.length) (hn : a.Nodup) (v : Int) (h0 : 0 ≤ v) (h1 : v < a.length) : v ∈ a := by
  apply Decidable.byContradiction
  intro hv
  have h := nodup_le (v :: a) (upFrom 0 a.length) (by simp [hv, hn]) (fun y hy => by
    rw [upFrom_mem]
    rcases List.mem_cons.1 hy with rfl | hy
    · omega
    · have := hp y hy; omega)
  rw [upFrom_length] at h
  simp only [List.length_cons] at h
  omega
/-- Where a value of a permutation stands. -/
theorem perm_at {a : List Int} (hp : ∀ x ∈ a, 0 ≤ x ∧ x < a.length) (hn : a.Nodup) (v : Int) (h0 : 0 ≤ v) (h1 : v < a.length) : ∃ j : Nat, ∃ h : j < a.length, a[j] = v ∧ rd (inverse a) v = j := by
  obtain ⟨j, h, e⟩ := List.getElem_of_mem (perm_surj hp hn v h0 h1)
  exact ⟨j, h, e, by rw [← e]; exact inverse_get hp hn j h⟩

theorem swap_perm (p : List Int) (v : Int) (j : Nat) (h : j ≤ p.length) : (((p ++ [v]).set p.length (rd (p ++ [v]) (j : Int))).set j v).Perm (p ++ [v]) := by
  by_cases c : j = p.length
  · subst c
    rw [show rd (p ++ [v]) (p.length : Int) = v from rd_mid p v [], set_mid, List.append_nil]
    have : (p ++ [v]).set p.length v = p ++ [v] := by
      have := set_mid p v v []
      rw [List.append_nil] at this
      exact this
    rw [this]
  · have hj : j < p.length := by omega
    have ep : p = p.take j ++ p[j] :: p.drop (j + 1) := by rw [← List.drop_eq_getElem_cons hj, List.take_append_drop]
    have er : rd (p ++ [v]) (j : Int) = p[j] := by simp [rd, List.getD, List.getElem?_append_left hj, hj]
    rw [er]
    have e1 : (p ++ [v]).set p.length p[j] = p ++ [p[j]] := by
      have := set_mid p p[j] v []
      rw [List.append_nil] at this
      exact this
    rw [e1]
    generalize hu : p.take j = u at ep
    generalize hw : p.drop (j + 1) = w at ep
    generalize hx : p[j] = x at ep ⊢
    have hlu : u.length = j := by rw [← hu]; simp; omega
    rw [ep]
    have e2 : (u ++ x :: w ++ [x]).set j v = u ++ v :: (w ++ [x]) := by
      rw [show u ++ x :: w ++ [x] = u ++ x :: (w ++ [x]) by simp, ← hlu, set_mid]
      simp
    rw [e2]
    rw [List.append_assoc]
    refine List.Perm.append_left u ?_
    have h1 : (v :: (w ++ [x])).Perm (v :: ([x] ++ w)) := List.Perm.cons v List.perm_append_comm
    have h2 : ([v] ++ w).Perm (w ++ [v]) := List.perm_append_comm
    exact h1.trans ((List.Perm.swap x v w).trans (List.Perm.cons x h2))
theorem shuffle_loop (s0 : List Int) (hl : s0.length ≤ 1048576) (m : Nat) (hm : m ≤ 12) : ∀ (d i : Nat) (p : List Int) (s1 s2 : Int), i + d = m → p.Perm (upFrom 0 i) → 0 ≤ s1 →
    ∃ q t1 t2, q.Perm (upFrom 0 m) ∧ 0 ≤ t1 ∧ Ev (fun k => spec_l02Shuffle.l0 k (m : Int) p (i : Int) s0 s1 s2) (q, t1, t2) := by
  intro d
  induction d with
  | zero =>
    intro i p s1 s2 hi hp h
    obtain rfl : i = m := by omega
    refine ⟨p, s1, s2, hp, h, Ev.step (f := fun _ => some _) (fun k => ?_) (Ev.now _)⟩
    simp only [spec_l02Shuffle.l0]
    rw [if_neg (by omega)]
  | succ d ih =>
    intro i p s1 s2 hi hp h
    have hpl : p.length = i := by rw [hp.length_eq, upFrom_length]
    obtain ⟨b, u1, u2, e, b0, b1, hu⟩ := below_ok s0 s1 s2 ((i : Int) + 1) hl h (by omega) (by omega)
    have hs : (((p ++ [(i : Int)]).set i (rd (p ++ [(i : Int)]) b)).set b.toNat (i : Int)).Perm (upFrom 0 (i + 1)) := by
      have := swap_perm p (i : Int) b.toNat (by omega)
      rw [Int.toNat_of_nonneg b0, hpl] at this
      refine this.trans ?_
      rw [upFrom_snoc]
      simp only [Int.zero_add]
      exact List.Perm.append_right _ hp
    obtain ⟨q, t1, t2, hq, ht, hE⟩ := ih (i + 1) _ u1 u2 (by omega) hs hu
    refine ⟨q, t1, t2, hq, ht, Ev.step (fun k => ?_) hE⟩
    simp only [spec_l02Shuffle.l0]
    rw [if_pos (by omega), w64 (a := (i : Int) + 1) (by omega) (by omega), e]
    simp only [Option.bind_some]
    rw [if_pos (by omega), if_pos b0, if_pos (by simp; omega), if_pos (by omega), if_pos (by simp; omega), Int.toNat_natCast]
    rfl
theorem shuffle_ok (s0 : List Int) (hl : s0.length ≤ 1048576) (m : Nat) (hm : m ≤ 12) (s1 s2 : Int) (h : 0 ≤ s1) :
    ∃ q t1 t2, q.Perm (upFrom 0 m) ∧ 0 ≤ t1 ∧ Ev (fun k => spec_l02Shuffle.f k s0 s1 s2 (m : Int)) (q, t1, t2) :=
  shuffle_loop s0 hl m hm m 0 [] s1 s2 (by omega) (List.Perm.refl _) h
theorem permOk_of_perm {q : List Int} {m : Nat} (hm : m ≤ 12) (h : q.Perm (upFrom 0 m)) : permOk q = true ∧ q.length = m := by
  have hl : q.length = m := by rw [h.length_eq, upFrom_length]
  refine ⟨(permOk_iff q).2 ⟨fun x hx => ?_, h.nodup_iff.2 (upFrom_nodup _ _), by omega⟩, hl⟩
  have := h.mem_iff.1 hx
  rw [upFrom_mem] at this
  omega

theorem makeNum_ok (l : List Int) (hl : l.length ≤ 1048576) (n : Nat) (hn : n ≤ 1000) : ∃ v, 0 ≤ v ∧ v ≤ 65535 ∧ Ev (fun k => spec_MakeNum.f k l (n : Int)) v := by
  obtain ⟨t1, t2, ht, hE⟩ := l23_ok l hl n hn
  obtain ⟨b, u1, u2, e, b0, b1, hu⟩ := byte_ok l t1 t2 hl ht
  obtain ⟨c, v1, v2, e2, c0, c1, hv⟩ := byte_ok l u1 u2 hl hu
  refine ⟨b * 256 + c, by omega, by omega, ?_⟩
  unfold spec_MakeNum.f
  refine Ev.bind hE ?_
  simp only [e, e2, Option.bind_some]
  rw [w64 (a := b * 256) (by omega) (by omega), w64 (by omega) (by omega)]
  exact Ev.now _

theorem makePerm_ok (l : List Int) (hl : l.length ≤ 1048576) (m : Nat) (hm : m ≤ 1000) (n : Int) (h1 : 1 ≤ n) (h2 : n ≤ 12) : ∃ q, permOk q = true ∧ (q.length : Int) = n ∧ Ev (fun k => spec_MakePerm.f k l (m : Int) n) q := by
  obtain ⟨t1, t2, ht, hE⟩ := l23_ok l hl m hm
  have en : mx 1 (mn n 12) = ((n.toNat : Nat) : Int) := by
    unfold mx mn
    split <;> split <;> omega
  obtain ⟨q, u1, u2, hp, hu, hq⟩ := shuffle_ok l hl n.toNat (by omega) t1 t2 ht
  obtain ⟨p1, p2⟩ := permOk_of_perm (by omega) hp
  refine ⟨q, p1, by omega, ?_⟩
  unfold spec_MakePerm.f
  refine Ev.bind hE ?_
  simp only [en]
  exact Ev.bind hq (Ev.now _)

/-- The list of a's entries at b's entries. -/
def compose (a b : List Int) : List Int := b.map fun x => rd a x
theorem compose_length (a b : List Int) : (compose a b).length = b.length := by simp [compose]

def composePerms (a b : List Int) : List Int × Bool := if permOk a = true ∧ permOk b = true ∧ a.length = b.length then (compose a b, true) else ([], false)
theorem composePerms_length (a b : List Int) : (composePerms a b).1.length ≤ 12 := by
  unfold composePerms
  by_cases h : permOk a = true ∧ permOk b = true ∧ a.length = b.length
  · rw [if_pos h, compose_length]; exact ((permOk_iff b).1 h.2.1).2.2
  · rw [if_neg h]; simp

def inversePerm (a : List Int) : List Int × Bool := if permOk a = true then (inverse a, true) else ([], false)
theorem inversePerm_length (a : List Int) : (inversePerm a).1.length ≤ 12 := by
  unfold inversePerm
  by_cases h : permOk a = true
  · rw [if_pos h, inverse_length]; exact ((permOk_iff a).1 h).2.2
  · rw [if_neg h]; simp

/-- b with a put behind it k times. -/
def powFrom (a : List Int) : Nat → List Int → List Int
  | 0, b => b
  | k + 1, b => powFrom a k (compose b a)
def powerPerm (a : List Int) (k : Int) : List Int × Bool := if permOk a = true ∧ 0 ≤ k ∧ k ≤ 1000 then (powFrom a k.toNat (upFrom 0 a.length), true) else ([], false)
theorem powFrom_length (a : List Int) (k : Nat) : ∀ b, b.length = a.length → (powFrom a k b).length = a.length := by
  induction k with
  | zero => intro b h; exact h
  | succ k ih => intro b h; rw [powFrom]; exact ih _ (by simp [compose])
theorem powerPerm_length (a : List Int) (k : Int) : (powerPerm a k).1.length ≤ 12 := by
  unfold powerPerm
  by_cases h : permOk a = true ∧ 0 ≤ k ∧ k ≤ 1000
  · rw [if_pos h, powFrom_length a _ _ (upFrom_length _ _)]; exact ((permOk_iff a).1 h.1).2.2
  · rw [if_neg h]; simp

/-- The first power of a, from x at count i on, that is the identity; at most d more steps. -/
def ordFrom (a : List Int) : Nat → List Int → Nat → Int
  | 0, _, i => i
  | d + 1, x, i => if x = upFrom 0 a.length then i else ordFrom a d (compose x a) (i + 1)
def orderOf (m : Nat) (a : List Int) : Int := if permOk a = true then ordFrom a m a 1 else 0
def code : List Int → Nat
  | [] => 0
  | x :: r => x.toNat + 12 * code r
theorem code_lt (l : List Int) (h : ∀ x ∈ l, 0 ≤ x ∧ x < 12) : code l < 12 ^ l.length := by
  induction l with
  | nil => simp [code]
  | cons x r ih =>
    have h1 := ih (fun y hy => h y (by simp [hy]))
    have h2 := h x (by simp)
    simp only [code, List.length_cons, Nat.pow_succ]
    omega
theorem code_inj : ∀ (l m : List Int), l.length = m.length → (∀ x ∈ l, 0 ≤ x ∧ x < 12) → (∀ x ∈ m, 0 ≤ x ∧ x < 12) → code l = code m → l = m := by
  intro l
  induction l with
  | nil => intro m h _ _ _; cases m with
    | nil => rfl
    | cons => simp at h
  | cons x r ih =>
    intro m h hl hm e
    cases m with
    | nil => simp at h
    | cons y s =>
      have hx := hl x (by simp)
      have hy := hm y (by simp)
      simp only [code] at e
      have e1 : x = y := by omega
      have e2 : code r = code s := by omega
      rw [e1, ih s (by simpa using h) (fun z hz => hl z (by simp [hz])) (fun z hz => hm z (by simp [hz])) e2]
theorem pigeon (N : Nat) (f : Nat → Nat) (h : ∀ i, i ≤ N → f i < N) : ∃ i j, i < j ∧ j ≤ N ∧ f i = f j := by
  apply Classical.byContradiction
  intro hn
  have hd : ((List.range (N + 1)).map fun i => (f i : Int)).Nodup := by
    unfold List.Nodup
    rw [List.pairwise_map]
    refine List.Pairwise.imp_of_mem ?_ (List.pairwise_lt_range (n := N + 1))
    intro i j hi hj hij e
    rw [List.mem_range] at hi hj
    exact hn ⟨i, j, hij, by omega, by omega⟩
  have := nodup_le _ (upFrom 0 N) hd (fun y hy => by
    obtain ⟨i, hi, rfl⟩ := List.mem_map.1 hy
    rw [List.mem_range] at hi
    rw [upFrom_mem]
    have := h i (by omega)
    omega)
  rw [upFrom_length, List.length_map, List.length_range] at this
  omega
theorem powFrom_succ (a : List Int) (k : Nat) : ∀ b, powFrom a (k + 1) b = compose (powFrom a k b) a := by
  induction k with
  | zero => intro b; rfl
  | succ k ih => intro b; rw [powFrom, ih]; rfl
theorem compose_cancel {a x y : List Int} (hp : ∀ z ∈ a, 0 ≤ z ∧ z < a.length) (hn : a.Nodup) (hx : x.length = a.length) (hy : y.length = a.length) (e : compose x a = compose y a) : x = y := by
  apply List.ext_getElem (by omega)
  intro i h1 h2
  obtain ⟨j, hj, ej, -⟩ := perm_at hp hn (i : Int) (by omega) (by omega)
  have := congrArg (fun l : List Int => l[j]?) e
  simp only [compose, List.getElem?_map, List.getElem?_eq_getElem hj, Option.map_some, Option.some.injEq, ej] at this
  rw [rd_lt h1, rd_lt h2] at this
  exact this
theorem compose_range {a x : List Int} (hp : ∀ z ∈ a, 0 ≤ z ∧ z < a.length) (hx : x.length = a.length) (hr : ∀ z ∈ x, 0 ≤ z ∧ z < a.length) : ∀ z ∈ compose x a, 0 ≤ z ∧ z < a.length := by
  intro z hz
  obtain ⟨v, hv, rfl⟩ := List.mem_map.1 hz
  have h := hp v hv
  have e : rd x v = x[v.toNat]'(by omega) := by
    have := rd_lt (xs := x) (i := v.toNat) (by omega)
    rw [Int.toNat_of_nonneg h.1] at this
    exact this
  rw [e]
  exact hr _ (List.getElem_mem _)
theorem powFrom_range {a : List Int} (hp : ∀ z ∈ a, 0 ≤ z ∧ z < a.length) (k : Nat) : ∀ b : List Int, b.length = a.length → (∀ z ∈ b, 0 ≤ z ∧ z < a.length) → ∀ z ∈ powFrom a k b, 0 ≤ z ∧ z < a.length := by
  induction k with
  | zero => intro b hb hr; exact hr
  | succ k ih => intro b hb hr; exact ih _ (by simp [compose]) (compose_range hp hb hr)
theorem compose_id_left {a : List Int} (hp : ∀ z ∈ a, 0 ≤ z ∧ z < a.length) : compose (upFrom 0 a.length) a = a := by
  apply List.ext_getElem (by simp [compose])
  intro i h1 h2
  have h := hp a[i] (List.getElem_mem _)
  simp only [compose, List.getElem_map]
  have hl := upFrom_length a.length 0
  have := rd_lt (xs := upFrom 0 a.length) (i := a[i].toNat) (by omega)
  rw [upFrom_get, Int.toNat_of_nonneg h.1] at this
  rw [this]
  omega
/-- Some power of a permutation of at most twelve positions is the identity. -/
theorem order_exists (a : List Int) : ∃ m : Nat, m ≤ 4611686018427387903 ∧ (permOk a = true → powFrom a m a = upFrom 0 a.length) := by
  by_cases h1 : permOk a = true
  · obtain ⟨p1, p2, p3⟩ := (permOk_iff a).1 h1
    have hid : ∀ z ∈ upFrom 0 a.length, 0 ≤ z ∧ z < a.length := fun z hz => by rw [upFrom_mem] at hz; omega
    have hr := fun k => powFrom_range p1 k (upFrom 0 a.length) (upFrom_length _ _) hid
    have hl := fun k => powFrom_length a k (upFrom 0 a.length) (upFrom_length _ _)
    have h12 : ∀ k, ∀ z ∈ powFrom a k (upFrom 0 a.length), 0 ≤ z ∧ z < 12 := fun k z hz => by have := hr k z hz; omega
    obtain ⟨i, j, hij, hj, e⟩ := pigeon (12 ^ 12) (fun k => code (powFrom a k (upFrom 0 a.length))) (fun k _ => by
      refine Nat.lt_of_lt_of_le (code_lt _ (h12 k)) ?_
      rw [hl]
      exact Nat.pow_le_pow_right (by omega) p3)
    have e2 := code_inj _ _ (by rw [hl, hl]) (h12 i) (h12 j) e
    have key : ∀ i d : Nat, powFrom a i (upFrom 0 a.length) = powFrom a (i + d) (upFrom 0 a.length) → powFrom a d (upFrom 0 a.length) = upFrom 0 a.length := by
      intro i
      induction i with
      | zero => intro d h; rw [Nat.zero_add] at h; exact h.symm
      | succ i ih =>
        intro d h
        rw [show i + 1 + d = (i + d) + 1 by omega, powFrom_succ, powFrom_succ] at h
        exact ih d (compose_cancel p1 p2 (hl _) (hl _) h)
    have e3 := key i (j - i) (by rw [show i + (j - i) = j by omega]; exact e2)
    have hN : (12 : Nat) ^ 12 = 8916100448256 := by decide
    refine ⟨j - i - 1, by omega, fun _ => ?_⟩
    rw [show j - i = (j - i - 1) + 1 by omega, powFrom, compose_id_left p1] at e3
    exact e3
  · exact ⟨0, by omega, fun h => absurd h h1⟩

/-- The cycle that begins at x, and what has been met then. -/
def cycFrom (a : List Int) : Nat → List Bool → List Int → Int → List Bool × List Int
  | 0, m, c, _ => (m, c)
  | d + 1, m, c, x => if rdOf false m x = true then (m, c) else cycFrom a d (m.set x.toNat true) (c ++ [x]) (rd a x)
def cycAll (a : List Int) : Nat → Nat → List (List Int) → List Bool → List (List Int)
  | 0, _, out, _ => out
  | d + 1, i, out, m => cycAll a d (i + 1) (if (cycFrom a (a.length + 1) m [] i).2 = [] then out else out ++ [(cycFrom a (a.length + 1) m [] i).2]) (cycFrom a (a.length + 1) m [] i).1
def cyclesOf (a : List Int) : List (List Int) := if permOk a = true then cycAll a a.length 0 [] (List.replicate a.length false) else []
theorem cycFrom_length (a : List Int) (d : Nat) : ∀ m c x, (cycFrom a d m c x).1.length = m.length := by
  induction d with
  | zero => intro m c x; rfl
  | succ d ih =>
    intro m c x
    rw [cycFrom]
    split
    · rfl
    · rw [ih]; simp
theorem count_met {m : List Bool} {x : Int} (h0 : 0 ≤ x) (h1 : x < m.length) (h : ¬ rdOf false m x = true) : (m.set x.toNat true).count false + 1 = m.count false := by
  have hl : x.toNat < m.length := by omega
  have e : m[x.toNat] = false := by
    simp only [rdOf, List.getD_eq_getElem?_getD, List.getElem?_eq_getElem hl, Option.getD_some] at h
    simpa using h
  rw [List.count_set hl, e]
  have : 0 < m.count false := List.count_pos_iff.2 (e ▸ List.getElem_mem hl)
  simp
  omega
theorem rd_in {a : List Int} (hp : ∀ x ∈ a, 0 ≤ x ∧ x < a.length) {x : Int} (h0 : 0 ≤ x) (h1 : x < a.length) : 0 ≤ rd a x ∧ rd a x < a.length := by
  have e : rd a x = a[x.toNat]'(by omega) := by
    have := rd_lt (xs := a) (i := x.toNat) (by omega)
    rw [Int.toNat_of_nonneg h0] at this
    exact this
  rw [e]
  exact hp _ (List.getElem_mem _)
theorem cycFrom_keep (a : List Int) (d : Nat) : ∀ m c x, c ≠ [] → (cycFrom a d m c x).2 ≠ [] := by
  induction d with
  | zero => intro m c x h; exact h
  | succ d ih =>
    intro m c x h
    rw [cycFrom]
    split
    · exact h
    · exact ih _ _ _ (by simp)

/-! ### sign0: the sign of a permutation, by its inversions -/
def sumTo : Nat → (Nat → Nat) → Nat
  | 0, _ => 0
  | n + 1, g => sumTo n g + g n
theorem sumTo_congr (n : Nat) (g h : Nat → Nat) (e : ∀ i, i < n → g i = h i) : sumTo n g = sumTo n h := by
  induction n with
  | zero => rfl
  | succ n ih => rw [sumTo, sumTo, ih (fun i hi => e i (by omega)), e n (by omega)]
theorem sumTo_add (n : Nat) (g h : Nat → Nat) : sumTo n (fun i => g i + h i) = sumTo n g + sumTo n h := by
  induction n with
  | zero => rfl
  | succ n ih => simp only [sumTo, ih]; omega
theorem sumTo_range (n : Nat) (g : Nat → Nat) : sumTo n g = ((List.range n).map g).sum := by
  induction n with
  | zero => rfl
  | succ n ih => rw [sumTo, List.range_succ, List.map_append, List.sum_append, ih]; simp
/-- f moves the numbers below n among themselves, no two to one. -/
def Moves (n : Nat) (f : Nat → Nat) : Prop := (∀ i, i < n → f i < n) ∧ (∀ i j, i < n → j < n → f i = f j → i = j)
theorem nodup_card (l : List Nat) : ∀ m : List Nat, l.Nodup → (∀ x ∈ l, x ∈ m) → l.length ≤ m.length := by
  induction l with
  | nil => intro m _ _; simp
  | cons x l ih =>
    intro m hn hs
    simp only [List.nodup_cons] at hn
    have hx : x ∈ m := hs x (by simp)
    have h := ih (m.erase x) hn.2 (fun y hy => (List.mem_erase_of_ne (fun e => hn.1 (by rw [← e]; exact hy))).2 (hs y (by simp [hy])))
    rw [List.length_erase_of_mem hx] at h
    have := List.length_pos_of_mem hx
    simp only [List.length_cons]
    omega
theorem moves_nodup {n : Nat} {f : Nat → Nat} (h : Moves n f) : ((List.range n).map f).Nodup := by
  unfold List.Nodup
  rw [List.pairwise_map]
  refine List.Pairwise.imp_of_mem ?_ (List.pairwise_lt_range (n := n))
  intro i j hi hj hij e
  rw [List.mem_range] at hi hj
  exact absurd (h.2 i j hi hj e) (by omega)
theorem moves_onto {n : Nat} {f : Nat → Nat} (h : Moves n f) (v : Nat) (hv : v < n) : ∃ i, i < n ∧ f i = v := by
  apply Classical.byContradiction
  intro hc
  have hm : v ∉ (List.range n).map f := fun hx => by
    obtain ⟨i, hi, e⟩ := List.mem_map.1 hx
    exact hc ⟨i, List.mem_range.1 hi, e⟩
  have := nodup_card (v :: (List.range n).map f) (List.range n) (by simp only [List.nodup_cons]; exact ⟨hm, moves_nodup h⟩) (fun y hy => by
    rw [List.mem_range]
    rcases List.mem_cons.1 hy with rfl | hy
    · exact hv
    · obtain ⟨i, hi, rfl⟩ := List.mem_map.1 hy
      exact h.1 i (List.mem_range.1 hi))
  simp only [List.length_cons, List.length_map, List.length_range] at this
  omega
theorem sumTo_moves {n : Nat} {f : Nat → Nat} (h : Moves n f) (g : Nat → Nat) : sumTo n (fun i => g (f i)) = sumTo n g := by
  rw [sumTo_range, sumTo_range]
  have hp : ((List.range n).map f).Perm (List.range n) := (List.perm_ext_iff_of_nodup (moves_nodup h) List.nodup_range).2 (fun v => by
    rw [List.mem_range]
    constructor
    · intro hv
      obtain ⟨i, hi, rfl⟩ := List.mem_map.1 hv
      exact h.1 i (List.mem_range.1 hi)
    · intro hv
      obtain ⟨i, hi, e⟩ := moves_onto h v hv
      exact List.mem_map.2 ⟨i, List.mem_range.2 hi, e⟩)
  have := (hp.map g).sum_nat
  rw [List.map_map] at this
  exact this
def half (n : Nat) (F : Nat → Nat → Nat) : Nat := sumTo n (fun j => sumTo j (fun i => F i j))
def full (n : Nat) (F : Nat → Nat → Nat) : Nat := sumTo n (fun j => sumTo n (fun i => F i j))
theorem full_half (n : Nat) (F : Nat → Nat → Nat) (hs : ∀ i j, F i j = F j i) (hd : ∀ i, F i i = 0) : full n F = 2 * half n F := by
  induction n with
  | zero => rfl
  | succ n ih =>
    have e1 : full (n + 1) F = full n F + sumTo n (fun j => F n j) + (sumTo n (fun i => F i n) + F n n) := by
      unfold full
      rw [sumTo, sumTo, ← sumTo_add]
      rfl
    have e2 : half (n + 1) F = half n F + sumTo n (fun i => F i n) := rfl
    have e3 : sumTo n (fun j => F n j) = sumTo n (fun i => F i n) := sumTo_congr n _ _ (fun i _ => hs n i)
    rw [e1, e2, ih, hd, e3]
    omega
theorem half_moves {n : Nat} {f : Nat → Nat} (h : Moves n f) (F : Nat → Nat → Nat) (hs : ∀ i j, F i j = F j i) (hd : ∀ i, F i i = 0) : half n (fun i j => F (f i) (f j)) = half n F := by
  have h1 := full_half n F hs hd
  have h2 := full_half n (fun i j => F (f i) (f j)) (fun i j => hs _ _) (fun i => hd _)
  have h3 : full n (fun i j => F (f i) (f j)) = full n F := by
    unfold full
    rw [← sumTo_moves h (fun j => sumTo n (fun i => F i j))]
    exact sumTo_congr n _ _ (fun j _ => sumTo_moves h (fun i => F i (f j)))
  omega
/-- 1 where f puts two numbers into the other order. -/
def crossed (f : Nat → Nat) (i j : Nat) : Nat := if i = j then 0 else if (i < j ∧ f j < f i) ∨ (j < i ∧ f i < f j) then 1 else 0
def crossings (n : Nat) (f : Nat → Nat) : Nat := half n (crossed f)
theorem crossed_symm (f : Nat → Nat) (i j : Nat) : crossed f i j = crossed f j i := by
  unfold crossed
  by_cases h : i = j
  · simp [h]
  · have h' : ¬ j = i := fun e => h e.symm
    simp only [if_neg h, if_neg h']
    by_cases c : (i < j ∧ f j < f i) ∨ (j < i ∧ f i < f j)
    · rw [if_pos c, if_pos (by omega)]
    · rw [if_neg c, if_neg (by omega)]
theorem crossed_self (f : Nat → Nat) (i : Nat) : crossed f i i = 0 := by simp [crossed]
theorem half_mod (n : Nat) (F G H : Nat → Nat → Nat) (e : ∀ i j, i < n → j < n → F i j % 2 = (G i j + H i j) % 2) : half n F % 2 = (half n G + half n H) % 2 := by
  have row : ∀ m j, m ≤ n → j < n → sumTo m (fun i => F i j) % 2 = (sumTo m (fun i => G i j) + sumTo m (fun i => H i j)) % 2 := by
    intro m j
    induction m with
    | zero => intro _ _; rfl
    | succ m ih => intro hm hj; have h1 := ih (by omega) hj; have h2 := e m j (by omega) hj; simp only [sumTo]; omega
  have all : ∀ m, m ≤ n → half m F % 2 = (half m G + half m H) % 2 := by
    intro m
    induction m with
    | zero => intro _; rfl
    | succ m ih =>
      intro hm
      have h1 := ih (by omega)
      have h2 := row m m (by omega) (by omega)
      simp only [half, sumTo] at h1 h2 ⊢
      omega
  exact all n (Nat.le_refl n)
theorem crossings_comp {n : Nat} {f g : Nat → Nat} (hf : Moves n f) (hg : Moves n g) : crossings n (fun i => f (g i)) % 2 = (crossings n g + crossings n f) % 2 := by
  unfold crossings
  rw [← half_moves hg (crossed f) (crossed_symm f) (crossed_self f)]
  refine half_mod n _ _ _ (fun i j hi hj => ?_)
  unfold crossed
  dsimp only
  by_cases c : i = j
  · simp [c]
  · have c2 : g i ≠ g j := fun h => c (hg.2 i j hi hj h)
    have c3 : f (g i) ≠ f (g j) := fun h => c2 (hf.2 _ _ (hg.1 i hi) (hg.1 j hj) h)
    rw [if_neg c, if_neg c, if_neg c2]
    split <;> split <;> split <;> omega
def swapped (u v : Nat) (i : Nat) : Nat := if i = u then v else if i = v then u else i
theorem swapped_moves {n u v : Nat} (hu : u < n) (hv : v < n) : Moves n (swapped u v) := by
  refine ⟨fun i hi => ?_, fun i j hi hj => ?_⟩
  · unfold swapped; split <;> (try split) <;> omega
  · unfold swapped; split <;> (try split) <;> (try split) <;> (try split) <;> omega
set_option maxRecDepth 100000 in
theorem swapped_odd : ∀ n, n ≤ 8 → ∀ u, u < n → ∀ v, v < n → u ≠ v → crossings n (swapped u v) % 2 = 1 := by
  have h : ∀ n, n < 9 → ∀ u, u < n → ∀ v, v < n → u ≠ v → crossings n (swapped u v) % 2 = 1 := by decide +kernel
  exact fun n hn => h n (by omega)
theorem crossings_swap {n u v : Nat} {g : Nat → Nat} (hn : n ≤ 8) (hg : Moves n g) (hu : u < n) (hv : v < n) (h : u ≠ v) : Moves n (fun i => g (swapped u v i)) ∧ crossings n (fun i => g (swapped u v i)) % 2 = (crossings n g + 1) % 2 := by
  have hs := swapped_moves hu hv
  refine ⟨⟨fun i hi => hg.1 _ (hs.1 i hi), fun i j hi hj e => hs.2 i j hi hj (hg.2 _ _ (hs.1 i hi) (hs.1 j hj) e)⟩, ?_⟩
  have h1 := crossings_comp hg hs
  have h2 := swapped_odd n hn u hu v hv h
  omega

def isEven (a : List Int) : Bool := if permOk a = true then (Int.tmod (wrap64 ((a.length : Int) - ((cyclesOf a).length : Int))) 2 == 0) else false

/-! ### cycles1: what the search for cycles finds -/
/-- l is a cycle of F among the numbers below n. -/
structure IsCyc (n : Nat) (F : Nat → Nat) (l : List Nat) : Prop where
  pos : 0 < l.length
  low : ∀ y ∈ l, y < n
  nod : l.Nodup
  next : ∀ s (h : s + 1 < l.length), F (l[s]) = l[s + 1]
  back : F (l[l.length - 1]'(by omega)) = l[0]
theorem nodup_at {l : List Nat} (h : l.Nodup) (i j : Nat) (hi : i < l.length) (hj : j < l.length) (e : l[i] = l[j]) : i = j := by
  have hp := List.pairwise_iff_getElem.1 h
  rcases Nat.lt_trichotomy i j with c | c | c
  · exact absurd e (hp i j hi hj c)
  · exact c
  · exact absurd e.symm (hp j i hj hi c)
/-- F as a function on the numbers, read off a list. -/
def numF (a : List Int) (y : Nat) : Nat := (rd a (y : Int)).toNat
theorem numF_rd {a : List Int} (hp : ∀ x ∈ a, 0 ≤ x ∧ x < a.length) {y : Nat} (h : y < a.length) : rd a (y : Int) = (numF a y : Int) ∧ numF a y < a.length := by
  have := rd_in hp (x := (y : Int)) (by omega) (by omega)
  unfold numF
  omega
theorem numF_moves {a : List Int} (hp : ∀ x ∈ a, 0 ≤ x ∧ x < a.length) (hn : a.Nodup) : Moves a.length (numF a) := by
  refine ⟨fun i hi => (numF_rd hp hi).2, fun i j hi hj e => ?_⟩
  have h1 := (numF_rd hp hi).1
  have h2 := (numF_rd hp hj).1
  rw [e, ← h2, rd_lt hi, rd_lt hj] at h1
  exact nodup_inj hn i j hi hj h1
/-- What stands when the search has gone along a cycle up to 'last'. -/
structure CycAt (n : Nat) (F : Nat → Nat) (old : Nat → Prop) (i S : Nat) (cs : List Nat) (m : List Bool) (g : Nat → Nat) : Prop where
  len : m.length = n
  vis : ∀ y, y < n → (m.getD y false = true ↔ old y ∨ y ∈ cs)
  pos : 0 < cs.length
  low : ∀ y ∈ cs, y < n
  new : ∀ y ∈ cs, ¬ old y
  nod : cs.Nodup
  head : cs[0] = i
  next : ∀ s (h : s + 1 < cs.length), F (cs[s]) = cs[s + 1]
  mov : Moves n g
  g1 : ∀ y, y < n → old y → g y = F y
  g2 : ∀ s (h : s + 1 < cs.length), g (cs[s]) = cs[s + 1]
  g3 : g (cs[cs.length - 1]'(by omega)) = i
  g4 : ∀ y, y < n → ¬ old y → y ∉ cs → g y = y
  par : crossings n g % 2 = (S + cs.length + 1) % 2
theorem getD_set {m : List Bool} {x y : Nat} (h : x < m.length) : (m.set x true).getD y false = if y = x then true else m.getD y false := by
  simp only [List.getD_eq_getElem?_getD, List.getElem?_set]
  by_cases e : x = y
  · subst e; simp [h]
  · rw [if_neg e, if_neg (fun h => e h.symm)]
theorem CycAt.step {n : Nat} {F : Nat → Nat} {old : Nat → Prop} {i S : Nat} {cs : List Nat} {m : List Bool} {g : Nat → Nat} (h : CycAt n F old i S cs m g) (hn : n ≤ 8) (hF : Moves n F) (x : Nat) (hx : x = F (cs[cs.length - 1]'(by have := h.pos; omega))) (hv : m.getD x false = false) :
    CycAt n F old i S (cs ++ [x]) (m.set x true) (fun y => g (swapped (cs[cs.length - 1]'(by have := h.pos; omega)) x y)) := by
  have hp := h.pos
  have hl : cs[cs.length - 1] < n := h.low _ (List.getElem_mem _)
  have hxn : x < n := by rw [hx]; exact hF.1 _ hl
  have hnv : ¬ (old x ∨ x ∈ cs) := fun c => by rw [← h.vis x hxn, hv] at c; cases c
  have hlx : cs[cs.length - 1] ≠ x := fun e => hnv (.inr (e ▸ List.getElem_mem _))
  have hs := crossings_swap hn h.mov hl hxn hlx
  have hlast : (cs ++ [x]).length - 1 = cs.length := by simp
  refine { len := by simpa using h.len, vis := ?_, pos := by simp, low := ?_, new := ?_, nod := ?_, head := ?_, next := ?_, mov := hs.1, g1 := ?_, g2 := ?_, g3 := ?_, g4 := ?_, par := ?_ }
  · intro y hy
    rw [getD_set (by rw [h.len]; exact hxn)]
    by_cases e : y = x
    · simp [e]
    · rw [if_neg e, h.vis y hy]; simp [e]
  · intro y hy
    rcases List.mem_append.1 hy with hy | hy
    · exact h.low y hy
    · rw [List.mem_singleton.1 hy]; exact hxn
  · intro y hy
    rcases List.mem_append.1 hy with hy | hy
    · exact h.new y hy
    · rw [List.mem_singleton.1 hy]; exact fun c => hnv (.inl c)
  · rw [List.nodup_append]
    exact ⟨h.nod, by simp, fun a ha b hb => by rw [List.mem_singleton.1 hb]; exact fun e => hnv (.inr (e ▸ ha))⟩
  · rw [List.getElem_append_left hp]; exact h.head
  · intro s hs'
    simp only [List.length_append, List.length_singleton] at hs'
    by_cases c : s + 1 < cs.length
    · rw [List.getElem_append_left c, List.getElem_append_left (by omega)]; exact h.next s c
    · obtain rfl : s = cs.length - 1 := by omega
      rw [List.getElem_append_left (by omega), List.getElem_append_right (by omega)]
      simp [hx]
  · intro y hy ho
    have e1 : y ≠ cs[cs.length - 1] := fun e => h.new _ (List.getElem_mem _) (e ▸ ho)
    have e2 : y ≠ x := fun e => hnv (.inl (e ▸ ho))
    dsimp only [swapped]
    rw [if_neg e1, if_neg e2]
    exact h.g1 y hy ho
  · intro s hs'
    simp only [List.length_append, List.length_singleton] at hs'
    dsimp only [swapped]
    by_cases c : s + 1 < cs.length
    · rw [List.getElem_append_left c, List.getElem_append_left (by omega : s < cs.length)]
      have e1 : cs[s] ≠ cs[cs.length - 1] := fun e => by have := nodup_at h.nod _ _ _ _ e; omega
      have e2 : cs[s] ≠ x := fun e => hnv (.inr (e ▸ List.getElem_mem _))
      rw [if_neg e1, if_neg e2]
      exact h.g2 s c
    · obtain rfl : s = cs.length - 1 := by omega
      rw [List.getElem_append_left (by omega : cs.length - 1 < cs.length), List.getElem_append_right (by omega), if_pos rfl]
      have := h.g4 x hxn (fun c => hnv (.inl c)) (fun c => hnv (.inr c))
      rw [this]
      simp
  · have e : (cs ++ [x])[(cs ++ [x]).length - 1]'(by simp) = x := by
      rw [List.getElem_append_right (by omega)]; simp
    rw [e]
    dsimp only [swapped]
    rw [if_neg (fun e => hlx e.symm), if_pos rfl]
    exact h.g3
  · intro y hy ho hm
    simp only [List.mem_append, List.mem_singleton, not_or] at hm
    have e1 : y ≠ cs[cs.length - 1] := fun e => hm.1 (e ▸ List.getElem_mem _)
    dsimp only [swapped]
    rw [if_neg e1, if_neg hm.2]
    exact h.g4 y hy ho hm.1
  · rw [hs.2, List.length_append, List.length_singleton]
    have := h.par
    omega
theorem CycAt.back {n : Nat} {F : Nat → Nat} {old : Nat → Prop} {i S : Nat} {cs : List Nat} {m : List Bool} {g : Nat → Nat} (h : CycAt n F old i S cs m g) (hF : Moves n F) (hcl : ∀ y, y < n → (old (F y) ↔ old y)) (hv : m.getD (F (cs[cs.length - 1]'(by have := h.pos; omega))) false = true) :
    F (cs[cs.length - 1]'(by have := h.pos; omega)) = i := by
  have hp := h.pos
  have hl : cs[cs.length - 1] < n := h.low _ (List.getElem_mem _)
  rw [h.vis _ (hF.1 _ hl)] at hv
  rcases hv with hv | hv
  · exact absurd ((hcl _ hl).1 hv) (h.new _ (List.getElem_mem _))
  · obtain ⟨s, hs, e⟩ := List.getElem_of_mem hv
    cases s with
    | zero => rw [← e]; exact h.head
    | succ s =>
      rw [← h.next s hs] at e
      have e2 := hF.2 _ _ (h.low _ (List.getElem_mem _)) hl e
      have := nodup_at h.nod _ _ _ _ e2
      omega
/-- What the search of one cycle answers. -/
theorem cycFrom_run {a : List Int} (hp : ∀ x ∈ a, 0 ≤ x ∧ x < a.length) (hN : a.Nodup) (hn : a.length ≤ 8) {old : Nat → Prop} {i S : Nat} (hcl : ∀ y, y < a.length → (old (numF a y) ↔ old y)) : ∀ (d : Nat) (cs : List Nat) (m : List Bool) (g : Nat → Nat) (h : CycAt a.length (numF a) old i S cs m g), m.count false < d →
    ∃ cs' m' g', cycFrom a d m (cs.map Int.ofNat) (numF a (cs[cs.length - 1]'(by have := h.pos; omega)) : Nat) = (m', cs'.map Int.ofNat) ∧ (∃ h' : CycAt a.length (numF a) old i S cs' m' g', numF a (cs'[cs'.length - 1]'(by have := h'.pos; omega)) = i) ∧ m'.count false + cs'.length = m.count false + cs.length := by
  have hF := numF_moves hp hN
  intro d
  induction d with
  | zero => intro cs m g h hd; omega
  | succ d ih =>
    intro cs m g h hd
    have hpos := h.pos
    have hl : cs[cs.length - 1] < a.length := h.low _ (List.getElem_mem _)
    have hxn := hF.1 _ hl
    rw [cycFrom]
    have er : rdOf false m ((numF a cs[cs.length - 1] : Nat) : Int) = m.getD (numF a cs[cs.length - 1]) false := by simp [rdOf]
    by_cases hv : m.getD (numF a cs[cs.length - 1]) false = true
    · rw [if_pos (by rw [er]; exact hv)]
      exact ⟨cs, m, g, rfl, ⟨h, h.back hF hcl hv⟩, rfl⟩
    · rw [if_neg (by rw [er]; exact hv)]
      have h2 := h.step hn hF _ rfl (by simpa using hv)
      have hc := count_met (m := m) (x := ((numF a cs[cs.length - 1] : Nat) : Int)) (by omega) (by rw [h.len]; omega) (by rw [er]; exact hv)
      rw [Int.toNat_natCast] at hc ⊢
      obtain ⟨cs', m', g', e, h', hc'⟩ := ih _ _ _ h2 (by omega)
      refine ⟨cs', m', g', ?_, h', ?_⟩
      · rw [← e]
        have el : (cs ++ [numF a cs[cs.length - 1]])[(cs ++ [numF a cs[cs.length - 1]]).length - 1]'(by simp) = numF a cs[cs.length - 1] := by
          rw [List.getElem_append_right (by simp)]; simp
        rw [el, (numF_rd hp hxn).1, List.map_append]
        rfl
      · rw [hc']; simp only [List.length_append, List.length_singleton]; omega
/-- What stands between two cycles: what has been met is closed, and g is a there and leaves the rest alone. -/
structure CycsAt (a : List Int) (ls : List (List Nat)) (m : List Bool) (g : Nat → Nat) : Prop where
  len : m.length = a.length
  cyc : ∀ l ∈ ls, IsCyc a.length (numF a) l
  met : ∀ y, y < a.length → (m.getD y false = true ↔ ∃ l ∈ ls, y ∈ l)
  closed : ∀ y, y < a.length → (m.getD (numF a y) false = true ↔ m.getD y false = true)
  sum : (ls.map List.length).sum + m.count false = a.length
  mov : Moves a.length g
  g1 : ∀ y, y < a.length → m.getD y false = true → g y = numF a y
  g2 : ∀ y, y < a.length → m.getD y false = false → g y = y
  par : crossings a.length g % 2 = ((ls.map List.length).sum + ls.length) % 2
theorem cycAll_run {a : List Int} (hp : ∀ x ∈ a, 0 ≤ x ∧ x < a.length) (hN : a.Nodup) (hn : a.length ≤ 8) : ∀ (d i : Nat) (ls : List (List Nat)) (m : List Bool) (g : Nat → Nat), i + d = a.length → CycsAt a ls m g → (∀ y, y < i → m.getD y false = true) →
    ∃ ls' m' g', cycAll a d i (ls.map (·.map Int.ofNat)) m = ls'.map (·.map Int.ofNat) ∧ CycsAt a ls' m' g' ∧ (∀ y, y < a.length → m'.getD y false = true) := by
  have hF := numF_moves hp hN
  intro d
  induction d with
  | zero =>
    intro i ls m g hi h hb
    exact ⟨ls, m, g, rfl, h, fun y hy => hb y (by omega)⟩
  | succ d ih =>
    intro i ls m g hi h hb
    rw [cycAll]
    have er : rdOf false m ((i : Nat) : Int) = m.getD i false := by simp [rdOf]
    by_cases hv : m.getD i false = true
    · have e : cycFrom a (a.length + 1) m [] (i : Int) = (m, []) := by rw [cycFrom, if_pos (by rw [er]; exact hv)]
      rw [e]
      simp only [if_true]
      exact ih (i + 1) ls m g (by omega) h (fun y hy => by by_cases c : y = i; exact c ▸ hv; exact hb y (by omega))
    · have hv' : m.getD i false = false := by simpa using hv
      have hc0 : m.count false ≤ a.length := by rw [← h.len]; exact List.count_le_length
      have hct := count_met (m := m) (x := ((i : Nat) : Int)) (by omega) (by rw [h.len]; omega) (by rw [er]; exact hv)
      rw [Int.toNat_natCast] at hct
      have e0 : cycFrom a (a.length + 1) m [] (i : Int) = cycFrom a a.length (m.set i true) ([i].map Int.ofNat) (numF a i : Nat) := by
        rw [cycFrom, if_neg (by rw [er]; exact hv), (numF_rd hp (by omega : i < a.length)).1, Int.toNat_natCast]
        rfl
      have hstart : CycAt a.length (numF a) (fun y => m.getD y false = true) i ((ls.map List.length).sum + ls.length) [i] (m.set i true) g := by
        refine { len := by simpa using h.len, vis := ?_, pos := by simp, low := ?_, new := ?_, nod := by simp, head := rfl, next := ?_, mov := h.mov, g1 := h.g1, g2 := ?_, g3 := ?_, g4 := ?_, par := ?_ }
        · intro y hy
          rw [getD_set (by rw [h.len]; omega)]
          by_cases e : y = i
          · simp [e]
          · rw [if_neg e]; simp [e]
        · intro y hy; rw [List.mem_singleton.1 hy]; omega
        · intro y hy; rw [List.mem_singleton.1 hy]; exact hv
        · intro s hs; simp at hs
        · intro s hs; simp at hs
        · exact h.g2 i (by omega) hv'
        · intro y hy ho _; exact h.g2 y hy (by simpa using ho)
        · rw [h.par]; simp; omega
      obtain ⟨cs, m', g', e1, ⟨hc, hb'⟩, hcount⟩ := cycFrom_run hp hN hn (fun y hy => h.closed y hy) a.length [i] (m.set i true) g hstart (by omega)
      have e1' : cycFrom a (a.length + 1) m [] (i : Int) = (m', cs.map Int.ofNat) := by rw [e0]; exact e1
      rw [e1']
      have hpos := hc.pos
      have hne : ¬ (cs.map Int.ofNat = []) := fun e => by have := congrArg List.length e; simp at this; rw [this] at hpos; simp at hpos
      simp only [if_neg hne]
      have hcy : IsCyc a.length (numF a) cs := ⟨hc.pos, hc.low, hc.nod, hc.next, by rw [hb', hc.head]⟩
      have hlen1 : ([i] : List Nat).length = 1 := rfl
      have hst : CycsAt a (ls ++ [cs]) m' g' := by
        refine { len := hc.len, cyc := ?_, met := ?_, closed := ?_, sum := ?_, mov := hc.mov, g1 := ?_, g2 := ?_, par := ?_ }
        · intro l hl
          rcases List.mem_append.1 hl with hl | hl
          · exact h.cyc l hl
          · rw [List.mem_singleton.1 hl]; exact hcy
        · intro y hy
          rw [hc.vis y hy, h.met y hy]
          constructor
          · rintro (⟨l, hl, hy⟩ | hy)
            · exact ⟨l, by simp [hl], hy⟩
            · exact ⟨cs, by simp, hy⟩
          · rintro ⟨l, hl, hy⟩
            rcases List.mem_append.1 hl with hl | hl
            · exact .inl ⟨l, hl, hy⟩
            · rw [List.mem_singleton.1 hl] at hy; exact .inr hy
        · intro y hy
          rw [hc.vis y hy, hc.vis _ (hF.1 y hy), h.closed y hy]
          constructor
          · rintro (c | c)
            · exact .inl c
            · right
              obtain ⟨s, hs, e⟩ := List.getElem_of_mem c
              cases s with
              | zero =>
                rw [hc.head, ← hb'] at e
                have := hF.2 _ _ (hc.low _ (List.getElem_mem _)) hy e
                rw [← this]; exact List.getElem_mem _
              | succ s =>
                rw [← hc.next s hs] at e
                have := hF.2 _ _ (hc.low _ (List.getElem_mem _)) hy e
                rw [← this]; exact List.getElem_mem _
          · rintro (c | c)
            · exact .inl c
            · right
              obtain ⟨s, hs, e⟩ := List.getElem_of_mem c
              by_cases hsl : s + 1 < cs.length
              · rw [← e, hc.next s hsl]; exact List.getElem_mem _
              · obtain rfl : s = cs.length - 1 := by omega
                rw [← e, hb', ← hc.head]; exact List.getElem_mem _
        · have := h.sum
          rw [List.map_append, List.sum_append]
          simp only [List.map_cons, List.map_nil, List.sum_cons, List.sum_nil]
          omega
        · intro y hy hm
          rw [hc.vis y hy] at hm
          rcases hm with hm | hm
          · exact hc.g1 y hy hm
          · obtain ⟨s, hs, e⟩ := List.getElem_of_mem hm
            by_cases hsl : s + 1 < cs.length
            · rw [← e, hc.g2 s hsl, hc.next s hsl]
            · obtain rfl : s = cs.length - 1 := by omega
              rw [← e, hc.g3, hb']
        · intro y hy hm
          have : ¬ (m.getD y false = true ∨ y ∈ cs) := fun c => by rw [← hc.vis y hy, hm] at c; cases c
          exact hc.g4 y hy (fun c => this (.inl c)) (fun c => this (.inr c))
        · rw [hc.par, List.map_append, List.sum_append]
          simp only [List.map_cons, List.map_nil, List.sum_cons, List.sum_nil, List.length_append, List.length_singleton]
          omega
      have e2 : List.map (fun x : List Nat => x.map Int.ofNat) ls ++ [cs.map Int.ofNat] = (ls ++ [cs]).map (fun x => x.map Int.ofNat) := by simp
      rw [e2]
      refine ih (i + 1) _ m' g' (by omega) hst (fun y hy => ?_)
      rw [hc.vis y (by omega)]
      by_cases c : y = i
      · exact .inr (by rw [c, ← hc.head]; exact List.getElem_mem _)
      · exact .inl (hb y (by omega))
/-- The cycles of a permutation of at most eight positions. -/
theorem cyclesOf_run {a : List Int} (h1 : permOk a = true) (hn : a.length ≤ 8) : ∃ ls : List (List Nat), cyclesOf a = ls.map (·.map Int.ofNat) ∧ (∀ l ∈ ls, IsCyc a.length (numF a) l) ∧ (∀ y, y < a.length → ∃ l ∈ ls, y ∈ l) ∧ (ls.map List.length).sum = a.length ∧ crossings a.length (numF a) % 2 = (a.length + ls.length) % 2 := by
  obtain ⟨p1, p2, p3⟩ := (permOk_iff a).1 h1
  have h0 : CycsAt a [] (List.replicate a.length false) (fun y => y) := by
    have hg : ∀ y, (List.replicate a.length false).getD y false = false := fun y => by
      rw [List.getD_eq_getElem?_getD, List.getElem?_replicate]; split <;> rfl
    refine { len := by simp, cyc := by simp, met := ?_, closed := ?_, sum := by simp, mov := ⟨fun _ h => h, fun _ _ _ _ h => h⟩, g1 := ?_, g2 := fun _ _ _ => rfl, par := ?_ }
    · intro y _; rw [hg]; simp
    · intro y _; rw [hg, hg]
    · intro y _ h; rw [hg] at h; cases h
    · have e : ∀ i j, crossed (fun y => y) i j = 0 := fun i j => by unfold crossed; split; rfl; rw [if_neg (by dsimp only; omega)]
      have e2 : ∀ m, sumTo m (fun _ => 0) = 0 := fun m => by induction m with | zero => rfl | succ m ih => rw [sumTo, ih]
      unfold crossings half
      simp only [e, e2]
      rfl
  obtain ⟨ls, m', g', e, h, hall⟩ := cycAll_run p1 p2 hn a.length 0 [] _ _ (by omega) h0 (fun y hy => by omega)
  have hz : m'.count false = 0 := by
    rw [List.count_eq_zero]
    intro hf
    obtain ⟨s, hs, e⟩ := List.getElem_of_mem hf
    have := hall s (by rw [← h.len]; exact hs)
    rw [List.getD_eq_getElem?_getD, List.getElem?_eq_getElem hs, e] at this
    cases this
  refine ⟨ls, ?_, h.cyc, fun y hy => (h.met y hy).1 (hall y hy), ?_, ?_⟩
  · unfold cyclesOf; rw [if_pos h1]; exact e
  · have := h.sum; omega
  · have hs := h.sum
    have hp := h.par
    have e : crossings a.length (numF a) = crossings a.length g' := by
      unfold crossings half
      refine sumTo_congr _ _ _ (fun j hj => sumTo_congr _ _ _ (fun i hi => ?_))
      unfold crossed
      rw [h.g1 i (by omega) (hall i (by omega)), h.g1 j hj (hall j hj)]
    rw [e, hp]
    omega
theorem iter_cyc {n : Nat} {F : Nat → Nat} {l : List Nat} (h : IsCyc n F l) (k : Nat) : ∀ s (hs : s < l.length), Nat.repeat F k (l[s]) = l[(s + k) % l.length]'(Nat.mod_lt _ h.pos) := by
  have hp := h.pos
  induction k with
  | zero => intro s hs; simp [Nat.repeat, Nat.mod_eq_of_lt hs]
  | succ k ih =>
    intro s hs
    rw [Nat.repeat, ih s hs]
    have hm := Nat.mod_lt (s + k) hp
    by_cases c : (s + k) % l.length + 1 < l.length
    · rw [h.next _ c]
      congr 1
      rw [← Nat.add_assoc, Nat.add_mod (s + k) 1, Nat.mod_eq_of_lt (a := (s + k) % l.length + 1 % l.length)]
      · by_cases c1 : l.length = 1
        · omega
        · rw [Nat.mod_eq_of_lt (by omega : 1 < l.length)]
      · by_cases c1 : l.length = 1
        · omega
        · rw [Nat.mod_eq_of_lt (by omega : 1 < l.length)]; exact c
    · have e : (s + k) % l.length = l.length - 1 := by omega
      have e2 : (s + (k + 1)) % l.length = 0 := by
        rw [← Nat.add_assoc, ← Nat.mod_add_mod, e]
        have : l.length - 1 + 1 = l.length := by omega
        rw [this, Nat.mod_self]
      simp only [e, e2]
      exact h.back
theorem cyc_period {n : Nat} {F : Nat → Nat} {l : List Nat} (h : IsCyc n F l) (k : Nat) (hk : Nat.repeat F k (l[0]'h.pos) = l[0]'h.pos) : k % l.length = 0 := by
  rw [iter_cyc h k 0 h.pos] at hk
  have := nodup_at h.nod _ _ _ _ hk
  rwa [Nat.zero_add] at this
theorem cyc_returns {n : Nat} {F : Nat → Nat} {l : List Nat} (h : IsCyc n F l) (k : Nat) (hk : l.length ∣ k) (y : Nat) (hy : y ∈ l) : Nat.repeat F k y = y := by
  obtain ⟨s, hs, rfl⟩ := List.getElem_of_mem hy
  rw [iter_cyc h k s hs]
  congr 1
  obtain ⟨q, rfl⟩ := hk
  rw [Nat.add_mul_mod_self_left, Nat.mod_eq_of_lt hs]
theorem rd_compose {a b : List Int} (hp : ∀ x ∈ a, 0 ≤ x ∧ x < a.length) {y : Nat} (h : y < a.length) : rd (compose b a) (y : Int) = rd b (numF a y : Int) := by
  rw [rd_lt (by simpa [compose] using h), ← (numF_rd hp h).1, rd_lt h]
  simp [compose]
theorem rd_powFrom {a : List Int} (hp : ∀ x ∈ a, 0 ≤ x ∧ x < a.length) (k : Nat) : ∀ (b : List Int) (y : Nat), y < a.length → rd (powFrom a k b) (y : Int) = rd b (Nat.repeat (numF a) k y : Nat) ∧ Nat.repeat (numF a) k y < a.length := by
  induction k with
  | zero => intro b y h; exact ⟨rfl, h⟩
  | succ k ih =>
    intro b y h
    have h1 := ih (compose b a) y h
    rw [powFrom, h1.1, rd_compose hp h1.2]
    exact ⟨rfl, (numF_rd hp h1.2).2⟩
theorem rd_up {n y : Nat} (h : y < n) : rd (upFrom 0 n) (y : Int) = y := by
  have hl := upFrom_length n 0
  rw [rd_lt (by omega), upFrom_get]
  omega
/-- A power of a is the identity just if going round so often leads every number back. -/
theorem powFrom_id {a : List Int} (hp : ∀ x ∈ a, 0 ≤ x ∧ x < a.length) (k : Nat) : powFrom a k (upFrom 0 a.length) = upFrom 0 a.length ↔ ∀ y, y < a.length → Nat.repeat (numF a) k y = y := by
  have hl := upFrom_length a.length 0
  have hl2 := powFrom_length a k (upFrom 0 a.length) hl
  constructor
  · intro e y hy
    have h1 := rd_powFrom hp k (upFrom 0 a.length) y hy
    rw [e, rd_up hy, rd_up h1.2] at h1
    have := h1.1
    omega
  · intro h
    refine List.ext_getElem (by omega) (fun i h1 h2 => ?_)
    have h3 := rd_powFrom hp k (upFrom 0 a.length) i (by omega)
    rw [h i (by omega), rd_lt h1, rd_lt h2] at h3
    exact h3.1
theorem ordFrom_least (a : List Int) : ∀ (d : Nat) (x : List Int) (i : Nat), powFrom a d x = upFrom 0 a.length → ∃ k : Nat, ordFrom a d x i = k ∧ i ≤ k ∧ k ≤ i + d ∧ powFrom a (k - i) x = upFrom 0 a.length := by
  intro d
  induction d with
  | zero => intro x i h; exact ⟨i, rfl, by omega, by omega, by rw [Nat.sub_self]; exact h⟩
  | succ d ih =>
    intro x i h
    rw [ordFrom]
    by_cases e : x = upFrom 0 a.length
    · rw [if_pos e]; exact ⟨i, rfl, by omega, by omega, by rw [Nat.sub_self]; exact e⟩
    · rw [if_neg e]
      obtain ⟨k, h1, h2, h3, h4⟩ := ih (compose x a) (i + 1) h
      refine ⟨k, h1, by omega, by omega, ?_⟩
      rw [show k - i = (k - (i + 1)) + 1 by omega, powFrom]
      exact h4
theorem dvd_840 (n : Nat) (h0 : 0 < n) (h : n ≤ 8) : n ∣ 840 := by
  have : ∀ n, n < 9 → 0 < n → n ∣ 840 := by decide
  exact this n (by omega) h0
/-- The order of a permutation of at most eight positions, and its cycles. -/
theorem order_run {a : List Int} (h1 : permOk a = true) (hn : a.length ≤ 8) : powFrom a 839 a = upFrom 0 a.length ∧ ∃ k : Nat, orderOf 839 a = k ∧ 1 ≤ k ∧ k ≤ 840 ∧ powFrom a k (upFrom 0 a.length) = upFrom 0 a.length ∧ ∀ l ∈ cyclesOf a, 0 < l.length ∧ k % l.length = 0 := by
  obtain ⟨p1, p2, p3⟩ := (permOk_iff a).1 h1
  obtain ⟨ls, e, hc, hall, hsum, -⟩ := cyclesOf_run h1 hn
  have key : powFrom a 840 (upFrom 0 a.length) = upFrom 0 a.length := by
    rw [powFrom_id p1]
    intro y hy
    obtain ⟨l, hl, hyl⟩ := hall y hy
    have hcy := hc l hl
    have hle : l.length ≤ a.length := by
      have := nodup_card l (List.range a.length) hcy.nod (fun z hz => List.mem_range.2 (hcy.low z hz))
      rwa [List.length_range] at this
    exact cyc_returns hcy 840 (dvd_840 _ hcy.pos (by omega)) y hyl
  have e839 : powFrom a 839 a = upFrom 0 a.length := by
    have h : ∀ k, powFrom a (k + 1) (upFrom 0 a.length) = powFrom a k a := fun k => by rw [powFrom, compose_id_left p1]
    rw [← h 839]; exact key
  refine ⟨e839, ?_⟩
  obtain ⟨k, hk1, hk2, hk3, hk4⟩ := ordFrom_least a 839 a 1 e839
  have hk5 : powFrom a k (upFrom 0 a.length) = upFrom 0 a.length := by
    obtain ⟨j, rfl⟩ : ∃ j, k = j + 1 := ⟨k - 1, by omega⟩
    rw [powFrom, compose_id_left p1]
    simpa using hk4
  refine ⟨k, by unfold orderOf; rw [if_pos h1]; exact hk1, hk2, by omega, hk5, ?_⟩
  intro l hl
  rw [e] at hl
  obtain ⟨l', hl', rfl⟩ := List.mem_map.1 hl
  have hcy := hc l' hl'
  simp only [List.length_map]
  exact ⟨hcy.pos, cyc_period hcy k ((powFrom_id p1 k).1 hk5 _ (hcy.low _ (List.getElem_mem _)))⟩
theorem isEven_run {a : List Int} (h1 : permOk a = true) (hn : a.length ≤ 8) : isEven a = decide (crossings a.length (numF a) % 2 = 0) := by
  obtain ⟨ls, e, hc, hall, hsum, hpar⟩ := cyclesOf_run h1 hn
  have hle : ls.length ≤ a.length := by
    rw [← hsum]
    clear e hall hsum hpar
    induction ls with
    | nil => simp
    | cons l ls ih =>
      have := ih (fun l' hl' => hc l' (by simp [hl']))
      have := (hc l (by simp)).pos
      simp only [List.map_cons, List.sum_cons, List.length_cons]
      omega
  unfold isEven
  rw [if_pos h1, e, List.length_map, w64 (by omega) (by omega)]
  have e2 : ((a.length : Int) - (ls.length : Int)).tmod 2 = (((a.length - ls.length) % 2 : Nat) : Int) := by
    rw [Int.tmod_eq_emod_of_nonneg (by omega)]
    omega
  rw [e2, hpar]
  rw [Bool.eq_iff_iff]
  simp only [beq_iff_eq, decide_eq_true_eq]
  omega
theorem compose_perm {a b : List Int} (h1 : permOk a = true) (h2 : permOk b = true) (hl : a.length = b.length) : permOk (compose a b) = true := by
  obtain ⟨p1, p2, p3⟩ := (permOk_iff a).1 h1
  obtain ⟨q1, q2, q3⟩ := (permOk_iff b).1 h2
  have hlen : (compose a b).length = a.length := by rw [compose_length, hl]
  rw [permOk_iff]
  refine ⟨?_, ?_, by omega⟩
  · intro z hz
    rw [hlen, hl]
    exact compose_range (a := b) (x := a) q1 hl (fun z hz => by have := p1 z hz; omega) z hz
  · unfold List.Nodup compose
    rw [List.pairwise_map]
    refine List.Pairwise.imp_of_mem ?_ q2
    intro x y hx hy hxy e
    have bx := q1 x hx
    have by_ := q1 y hy
    have ex : rd a x = a[x.toNat]'(by omega) := by
      have := rd_lt (xs := a) (i := x.toNat) (by omega)
      rwa [Int.toNat_of_nonneg bx.1] at this
    have ey : rd a y = a[y.toNat]'(by omega) := by
      have := rd_lt (xs := a) (i := y.toNat) (by omega)
      rwa [Int.toNat_of_nonneg by_.1] at this
    rw [ex, ey] at e
    have := nodup_inj p2 _ _ _ _ e
    omega
theorem isEven_compose {a b : List Int} (h1 : permOk a = true) (h2 : permOk b = true) (hl : a.length = b.length) (hn : a.length ≤ 8) : isEven (compose a b) = (isEven a == isEven b) := by
  obtain ⟨p1, p2, p3⟩ := (permOk_iff a).1 h1
  obtain ⟨q1, q2, q3⟩ := (permOk_iff b).1 h2
  have hlen : (compose a b).length = b.length := compose_length a b
  rw [isEven_run h1 hn, isEven_run h2 (by omega), isEven_run (compose_perm h1 h2 hl) (by omega), hlen]
  have ha := numF_moves p1 p2
  have hb := numF_moves q1 q2
  rw [hl] at ha
  have e : crossings b.length (numF (compose a b)) = crossings b.length (fun i => numF a (numF b i)) := by
    unfold crossings half
    refine sumTo_congr _ _ _ (fun j hj => sumTo_congr _ _ _ (fun i hi => ?_))
    have e : ∀ i, i < b.length → numF (compose a b) i = numF a (numF b i) := fun i hi => by
      unfold numF
      rw [rd_compose q1 hi, (numF_rd q1 hi).1]
      rfl
    unfold crossed
    rw [e i (by omega), e j hj]
  rw [e, hl]
  have := crossings_comp ha hb
  rw [Bool.eq_iff_iff]
  simp only [decide_eq_true_eq, beq_iff_eq]
  rw [Bool.eq_iff_iff]
  simp only [decide_eq_true_eq]
  omega
theorem inverse_perm {a : List Int} (h1 : permOk a = true) : permOk (inverse a) = true ∧ ∀ y, y < a.length → numF (inverse a) (numF a y) = y := by
  obtain ⟨p1, p2, p3⟩ := (permOk_iff a).1 h1
  have hl := inverse_length a
  have key : ∀ v : Nat, v < a.length → ∃ j : Nat, ∃ h : j < a.length, a[j] = (v : Int) ∧ rd (inverse a) (v : Int) = j := fun v hv => perm_at p1 p2 (v : Int) (by omega) (by omega)
  constructor
  · rw [permOk_iff]
    refine ⟨?_, ?_, by omega⟩
    · intro z hz
      obtain ⟨v, hv, rfl⟩ := List.getElem_of_mem hz
      obtain ⟨j, hj, -, e⟩ := key v (by omega)
      rw [rd_lt hv] at e
      omega
    · unfold List.Nodup
      rw [List.pairwise_iff_getElem]
      intro i j hi hj hij e
      obtain ⟨u, hu, eu, ru⟩ := key i (by omega)
      obtain ⟨v, hv, ev, rv⟩ := key j (by omega)
      rw [rd_lt hi] at ru
      rw [rd_lt hj] at rv
      have : u = v := by omega
      subst this
      omega
  · intro y hy
    have h2 := inverse_get p1 p2 y hy
    have h3 := (numF_rd p1 hy).1
    rw [rd_lt hy] at h3
    rw [h3] at h2
    unfold numF at h2 ⊢
    rw [h2]; omega
/-- Two permutations that say the same at each place are the same. -/
theorem perm_ext {a b : List Int} (hp : ∀ x ∈ a, 0 ≤ x ∧ x < a.length) (hq : ∀ x ∈ b, 0 ≤ x ∧ x < b.length) (hl : a.length = b.length) (h : ∀ y, y < a.length → numF a y = numF b y) : a = b := by
  refine List.ext_getElem hl (fun i h1 h2 => ?_)
  have e1 := (numF_rd hp h1).1
  have e2 := (numF_rd hq h2).1
  rw [rd_lt h1] at e1
  rw [rd_lt h2] at e2
  rw [e1, e2, h i h1]
theorem inverse_right {a : List Int} (h1 : permOk a = true) (y : Nat) (hy : y < a.length) : numF a (numF (inverse a) y) = y := by
  obtain ⟨p1, p2, p3⟩ := (permOk_iff a).1 h1
  have hi := inverse_perm h1
  have hm := numF_moves p1 p2
  obtain ⟨x, hx, e⟩ := moves_onto hm y hy
  rw [← e, hi.2 x hx]
theorem numF_compose {a b : List Int} (h2 : permOk b = true) (y : Nat) (hy : y < b.length) : numF (compose a b) y = numF a (numF b y) := by
  obtain ⟨q1, q2, q3⟩ := (permOk_iff b).1 h2
  unfold numF
  rw [rd_compose q1 hy, (numF_rd q1 hy).1]
  rfl
theorem compose_inverse {a : List Int} (h1 : permOk a = true) : compose a (inverse a) = upFrom 0 a.length := by
  have hi := (inverse_perm h1).1
  have hl := inverse_length a
  refine List.ext_getElem (by rw [compose_length, upFrom_length, hl]) (fun y e1 e2 => ?_)
  rw [compose_length] at e1
  have h := rd_compose (a := inverse a) (b := a) ((permOk_iff _).1 hi).1 e1
  have h2 := (numF_rd ((permOk_iff _).1 h1).1 (y := numF (inverse a) y) (by rw [← hl]; exact (numF_rd ((permOk_iff _).1 hi).1 e1).2)).1
  rw [h2, inverse_right h1 y (by omega), rd_lt (by rw [compose_length]; exact e1)] at h
  rw [h, upFrom_get]
  omega
theorem inverse_compose {a b : List Int} (h1 : permOk a = true) (h2 : permOk b = true) (hl : a.length = b.length) : inverse (compose a b) = compose (inverse b) (inverse a) := by
  have hc := compose_perm h1 h2 hl
  have ia := (inverse_perm h1).1
  have ib := (inverse_perm h2).1
  have ic := (inverse_perm hc).1
  have la := inverse_length a
  have lb := inverse_length b
  have lc := inverse_length (compose a b)
  have hcl := compose_length a b
  have hq := compose_perm ib ia (by omega)
  refine perm_ext ((permOk_iff _).1 ic).1 ((permOk_iff _).1 hq).1 (by rw [lc, hcl, compose_length]; omega) (fun y hy => ?_)
  rw [numF_compose ia y (by omega)]
  have hm := numF_moves ((permOk_iff _).1 hc).1 ((permOk_iff _).1 hc).2.1
  have ha := (numF_rd ((permOk_iff _).1 ia).1 (y := y) (by omega)).2
  have hb := (numF_rd ((permOk_iff _).1 ib).1 (y := numF (inverse a) y) (by omega)).2
  refine hm.2 _ _ (by rw [hcl, ← hl]; rw [lc, hcl] at hy; have := (numF_rd ((permOk_iff _).1 ic).1 (y := y) (by omega)).2; omega) (by omega) ?_
  rw [inverse_right hc y (by omega), numF_compose h2 _ (by omega), inverse_right h2 _ (by omega), inverse_right h1 y (by omega)]

/-- The packet of n cards in order; empty where n is out of range. -/
def newPacket (n : Int) : List Int := if 0 ≤ n ∧ n ≤ 12 then upFrom 0 n.toNat else []

theorem laws_same_loop (a b : List Int) (hab : a.length = b.length) (hl : a.length ≤ 9223372036854775806) : ∀ (r s pre qre : List Int), a = pre ++ r → b = qre ++ s → pre.length = qre.length →
    Ev (fun k => laws_same.l0 k b a (a.length : Int) (pre.length : Int)) (decide (r = s)) := by
  intro r
  induction r with
  | nil =>
    intro s pre qre h h' hp
    have e := lens h
    have e' := lens h'
    simp only [List.length_nil] at e
    have hs : s = [] := List.eq_nil_of_length_eq_zero (by omega)
    refine Ev.step (f := fun _ => some _) (fun k => ?_) (Ev.now _)
    simp only [laws_same.l0]
    rw [if_neg (by omega), hs]
    simp
  | cons x r ih =>
    intro s pre qre h h' hp
    have e := lens h
    have e' := lens h'
    simp only [List.length_cons] at e
    cases s with
    | nil => simp only [List.length_nil] at e'; omega
    | cons y s =>
      have hy := rd_mid' h'
      rw [← hp] at hy
      by_cases c : x = y
      · subst c
        have hi := ih s (pre ++ [x]) (qre ++ [x]) (snoc_eq h) (snoc_eq h') (by simp [hp])
        have ed : decide (x :: r = x :: s) = decide (r = s) := by simp
        rw [ed]
        refine Ev.step (fun k => ?_) hi
        simp only [laws_same.l0]
        rw [if_pos (by omega), if_pos (by omega), if_pos (by omega), if_pos (by omega), rd_mid' h, hy, if_pos rfl, snoc_len x (by omega)]
      · refine Ev.step (f := fun _ => some _) (fun k => ?_) (Ev.now _)
        simp only [laws_same.l0]
        rw [if_pos (by omega), if_pos (by omega), if_pos (by omega), if_pos (by omega), rd_mid' h, hy, if_neg c]
        simp [c]
theorem laws_same_ev (a b : List Int) (hl : a.length ≤ 9223372036854775806) : Ev (fun k => laws_same.f k a b) (decide (a = b)) := by
  unfold laws_same.f
  by_cases h : (a.length : Int) = (b.length : Int)
  · simp only [if_pos h]
    exact laws_same_loop a b (by omega) hl a b [] [] rfl rfl rfl
  · simp only [if_neg h]
    exact ev_some fun _ => by rw [decide_eq_false (fun e => h (by rw [e]))]

/-! ### slices.Index, slices.Contains -/
def findFrom (v : Int) : Int → List Int → Int
  | _, [] => -1
  | i, x :: r => if v = x then i else findFrom v (i + 1) r
theorem findFrom_nonneg (v : Int) (l : List Int) : ∀ i : Int, 0 ≤ i → (0 ≤ findFrom v i l ↔ v ∈ l) := by
  induction l with
  | nil => intro i hi; simp [findFrom]
  | cons x r ih =>
    intro i hi
    simp only [findFrom, List.mem_cons]
    by_cases c : v = x
    · rw [if_pos c]; simp [c, hi]
    · rw [if_neg c, ih (i + 1) (by omega)]; simp [c]
theorem slices_Index_loop (l : List Int) (v : Int) (hl : l.length ≤ 9223372036854775806) : ∀ (r pre : List Int), l = pre ++ r →
    Ev (fun k => slices_Index_int_int.l0 k l v (l.length : Int) (pre.length : Int)) (findFrom v pre.length r) := by
  intro r
  induction r with
  | nil =>
    intro pre h
    refine Ev.step (f := fun _ => some _) (fun k => ?_) (Ev.now _)
    subst h
    simp only [slices_Index_int_int.l0, findFrom]
    rw [if_neg (by simp)]
  | cons x r ih =>
    intro pre h
    have hlen : l.length = pre.length + (r.length + 1) := by rw [h]; simp
    have hx := rd_mid' h
    have e : ((pre ++ [x]).length : Int) = (pre.length : Int) + 1 := by simp
    simp only [findFrom]
    by_cases c : v = x
    · rw [if_pos c]
      refine Ev.step (f := fun _ => some _) (fun k => ?_) (Ev.now _)
      simp only [slices_Index_int_int.l0]
      rw [if_pos (by omega), if_pos (by omega), if_pos (by omega), hx, if_pos c]
    · rw [if_neg c, ← e]
      refine Ev.step (fun k => ?_) (ih (pre ++ [x]) (snoc_eq h))
      simp only [slices_Index_int_int.l0]
      rw [if_pos (by omega), if_pos (by omega), if_pos (by omega), hx, if_neg c, snoc_len x (by omega)]
theorem slices_Contains_ev (l : List Int) (v : Int) (hl : l.length ≤ 9223372036854775806) : Ev (fun k => slices_Contains_int_int.f k l v) (decide (v ∈ l)) := by
  unfold slices_Contains_int_int.f slices_Index_int_int.f
  refine Ev.bind (slices_Index_loop l v hl l [] rfl) (ev_some fun _ => ?_)
  have := findFrom_nonneg v l 0 (by omega)
  simp only [List.length_nil, Int.ofNat_zero, Option.some.injEq, decide_eq_decide]
  exact this

theorem impl_PermOk_loop (a : List Int) (ha : a.length ≤ 9223372036854775806) : ∀ (r pre : List Int), a = pre ++ r →
    Ev (fun k => impl_PermOk.l0 k a a (a.length : Int) (pre.length : Int)) (pokFrom a.length pre r && decide (a.length ≤ 12)) := by
  intro r
  induction r with
  | nil =>
    intro pre h
    refine Ev.step (f := fun _ => some _) (fun k => ?_) (Ev.now _)
    have hlen : a.length = pre.length := by rw [h]; simp
    simp only [impl_PermOk.l0, pokFrom, Bool.true_and]
    rw [if_neg (by omega)]
    simp; omega
  | cons x r ih =>
    intro pre h
    have hlen : a.length = pre.length + (r.length + 1) := by rw [h]; simp
    have hx := rd_mid' h
    have ht : a.take ((pre.length : Int).toNat) = pre := by rw [h]; simp
    by_cases c0 : x < 0
    · have e : pokFrom a.length pre (x :: r) = false := by simp only [pokFrom]; rw [decide_eq_false (by omega)]; rfl
      rw [e, Bool.false_and]
      refine Ev.step (f := fun _ => some _) (fun k => ?_) (Ev.now _)
      simp only [impl_PermOk.l0]
      rw [if_pos (by omega), if_pos (by omega), if_pos (by omega), hx, if_pos c0]
    by_cases c1 : x ≥ (a.length : Int)
    · have e : pokFrom a.length pre (x :: r) = false := by simp only [pokFrom]; rw [decide_eq_false (by omega)]; rfl
      rw [e, Bool.false_and]
      refine Ev.step (f := fun _ => some _) (fun k => ?_) (Ev.now _)
      simp only [impl_PermOk.l0]
      rw [if_pos (by omega), if_pos (by omega), if_pos (by omega), hx, if_neg c0, if_pos c1]
    refine Ev.step (f := fun k => (slices_Contains_int_int.f k pre x).bind fun t => if t = true then some false else impl_PermOk.l0 k a a (a.length : Int) ((pre ++ [x]).length : Int)) (fun k => ?_) ?_
    · simp only [impl_PermOk.l0]
      rw [if_pos (by omega), if_pos (by omega), if_pos (by omega), hx, if_neg c0, if_neg c1, if_pos (by omega), ht, snoc_len x (by omega)]
    · refine Ev.bind (slices_Contains_ev pre x (by omega)) ?_
      by_cases c2 : x ∈ pre
      · have e : pokFrom a.length pre (x :: r) = false := by simp only [pokFrom]; simp [c2]
        rw [e, Bool.false_and]
        exact ev_some fun _ => by simp [c2]
      · have e : pokFrom a.length pre (x :: r) = pokFrom a.length (pre ++ [x]) r := by simp only [pokFrom]; rw [decide_eq_true (by omega)]; simp [c2]
        rw [e]
        simp only [c2, decide_false, Bool.false_eq_true, if_false]
        exact ih (pre ++ [x]) (snoc_eq h)
theorem impl_PermOk_ev (a : List Int) (ha : a.length ≤ 9223372036854775806) : Ev (fun k => impl_PermOk.f k a) (permOk a) := by
  unfold impl_PermOk.f permOk
  exact impl_PermOk_loop a ha a [] rfl

theorem impl_composed_loop (a b : List Int) (hb : b.length ≤ 17592186044415) (hr : ∀ x ∈ b, 0 ≤ x ∧ x < a.length) : ∀ (r pre : List Int), b = pre ++ r →
    Ev (fun k => impl_composed.l0 k a (compose a pre) b (b.length : Int) (pre.length : Int)) (compose a b) := by
  intro r
  induction r with
  | nil =>
    intro pre h
    have e := lens h
    simp only [List.length_nil] at e
    refine Ev.step (f := fun _ => some _) (fun k => ?_) (Ev.now _)
    simp only [impl_composed.l0]
    rw [if_neg (by omega)]
    simp [h]
  | cons x r ih =>
    intro pre h
    have e := lens h
    simp only [List.length_cons] at e
    have hx := hr x (by rw [h]; simp)
    refine Ev.step (fun k => ?_) (ih (pre ++ [x]) (snoc_eq h))
    simp only [impl_composed.l0]
    rw [if_pos (by omega), if_pos (by omega), if_pos (by omega), rd_mid' h, if_pos hx.1, if_pos hx.2, if_pos (by rw [compose_length]; omega), snoc_len x (by omega)]
    simp [compose]
theorem impl_composed_ev (a b : List Int) (hb : b.length ≤ 17592186044415) (hr : ∀ x ∈ b, 0 ≤ x ∧ x < a.length) : Ev (fun k => impl_composed.f k a b) (compose a b) := by
  unfold impl_composed.f
  exact impl_composed_loop a b hb hr b [] rfl

theorem impl_ComposePerms_ev (a b : List Int) (ha : a.length ≤ 9223372036854775806) (hb : b.length ≤ 9223372036854775806) : Ev (fun k => impl_ComposePerms.f k a b) (composePerms a b) := by
  unfold impl_ComposePerms.f composePerms
  refine Ev.bind (impl_PermOk_ev a ha) ?_
  by_cases h1 : permOk a = true
  · refine ev_ite_true h1 (Ev.bind (impl_PermOk_ev b hb) ?_)
    by_cases h2 : permOk b = true
    · refine ev_ite_true h2 ?_
      by_cases h3 : (a.length : Int) = (b.length : Int)
      · refine ev_ite_true h3 ?_
        obtain ⟨p1, p2, p3⟩ := (permOk_iff b).1 h2
        rw [if_pos ⟨h1, h2, by omega⟩]
        exact Ev.bind (impl_composed_ev a b (by omega) (fun x hx => by have := p1 x hx; omega)) (Ev.now _)
      · refine ev_ite_false h3 ?_
        rw [if_neg (by omega)]
        exact Ev.now _
    · refine ev_ite_false h2 ?_
      rw [if_neg (fun h => h2 h.2.1)]
      exact Ev.now _
  · refine ev_ite_false h1 ?_
    rw [if_neg (fun h => h1 h.1)]
    exact Ev.now _

theorem impl_inverse_loop (a : List Int) (ha : a.length ≤ 9223372036854775806) : ∀ (r pre m : List Int), a = pre ++ r → (∀ x ∈ r, 0 ≤ x ∧ x < m.length) →
    Ev (fun k => impl_inverse.l0 k m a (a.length : Int) (pre.length : Int)) (invFrom m pre.length r) := by
  intro r
  induction r with
  | nil =>
    intro pre m h _
    have e := lens h
    simp only [List.length_nil] at e
    refine Ev.step (f := fun _ => some _) (fun k => ?_) (Ev.now _)
    simp only [impl_inverse.l0]
    rw [if_neg (by omega)]
    rfl
  | cons x r ih =>
    intro pre m h hp
    have e := lens h
    simp only [List.length_cons] at e
    have hx := hp x (by simp)
    have hi := ih (pre ++ [x]) (m.set x.toNat pre.length) (snoc_eq h) (fun z hz => by rw [List.length_set]; exact hp z (by simp [hz]))
    rw [snoc_cast] at hi
    refine Ev.step (fun k => ?_) hi
    simp only [impl_inverse.l0]
    rw [if_pos (by omega), if_pos (by omega), if_pos (by omega), rd_mid' h, if_pos hx.1, if_pos hx.2, w64 (by omega) (by omega)]
theorem impl_inverse_ev (a : List Int) (ha : a.length ≤ 17592186044415) (hp : ∀ x ∈ a, 0 ≤ x ∧ x < a.length) : Ev (fun k => impl_inverse.f k a) (inverse a) := by
  unfold impl_inverse.f inverse
  refine ev_ite_true (by omega) (ev_ite_true (by omega) ?_)
  simp only [Int.toNat_natCast]
  exact impl_inverse_loop a (by omega) a [] _ rfl (fun x hx => by simpa using hp x hx)

theorem impl_InversePerm_ev (a : List Int) (ha : a.length ≤ 9223372036854775806) : Ev (fun k => impl_InversePerm.f k a) (inversePerm a) := by
  unfold impl_InversePerm.f inversePerm
  refine Ev.bind (impl_PermOk_ev a ha) ?_
  by_cases h1 : permOk a = true
  · obtain ⟨p1, p2, p3⟩ := (permOk_iff a).1 h1
    refine ev_ite_true h1 ?_
    rw [if_pos h1]
    exact Ev.bind (impl_inverse_ev a (by omega) p1) (Ev.now _)
  · refine ev_ite_false h1 ?_
    rw [if_neg h1]
    exact Ev.now _

theorem impl_upTo_loop (n : Nat) (hn : n ≤ 17592186044415) : ∀ i, i ≤ n → Ev (fun k => impl_upTo.l0 k (n : Int) (upFrom 0 i) (i : Int)) (upFrom 0 n) := by
  refine up_ind n (fun i => Ev (fun k => impl_upTo.l0 k (n : Int) (upFrom 0 i) (i : Int)) (upFrom 0 n)) ?_ ?_
  · refine Ev.step (f := fun _ => some _) (fun k => ?_) (Ev.now _)
    simp only [impl_upTo.l0]
    rw [if_neg (by omega)]
  · intro i hi h
    refine Ev.step (fun k => ?_) h
    have hl := upFrom_length i 0
    simp only [impl_upTo.l0]
    rw [if_pos (by omega), if_pos (by omega), w64 (by omega) (by omega), upFrom_snoc]
    simp
theorem impl_upTo_ev (n : Nat) (hn : n ≤ 17592186044415) : Ev (fun k => impl_upTo.f k (n : Int)) (upFrom 0 n) := by
  unfold impl_upTo.f
  exact impl_upTo_loop n hn 0 (by omega)

theorem impl_NewPacket_ev (n : Int) : Ev (fun k => impl_NewPacket.f k n) (newPacket n) := by
  unfold impl_NewPacket.f newPacket
  by_cases h0 : n < 0
  · simp only [if_pos h0]
    rw [if_neg (by omega)]
    exact Ev.now _
  · by_cases h1 : n > 12
    · simp only [if_neg h0, if_pos h1]
      rw [if_neg (by omega)]
      exact Ev.now _
    · simp only [if_neg h0, if_neg h1]
      rw [if_pos (by omega)]
      have := impl_upTo_ev n.toNat (by omega)
      rw [Int.toNat_of_nonneg (by omega)] at this
      exact Ev.bind this (Ev.now _)

theorem impl_IdentityPerm_ev (n : Int) : Ev (fun k => impl_IdentityPerm.f k n) (newPacket n) := by
  unfold impl_IdentityPerm.f
  exact Ev.bind (impl_NewPacket_ev n) (Ev.now _)

theorem slices_Equal_int_int_loop (a b : List Int) (hab : a.length = b.length) (hl : a.length ≤ 9223372036854775806) : ∀ (r s pre qre : List Int), a = pre ++ r → b = qre ++ s → pre.length = qre.length →
    Ev (fun k => slices_Equal_int_int.l0 k a b (a.length : Int) (pre.length : Int)) (decide (r = s)) := by
  intro r
  induction r with
  | nil =>
    intro s pre qre h h' hp
    have e := lens h
    have e' := lens h'
    simp only [List.length_nil] at e
    have hs : s = [] := List.eq_nil_of_length_eq_zero (by omega)
    refine Ev.step (f := fun _ => some _) (fun k => ?_) (Ev.now _)
    simp only [slices_Equal_int_int.l0]
    rw [if_neg (by omega), hs]
    simp
  | cons x r ih =>
    intro s pre qre h h' hp
    have e := lens h
    have e' := lens h'
    simp only [List.length_cons] at e
    cases s with
    | nil => simp only [List.length_nil] at e'; omega
    | cons y s =>
      have hy := rd_mid' h'
      rw [← hp] at hy
      by_cases c : x = y
      · subst c
        have hi := ih s (pre ++ [x]) (qre ++ [x]) (snoc_eq h) (snoc_eq h') (by simp [hp])
        have ed : decide (x :: r = x :: s) = decide (r = s) := by simp
        rw [ed]
        refine Ev.step (fun k => ?_) hi
        simp only [slices_Equal_int_int.l0]
        rw [if_pos (by omega), if_pos (by omega), if_pos (by omega), if_pos (by omega), rd_mid' h, hy, if_pos rfl, snoc_len x (by omega)]
      · refine Ev.step (f := fun _ => some _) (fun k => ?_) (Ev.now _)
        simp only [slices_Equal_int_int.l0]
        rw [if_pos (by omega), if_pos (by omega), if_pos (by omega), if_pos (by omega), rd_mid' h, hy, if_neg c]
        simp [c]
theorem slices_Equal_int_int_ev (a b : List Int) (hl : a.length ≤ 9223372036854775806) : Ev (fun k => slices_Equal_int_int.f k a b) (decide (a = b)) := by
  unfold slices_Equal_int_int.f
  by_cases h : (a.length : Int) = (b.length : Int)
  · simp only [if_pos h]
    exact slices_Equal_int_int_loop a b (by omega) hl a b [] [] rfl rfl rfl
  · simp only [if_neg h]
    exact ev_some fun _ => by rw [decide_eq_false (fun e => h (by rw [e]))]

theorem impl_OrderOfPerm_loop (a : List Int) (h1 : permOk a = true) : ∀ (m : Nat) (x : List Int) (i : Nat), x.length = a.length → powFrom a m x = upFrom 0 a.length → i + m ≤ 4611686018427387904 → Ev (fun k => impl_OrderOfPerm.l0 k a (i : Int) x) (ordFrom a m x i) := by
  obtain ⟨p1, p2, p3⟩ := (permOk_iff a).1 h1
  intro m
  induction m with
  | zero =>
    intro x i hx hm hb
    have e : x = upFrom 0 a.length := hm
    refine Ev.step (f := fun k => (impl_upTo.f k (a.length : Int)).bind fun t169 => (slices_Equal_int_int.f k x t169).bind fun t172 => if t172 = true then some (i : Int) else (impl_composed.f k x a).bind fun t => impl_OrderOfPerm.l0 k a (wrap64 ((i : Int) + 1)) t) (fun k => by simp only [impl_OrderOfPerm.l0]) ?_
    refine Ev.bind (impl_upTo_ev a.length (by omega)) (Ev.bind (slices_Equal_int_int_ev x (upFrom 0 a.length) (by omega)) ?_)
    rw [ordFrom]
    exact ev_ite_true (decide_eq_true e) (Ev.now _)
  | succ m ih =>
    intro x i hx hm hb
    refine Ev.step (f := fun k => (impl_upTo.f k (a.length : Int)).bind fun t169 => (slices_Equal_int_int.f k x t169).bind fun t172 => if t172 = true then some (i : Int) else (impl_composed.f k x a).bind fun t => impl_OrderOfPerm.l0 k a (wrap64 ((i : Int) + 1)) t) (fun k => by simp only [impl_OrderOfPerm.l0]) ?_
    refine Ev.bind (impl_upTo_ev a.length (by omega)) (Ev.bind (slices_Equal_int_int_ev x (upFrom 0 a.length) (by omega)) ?_)
    rw [ordFrom]
    by_cases e : x = upFrom 0 a.length
    · rw [if_pos e]
      exact ev_ite_true (decide_eq_true e) (Ev.now _)
    · rw [if_neg e]
      refine ev_ite_false (by simp [e]) ?_
      have ew : wrap64 ((i : Int) + 1) = ((i + 1 : Nat) : Int) := by rw [w64 (by omega) (by omega)]; rfl
      rw [ew]
      exact Ev.bind (impl_composed_ev x a (by omega) (fun y hy => by have := p1 y hy; omega)) (ih _ (i + 1) (by simp [compose]) hm (by omega))
theorem impl_OrderOfPerm_ev (a : List Int) (ha : a.length ≤ 9223372036854775806) (m : Nat) (hm : permOk a = true → powFrom a m a = upFrom 0 a.length) (hb : m ≤ 4611686018427387903) : Ev (fun k => impl_OrderOfPerm.f k a) (orderOf m a) := by
  unfold impl_OrderOfPerm.f orderOf
  refine Ev.bind (impl_PermOk_ev a ha) ?_
  by_cases h1 : permOk a = true
  · obtain ⟨p1, p2, p3⟩ := (permOk_iff a).1 h1
    refine ev_ite_true h1 ?_
    rw [if_pos h1]
    have e : slices_Clone_int_int.f a = some a := by unfold slices_Clone_int_int.f; rw [if_pos (by omega)]
    simp only [e, Option.bind_some]
    exact impl_OrderOfPerm_loop a h1 m a 1 rfl (hm h1) (by omega)
  · refine ev_ite_false h1 ?_
    rw [if_neg h1]
    exact Ev.now _

theorem impl_PowerPerm_loop (a : List Int) (h1 : permOk a = true) : ∀ (d : Nat) (b : List Int), d ≤ 1000 → b.length = a.length →
    Ev (fun k => impl_PowerPerm.l0 k a (d : Int) b) (powFrom a d b, true) := by
  obtain ⟨p1, p2, p3⟩ := (permOk_iff a).1 h1
  intro d
  induction d with
  | zero =>
    intro b hi hb
    refine Ev.step (f := fun _ => some _) (fun k => ?_) (Ev.now _)
    simp only [impl_PowerPerm.l0]
    rw [if_neg (by omega)]
    rfl
  | succ d ih =>
    intro b hi hb
    refine Ev.step (f := fun k => (impl_composed.f k b a).bind fun t => impl_PowerPerm.l0 k a (d : Int) t) (fun k => ?_) ?_
    · simp only [impl_PowerPerm.l0]
      rw [if_pos (by omega), w64 (by omega) (by omega)]
      have e : ((d + 1 : Nat) : Int) - 1 = d := by omega
      rw [e]
    · exact Ev.bind (impl_composed_ev b a (by omega) (fun x hx => by have := p1 x hx; omega)) (ih _ (by omega) (by simp [compose]))
theorem impl_PowerPerm_ev (a : List Int) (ha : a.length ≤ 9223372036854775806) (n : Int) : Ev (fun k => impl_PowerPerm.f k a n) (powerPerm a n) := by
  unfold impl_PowerPerm.f powerPerm
  refine Ev.bind (impl_PermOk_ev a ha) ?_
  by_cases h1 : permOk a = true
  · obtain ⟨p1, p2, p3⟩ := (permOk_iff a).1 h1
    refine ev_ite_true h1 ?_
    by_cases h0 : n < 0
    · refine ev_ite_true h0 ?_
      rw [if_neg (by omega)]
      refine Ev.step (fun k => by rw [impl_PowerPerm.j0]) ?_
      simp only [if_true]
      exact Ev.now _
    · refine ev_ite_false h0 ?_
      by_cases h2 : n > 1000
      · rw [if_neg (by omega)]
        simp only [decide_eq_true h2]
        refine Ev.step (fun k => by rw [impl_PowerPerm.j0]) ?_
        simp only [if_true]
        exact Ev.now _
      · rw [if_pos ⟨h1, by omega⟩]
        simp only [decide_eq_false h2]
        refine Ev.step (fun k => by rw [impl_PowerPerm.j0]) ?_
        simp only [Bool.false_eq_true, if_false]
        refine Ev.bind (impl_upTo_ev a.length (by omega)) ?_
        have := impl_PowerPerm_loop a h1 n.toNat (upFrom 0 a.length) (by omega) (upFrom_length _ _)
        rw [Int.toNat_of_nonneg (by omega)] at this
        exact this
  · refine ev_ite_false h1 ?_
    rw [if_neg (fun h => h1 h.1)]
    refine Ev.step (fun k => by rw [impl_PowerPerm.j0]) ?_
    simp only [if_true]
    exact Ev.now _

theorem impl_CyclesOf_in (a : List Int) (hp : ∀ x ∈ a, 0 ≤ x ∧ x < a.length) (out : List (List Int)) (i : Int) (ho : out.length < 5864062014805) (R : List (List Int)) : ∀ (d : Nat) (m : List Bool) (c : List Int) (x : Int), m.length = a.length → m.count false < d → c.length + d ≤ 1000 → 0 ≤ x → x < a.length →
    Ev (fun k => impl_CyclesOf.l0 k a (if (cycFrom a d m c x).2 = [] then out else out ++ [(cycFrom a d m c x).2]) (cycFrom a d m c x).1 (a.length : Int) (wrap64 (i + 1))) R →
    Ev (fun k => impl_CyclesOf.l1 k a out m c x (a.length : Int) i) R := by
  intro d
  induction d with
  | zero => intro m c x hm hc; omega
  | succ d ih =>
    intro m c x hm hc hl h0 h1 hk
    rw [cycFrom] at hk
    by_cases hx : rdOf false m x = true
    · simp only [if_pos hx] at hk
      refine Ev.step (fun k => ?_) hk
      simp only [impl_CyclesOf.l1]
      rw [if_pos h0, if_pos (by omega), if_pos hx]
      by_cases hn : c = []
      · rw [if_pos hn, if_pos hn]
      · rw [if_neg hn, if_neg hn, if_pos ho]
    · simp only [if_neg hx] at hk
      have hr := rd_in hp h0 h1
      refine Ev.step (fun k => ?_) (ih (m.set x.toNat true) (c ++ [x]) (rd a x) (by simpa using hm) (by have := count_met h0 (by omega) hx; omega) (by simp; omega) hr.1 hr.2 hk)
      simp only [impl_CyclesOf.l1]
      rw [if_pos h0, if_pos (by omega), if_neg hx, if_pos (by omega), if_pos h1]
theorem impl_CyclesOf_out (a : List Int) (hp : ∀ x ∈ a, 0 ≤ x ∧ x < a.length) (ha : a.length ≤ 12) : ∀ (d i : Nat) (out : List (List Int)) (m : List Bool), i + d = a.length → m.length = a.length → out.length ≤ i →
    Ev (fun k => impl_CyclesOf.l0 k a out m (a.length : Int) (i : Int)) (cycAll a d i out m) := by
  intro d
  induction d with
  | zero =>
    intro i out m hi hm ho
    refine Ev.step (f := fun _ => some _) (fun k => ?_) (Ev.now _)
    simp only [impl_CyclesOf.l0]
    rw [if_neg (by omega)]
    rfl
  | succ d ih =>
    intro i out m hi hm ho
    rw [cycAll]
    have h := ih (i + 1) (if (cycFrom a (a.length + 1) m [] i).2 = [] then out else out ++ [(cycFrom a (a.length + 1) m [] i).2]) (cycFrom a (a.length + 1) m [] i).1 (by omega) (by rw [cycFrom_length]; exact hm) (by split <;> (try rw [List.length_append, List.length_singleton]) <;> omega)
    have e : ((i + 1 : Nat) : Int) = wrap64 ((i : Int) + 1) := by rw [w64 (by omega) (by omega)]; rfl
    rw [e] at h
    have hc : m.count false ≤ m.length := List.count_le_length
    refine Ev.step (fun k => ?_) (impl_CyclesOf_in a hp out (i : Int) (by omega) _ (a.length + 1) m [] (i : Int) hm (by omega) (by simp; omega) (by omega) (by omega) h)
    simp only [impl_CyclesOf.l0]
    rw [if_pos (by omega)]
theorem impl_CyclesOf_ev (a : List Int) (ha : a.length ≤ 9223372036854775806) : Ev (fun k => impl_CyclesOf.f k a) (cyclesOf a) := by
  unfold impl_CyclesOf.f cyclesOf
  refine Ev.bind (impl_PermOk_ev a ha) ?_
  by_cases h1 : permOk a = true
  · obtain ⟨p1, p2, p3⟩ := (permOk_iff a).1 h1
    refine ev_ite_true h1 ?_
    rw [if_pos h1]
    refine ev_ite_true (by omega) (ev_ite_true (by omega) ?_)
    rw [Int.toNat_natCast]
    exact impl_CyclesOf_out a p1 p3 a.length 0 [] _ (by omega) (by simp) (by simp)
  · refine ev_ite_false h1 ?_
    rw [if_neg h1]
    exact Ev.now _

theorem impl_IsEven_ev (a : List Int) (ha : a.length ≤ 9223372036854775806) : Ev (fun k => impl_IsEven.f k a) (isEven a) := by
  unfold impl_IsEven.f isEven
  refine Ev.bind (impl_PermOk_ev a ha) ?_
  by_cases h1 : permOk a = true
  · refine ev_ite_true h1 ?_
    rw [if_pos h1]
    exact Ev.bind (impl_CyclesOf_ev a ha) (Ev.now _)
  · refine ev_ite_false h1 ?_
    rw [if_neg h1]
    exact Ev.now _

theorem perms_loop (n : Nat) (a b c p : List Int) (k : Nat) (hn : 1 ≤ n ∧ n ≤ 8) (hk : 1 ≤ k ∧ k ≤ 840) (hp : p = upFrom 0 n) (ha : a.length = n) (hb : b.length = n) (hc : c.length = n)
    (he : isEven c = (isEven a == isEven b)) (cs : List (List Int)) (hdiv : ∀ l ∈ cs, 0 < l.length ∧ k % l.length = 0) (hsum : (cs.map List.length).sum = n) (hcl : cs.length ≤ 8) : ∀ (r pre : List (List Int)), cs = pre ++ r →
    Ev (fun j => laws_FnPerms.l0 j (n : Int) a b c (k : Int) p true ((pre.map List.length).sum : Nat) cs (cs.length : Int) (pre.length : Int)) true := by
  intro r
  induction r with
  | nil =>
    intro pre h
    have e1 : pre.length = cs.length := by rw [h]; simp
    have e2 : (pre.map List.length).sum = n := by rw [← hsum, h]; simp
    refine Ev.step (f := fun j => (impl_IdentityPerm.f j (n : Int)).bind fun t271 => (laws_same.f j p t271).bind fun t274 => if t274 = true then (if (((pre.map List.length).sum : Nat) : Int) = (n : Int) then ((impl_IsEven.f j c).bind fun t275 => ((impl_IsEven.f j a).bind fun t276 => ((impl_IsEven.f j b).bind fun t277 => (some (t275 == (t276 == t277)))))) else (some false)) else some false) (fun j => ?_) ?_
    · simp only [laws_FnPerms.l0]
      rw [if_neg (by omega), if_pos (by omega), if_pos trivial]
    · refine Ev.bind (impl_IdentityPerm_ev n) (Ev.bind (laws_same_ev _ _ (by rw [hp, upFrom_length]; omega)) ?_)
      refine ev_ite_true (decide_eq_true ?_) (ev_ite_true (by omega) ?_)
      · unfold newPacket; rw [if_pos (by omega), hp, Int.toNat_natCast]
      refine Ev.bind (impl_IsEven_ev c (by omega)) (Ev.bind (impl_IsEven_ev a (by omega)) (Ev.bind (impl_IsEven_ev b (by omega)) ?_))
      rw [he, beq_self_eq_true]
      exact Ev.now _
  | cons x r ih =>
    intro pre h
    have hx := hdiv x (by rw [h]; simp)
    have hlt : pre.length < cs.length := by rw [h]; simp
    have hs : (pre.map List.length).sum + x.length ≤ n := by
      have : (pre.map List.length).sum + (x.length + (r.map List.length).sum) = n := by rw [← hsum, h]; simp
      omega
    have hrd : rd_L1 cs (pre.length : Int) = x := by rw [h]; simp [rd_L1]
    have hi := ih (pre ++ [x]) (by rw [h]; simp)
    refine Ev.step (fun j => ?_) hi
    simp only [laws_FnPerms.l0]
    have hm : Int.tmod (k : Int) (x.length : Int) = 0 := by
      rw [Int.tmod_eq_emod_of_nonneg (by omega), ← Int.natCast_emod, hx.2]; rfl
    rw [if_pos (by omega), if_pos (by omega), if_pos (by omega), hrd, if_neg (by omega), if_pos hm, w64 (by omega) (by omega), w64 (by omega) (by omega)]
    have e1 : (((pre.map List.length).sum : Nat) : Int) + (x.length : Int) = (((pre ++ [x]).map List.length).sum : Nat) := by simp
    have e2 : (pre.length : Int) + 1 = ((pre ++ [x]).length : Int) := by simp
    rw [e1, e2]
theorem FnPerms : laws_FnPerms.Pure := by
  intro l h1 h2 w
  unfold laws_FnPerms.f
  by_cases g : (l.length : Int) > 1048576
  · exact ⟨0, by rw [if_pos g]⟩
  simp only [if_neg g]
  obtain ⟨v, v0, v1, hv⟩ := makeNum_ok l (by omega) 1 (by omega)
  obtain ⟨n, hn⟩ : ∃ n : Nat, (n : Int) = wrap64 (1 + (Int.tmod v 8)) := by
    rw [Int.tmod_eq_emod_of_nonneg v0]
    exact ⟨(1 + v % 8).toNat, by rw [w64 (by omega) (by omega)]; omega⟩
  have hb : 1 ≤ n ∧ n ≤ 8 := by
    rw [Int.tmod_eq_emod_of_nonneg v0, w64 (by omega) (by omega)] at hn
    omega
  obtain ⟨a, a1, a2, ha⟩ := makePerm_ok l (by omega) 3 (by omega) (n : Int) (by omega) (by omega)
  obtain ⟨b, b1, b2, hbE⟩ := makePerm_ok l (by omega) 20 (by omega) (n : Int) (by omega) (by omega)
  have la : a.length = n := by omega
  have lb : b.length = n := by omega
  have hab : a.length = b.length := by omega
  have c1 := compose_perm a1 b1 hab
  have lc : (compose a b).length = n := by rw [compose_length]; exact lb
  have ia := inverse_perm a1
  have ib := inverse_perm b1
  have ic := inverse_perm c1
  have lia := inverse_length a
  have lib := inverse_length b
  have lic := inverse_length (compose a b)
  have E1 := impl_ComposePerms_ev a b (by omega) (by omega)
  have e1 : composePerms a b = (compose a b, true) := by unfold composePerms; rw [if_pos ⟨a1, b1, hab⟩]
  rw [e1] at E1
  have inv_ev : ∀ x : List Int, permOk x = true → x.length ≤ 8 → Ev (fun k => impl_InversePerm.f k x) (inverse x, true) := fun x hx hl => by
    have := impl_InversePerm_ev x (by omega)
    unfold inversePerm at this
    rwa [if_pos hx] at this
  have E2 := inv_ev (compose a b) c1 (by omega)
  have E3 := inv_ev a a1 (by omega)
  have E4 := inv_ev b b1 (by omega)
  have E5 := impl_ComposePerms_ev (inverse b) (inverse a) (by omega) (by omega)
  have e5 : composePerms (inverse b) (inverse a) = (compose (inverse b) (inverse a), true) := by unfold composePerms; rw [if_pos ⟨ib.1, ia.1, by omega⟩]
  rw [e5] at E5
  have E6 := impl_ComposePerms_ev (compose a b) (inverse (compose a b)) (by omega) (by omega)
  have e6 : composePerms (compose a b) (inverse (compose a b)) = (compose (compose a b) (inverse (compose a b)), true) := by unfold composePerms; rw [if_pos ⟨c1, ic.1, by omega⟩]
  rw [e6, compose_inverse c1, lc] at E6
  obtain ⟨o1, k, hk, k1, k2, hpow, hdiv⟩ := order_run a1 (by omega)
  refine Ev.rounds ?_
  refine Ev.bind hv ?_
  simp only [← hn]
  refine Ev.bind ha (Ev.bind hbE (Ev.bind E1 (Ev.bind E2 (Ev.bind E3 (Ev.bind E4 (Ev.bind E5 (Ev.bind E6 ?_)))))))
  simp only [if_true]
  refine Ev.bind (laws_same_ev _ _ (by omega)) ?_
  refine ev_ite_true (decide_eq_true (inverse_compose a1 b1 hab)) ?_
  refine Ev.bind (impl_IdentityPerm_ev n) (Ev.bind (laws_same_ev _ _ (by rw [upFrom_length]; omega)) ?_)
  have enp : newPacket (n : Int) = upFrom 0 n := by unfold newPacket; rw [if_pos (by omega), Int.toNat_natCast]
  rw [enp]
  simp only [decide_true, Bool.not_true]
  refine Ev.step (fun j => by rw [laws_FnPerms.j0]) ?_
  simp only [Bool.false_eq_true, if_false]
  refine Ev.bind (impl_OrderOfPerm_ev a (by omega) 839 (fun _ => o1) (by omega)) ?_
  rw [hk]
  have E7 := impl_PowerPerm_ev a (by omega) (k : Int)
  have e7 : powerPerm a (k : Int) = (upFrom 0 n, true) := by
    unfold powerPerm
    rw [if_pos ⟨a1, by omega, by omega⟩, Int.toNat_natCast, hpow, la]
  rw [e7] at E7
  refine Ev.bind E7 (Ev.bind (impl_CyclesOf_ev a (by omega)) ?_)
  obtain ⟨ls, els, hcyc, -, hsum, -⟩ := cyclesOf_run a1 (by omega : a.length ≤ 8)
  have hsum' : ((cyclesOf a).map List.length).sum = n := by
    rw [els, List.map_map, ← la, ← hsum]
    exact congrArg List.sum (List.map_congr_left (fun x _ => by rw [Function.comp_apply, List.length_map]))
  have hcount : ∀ ms : List (List Int), (∀ l ∈ ms, 0 < l.length) → ms.length ≤ (ms.map List.length).sum := by
    intro ms
    induction ms with
    | nil => intro _; simp
    | cons x ms ih =>
      intro h
      have := ih (fun l hl => h l (by simp [hl]))
      have := h x (by simp)
      simp only [List.map_cons, List.sum_cons, List.length_cons]
      omega
  have hcl := hcount (cyclesOf a) (fun l hl => (hdiv l hl).1)
  exact perms_loop n a b (compose a b) (upFrom 0 n) k hb ⟨k1, k2⟩ rfl la lb lc (isEven_compose a1 b1 hab (by omega)) (cyclesOf a) hdiv hsum' (by omega) (cyclesOf a) [] rfl

end Go.Proofs.Ytojbjofngpcjaaa.Pure
