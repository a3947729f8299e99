/- For every code: the riffle that it makes is one, and of its length there are as many riffles as there should be; exactly the permutations with at most two rising sequences result from a riffle. No conditions. -/
import Derived.Test.YtdgoeomelnlekaaMFnRifflesx0
import Derived.Test.YtdgoeomelnlekaaMFnRifflesx1
import Derived.Test.YtdgoeomelnlekaaMFnRifflesx2
import Derived.Test.YtdgoeomelnlekaaMFnRifflesx3
import Derived.Test.YtdgoeomelnlekaaMFnRifflesx4
import Derived.Test.YtdgoeomelnlekaaMFnRifflesx5
import Derived.Test.YtdgoeomelnlekaaMFnRifflesx6
import Derived.Test.YtdgoeomelnlekaaMFnRifflesx7
import Derived.Test.YtdgoeomelnlekaaMFnRifflesx8
import Derived.Test.YtdgoeomelnlekaaMFnRifflesx9
import Derived.Test.YtdgoeomelnlekaaMFnRifflesx10
import Derived.Test.YtdgoeomelnlekaaMFnRifflesx11
import Derived.Test.YtdgoeomelnlekaaMFnRifflesx12
import Derived.Test.YtdgoeomelnlekaaMFnRifflesx13
import Derived.Test.YtdgoeomelnlekaaMFnRifflesx14
import Derived.Test.YtdgoeomelnlekaaMFnRifflesx15
import Derived.Test.YtdgoeomelnlekaaMFnRifflesx16
import Derived.Test.YtdgoeomelnlekaaMFnRifflesx17
import Derived.OpenShut
namespace Go.Proofs.Ytdgoeomelnlekaa.Pure
open Go.RowKit Go.Proofs.Ytdgoeomelnlekaa.MFnRiffles Go.Proofs.YtdgoeomelnlekaaW.PrintWords Go.Proofs.YtdgoeomelnlekaaW.PrintLast
set_option linter.unusedVariables false
set_option linter.unusedSimpArgs false

theorem w64 {a : Int} (h0 : -9223372036854775808 ≤ a) (h1 : a ≤ 9223372036854775807) : wrap64 a = a := by
  unfold wrap64
  omega
theorem bd64 {n : Int} (h : (Lit.int .i64 n).wf = true) : -9223372036854775808 ≤ n ∧ n ≤ 9223372036854775807 := Go.bounds_i64 h
theorem rd_lt {xs : List Int} {i : Nat} (h : i < xs.length) : rd xs (i : Int) = xs[i] := by simp [rd, h]
/-- Going up to n: what holds at n holds from i on. -/
theorem up_ind (n : Nat) (P : Nat → Prop) (h0 : P n) (hs : ∀ i, i < n → P (i + 1) → P i) : ∀ i, i ≤ n → P i := by
  have h : ∀ d i, i + d = n → P i := by
    intro d
    induction d with
    | zero => intro i hi; obtain rfl : i = n := by omega
              exact h0
    | succ d ih => intro i hi; exact hs i (by omega) (ih (i + 1) (by omega))
  intro i hi
  exact h (n - i) i (by omega)
theorem ev_some {α : Type} {g : Nat → Option α} {r : α} (h : ∀ k, g k = some r) : Ev g r := ⟨0, fun k _ => h k⟩
/-- What every law of one list does: it hands a copy to the reference and one to the program, compares, and looks at the copy. -/
theorem ev_ite_true {α : Type} {f g : Nat → Option α} {r : α} {c : Prop} [Decidable c] (h : c) (k : Ev f r) : Ev (fun n => if c then f n else g n) r := by simpa only [if_pos h] using k
theorem ev_ite_false {α : Type} {f g : Nat → Option α} {r : α} {c : Prop} [Decidable c] (h : ¬ c) (k : Ev g r) : Ev (fun n => if c then f n else g n) r := by simpa only [if_neg h] using k

theorem and255 (x : Int) : 0 ≤ Go.bits .and .i64 x 255 ∧ Go.bits .and .i64 x 255 ≤ 255 := by
  have h : (BitVec.ofInt 64 x &&& BitVec.ofInt 64 255).toNat ≤ 255 := by
    rw [BitVec.toNat_and]
    exact Nat.le_trans Nat.and_le_right (by decide)
  have e : Go.bits .and .i64 x 255 = (((BitVec.ofInt 64 x &&& BitVec.ofInt 64 255).toNat : Nat) : Int) := by
    have : Go.bits .and .i64 x 255 = IntKind.i64.wrap (((BitVec.ofInt 64 x &&& BitVec.ofInt 64 255).toNat : Nat) : Int) := rfl
    rw [this, i64_w, w64 (by omega) (by omega)]
  rw [e]
  omega
theorem byte_ok (s0 : List Int) (s1 s2 : Int) (hl : s0.length ≤ 1048576) (h : 0 ≤ s1) : ∃ b t1 t2, spec_l01Byte.f s0 s1 s2 = some (b, t1, t2) ∧ 0 ≤ b ∧ b ≤ 255 ∧ 0 ≤ t1 := by
  unfold spec_l01Byte.f
  by_cases c : s1 < (s0.length : Int)
  · rw [if_pos c, if_pos h]
    exact ⟨_, _, _, rfl, (and255 _).1, (and255 _).2, by rw [w64 (by omega) (by omega)]; omega⟩
  · rw [if_neg c]
    exact ⟨_, _, _, rfl, (and255 _).1, (and255 _).2, h⟩
theorem below_ok (s0 : List Int) (s1 s2 n : Int) (hl : s0.length ≤ 1048576) (h : 0 ≤ s1) (hn : 1 ≤ n) (hm : n ≤ 256) : ∃ b t1 t2, spec_l01Below.f s0 s1 s2 n = some (b, t1, t2) ∧ 0 ≤ b ∧ b < n ∧ 0 ≤ t1 := by
  unfold spec_l01Below.f
  obtain ⟨b, t1, t2, e, b0, b1, ht⟩ := byte_ok s0 s1 s2 hl h
  rw [if_neg (by omega), if_pos hm, e]
  simp only [Option.bind_some]
  rw [if_neg (by omega)]
  refine ⟨_, _, _, rfl, ?_, ?_, ht⟩
  · rw [Int.tmod_eq_emod_of_nonneg b0]; exact Int.emod_nonneg _ (by omega)
  · rw [Int.tmod_eq_emod_of_nonneg b0]; exact Int.emod_lt_of_pos _ (by omega)
theorem new_loop (l : List Int) (hl : l.length ≤ 1048576) : ∀ (d : Nat) (i : Nat) (x : Int), l.length ≤ i + d → i ≤ l.length → ∃ h, Ev (fun k => spec_l01New.l0 k l x (i : Int)) (l, 0, h) := by
  intro d
  induction d with
  | zero =>
    intro i x hi hj
    refine ⟨x, Ev.step (f := fun _ => some _) (fun k => ?_) (Ev.now _)⟩
    simp only [spec_l01New.l0]
    rw [if_neg (by omega)]
  | succ d ih =>
    intro i x hi hj
    by_cases c : i < l.length
    · by_cases c2 : (i : Int) < 4000
      · obtain ⟨h, hh⟩ := ih (i + 1) (Go.bits .and .i64 (wrap64 ((wrap64 ((wrap64 (x * 101)) + (wrap64 (rd l i)))) + 7)) 1073741823) (by omega) (by omega)
        refine ⟨h, Ev.step (fun k => ?_) hh⟩
        simp only [spec_l01New.l0]
        rw [if_pos (by omega), if_pos c2, if_pos (by omega), w64 (a := (i : Int) + 1) (by omega) (by omega)]
        rfl
      · refine ⟨x, Ev.step (f := fun _ => some _) (fun k => ?_) (Ev.now _)⟩
        simp only [spec_l01New.l0]
        rw [if_pos (by omega), if_neg c2]
    · refine ⟨x, Ev.step (f := fun _ => some _) (fun k => ?_) (Ev.now _)⟩
      simp only [spec_l01New.l0]
      rw [if_neg (by omega)]
theorem new_ok (l : List Int) (hl : l.length ≤ 1048576) : ∃ h, Ev (fun k => spec_l01New.f k l) (l, 0, h) := new_loop l hl l.length 0 _ (by omega) (by omega)

theorem l23_loop (l : List Int) (hl : l.length ≤ 1048576) (n : Nat) (hn : n ≤ 1000) : ∀ (d i : Nat) (s1 s2 : Int), i + d = n → 0 ≤ s1 → ∃ t1 t2, 0 ≤ t1 ∧ Ev (fun k => spec_l23New.l0 k (n : Int) (i : Int) l s1 s2) (l, t1, t2) := by
  intro d
  induction d with
  | zero =>
    intro i s1 s2 hi h
    refine ⟨s1, s2, h, Ev.step (f := fun _ => some _) (fun k => ?_) (Ev.now _)⟩
    simp only [spec_l23New.l0]
    rw [if_neg (by omega)]
  | succ d ih =>
    intro i s1 s2 hi h
    obtain ⟨b, u1, u2, e, b0, b1, hu⟩ := byte_ok l s1 s2 hl h
    obtain ⟨t1, t2, ht, hE⟩ := ih (i + 1) u1 u2 (by omega) hu
    refine ⟨t1, t2, ht, Ev.step (fun k => ?_) hE⟩
    simp only [spec_l23New.l0]
    rw [if_pos (by omega), e, w64 (by omega) (by omega)]
    rfl
theorem l23_ok (l : List Int) (hl : l.length ≤ 1048576) (n : Nat) (hn : n ≤ 1000) : ∃ t1 t2, 0 ≤ t1 ∧ Ev (fun k => spec_l23New.f k l (n : Int)) (l, t1, t2) := by
  obtain ⟨h, hh⟩ := new_ok l hl
  obtain ⟨t1, t2, ht, hE⟩ := l23_loop l hl n hn n 0 0 h (by omega) (by omega)
  exact ⟨t1, t2, ht, by unfold spec_l23New.f; exact Ev.bind hh hE⟩

theorem rd_mid (pre : List Int) (x : Int) (r : List Int) : rd (pre ++ x :: r) (pre.length : Int) = x := by simp [rd]
theorem rd_mid' {l pre : List Int} {x : Int} {r : List Int} (h : l = pre ++ x :: r) : rd l (pre.length : Int) = x := by subst h; exact rd_mid _ _ _
theorem snoc_eq {l pre : List Int} {x : Int} {r : List Int} (h : l = pre ++ x :: r) : l = (pre ++ [x]) ++ r := by simp [h]
theorem snoc_len {pre : List Int} (x : Int) (h : pre.length ≤ 9223372036854775806) : wrap64 ((pre.length : Int) + 1) = ((pre ++ [x]).length : Int) := by
  rw [w64 (by omega) (by omega)]; simp
/-- The whole numbers from m on, n of them. -/
def upFrom (m : Int) : Nat → List Int
  | 0 => []
  | n + 1 => m :: upFrom (m + 1) n
theorem upFrom_length (n : Nat) : ∀ m, (upFrom m n).length = n := by
  induction n with
  | zero => intro m; rfl
  | succ n ih => intro m; simp [upFrom, ih]
theorem upFrom_get (n : Nat) : ∀ (m : Int) (i : Nat) (h : i < (upFrom m n).length), (upFrom m n)[i] = m + i := by
  induction n with
  | zero => intro m i h; simp [upFrom] at h
  | succ n ih =>
    intro m i h
    cases i with
    | zero => simp [upFrom]
    | succ i => simp only [upFrom, List.getElem_cons_succ]; rw [ih]; omega
theorem upFrom_snoc (n : Nat) : ∀ m, upFrom m (n + 1) = upFrom m n ++ [m + n] := by
  induction n with
  | zero => intro m; simp [upFrom]
  | succ n ih => intro m; rw [upFrom, ih]; simp [upFrom]; omega
theorem upFrom_mem (n : Nat) : ∀ (m x : Int), x ∈ upFrom m n ↔ m ≤ x ∧ x < m + n := by
  induction n with
  | zero => intro m x; simp only [upFrom, List.not_mem_nil, false_iff]; omega
  | succ n ih => intro m x; simp only [upFrom, List.mem_cons, ih]; omega
theorem upFrom_nodup (n : Nat) : ∀ m, (upFrom m n).Nodup := by
  induction n with
  | zero => intro m; simp [upFrom]
  | succ n ih => intro m; simp only [upFrom, List.nodup_cons, ih, and_true, upFrom_mem]; omega
theorem set_mid (pre : List Int) (x y : Int) (r : List Int) : (pre ++ y :: r).set pre.length x = (pre ++ [x]) ++ r := by simp
theorem lens {l pre r : List Int} (h : l = pre ++ r) : l.length = pre.length + r.length := by rw [h]; simp
theorem snoc_cast (pre : List Int) (x : Int) : ((pre ++ [x]).length : Int) = (pre.length : Int) + 1 := by simp

def pokFrom (n : Nat) : List Int → List Int → Bool
  | _, [] => true
  | seen, x :: r => decide (0 ≤ x ∧ x < n) && (!decide (x ∈ seen) && pokFrom n (seen ++ [x]) r)
/-- A list of whole numbers is a permutation of at most 12 positions. -/
def permOk (a : List Int) : Bool := pokFrom a.length [] a && decide (a.length ≤ 12)
theorem pokFrom_iff (n : Nat) (r : List Int) : ∀ seen, pokFrom n seen r = true ↔ (∀ x ∈ r, 0 ≤ x ∧ x < n) ∧ r.Nodup ∧ (∀ x ∈ r, x ∉ seen) := by
  induction r with
  | nil => intro seen; simp [pokFrom]
  | cons x r ih =>
    intro seen
    simp only [pokFrom, Bool.and_eq_true, decide_eq_true_eq, Bool.not_eq_true', decide_eq_false_iff_not, ih, List.mem_cons, forall_eq_or_imp, List.nodup_cons, List.mem_append, List.not_mem_nil, or_false, not_or]
    constructor
    · rintro ⟨h1, h2, h3, h4, h5⟩
      exact ⟨⟨h1, h3⟩, ⟨fun hx => (h5 x hx).2 rfl, h4⟩, h2, fun y hy => (h5 y hy).1⟩
    · rintro ⟨⟨h1, h3⟩, ⟨h6, h4⟩, h2, h5⟩
      exact ⟨h1, h2, h3, h4, fun y hy => ⟨h5 y hy, fun e => h6 (e ▸ hy)⟩⟩
theorem permOk_iff (a : List Int) : permOk a = true ↔ (∀ x ∈ a, 0 ≤ x ∧ x < a.length) ∧ a.Nodup ∧ a.length ≤ 12 := by
  simp only [permOk, Bool.and_eq_true, pokFrom_iff, decide_eq_true_eq]
  simp [and_assoc]

def invFrom : List Int → Int → List Int → List Int
  | m, _, [] => m
  | m, i, x :: r => invFrom (m.set x.toNat i) (i + 1) r
/-- The inverse of a permutation. -/
def inverse (a : List Int) : List Int := invFrom (List.replicate a.length 0) 0 a
theorem invFrom_length (r : List Int) : ∀ m i, (invFrom m i r).length = m.length := by
  induction r with
  | nil => intro m i; rfl
  | cons x r ih => intro m i; simp [invFrom, ih]
theorem inverse_length (a : List Int) : (inverse a).length = a.length := by simp [inverse, invFrom_length]
theorem rd_set_ne {m : List Int} {x y i : Int} (hx : 0 ≤ x) (hy : 0 ≤ y) (h : x ≠ y) : rd (m.set x.toNat i) y = rd m y := by
  have : x.toNat ≠ y.toNat := by omega
  simp [rd, List.getElem?_set, this]
theorem rd_set_eq {m : List Int} {x i : Int} (hx : 0 ≤ x) (h : x < m.length) : rd (m.set x.toNat i) x = i := by
  have : x.toNat < m.length := by omega
  simp [rd, List.getElem?_set, this]
theorem invFrom_keep (r : List Int) : ∀ (m : List Int) (i y : Int), 0 ≤ y → y ∉ r → (∀ x ∈ r, 0 ≤ x) → rd (invFrom m i r) y = rd m y := by
  induction r with
  | nil => intro m i y _ _ _; rfl
  | cons x r ih =>
    intro m i y hy hn hp
    simp only [List.mem_cons, not_or] at hn
    have hx := hp x (by simp)
    rw [invFrom, ih _ _ y hy hn.2 (fun z hz => hp z (by simp [hz])), rd_set_ne hx hy (fun e => hn.1 e.symm)]
theorem invFrom_get (r : List Int) : ∀ (m : List Int) (i : Int), (∀ x ∈ r, 0 ≤ x ∧ x < m.length) → r.Nodup → ∀ (j : Nat) (h : j < r.length), rd (invFrom m i r) (r[j]) = i + j := by
  induction r with
  | nil => intro m i _ _ j h; simp at h
  | cons x r ih =>
    intro m i hp hn j h
    simp only [List.nodup_cons] at hn
    have hx := hp x (by simp)
    cases j with
    | zero =>
      simp only [List.getElem_cons_zero]
      rw [invFrom, invFrom_keep r _ _ x hx.1 hn.1 (fun z hz => (hp z (by simp [hz])).1), rd_set_eq hx.1 hx.2]
      simp
    | succ j =>
      simp only [List.getElem_cons_succ]
      rw [invFrom, ih _ _ (fun z hz => by rw [List.length_set]; exact hp z (by simp [hz])) hn.2 j (by simpa using h)]
      omega
theorem inverse_get {a : List Int} (hp : ∀ x ∈ a, 0 ≤ x ∧ x < a.length) (hn : a.Nodup) (j : Nat) (h : j < a.length) : rd (inverse a) (a[j]) = j := by
  unfold inverse
  rw [invFrom_get a _ 0 (fun x hx => by simpa using hp x hx) hn j h]
  omega

theorem nodup_le (l : List Int) : ∀ m : List Int, l.Nodup → (∀ x ∈ l, x ∈ m) → l.length ≤ m.length := by
  induction l with
  | nil => intro m _ _; simp
  | cons x l ih =>
    intro m hn hs
    simp only [List.nodup_cons] at hn
    have hx : x ∈ m := hs x (by simp)
    have h := ih (m.erase x) hn.2 (fun y hy => (List.mem_erase_of_ne (fun e => hn.1 (by rw [← e]; exact hy))).2 (hs y (by simp [hy])))
    rw [List.length_erase_of_mem hx] at h
    have := List.length_pos_of_mem hx
    simp only [List.length_cons]
    omega
theorem perm_surj {a : List Int} (hp : ∀ x ∈ a, 0 ≤ x ∧ x < a.length) (hn : a.Nodup) (v : Int) (h0 : 0 ≤ v) (h1 : v < a.length) : v ∈ a := by
  apply Decidable.byContradiction
  intro hv
  have h := nodup_le (v :: a) (upFrom 0 a.length) (by simp [hv, hn]) (fun y hy => by
    rw [upFrom_mem]
    rcases List.mem_cons.1 hy with rfl | hy
    · omega
    · have := hp y hy; omega)
  rw [upFrom_length] at h
  simp only [List.length_cons] at h
  omega
/-- Where a value of a permutation stands. -/
theorem perm_at {a : List Int} (hp : ∀ x ∈ a, 0 ≤ x ∧ x < a.length) (hn : a.Nodup) (v : Int) (h0 : 0 ≤ v) (h1 : v < a.length) : ∃ j : Nat, ∃ h : j < a.length, a[j] = v ∧ rd (inverse a) v = j := by
  obtain ⟨j, h, e⟩ := List.getElem_of_mem (perm_surj hp hn v h0 h1)
  exact ⟨j, h, e, by rw [← e]; exact inverse_get hp hn j h⟩

theorem swap_perm (p : List Int) (v : Int) (j : Nat) (h : j ≤ p.length) : (((p ++ [v]).set p.length (rd (p ++ [v]) (j : Int))).set j v).Perm (p ++ [v]) := by
  by_cases c : j = p.length
  · subst c
    rw [show rd (p ++ [v]) (p.length : Int) = v from rd_mid p v [], set_mid, List.append_nil]
    have : (p ++ [v]).set p.length v = p ++ [v] := by
      have := set_mid p v v []
      rw [List.append_nil] at this
      exact this
    rw [this]
  · have hj : j < p.length := by omega
    have ep : p = p.take j ++ p[j] :: p.drop (j + 1) := by rw [← List.drop_eq_getElem_cons hj, List.take_append_drop]
    have er : rd (p ++ [v]) (j : Int) = p[j] := by simp [rd, List.getD, List.getElem?_append_left hj, hj]
    rw [er]
    have e1 : (p ++ [v]).set p.length p[j] = p ++ [p[j]] := by
      have := set_mid p p[j] v []
      rw [List.append_nil] at this
      exact this
    rw [e1]
    generalize hu : p.take j = u at ep
    generalize hw : p.drop (j + 1) = w at ep
    generalize hx : p[j] = x at ep ⊢
    have hlu : u.length = j := by rw [← hu]; simp; omega
    rw [ep]
    have e2 : (u ++ x :: w ++ [x]).set j v = u ++ v :: (w ++ [x]) := by
      rw [show u ++ x :: w ++ [x] = u ++ x :: (w ++ [x]) by simp, ← hlu, set_mid]
      simp
    rw [e2]
    rw [List.append_assoc]
    refine List.Perm.append_left u ?_
    have h1 : (v :: (w ++ [x])).Perm (v :: ([x] ++ w)) := List.Perm.cons v List.perm_append_comm
    have h2 : ([v] ++ w).Perm (w ++ [v]) := List.perm_append_comm
    exact h1.trans ((List.Perm.swap x v w).trans (List.Perm.cons x h2))
theorem shuffle_loop (s0 : List Int) (hl : s0.length ≤ 1048576) (m : Nat) (hm : m ≤ 12) : ∀ (d i : Nat) (p : List Int) (s1 s2 : Int), i + d = m → p.Perm (upFrom 0 i) → 0 ≤ s1 →
    ∃ q t1 t2, q.Perm (upFrom 0 m) ∧ 0 ≤ t1 ∧ Ev (fun k => spec_l02Shuffle.l0 k (m : Int) p (i : Int) s0 s1 s2) (q, t1, t2) := by
  intro d
  induction d with
  | zero =>
    intro i p s1 s2 hi hp h
    obtain rfl : i = m := by omega
    refine ⟨p, s1, s2, hp, h, Ev.step (f := fun _ => some _) (fun k => ?_) (Ev.now _)⟩
    simp only [spec_l02Shuffle.l0]
    rw [if_neg (by omega)]
  | succ d ih =>
    intro i p s1 s2 hi hp h
    have hpl : p.length = i := by rw [hp.length_eq, upFrom_length]
    obtain ⟨b, u1, u2, e, b0, b1, hu⟩ := below_ok s0 s1 s2 ((i : Int) + 1) hl h (by omega) (by omega)
    have hs : (((p ++ [(i : Int)]).set i (rd (p ++ [(i : Int)]) b)).set b.toNat (i : Int)).Perm (upFrom 0 (i + 1)) := by
      have := swap_perm p (i : Int) b.toNat (by omega)
      rw [Int.toNat_of_nonneg b0, hpl] at this
      refine this.trans ?_
      rw [upFrom_snoc]
      simp only [Int.zero_add]
      exact List.Perm.append_right _ hp
    obtain ⟨q, t1, t2, hq, ht, hE⟩ := ih (i + 1) _ u1 u2 (by omega) hs hu
    refine ⟨q, t1, t2, hq, ht, Ev.step (fun k => ?_) hE⟩
    simp only [spec_l02Shuffle.l0]
    rw [if_pos (by omega), w64 (a := (i : Int) + 1) (by omega) (by omega), e]
    simp only [Option.bind_some]
    rw [if_pos (by omega), if_pos b0, if_pos (by simp; omega), if_pos (by omega), if_pos (by simp; omega), Int.toNat_natCast]
    rfl
theorem shuffle_ok (s0 : List Int) (hl : s0.length ≤ 1048576) (m : Nat) (hm : m ≤ 12) (s1 s2 : Int) (h : 0 ≤ s1) :
    ∃ q t1 t2, q.Perm (upFrom 0 m) ∧ 0 ≤ t1 ∧ Ev (fun k => spec_l02Shuffle.f k s0 s1 s2 (m : Int)) (q, t1, t2) :=
  shuffle_loop s0 hl m hm m 0 [] s1 s2 (by omega) (List.Perm.refl _) h
theorem permOk_of_perm {q : List Int} {m : Nat} (hm : m ≤ 12) (h : q.Perm (upFrom 0 m)) : permOk q = true ∧ q.length = m := by
  have hl : q.length = m := by rw [h.length_eq, upFrom_length]
  refine ⟨(permOk_iff q).2 ⟨fun x hx => ?_, h.nodup_iff.2 (upFrom_nodup _ _), by omega⟩, hl⟩
  have := h.mem_iff.1 hx
  rw [upFrom_mem] at this
  omega

theorem makePerm_ok (l : List Int) (hl : l.length ≤ 1048576) (m : Nat) (hm : m ≤ 1000) (n : Int) (h1 : 1 ≤ n) (h2 : n ≤ 12) : ∃ q, permOk q = true ∧ (q.length : Int) = n ∧ Ev (fun k => spec_MakePerm.f k l (m : Int) n) q := by
  obtain ⟨t1, t2, ht, hE⟩ := l23_ok l hl m hm
  have en : mx 1 (mn n 12) = ((n.toNat : Nat) : Int) := by
    unfold mx mn
    split <;> split <;> omega
  obtain ⟨q, u1, u2, hp, hu, hq⟩ := shuffle_ok l hl n.toNat (by omega) t1 t2 ht
  obtain ⟨p1, p2⟩ := permOk_of_perm (by omega) hp
  refine ⟨q, p1, by omega, ?_⟩
  unfold spec_MakePerm.f
  refine Ev.bind hE ?_
  simp only [en]
  exact Ev.bind hq (Ev.now _)

/-- The packet of n cards in order; empty where n is out of range. -/
def newPacket (n : Int) : List Int := if 0 ≤ n ∧ n ≤ 12 then upFrom 0 n.toNat else []

theorem spec_l01In_eq (a b c : Int) : spec_l01In.f a b c = some (decide (b ≤ a ∧ a ≤ c)) := by
  unfold spec_l01In.f
  by_cases h : a ≥ b
  · rw [if_pos h]; simp; omega
  · rw [if_neg h]; simp; omega

theorem spec_NewPacket_loop (n : Nat) (hn : n ≤ 17592186044415) : ∀ i, i ≤ n → Ev (fun k => spec_NewPacket.l0 k (n : Int) (upFrom 0 i) (i : Int)) (upFrom 0 n) := by
  refine up_ind n (fun i => Ev (fun k => spec_NewPacket.l0 k (n : Int) (upFrom 0 i) (i : Int)) (upFrom 0 n)) ?_ ?_
  · refine Ev.step (f := fun _ => some _) (fun k => ?_) (Ev.now _)
    simp only [spec_NewPacket.l0]
    rw [if_neg (by omega)]
  · intro i hi h
    refine Ev.step (fun k => ?_) h
    have hl := upFrom_length i 0
    simp only [spec_NewPacket.l0]
    rw [if_pos (by omega), if_pos (by omega), w64 (by omega) (by omega), upFrom_snoc]
    simp
theorem spec_NewPacket_ev (n : Int) : Ev (fun k => spec_NewPacket.f k n) (newPacket n) := by
  unfold spec_NewPacket.f newPacket
  simp only [spec_l01In_eq, Option.bind_some, decide_eq_true_eq]
  by_cases h : 0 ≤ n ∧ n ≤ 12
  · simp only [if_pos h]
    have := spec_NewPacket_loop n.toNat (by omega) 0 (by omega)
    rw [Int.toNat_of_nonneg h.1] at this
    exact this
  · simp only [if_neg h]
    exact Ev.now _
theorem impl_upTo_loop (n : Nat) (hn : n ≤ 17592186044415) : ∀ i, i ≤ n → Ev (fun k => impl_upTo.l0 k (n : Int) (upFrom 0 i) (i : Int)) (upFrom 0 n) := by
  refine up_ind n (fun i => Ev (fun k => impl_upTo.l0 k (n : Int) (upFrom 0 i) (i : Int)) (upFrom 0 n)) ?_ ?_
  · refine Ev.step (f := fun _ => some _) (fun k => ?_) (Ev.now _)
    simp only [impl_upTo.l0]
    rw [if_neg (by omega)]
  · intro i hi h
    refine Ev.step (fun k => ?_) h
    have hl := upFrom_length i 0
    simp only [impl_upTo.l0]
    rw [if_pos (by omega), if_pos (by omega), w64 (by omega) (by omega), upFrom_snoc]
    simp
theorem impl_upTo_ev (n : Nat) (hn : n ≤ 17592186044415) : Ev (fun k => impl_upTo.f k (n : Int)) (upFrom 0 n) := by
  unfold impl_upTo.f
  exact impl_upTo_loop n hn 0 (by omega)

theorem impl_NewPacket_ev (n : Int) : Ev (fun k => impl_NewPacket.f k n) (newPacket n) := by
  unfold impl_NewPacket.f newPacket
  by_cases h0 : n < 0
  · simp only [if_pos h0]
    rw [if_neg (by omega)]
    exact Ev.now _
  · by_cases h1 : n > 12
    · simp only [if_neg h0, if_pos h1]
      rw [if_neg (by omega)]
      exact Ev.now _
    · simp only [if_neg h0, if_neg h1]
      rw [if_pos (by omega)]
      have := impl_upTo_ev n.toNat (by omega)
      rw [Int.toNat_of_nonneg (by omega)] at this
      exact Ev.bind this (Ev.now _)

/-- The card of a cell, or -1. -/
def cardOf (x : Int) : Int := if 0 ≤ x then (if x ≤ 11 then x else -1) else (if -12 ≤ x then -1 - x else -1)

/-- A cell turned over. -/
def turnCard (x : Int) : Int := if cardOf x < 0 then x else -1 - x

def faroF (k : Int) : Nat → List Int → List Int → List Int → List Int
  | 0, _, _, out => out
  | d + 1, a, b, out => match a, b with
    | [], [] => out
    | [], y :: b => faroF k d [] b (out ++ [y])
    | x :: a, [] => faroF k d a [] (out ++ [x])
    | x :: a, y :: b => if (out.length : Int) % 2 = k then faroF k d a (y :: b) (out ++ [x]) else faroF k d (x :: a) b (out ++ [y])
def mongeF (k : Int) : List Int → Nat → List Int → List Int
  | [], _, out => out
  | x :: r, i, out => if i = 0 ∨ (i : Int) % 2 = k then mongeF k r (i + 1) (out ++ [x]) else mongeF k r (i + 1) (x :: out)
def milkF : Nat → List Int → List Int → List Int
  | 0, l, out => l ++ out
  | d + 1, l, out => if 1 < l.length then milkF d ((l.take (l.length - 1)).drop 1) ([rd l 0, rd l ((l.length : Int) - 1)] ++ out) else l ++ out
def duckF : Nat → List Int → List Int → Bool → List Int
  | 0, q, out, _ => q ++ out
  | _ + 1, [], out, _ => out
  | _ + 1, [x], out, _ => x :: out
  | d + 1, x :: y :: r, out, b => if b = true then duckF d (y :: r) (x :: out) false else duckF d (y :: r ++ [x]) out true
def doMove (l : List Int) (k a : Int) : List Int :=
  if k = 1 then l.drop a.toNat ++ l.take a.toNat
  else if k = 2 then (l.take a.toNat).reverse ++ l.drop a.toNat
  else if k = 3 then ((l.take a.toNat).map turnCard).reverse ++ l.drop a.toNat
  else if k = 4 then faroF a l.length (l.take (l.length / 2)) (l.drop (l.length / 2)) []
  else if k = 5 then mongeF a l 0 []
  else if k = 6 then milkF l.length l []
  else if k = 7 then duckF (2 * l.length) l [] (a == 1)
  else if k = 8 then l.set a.toNat (turnCard (rd l a))
  else l.take a.toNat ++ l.drop (a.toNat + 1) ++ [rd l a]

def pktFrom : List Int → List Int → Bool
  | _, [] => true
  | seen, x :: r => decide (0 ≤ cardOf x) && (!decide (cardOf x ∈ seen) && pktFrom (seen ++ [cardOf x]) r)
/-- A packet: at most twelve cards, all different. -/
def packetOk (l : List Int) : Bool := pktFrom [] l
theorem pktFrom_iff (r : List Int) : ∀ seen, pktFrom seen r = true ↔ (∀ x ∈ r, 0 ≤ cardOf x) ∧ (r.map cardOf).Nodup ∧ (∀ x ∈ r, cardOf x ∉ seen) := by
  induction r with
  | nil => intro seen; simp [pktFrom]
  | cons x r ih =>
    intro seen
    simp only [pktFrom, Bool.and_eq_true, decide_eq_true_eq, Bool.not_eq_true', decide_eq_false_iff_not, ih, List.mem_cons, forall_eq_or_imp, List.map_cons, List.nodup_cons, List.mem_append, List.not_mem_nil, or_false, not_or, List.mem_map]
    constructor
    · rintro ⟨h1, h2, h3, h4, h5⟩
      exact ⟨⟨h1, h3⟩, ⟨fun ⟨y, hy, e⟩ => (h5 y hy).2 e, h4⟩, h2, fun y hy => (h5 y hy).1⟩
    · rintro ⟨⟨h1, h3⟩, ⟨h6, h4⟩, h2, h5⟩
      exact ⟨h1, h2, h3, h4, fun y hy => ⟨h5 y hy, fun e => h6 ⟨y, hy, e⟩⟩⟩
theorem packetOk_iff (l : List Int) : packetOk l = true ↔ (∀ x ∈ l, 0 ≤ cardOf x) ∧ (l.map cardOf).Nodup := by
  unfold packetOk
  rw [pktFrom_iff]
  simp
theorem cardOf_le (x : Int) : -1 ≤ cardOf x ∧ cardOf x ≤ 11 := by
  unfold cardOf
  split <;> split <;> omega
theorem packetOk_length {l : List Int} (h : packetOk l = true) : l.length ≤ 12 := by
  obtain ⟨h1, h2⟩ := (packetOk_iff l).1 h
  have := nodup_le (l.map cardOf) (upFrom 0 12) h2 (fun y hy => by
    obtain ⟨x, hx, rfl⟩ := List.mem_map.1 hy
    rw [upFrom_mem]
    have := h1 x hx
    have := cardOf_le x
    omega)
  rw [upFrom_length, List.length_map] at this
  exact this

theorem wf_small {x : Int} (h0 : -100 ≤ x) (h1 : x ≤ 100) : (Lit.int .i64 x).wf = true := by
  simp [Lit.wf, IntKind.min, IntKind.max, IntKind.signed, IntKind.bits]
  omega
theorem cardOf_bound {x : Int} (h : 0 ≤ cardOf x) : -12 ≤ x ∧ x ≤ 11 := by
  unfold cardOf at h
  repeat' split at h
  all_goals omega

/-- a and b put together as bs tells: true takes from b. -/
def wv : List Bool → List Int → List Int → List Int
  | [], _, _ => []
  | true :: bs, a, b => b.headD 0 :: wv bs a b.tail
  | false :: bs, a, b => a.headD 0 :: wv bs a.tail b
def weaveU : Nat → List Int → List Int → List Int → List (List Int)
  | 0, don, _, _ => [don]
  | d + 1, don, a, b => if a = [] ∧ b = [] then [don] else
    (if a = [] then [] else weaveU d (don ++ [a.headD 0]) a.tail b) ++ (if b = [] then [] else weaveU d (don ++ [b.headD 0]) a b.tail)
theorem wv_length : ∀ bs a b, (wv bs a b).length = bs.length := by
  intro bs
  induction bs with
  | nil => intro a b; rfl
  | cons c bs ih => intro a b; cases c <;> simp [wv, ih]
theorem mem_weaveU (x : List Int) : ∀ (d : Nat) (don a b : List Int), a.length + b.length ≤ d → (x ∈ weaveU d don a b ↔ ∃ bs : List Bool, bs.count false = a.length ∧ bs.count true = b.length ∧ x = don ++ wv bs a b) := by
  intro d
  induction d with
  | zero =>
    intro don a b hd
    have e1 : a = [] := List.length_eq_zero_iff.1 (by omega)
    have e2 : b = [] := List.length_eq_zero_iff.1 (by omega)
    subst e1 e2
    simp only [weaveU, List.mem_singleton, List.length_nil]
    constructor
    · rintro rfl; exact ⟨[], rfl, rfl, by simp [wv]⟩
    · rintro ⟨bs, h1, h2, rfl⟩
      cases bs with
      | nil => simp [wv]
      | cons c bs => cases c <;> simp at h1 h2
  | succ d ih =>
    intro don a b hd
    rw [weaveU]
    by_cases c0 : a = [] ∧ b = []
    · rw [if_pos c0, c0.1, c0.2]
      simp only [List.mem_singleton, List.length_nil]
      constructor
      · rintro rfl; exact ⟨[], rfl, rfl, by simp [wv]⟩
      · rintro ⟨bs, h1, h2, rfl⟩
        cases bs with
        | nil => simp [wv]
        | cons c bs => cases c <;> simp at h1 h2
    · rw [if_neg c0, List.mem_append]
      have h1 : (x ∈ (if a = [] then [] else weaveU d (don ++ [a.headD 0]) a.tail b)) ↔ ∃ bs : List Bool, (false :: bs).count false = a.length ∧ (false :: bs).count true = b.length ∧ x = don ++ wv (false :: bs) a b := by
        cases a with
        | nil => simp
        | cons y a =>
          rw [if_neg (by simp)]
          simp only [List.headD_cons, List.tail_cons]
          rw [ih _ _ _ (by simp at hd; omega)]
          constructor
          · rintro ⟨bs, e1, e2, rfl⟩; exact ⟨bs, by simp [e1], by simp [e2], by simp [wv]⟩
          · rintro ⟨bs, e1, e2, rfl⟩; exact ⟨bs, by simpa using e1, by simpa using e2, by simp [wv]⟩
      have h2 : (x ∈ (if b = [] then [] else weaveU d (don ++ [b.headD 0]) a b.tail)) ↔ ∃ bs : List Bool, (true :: bs).count false = a.length ∧ (true :: bs).count true = b.length ∧ x = don ++ wv (true :: bs) a b := by
        cases b with
        | nil => simp
        | cons y b =>
          rw [if_neg (by simp)]
          simp only [List.headD_cons, List.tail_cons]
          rw [ih _ _ _ (by simp at hd; omega)]
          constructor
          · rintro ⟨bs, e1, e2, rfl⟩; exact ⟨bs, by simp [e1], by simp [e2], by simp [wv]⟩
          · rintro ⟨bs, e1, e2, rfl⟩; exact ⟨bs, by simpa using e1, by simpa using e2, by simp [wv]⟩
      rw [h1, h2]
      constructor
      · rintro (⟨bs, h⟩ | ⟨bs, h⟩)
        · exact ⟨_, h⟩
        · exact ⟨_, h⟩
      · rintro ⟨bs, e1, e2, e3⟩
        cases bs with
        | nil =>
          exact absurd ⟨List.length_eq_zero_iff.1 e1.symm, List.length_eq_zero_iff.1 e2.symm⟩ c0
        | cons c bs => cases c
                       · exact .inl ⟨bs, e1, e2, e3⟩
                       · exact .inr ⟨bs, e1, e2, e3⟩
theorem count_tf (bs : List Bool) : bs.count false + bs.count true = bs.length := by
  induction bs with
  | nil => rfl
  | cons c bs ih => cases c <;> simp <;> omega
/-- p's first part and its second one, put together as bs tells. -/
def rif (p : List Int) (bs : List Bool) : List Int := wv bs (p.take (bs.count false)) (p.drop (bs.count false))
theorem mem_weaves (p x : List Int) : x ∈ (List.range (p.length + 1)).flatMap (fun k => weaveU p.length [] (p.take k) (p.drop k)) ↔ ∃ bs : List Bool, bs.length = p.length ∧ x = rif p bs := by
  rw [List.mem_flatMap]
  constructor
  · rintro ⟨k, hk, hx⟩
    rw [List.mem_range] at hk
    rw [mem_weaveU _ _ _ _ _ (by simp; omega)] at hx
    obtain ⟨bs, h1, h2, h3⟩ := hx
    rw [List.length_take, Nat.min_eq_left (by omega)] at h1
    rw [List.length_drop] at h2
    refine ⟨bs, by have := count_tf bs; omega, ?_⟩
    rw [rif, h1]
    simpa using h3
  · rintro ⟨bs, h1, h2⟩
    have hc := count_tf bs
    refine ⟨bs.count false, by rw [List.mem_range]; omega, ?_⟩
    rw [mem_weaveU _ _ _ _ _ (by simp; omega)]
    exact ⟨bs, by rw [List.length_take]; omega, by rw [List.length_drop]; omega, by simpa [rif] using h2⟩
/-- The bits of a number, from the lowest on. -/
def bitsOf : Nat → Nat → List Bool
  | 0, _ => []
  | n + 1, w => decide (w % 2 = 1) :: bitsOf n (w / 2)
theorem bitsOf_length : ∀ n w, (bitsOf n w).length = n := by
  intro n
  induction n with
  | zero => intro w; rfl
  | succ n ih => intro w; simp [bitsOf, ih]
theorem bitsOf_all : ∀ bs : List Bool, ∃ w, w < 2 ^ bs.length ∧ bitsOf bs.length w = bs := by
  intro bs
  induction bs with
  | nil => exact ⟨0, by simp, rfl⟩
  | cons c bs ih =>
    obtain ⟨w, hw, e⟩ := ih
    refine ⟨2 * w + (if c = true then 1 else 0), ?_, ?_⟩
    · rw [List.length_cons, Nat.pow_succ]; split <;> omega
    · rw [List.length_cons, bitsOf]
      cases c with
      | true => rw [if_pos rfl, show (2 * w + 1) / 2 = w by omega, e]; simp
      | false => rw [if_neg (by simp), show (2 * w + 0) / 2 = w by omega, e]; simp
theorem mem_masks (p x : List Int) : x ∈ (List.range (2 ^ p.length)).map (fun w => rif p (bitsOf p.length w)) ↔ ∃ bs : List Bool, bs.length = p.length ∧ x = rif p bs := by
  rw [List.mem_map]
  constructor
  · rintro ⟨w, hw, rfl⟩; exact ⟨_, bitsOf_length _ _, rfl⟩
  · rintro ⟨bs, h1, h2⟩
    obtain ⟨w, hw, e⟩ := bitsOf_all bs
    rw [h1] at hw e
    exact ⟨w, List.mem_range.2 hw, by rw [e, h2]⟩
/-- Both ways to name the riffles give the same lists. -/
theorem weaves_masks (p x : List Int) : x ∈ (List.range (2 ^ p.length)).map (fun w => rif p (bitsOf p.length w)) ↔ x ∈ (List.range (p.length + 1)).flatMap (fun k => weaveU p.length [] (p.take k) (p.drop k)) := by
  rw [mem_masks, mem_weaves]

theorem length_le_sub {α : Type} [DecidableEq α] : ∀ (a b : List α), a.Nodup → (∀ x ∈ a, x ∈ b) → a.length ≤ b.length := by
  intro a
  induction a with
  | nil => intro b _ _; exact Nat.zero_le _
  | cons x a ih =>
    intro b hn hs
    rw [List.nodup_cons] at hn
    have hx : x ∈ b := hs x (by simp)
    have h := ih (b.erase x) hn.2 (fun y hy => (List.mem_erase_of_ne (fun e => hn.1 (by rw [← e]; exact hy))).2 (hs y (by simp [hy])))
    rw [List.length_erase_of_mem hx] at h
    have := List.length_pos_of_mem hx
    rw [List.length_cons]
    omega
theorem sortU_nodup (l : List (List Int)) : (sortU l).Nodup := by
  refine (strict_sortU l).imp ?_
  intro a b h e
  rw [e, lexLt_irrefl] at h
  cases h
theorem nodup_map_inj {α β : Type} (g : α → β) : ∀ (l : List α), l.Nodup → (∀ x ∈ l, ∀ y ∈ l, g x = g y → x = y) → (l.map g).Nodup := by
  intro l
  induction l with
  | nil => intro _ _; simp
  | cons x l ih =>
    intro hn hg
    rw [List.nodup_cons] at hn
    rw [List.map_cons, List.nodup_cons]
    refine ⟨fun h => ?_, ih hn.2 (fun y hy z hz => hg y (by simp [hy]) z (by simp [hz]))⟩
    obtain ⟨y, hy, e⟩ := List.mem_map.1 h
    rw [hg y (by simp [hy]) x (by simp) e] at hy
    exact hn.1 hy
/-- As many different lists are told by other names, where the names differ. -/
theorem length_sortU_map (g : List Int → List Int) (l : List (List Int)) (hg : ∀ x ∈ l, ∀ y ∈ l, g x = g y → x = y) : (sortU (l.map g)).length = (sortU l).length := by
  have h1 : ((sortU l).map g).Nodup := nodup_map_inj g _ (sortU_nodup l) (fun x hx y hy => hg x ((mem_sortU x l).1 hx) y ((mem_sortU y l).1 hy))
  have e : ∀ x, x ∈ (sortU l).map g ↔ x ∈ sortU (l.map g) := fun x => by
    rw [mem_sortU, List.mem_map, List.mem_map]
    constructor
    · rintro ⟨y, hy, e⟩; exact ⟨y, (mem_sortU y l).1 hy, e⟩
    · rintro ⟨y, hy, e⟩; exact ⟨y, (mem_sortU y l).2 hy, e⟩
  have a := length_le_sub _ _ h1 (fun x hx => (e x).1 hx)
  have b := length_le_sub _ _ (sortU_nodup (l.map g)) (fun x hx => (e x).2 hx)
  rw [List.length_map] at a b
  omega

theorem wv_map (g : Int → Int) : ∀ (bs : List Bool) (a b : List Int), bs.count false ≤ a.length → bs.count true ≤ b.length → wv bs (a.map g) (b.map g) = (wv bs a b).map g := by
  intro bs
  induction bs with
  | nil => intro a b _ _; rfl
  | cons c bs ih =>
    intro a b ha hb
    cases c with
    | true =>
      cases b with
      | nil => simp at hb
      | cons y b =>
        simp only [wv, List.map_cons, List.headD_cons, List.tail_cons]
        rw [ih a b (by simpa using ha) (by simpa using hb)]
    | false =>
      cases a with
      | nil => simp at ha
      | cons y a =>
        simp only [wv, List.map_cons, List.headD_cons, List.tail_cons]
        rw [ih a b (by simpa using ha) (by simpa using hb)]
theorem rif_map (g : Int → Int) (p : List Int) (bs : List Bool) (h : bs.length = p.length) : rif (p.map g) bs = (rif p bs).map g := by
  have hc := count_tf bs
  unfold rif
  rw [← List.map_take, ← List.map_drop, wv_map g bs _ _ (by rw [List.length_take]; omega) (by rw [List.length_drop]; omega)]
/-- The numbers from 0 on. -/
def iota (n : Nat) : List Int := (List.range n).map Int.ofNat
theorem iota_length (n : Nat) : (iota n).length = n := by simp [iota]
theorem mem_iota (n : Nat) (x : Int) : x ∈ iota n ↔ 0 ≤ x ∧ x < n := by
  unfold iota
  rw [List.mem_map]
  constructor
  · rintro ⟨i, hi, rfl⟩
    have := List.mem_range.1 hi
    constructor
    · exact Int.natCast_nonneg i
    · show (i : Int) < n
      omega
  · rintro ⟨h0, h1⟩
    exact ⟨x.toNat, List.mem_range.2 (by omega), by show (x.toNat : Int) = x; omega⟩
theorem iota_map (p : List Int) : (iota p.length).map (fun i => p.getD i.toNat 0) = p := by
  apply List.ext_getElem
  · simp [iota]
  · intro i h1 h2
    simp [iota, h2]
theorem getD_inj {p : List Int} (hn : p.Nodup) {i j : Nat} (hi : i < p.length) (hj : j < p.length) (e : p.getD i 0 = p.getD j 0) : i = j := by
  rw [List.getD_eq_getElem?_getD, List.getD_eq_getElem?_getD, List.getElem?_eq_getElem hi, List.getElem?_eq_getElem hj] at e
  have hp := List.pairwise_iff_getElem.1 hn
  have e' : p[i] = p[j] := e
  rcases Nat.lt_trichotomy i j with h | h | h
  · exact absurd e' (hp i j hi hj h)
  · exact h
  · exact absurd e'.symm (hp j i hj hi h)
theorem mapg_inj {p : List Int} (hn : p.Nodup) : ∀ (x y : List Int), (∀ i ∈ x, 0 ≤ i ∧ i < p.length) → (∀ i ∈ y, 0 ≤ i ∧ i < p.length) → x.map (fun i => p.getD i.toNat 0) = y.map (fun i => p.getD i.toNat 0) → x = y := by
  intro x
  induction x with
  | nil => intro y _ _ e; cases y with
    | nil => rfl
    | cons b y => simp at e
  | cons a x ih =>
    intro y hx hy e
    cases y with
    | nil => simp at e
    | cons b y =>
      rw [List.map_cons, List.map_cons] at e
      injection e with e1 e2
      have h1 := hx a (by simp)
      have h2 := hy b (by simp)
      have := getD_inj hn (by omega) (by omega) e1
      rw [ih y (fun i hi => hx i (by simp [hi])) (fun i hi => hy i (by simp [hi])) e2, show a = b by omega]
theorem wv_mem : ∀ (bs : List Bool) (a b : List Int), bs.count false ≤ a.length → bs.count true ≤ b.length → ∀ x ∈ wv bs a b, x ∈ a ∨ x ∈ b := by
  intro bs
  induction bs with
  | nil => intro a b _ _ x hx; simp [wv] at hx
  | cons c bs ih =>
    intro a b ha hb x hx
    cases c with
    | true =>
      cases b with
      | nil => simp at hb
      | cons y b =>
        simp only [wv, List.headD_cons, List.tail_cons, List.mem_cons] at hx
        rcases hx with rfl | hx
        · exact .inr (by simp)
        · rcases ih a b (by simpa using ha) (by simpa using hb) x hx with h | h
          · exact .inl h
          · exact .inr (by simp [h])
    | false =>
      cases a with
      | nil => simp at ha
      | cons y a =>
        simp only [wv, List.headD_cons, List.tail_cons, List.mem_cons] at hx
        rcases hx with rfl | hx
        · exact .inl (by simp)
        · rcases ih a b (by simpa using ha) (by simpa using hb) x hx with h | h
          · exact .inl (by simp [h])
          · exact .inr h
theorem rif_mem {p : List Int} {bs : List Bool} (h : bs.length = p.length) : ∀ x ∈ rif p bs, x ∈ p := by
  intro x hx
  have hc := count_tf bs
  rcases wv_mem bs _ _ (by rw [List.length_take]; omega) (by rw [List.length_drop]; omega) x hx with h | h
  · exact List.mem_of_mem_take h
  · exact List.mem_of_mem_drop h
/-- All riffles of a list, by masks. -/
def rifs (p : List Int) : List (List Int) := (List.range (2 ^ p.length)).map (fun w => rif p (bitsOf p.length w))
theorem rifs_map (p : List Int) : rifs p = (rifs (iota p.length)).map (fun x => x.map (fun i => p.getD i.toNat 0)) := by
  unfold rifs
  rw [List.map_map, iota_length]
  apply List.map_congr_left
  intro w _
  show rif p _ = List.map _ (rif (iota p.length) _)
  rw [← rif_map _ _ _ (by rw [bitsOf_length, iota_length]), iota_map]
theorem rifs_count {p : List Int} (hn : p.Nodup) : (sortU (rifs p)).length = (sortU (rifs (iota p.length))).length := by
  rw [rifs_map]
  refine length_sortU_map _ _ (fun x hx y hy e => ?_)
  have hm : ∀ x ∈ rifs (iota p.length), ∀ i ∈ x, 0 ≤ i ∧ i < p.length := by
    intro x hx i hi
    unfold rifs at hx
    obtain ⟨w, _, rfl⟩ := List.mem_map.1 hx
    have := rif_mem (by rw [bitsOf_length]) i hi
    exact (mem_iota _ _).1 this
  exact mapg_inj hn x y (hm x hx) (hm y hy) e
theorem rifs_counts : ∀ n, n < 8 → (sortU (rifs (iota n))).length = 2 ^ n - n := by decide +kernel
/-- The way that a riffle of the numbers from 0 on, other than these, tells. -/
def firstOff : Int → List Int → Option Int
  | _, [] => none
  | i, x :: l => if x = i then firstOff (i + 1) l else some x
def wayOf : Int → List Int → Nat
  | _, [] => 0
  | k, x :: l => (if k ≤ x then 1 else 0) + 2 * wayOf k l
def way (l : List Int) : Option Nat := (firstOff 0 l).map (fun k => wayOf k l)
theorem ways12_many : 3000 < ((List.range 4096).filter (fun w => decide (way (rif (iota 12) (bitsOf 12 w)) = some w))).length := by decide +kernel
theorem rifs12 : 3000 < (sortU (rifs (iota 12))).length := by
  refine Nat.lt_of_lt_of_le ways12_many ?_
  let W := (List.range 4096).filter (fun w => decide (way (rif (iota 12) (bitsOf 12 w)) = some w))
  have h1 : (W.map (fun w => rif (iota 12) (bitsOf 12 w))).Nodup := by
    refine nodup_map_inj _ _ (List.nodup_range.filter _) (fun x hx y hy e => ?_)
    have hx' := (List.mem_filter.1 hx).2
    have hy' := (List.mem_filter.1 hy).2
    simp only [decide_eq_true_eq] at hx' hy'
    have e' : rif (iota 12) (bitsOf 12 x) = rif (iota 12) (bitsOf 12 y) := e
    rw [e', hy'] at hx'
    injection hx' with h
    exact h.symm
  have h2 := length_le_sub _ (sortU (rifs (iota 12))) h1 (fun x hx => by
    rw [mem_sortU]
    obtain ⟨w, hw, e⟩ := List.mem_map.1 hx
    refine List.mem_map.2 ⟨w, ?_, by rw [← e, iota_length]⟩
    have := (List.mem_filter.1 hw).1
    rw [iota_length]
    exact this)
  rw [List.length_map] at h2
  exact h2

def cutsU (p : List Int) : List (List Int) := (List.range' 0 p.length).map (fun k => doMove p 1 (k : Nat))
def pickU (p : List Int) (i : Nat) : List Int := [rd p i] ++ p.take i ++ p.drop (i + 1)
def choiceU (p : List Int) (kind : Int) : List (List Int) :=
  if kind = 1 then cutsU p else if kind = 2 then rifs p else if kind = 3 then cutsU (doMove p 3 2) else if kind = 4 then (List.range' 0 p.length).map (pickU p) else [p]
def choiceOk (p : List Int) (kind : Int) : Prop := packetOk p = true ∧ ¬ p.length = 0 ∧ 0 ≤ kind ∧ kind ≤ 4 ∧ (kind = 3 → 2 ≤ p.length) ∧ (kind = 2 → p.length ≤ 11)
instance (p : List Int) (kind : Int) : Decidable (choiceOk p kind) := by unfold choiceOk; exact inferInstance
/-- What a packet and a choice result in. -/
def resultsOf (p : List Int) (kind : Int) : List (List Int) × Bool := if choiceOk p kind then (sortU (choiceU p kind), true) else ([], false)
theorem cutsU_length (p : List Int) : (cutsU p).length = p.length := by simp [cutsU]
theorem doMove1_length (p : List Int) (k : Nat) (h : k ≤ p.length) : (doMove p 1 k).length = p.length := by
  unfold doMove
  rw [if_pos rfl]
  simp
  omega
theorem doMove3_length (p : List Int) (h : 2 ≤ p.length) : (doMove p 3 2).length = p.length := by
  unfold doMove
  rw [if_neg (by omega), if_neg (by omega), if_pos rfl]
  simp
  omega
theorem rif_length (p : List Int) (bs : List Bool) : (rif p bs).length = bs.length := wv_length _ _ _
theorem choiceU_len (p : List Int) (kind : Int) (h3 : kind = 3 → 2 ≤ p.length) : ∀ x ∈ choiceU p kind, x.length = p.length := by
  have hc : ∀ q : List Int, ∀ x ∈ cutsU q, x.length = q.length := by
    intro q x hx
    obtain ⟨k, hk, rfl⟩ := List.mem_map.1 hx
    rw [List.mem_range'_1] at hk
    exact doMove1_length q k (by omega)
  intro x hx
  unfold choiceU at hx
  split at hx
  · exact hc p x hx
  split at hx
  · obtain ⟨w, _, rfl⟩ := List.mem_map.1 hx
    rw [rif_length, bitsOf_length]
  split at hx
  · rename_i h
    rw [hc _ x hx, doMove3_length p (h3 h)]
  split at hx
  · obtain ⟨k, hk, rfl⟩ := List.mem_map.1 hx
    rw [List.mem_range'_1] at hk
    simp [pickU]
    omega
  · rw [List.mem_singleton.1 hx]
theorem choiceU_count (p : List Int) (kind : Int) (h3 : kind = 3 → 2 ≤ p.length) (h1 : 1 ≤ p.length) : (choiceU p kind).length ≤ 2 ^ p.length := by
  have hb : p.length ≤ 2 ^ p.length := Nat.le_of_lt Nat.lt_two_pow_self
  unfold choiceU
  split
  · rw [cutsU_length]; exact hb
  split
  · simp [rifs]
  split
  · rename_i h
    rw [cutsU_length, doMove3_length p (h3 h)]; exact hb
  split
  · simpa using hb
  · simpa using Nat.one_le_two_pow
theorem packet_nodup {p : List Int} (h : packetOk p = true) : p.Nodup := by
  have h2 := ((packetOk_iff p).1 h).2
  have h3 : ∀ l : List Int, (l.map cardOf).Nodup → l.Nodup := by
    intro l
    induction l with
    | nil => intro _; simp
    | cons x l ih =>
      intro hn
      rw [List.map_cons, List.nodup_cons] at hn
      rw [List.nodup_cons]
      exact ⟨fun hx => hn.1 (List.mem_map.2 ⟨x, hx, rfl⟩), ih hn.2⟩
  exact h3 p h2
theorem packet_wf {p : List Int} (h : packetOk p = true) : ∀ x ∈ p, (Lit.int .i64 x).wf = true := by
  intro x hx
  have := cardOf_bound (((packetOk_iff p).1 h).1 x hx)
  exact wf_small (by omega) (by omega)
theorem turn_wf {x : Int} (h : -12 ≤ x ∧ x ≤ 11) : (Lit.int .i64 (turnCard x)).wf = true := by
  have : -13 ≤ turnCard x ∧ turnCard x ≤ 12 := by
    unfold turnCard
    split <;> omega
  exact wf_small (by omega) (by omega)
theorem flip_wf {p : List Int} (h : packetOk p = true) : ∀ x ∈ doMove p 3 2, (Lit.int .i64 x).wf = true := by
  intro x hx
  unfold doMove at hx
  rw [if_neg (by omega), if_neg (by omega), if_pos rfl] at hx
  rcases List.mem_append.1 hx with hx | hx
  · rw [List.mem_reverse] at hx
    obtain ⟨y, hy, rfl⟩ := List.mem_map.1 hx
    exact turn_wf (cardOf_bound (((packetOk_iff p).1 h).1 y (List.mem_of_mem_take hy)))
  · exact packet_wf h x (List.mem_of_mem_drop hx)
theorem pow_le_2048 {n : Nat} (h : n ≤ 11) : 2 ^ n ≤ 2048 := Nat.pow_le_pow_right (by omega) h
theorem wv_prefix : ∀ (bs : List Bool) (a z b : List Int), bs.count false ≤ a.length → wv bs (a ++ z) b = wv bs a b := by
  intro bs
  induction bs with
  | nil => intro a z b _; rfl
  | cons c bs ih =>
    intro a z b h
    cases c with
    | true => simp only [wv]; rw [ih a z _ (by simpa using h)]
    | false =>
      cases a with
      | nil => simp at h
      | cons x a =>
        simp only [wv, List.cons_append, List.headD_cons, List.tail_cons]
        rw [ih a z b (by simpa using h)]
theorem rif_whole (p : List Int) (bs : List Bool) (h : bs.length = p.length) : wv bs p (p.drop (bs.count false)) = rif p bs := by
  have hc := count_tf bs
  have e := wv_prefix bs (p.take (bs.count false)) (p.drop (bs.count false)) (p.drop (bs.count false)) (by rw [List.length_take]; omega)
  rw [List.take_append_drop] at e
  exact e
theorem resultsOf_small (p : List Int) (kind : Int) : (resultsOf p kind).1.length ≤ 4096 ∧ ∀ x ∈ (resultsOf p kind).1, x.length ≤ 12 := by
  unfold resultsOf
  by_cases h : choiceOk p kind
  · rw [if_pos h]
    obtain ⟨hpk, hz, h0, h4, h3, h2⟩ := h
    have hp := packetOk_length hpk
    constructor
    · have := length_sortU (choiceU p kind)
      have := choiceU_count p kind h3 (by omega)
      have : 2 ^ p.length ≤ 4096 := Nat.pow_le_pow_right (n := 2) (by omega) hp
      show (sortU (choiceU p kind)).length ≤ 4096
      omega
    · intro x hx
      rw [choiceU_len p kind h3 x ((mem_sortU x _).1 hx)]
      exact hp
  · rw [if_neg h]
    exact ⟨by simp, fun x hx => by simp at hx⟩

theorem spec_CardOf_eq (x : Int) : spec_CardOf.f x = some (cardOf x) := by
  unfold spec_CardOf.f cardOf
  simp only [spec_l01In_eq, Option.bind_some, decide_eq_true_eq]
  by_cases h0 : 0 ≤ x
  · by_cases h1 : x ≤ 11
    · rw [if_pos ⟨h0, h1⟩, if_pos h0, if_pos h1]
    · rw [if_neg (by omega), if_neg (by omega), if_pos h0, if_neg h1]
  · by_cases h1 : -12 ≤ x
    · rw [if_neg (by omega), if_pos (by omega), if_neg h0, if_pos h1, w64 (by omega) (by omega)]
    · rw [if_neg (by omega), if_neg (by omega), if_neg h0, if_neg h1]

theorem spec_TurnCard_eq (x : Int) : spec_TurnCard.f x = some (turnCard x) := by
  unfold spec_TurnCard.f turnCard
  rw [spec_CardOf_eq x]
  simp only [Option.bind_some]
  by_cases h : cardOf x < 0
  · rw [if_pos h, if_pos h]
  · rw [if_neg h, if_neg h, w64]
    all_goals (unfold cardOf at h; split at h <;> split at h <;> omega)

theorem spec_l04Back_loop (l : List Int) (a : Nat) (b : Bool) (hl : l.length ≤ 12) (ha : a ≤ l.length) : ∀ (j : Nat) (out : List Int), j ≤ a → out.length + j ≤ 100 →
    Ev (fun k => spec_l04Back.l0 k l (a : Int) b out ((j : Int) - 1)) (out ++ ((l.take j).map (fun x => if b = true then turnCard x else x)).reverse ++ l.drop a) := by
  intro j
  induction j with
  | zero =>
    intro out hj ho
    refine Ev.step (f := fun _ => some _) (fun k => ?_) (Ev.now _)
    simp only [spec_l04Back.l0]
    rw [if_neg (by omega), if_pos (by omega), if_pos (by omega)]
    (try simp only [Option.bind_some])
    rw [if_pos (by simp <;> omega)]
    simp
  | succ j ih =>
    intro out hj ho
    have hlt : j < l.length := by omega
    have e : (((j + 1 : Nat) : Int) - 1) = (j : Int) := by omega
    have et : l.take (j + 1) = l.take j ++ [l[j]] := List.take_succ_eq_append_getElem hlt
    have ew : wrap64 ((j : Int) - 1) = (j : Int) - 1 := w64 (by omega) (by omega)
    have hi := ih (out ++ [if b = true then turnCard l[j] else l[j]]) (by omega) (by simp <;> omega)
    rw [et, List.map_append, List.reverse_append]
    simp only [List.map_cons, List.map_nil, List.reverse_cons, List.reverse_nil, List.nil_append]
    rw [show out ++ ([if b = true then turnCard l[j] else l[j]] ++ (List.map (fun x => if b = true then turnCard x else x) (l.take j)).reverse) ++ l.drop a = (out ++ [if b = true then turnCard l[j] else l[j]]) ++ ((l.take j).map (fun x => if b = true then turnCard x else x)).reverse ++ l.drop a by simp]
    refine Ev.step (fun k => ?_) hi
    simp only [spec_l04Back.l0]
    rw [e, if_pos (by omega), rd_lt hlt, spec_TurnCard_eq, ew]
    by_cases hb : b = true
    · rw [if_pos hb, if_pos hb, if_pos (by omega), if_pos (by omega)]
      (try simp only [Option.bind_some])
      rw [if_pos (by omega)]
    · rw [if_neg hb, if_neg hb, if_pos (by omega), if_pos (by omega), if_pos (by omega)]
theorem spec_l04Back_ev (l : List Int) (a : Int) (b : Bool) (hl : l.length ≤ 12) (h0 : 0 ≤ a) (ha : a ≤ l.length) :
    Ev (fun k => spec_l04Back.f k l a b) (((l.take a.toNat).map (fun x => if b = true then turnCard x else x)).reverse ++ l.drop a.toNat) := by
  have h := spec_l04Back_loop l a.toNat b hl (by omega) a.toNat [] (by omega) (by simp <;> omega)
  rw [Int.toNat_of_nonneg h0, List.nil_append] at h
  unfold spec_l04Back.f
  rw [w64 (by omega) (by omega)]
  exact h
theorem spec_l04Do_cut (l : List Int) (a : Nat) (hl : l.length ≤ 12) (ha : a ≤ l.length) : spec_l04Do.f l 1 (a : Int) = some (doMove l 1 (a : Nat)) := by
  unfold spec_l04Do.f doMove
  rw [if_pos rfl, if_pos rfl]
  simp only [Option.bind_some, List.length_nil, List.nil_append, Int.toNat_natCast]
  rw [if_pos (by omega), if_pos (by omega), if_pos (by simp; omega)]
  rw [if_pos (by simp; omega)]

theorem spec_l05Less_loop (a b : List Int) (ha : a.length ≤ 9223372036854775806) : ∀ (r pre : List Int), a = pre ++ r →
    Ev (fun k => spec_l05Less.l0 k a b a (a.length : Int) (pre.length : Int)) (lexLt r (b.drop pre.length)) := by
  intro r
  induction r with
  | nil =>
    intro pre h
    have hz : a.length = pre.length := by rw [h]; simp
    refine Ev.step (f := fun _ => some _) (fun k => ?_) (Ev.now _)
    simp only [spec_l05Less.l0]
    rw [if_neg (by omega)]
    congr 1
    by_cases c : pre.length < b.length
    · rw [List.drop_eq_getElem_cons c]
      exact decide_eq_true (by omega)
    · rw [List.drop_eq_nil_of_le (by omega)]
      exact decide_eq_false (by omega)
  | cons x r ih =>
    intro pre h
    have hz : a.length = pre.length + (r.length + 1) := by rw [h]; simp
    have hx : rd a (pre.length : Int) = x := by rw [h]; simp [rd]
    by_cases c : pre.length < b.length
    · have hy : rd b (pre.length : Int) = b[pre.length] := by simp [rd, c]
      rw [List.drop_eq_getElem_cons c]
      by_cases c1 : x = b[pre.length]
      · have ih2 := ih (pre ++ [x]) (by rw [h]; simp)
        rw [show (pre ++ [x]).length = pre.length + 1 by simp] at ih2
        have e : lexLt (x :: r) (b[pre.length] :: b.drop (pre.length + 1)) = lexLt r (b.drop (pre.length + 1)) := by
          simp only [lexLt]
          simp [← c1]
        rw [e]
        refine Ev.step (fun k => ?_) ih2
        simp only [spec_l05Less.l0]
        rw [if_pos (by omega), if_pos (by omega), if_pos (by omega), if_neg (by omega), if_pos (by omega), hx, hy, if_pos c1, show wrap64 ((pre.length : Int) + 1) = ((pre.length + 1 : Nat) : Int) by rw [w64 (by omega) (by omega)]; omega]
      · refine Ev.step (f := fun _ => some _) (fun k => ?_) (Ev.now _)
        simp only [spec_l05Less.l0]
        rw [if_pos (by omega), if_pos (by omega), if_pos (by omega), if_neg (by omega), if_pos (by omega), hx, hy, if_neg c1]
        congr 1
        simp only [lexLt]
        simp [c1]
    · rw [List.drop_eq_nil_of_le (by omega)]
      refine Ev.step (f := fun _ => some _) (fun k => ?_) (Ev.now _)
      simp only [spec_l05Less.l0]
      rw [if_pos (by omega), if_pos (by omega), if_pos (by omega), if_pos (by omega)]
      rfl
theorem spec_l05Less_ev (a b : List Int) (ha : a.length ≤ 9223372036854775806) : Ev (fun k => spec_l05Less.f k a b) (lexLt a b) := spec_l05Less_loop a b ha a [] rfl

theorem spec_SamePacket_loop (a b : List Int) (hab : a.length = b.length) (hl : a.length ≤ 9223372036854775806) : ∀ (r s pre qre : List Int), a = pre ++ r → b = qre ++ s → pre.length = qre.length →
    Ev (fun k => spec_SamePacket.l0 k b a (a.length : Int) (pre.length : Int)) (decide (r = s)) := by
  intro r
  induction r with
  | nil =>
    intro s pre qre h h' hp
    have e := lens h
    have e' := lens h'
    simp only [List.length_nil] at e
    have hs : s = [] := List.eq_nil_of_length_eq_zero (by omega)
    refine Ev.step (f := fun _ => some _) (fun k => ?_) (Ev.now _)
    simp only [spec_SamePacket.l0]
    rw [if_neg (by omega), hs]
    simp
  | cons x r ih =>
    intro s pre qre h h' hp
    have e := lens h
    have e' := lens h'
    simp only [List.length_cons] at e
    cases s with
    | nil => simp only [List.length_nil] at e'; omega
    | cons y s =>
      have hy := rd_mid' h'
      rw [← hp] at hy
      by_cases c : x = y
      · subst c
        have hi := ih s (pre ++ [x]) (qre ++ [x]) (snoc_eq h) (snoc_eq h') (by simp [hp])
        have ed : decide (x :: r = x :: s) = decide (r = s) := by simp
        rw [ed]
        refine Ev.step (fun k => ?_) hi
        simp only [spec_SamePacket.l0]
        rw [if_pos (by omega), if_pos (by omega), if_pos (by omega), if_pos (by omega), rd_mid' h, hy, if_pos rfl, snoc_len x (by omega)]
      · refine Ev.step (f := fun _ => some _) (fun k => ?_) (Ev.now _)
        simp only [spec_SamePacket.l0]
        rw [if_pos (by omega), if_pos (by omega), if_pos (by omega), if_pos (by omega), rd_mid' h, hy, if_neg c]
        simp [c]
theorem spec_SamePacket_ev (a b : List Int) (hl : a.length ≤ 9223372036854775806) : Ev (fun k => spec_SamePacket.f k a b) (decide (a = b)) := by
  unfold spec_SamePacket.f
  by_cases h : (a.length : Int) = (b.length : Int)
  · simp only [if_pos h]
    exact spec_SamePacket_loop a b (by omega) hl a b [] [] rfl rfl rfl
  · simp only [if_neg h]
    exact ev_some fun _ => by rw [decide_eq_false (fun e => h (by rw [e]))]

theorem put_ev {out : List (List Int)} {x : List Int} (g : Nat → List (List Int) → Option (List (List Int))) {r : List (List Int)} (hx : x.length ≤ 4194304) (hout : ∀ y ∈ out, y.length ≤ 4194304) (ho : out.length ≤ 8388608) (h : Ev (fun k => g k (putU out x)) r) :
    Ev (fun k => if (out.length : Int) = 0 then ((some (([] : List Int) : List Int)).bind fun y123 => (if y123.length + x.length < 17592186044416 then (if out.length < 5864062014805 then (g k (out ++ [(y123 ++ x)])) else (none)) else (none))) else (if 0 ≤ (wrap64 ((out.length : Int) - 1)) then (if (wrap64 ((out.length : Int) - 1)) < (out.length : Int) then ((spec_SamePacket.f k (rd_L2 out (wrap64 ((out.length : Int) - 1))) x).bind fun t133 => (if t133 = true then (g k out) else ((some (([] : List Int) : List Int)).bind fun y134 => (if y134.length + x.length < 17592186044416 then (if out.length < 5864062014805 then (g k (out ++ [(y134 ++ x)])) else (none)) else (none))))) else (none)) else (none))) r := by
  by_cases c : out = []
  · subst c
    have e : putU [] x = [] ++ [x] := by unfold putU; rw [if_pos (Or.inl rfl)]
    rw [e] at h
    simp only [List.length_nil, Option.bind_some, List.nil_append] at h ⊢
    simp only [if_pos (show ((0 : Nat) : Int) = 0 from rfl), if_pos (show 0 + x.length < 17592186044416 by omega), if_pos (show 0 < 5864062014805 by decide)]
    exact h
  · have hlen : 0 < out.length := List.length_pos_iff.mpr c
    have ew : wrap64 ((out.length : Int) - 1) = ((out.length - 1 : Nat) : Int) := by rw [w64 (by omega) (by omega)]; omega
    have hl : rd_L2 out ((out.length - 1 : Nat) : Int) = out.getLastD [] := by
      simp only [rd_L2, Int.toNat_natCast]
      rw [List.getD_eq_getElem?_getD, List.getLastD_eq_getLast?, List.getLast?_eq_getElem?]
    have hm : (out.getLastD []).length ≤ 4194304 := by
      rw [List.getLastD_eq_getLast?, List.getLast?_eq_some_getLast c]
      exact hout _ (List.getLast_mem c)
    simp only [if_neg (show ¬ (out.length : Int) = 0 by omega), ew, if_pos (show 0 ≤ ((out.length - 1 : Nat) : Int) by omega), if_pos (show ((out.length - 1 : Nat) : Int) < (out.length : Int) by omega), hl, Option.bind_some, List.nil_append, List.length_nil, if_pos (show 0 + x.length < 17592186044416 by omega), if_pos (show out.length < 5864062014805 by omega)]
    refine Ev.bind (spec_SamePacket_ev _ x (by omega)) ?_
    by_cases q : out.getLastD [] = x
    · have e : putU out x = out := by unfold putU; rw [if_neg (fun h => h.elim c (fun h2 => h2 q))]
      rw [e] at h
      simp only [decide_eq_true q, if_pos]
      exact h
    · have e : putU out x = out ++ [x] := by unfold putU; rw [if_pos (Or.inr q)]
      rw [e] at h
      simp only [decide_eq_false q, if_neg (show ¬ (false = true) by decide)]
      exact h
theorem j2_left {x : List Int} {a b out r : List (List Int)} (hx : x.length ≤ 4194304) (hout : ∀ y ∈ out, y.length ≤ 4194304) (ho : out.length ≤ 8388608) (h : Ev (fun k => spec_l05Merge.l0 k a b (putU out x)) r) : Ev (fun k => spec_l05Merge.j2 k (x :: a) b out true) r := by
  refine Ev.step (fun k => ?_) (put_ev (fun k o => spec_l05Merge.l0 k a b o) hx hout ho h)
  simp only [spec_l05Merge.j2]
  rw [if_pos trivial, if_pos (by simp <;> omega), if_pos (by simp <;> omega)]
  rfl
theorem j2_right {x : List Int} {a b out r : List (List Int)} (hx : x.length ≤ 4194304) (hout : ∀ y ∈ out, y.length ≤ 4194304) (ho : out.length ≤ 8388608) (h : Ev (fun k => spec_l05Merge.l0 k a b (putU out x)) r) : Ev (fun k => spec_l05Merge.j2 k a (x :: b) out false) r := by
  refine Ev.step (fun k => ?_) (put_ev (fun k o => spec_l05Merge.l0 k a b o) hx hout ho h)
  simp only [spec_l05Merge.j2]
  rw [if_neg (by decide), if_pos (by simp <;> omega), if_pos (by simp <;> omega)]
  rfl
theorem put_len (out : List (List Int)) (x : List Int) : (putU out x).length ≤ out.length + 1 := by
  unfold putU
  split
  · simp
  · omega
theorem put_mem (out : List (List Int)) (x y : List Int) (h : y ∈ putU out x) : y ∈ out ∨ y = x := by
  unfold putU at h
  split at h
  · simpa using h
  · exact Or.inl h
theorem merge_ev : ∀ (d : Nat) (a b out : List (List Int)), a.length + b.length ≤ d → out.length + d ≤ 8388608 → (∀ y ∈ a, y.length ≤ 4194304) → (∀ y ∈ b, y.length ≤ 4194304) → (∀ y ∈ out, y.length ≤ 4194304) →
    Ev (fun k => spec_l05Merge.l0 k a b out) (mergeU d out a b) := by
  intro d
  induction d with
  | zero =>
    intro a b out h _ _ _ _
    have ea : a = [] := List.length_eq_zero_iff.mp (by omega)
    have eb : b = [] := List.length_eq_zero_iff.mp (by omega)
    subst ea eb
    have hj : Ev (fun k => spec_l05Merge.j1 k [] [] out false) out := Ev.step (f := fun _ => some _) (fun k => by simp only [spec_l05Merge.j1]; rw [if_neg (by decide)]) (Ev.now _)
    exact Ev.step (fun k => by simp only [spec_l05Merge.l0]; rfl) hj
  | succ d ih =>
    intro a b out h ho hA hB hO
    have step : ∀ x y, y ∈ putU out x → x.length ≤ 4194304 → y.length ≤ 4194304 := fun x y hy hx => by
      rcases put_mem out x y hy with h1 | h1
      · exact hO y h1
      · rw [h1]; exact hx
    have hl := put_len out
    rw [mergeU]
    cases a with
    | nil =>
      cases b with
      | nil =>
        rw [if_pos ⟨rfl, rfl⟩]
        have hj : Ev (fun k => spec_l05Merge.j1 k [] [] out false) out := Ev.step (f := fun _ => some _) (fun k => by simp only [spec_l05Merge.j1]; rw [if_neg (by decide)]) (Ev.now _)
        exact Ev.step (fun k => by simp only [spec_l05Merge.l0]; rfl) hj
      | cons y b =>
        have hy : y.length ≤ 4194304 := hB y List.mem_cons_self
        rw [if_neg (by simp), if_neg (by simp)]
        have ih2 := ih [] b (putU out y) (by simp at h ⊢; omega) (by have := hl y; omega) (by simp) (fun z hz => hB z (List.mem_cons_of_mem _ hz)) (fun z hz => step y z hz hy)
        have hj : Ev (fun k => spec_l05Merge.j1 k [] (y :: b) out true) (mergeU d (putU out y) [] b) := by
          refine Ev.step (fun k => ?_) (j2_right hy hO (by omega) ih2)
          simp only [spec_l05Merge.j1]
          rw [if_pos trivial, if_neg (by simp <;> omega), if_neg (by simp)]
        refine Ev.step (fun k => ?_) hj
        simp only [spec_l05Merge.l0]
        rw [if_neg (by simp), decide_eq_true (by simp <;> omega)]
    | cons x a =>
      have hx : x.length ≤ 4194304 := hA x List.mem_cons_self
      cases b with
      | nil =>
        rw [if_neg (by simp), if_pos (Or.inl rfl)]
        have ih2 := ih a [] (putU out x) (by simp at h ⊢; omega) (by have := hl x; omega) (fun z hz => hA z (List.mem_cons_of_mem _ hz)) (by simp) (fun z hz => step x z hz hx)
        have hj : Ev (fun k => spec_l05Merge.j1 k (x :: a) [] out true) (mergeU d (putU out x) a []) := by
          refine Ev.step (fun k => ?_) (j2_left hx hO (by omega) ih2)
          simp only [spec_l05Merge.j1]
          rw [if_pos trivial, if_pos (by simp)]
        refine Ev.step (fun k => ?_) hj
        simp only [spec_l05Merge.l0]
        rw [if_pos (by simp <;> omega)]
      | cons y b =>
        have hy : y.length ≤ 4194304 := hB y List.mem_cons_self
        have hless := spec_l05Less_ev y x (by omega)
        have hfin : ∀ r, Ev (fun k => spec_l05Merge.j2 k (x :: a) (y :: b) out (!(lexLt y x))) r → Ev (fun k => spec_l05Merge.l0 k (x :: a) (y :: b) out) r := by
          intro r hr
          have hE : Ev (fun k => (spec_l05Less.f k y x).bind fun t116 => (spec_l05Merge.j2 k (x :: a) (y :: b) out (!t116))) r := Ev.bind hless hr
          have hj : Ev (fun k => spec_l05Merge.j1 k (x :: a) (y :: b) out true) r := by
            refine Ev.step (fun k => ?_) hE
            simp only [spec_l05Merge.j1]
            rw [if_pos trivial, if_neg (by simp <;> omega), if_pos (by simp <;> omega), if_pos (by simp <;> omega), if_pos (by simp <;> omega)]
            rfl
          refine Ev.step (fun k => ?_) hj
          simp only [spec_l05Merge.l0]
          rw [if_pos (by simp <;> omega)]
        apply hfin
        by_cases c : lexLt y x = true
        · rw [if_neg (by simp), if_neg (by simp [c])]
          have ih2 := ih (x :: a) b (putU out y) (by simp at h ⊢; omega) (by have := hl y; omega) hA (fun z hz => hB z (List.mem_cons_of_mem _ hz)) (fun z hz => step y z hz hy)
          simp only [c, Bool.not_true]
          exact j2_right hy hO (by omega) ih2
        · have cf : lexLt y x = false := by simpa using c
          rw [if_neg (by simp), if_pos (Or.inr ⟨by simp, by simp [cf]⟩)]
          have ih2 := ih a (y :: b) (putU out x) (by simp at h ⊢; omega) (by have := hl x; omega) (fun z hz => hA z (List.mem_cons_of_mem _ hz)) hB (fun z hz => step x z hz hx)
          simp only [cf, Bool.not_false]
          exact j2_left hx hO (by omega) ih2
theorem spec_SortPackets_ev : ∀ (n : Nat) (l : List (List Int)), l.length ≤ n → l.length ≤ 4194304 → (∀ y ∈ l, y.length ≤ 4194304) → Ev (fun k => spec_SortPackets.f k l) (sortU l) := by
  intro n
  induction n with
  | zero =>
    intro l hn hl hs
    have e : l = [] := List.length_eq_zero_iff.mp (by omega)
    subst e
    have hm := merge_ev 0 [] [] [] (by simp) (by simp) (by simp) (by simp) (by simp)
    have hE : Ev (fun k => (spec_l05Merge.f k [] []).bind fun t169 => some t169) (sortU []) := Ev.bind (show Ev (fun k => spec_l05Merge.f k [] []) (sortU []) from hm) (Ev.now _)
    refine Ev.step (fun k => ?_) hE
    simp only [spec_SortPackets.f]
    rw [if_pos (by simp)]
  | succ n ih =>
    intro l hn hl hs
    by_cases c : l.length < 2
    · have hm := merge_ev l.length l [] [] (by simp) (by simp; omega) hs (by simp) (by simp)
      have hq := mergeU_eq (d := l.length) (a := l) (b := []) (by simp) (strict_short c) (by simp [Strict])
      rw [hq, List.append_nil] at hm
      have hE : Ev (fun k => (spec_l05Merge.f k l []).bind fun t169 => some t169) (sortU l) := Ev.bind (show Ev (fun k => spec_l05Merge.f k l []) (sortU l) from hm) (Ev.now _)
      refine Ev.step (fun k => ?_) hE
      simp only [spec_SortPackets.f]
      rw [if_pos (by omega)]
    · have ew : wrap64 ((l.length : Int) / 2) = ((l.length / 2 : Nat) : Int) := by rw [w64 (by omega) (by omega)]; omega
      have hT : ∀ y ∈ l.take (l.length / 2), y.length ≤ 4194304 := fun y hy => hs y (List.mem_of_mem_take hy)
      have hD : ∀ y ∈ l.drop (l.length / 2), y.length ≤ 4194304 := fun y hy => hs y (List.mem_of_mem_drop hy)
      have i1 := ih (l.take (l.length / 2)) (by rw [List.length_take]; omega) (by rw [List.length_take]; omega) hT
      have i2 := ih (l.drop (l.length / 2)) (by rw [List.length_drop]; omega) (by rw [List.length_drop]; omega) hD
      have l1 := length_sortU (l.take (l.length / 2))
      have l2 := length_sortU (l.drop (l.length / 2))
      rw [List.length_take] at l1
      rw [List.length_drop] at l2
      have hm := merge_ev ((sortU (l.take (l.length / 2))).length + (sortU (l.drop (l.length / 2))).length) (sortU (l.take (l.length / 2))) (sortU (l.drop (l.length / 2))) [] (Nat.le_refl _) (by simp; omega) (fun y hy => hT y ((mem_sortU _ _).1 hy)) (fun y hy => hD y ((mem_sortU _ _).1 hy)) (by simp)
      rw [mergeU_eq (Nat.le_refl _) (strict_sortU _) (strict_sortU _)] at hm
      have hfin : sortU (sortU (l.take (l.length / 2)) ++ sortU (l.drop (l.length / 2))) = sortU l := sortU_congr (fun x => by
        rw [List.mem_append, mem_sortU, mem_sortU, ← List.mem_append, List.take_append_drop])
      rw [hfin] at hm
      have hE : Ev (fun k => (spec_SortPackets.f k (l.take (l.length / 2))).bind fun t176 => ((spec_SortPackets.f k (l.drop (l.length / 2))).bind fun t183 => ((spec_l05Merge.f k t176 t183).bind fun t186 => (some t186)))) (sortU l) := by
        refine Ev.bind i1 (Ev.bind i2 (Ev.bind ?_ (Ev.now _)))
        exact hm
      refine Ev.step (fun k => ?_) hE
      simp only [spec_SortPackets.f]
      rw [if_neg (by omega), ew, if_pos (by omega), if_pos (by omega), Int.toNat_natCast]

theorem weaveU_count : ∀ (d : Nat) (don a b : List Int), (weaveU d don a b).length ≤ 2 ^ d := by
  intro d
  induction d with
  | zero => intro don a b; simp [weaveU]
  | succ d ih =>
    intro don a b
    rw [weaveU, Nat.pow_succ]
    have hpos : 0 < 2 ^ d := Nat.two_pow_pos d
    split
    · simp; omega
    · rw [List.length_append]
      have h1 : (if a = [] then ([] : List (List Int)) else weaveU d (don ++ [a.headD 0]) a.tail b).length ≤ 2 ^ d := by
        split
        · simp
        · exact ih _ _ _
      have h2 : (if b = [] then ([] : List (List Int)) else weaveU d (don ++ [b.headD 0]) a b.tail).length ≤ 2 ^ d := by
        split
        · simp
        · exact ih _ _ _
      omega
theorem rd_zero (l : List Int) : rd l 0 = l.headD 0 := by
  cases l with
  | nil => rfl
  | cons x l => rfl
theorem spec_l05Weave_ev : ∀ (d : Nat) (out : List (List Int)) (don a b : List Int), a.length + b.length ≤ d → don.length + d ≤ 1000 → out.length + 2 ^ d ≤ 1000000 → Ev (fun k => spec_l05Weave.f k out don a b) (out ++ weaveU d don a b) := by
  intro d
  induction d with
  | zero =>
    intro out don a b h h1 h2
    refine Ev.step (f := fun _ => some _) (fun k => ?_) (Ev.now _)
    rw [spec_l05Weave.f, if_pos (by omega), if_pos (by omega)]
    rfl
  | succ d ih =>
    intro out don a b h h1 h2
    rw [Nat.pow_succ] at h2
    have hpos : 0 < 2 ^ d := Nat.two_pow_pos d
    by_cases c0 : a.length = 0 ∧ b.length = 0
    · refine Ev.step (f := fun _ => some _) (fun k => ?_) (Ev.now _)
      rw [spec_l05Weave.f, if_pos c0, if_pos (by omega), weaveU, if_pos ⟨List.length_eq_zero_iff.1 c0.1, List.length_eq_zero_iff.1 c0.2⟩]
    · have e : out ++ weaveU (d + 1) don a b = (out ++ (if a = [] then [] else weaveU d (don ++ [a.headD 0]) a.tail b)) ++ (if b = [] then [] else weaveU d (don ++ [b.headD 0]) a b.tail) := by
        rw [weaveU, if_neg (fun hh => c0 ⟨by rw [hh.1]; rfl, by rw [hh.2]; rfl⟩), List.append_assoc]
      rw [e]
      have hl : (out ++ (if a = [] then [] else weaveU d (don ++ [a.headD 0]) a.tail b)).length ≤ out.length + 2 ^ d := by
        rw [List.length_append]
        have : (if a = [] then ([] : List (List Int)) else weaveU d (don ++ [a.headD 0]) a.tail b).length ≤ 2 ^ d := by
          split
          · simp
          · exact weaveU_count _ _ _ _
        omega
      have e1 : Ev (fun k => if a.length = 0 then some out else spec_l05Weave.f k out (don ++ [rd a 0]) (a.drop 1) b) (out ++ (if a = [] then [] else weaveU d (don ++ [a.headD 0]) a.tail b)) := by
        by_cases ca : a = []
        · rw [if_pos ca]
          simp only [if_pos (show a.length = 0 by rw [ca]; rfl), List.append_nil]
          exact Ev.now _
        · rw [if_neg ca]
          have hne : ¬ a.length = 0 := fun hh => ca (List.length_eq_zero_iff.1 hh)
          simp only [if_neg hne, rd_zero, List.drop_one]
          exact ih out _ _ _ (by rw [List.length_tail]; omega) (by simp; omega) (by omega)
      have e2 : Ev (fun k => if b.length = 0 then some (out ++ (if a = [] then [] else weaveU d (don ++ [a.headD 0]) a.tail b)) else spec_l05Weave.f k (out ++ (if a = [] then [] else weaveU d (don ++ [a.headD 0]) a.tail b)) (don ++ [rd b 0]) a (b.drop 1)) ((out ++ (if a = [] then [] else weaveU d (don ++ [a.headD 0]) a.tail b)) ++ (if b = [] then [] else weaveU d (don ++ [b.headD 0]) a b.tail)) := by
        by_cases cb : b = []
        · have hb0 : b.length = 0 := by rw [cb]; rfl
          rw [if_pos cb]
          simp only [if_pos hb0, List.append_nil]
          exact Ev.now _
        · have hne : ¬ b.length = 0 := fun hh => cb (List.length_eq_zero_iff.1 hh)
          rw [if_neg cb]
          simp only [if_neg hne, rd_zero, List.drop_one]
          exact ih _ _ _ _ (by rw [List.length_tail]; omega) (by simp; omega) (by omega)
      refine Ev.step (f := fun k => (if a.length = 0 then some out else spec_l05Weave.f k out (don ++ [rd a 0]) (a.drop 1) b).bind fun o => if b.length = 0 then some o else spec_l05Weave.f k o (don ++ [rd b 0]) a (b.drop 1)) (fun k => ?_) (Ev.bind e1 e2)
      rw [spec_l05Weave.f, if_neg c0, if_pos (by omega)]
theorem spec_l05Of_riffles (p : List Int) (hp : p.length ≤ 11) : ∀ (d i : Nat) (out : List (List Int)), i + d = p.length + 1 → out.length + (d + 1) * 2048 ≤ 1000000 →
    Ev (fun k => spec_l05Of.l0 k p out (i : Int)) (out ++ (List.range' i d).flatMap (fun k => weaveU p.length [] (p.take k) (p.drop k))) := by
  intro d
  induction d with
  | zero =>
    intro i out hi ho
    refine Ev.step (f := fun _ => some _) (fun k => ?_) (Ev.now _)
    simp only [spec_l05Of.l0]
    rw [if_neg (by omega)]
    simp
  | succ d ih =>
    intro i out hi ho
    have hb := pow_le_2048 hp
    have hc := weaveU_count p.length [] (p.take i) (p.drop i)
    have hh := ih (i + 1) (out ++ weaveU p.length [] (p.take i) (p.drop i)) (by omega) (by rw [List.length_append]; omega)
    rw [List.range'_succ, List.flatMap_cons, ← List.append_assoc]
    refine Ev.step (f := fun k => (spec_l05Weave.f k out [] (p.take i) (p.drop i)).bind fun o => spec_l05Of.l0 k p o ((i + 1 : Nat) : Int)) (fun k => ?_) (Ev.bind (spec_l05Weave_ev p.length out [] (p.take i) (p.drop i) (by simp; omega) (by simp; omega) (by omega)) hh)
    simp only [spec_l05Of.l0]
    rw [if_pos (by omega), if_pos (by omega), w64 (by omega) (by omega), Int.toNat_natCast]
    rfl
theorem spec_l05Of_picks (p : List Int) (hp : p.length ≤ 12) : ∀ (d i : Nat) (out : List (List Int)), i + d = p.length → out.length + d ≤ 100000 →
    Ev (fun k => spec_l05Of.l1 k p out p (p.length : Int) (i : Int)) (out ++ (List.range' i d).map (pickU p)) := by
  intro d
  induction d with
  | zero =>
    intro i out hi ho
    refine Ev.step (f := fun _ => some _) (fun k => ?_) (Ev.now _)
    simp only [spec_l05Of.l1]
    rw [if_neg (by omega)]
    simp
  | succ d ih =>
    intro i out hi ho
    have hh := ih (i + 1) (out ++ [pickU p i]) (by omega) (by simp; omega)
    rw [List.range'_succ, List.map_cons, show out ++ pickU p i :: List.map (pickU p) (List.range' (i + 1) d) = out ++ [pickU p i] ++ List.map (pickU p) (List.range' (i + 1) d) by simp]
    have hc1 : (i : Int) + 1 = ((i + 1 : Nat) : Int) := by omega
    have l1 : ([] : List Int).length + (p.take i).length < 17592186044416 := by rw [List.length_nil, List.length_take]; omega
    have l2 : ([] ++ p.take i : List Int).length + (p.drop (i + 1)).length < 17592186044416 := by rw [List.nil_append, List.length_take, List.length_drop]; omega
    have l3 : [rd p (i : Int)].length + ([] ++ p.take i ++ p.drop (i + 1)).length < 17592186044416 := by rw [List.nil_append, List.length_append, List.length_take, List.length_drop, List.length_singleton]; omega
    have el : [rd p (i : Int)] ++ ([] ++ p.take i ++ p.drop (i + 1)) = pickU p i := by rw [pickU, List.nil_append, List.append_assoc]
    refine Ev.step (fun k => ?_) hh
    rw [spec_l05Of.l1, if_pos (by omega), if_pos (by omega), if_pos (by omega), Option.bind_some, Option.bind_some, if_pos (by omega), Option.bind_some, Int.toNat_natCast, if_pos l1, Option.bind_some, w64 (by omega) (by omega), hc1, if_pos (by omega), if_pos (by omega), Option.bind_some, Int.toNat_natCast, if_pos l2, Option.bind_some, if_pos l3, if_pos (by omega), el]
theorem spec_l05Cuts_loop (p : List Int) (hp : p.length ≤ 12) : ∀ (d i : Nat) (out : List (List Int)), i + d = p.length → out.length + d ≤ 100000 →
    Ev (fun k => spec_l05Cuts.l0 k p out (p.length : Int) (i : Int)) (out ++ (List.range' i d).map (fun k => doMove p 1 (k : Nat))) := by
  intro d
  induction d with
  | zero =>
    intro i out hi ho
    refine Ev.step (f := fun _ => some _) (fun k => ?_) (Ev.now _)
    simp only [spec_l05Cuts.l0]
    rw [if_neg (by omega)]
    simp
  | succ d ih =>
    intro i out hi ho
    have hh := ih (i + 1) (out ++ [doMove p 1 (i : Nat)]) (by omega) (by simp; omega)
    rw [List.range'_succ, List.map_cons, show out ++ doMove p 1 (i : Nat) :: List.map (fun k => doMove p 1 (k : Nat)) (List.range' (i + 1) d) = out ++ [doMove p 1 (i : Nat)] ++ List.map (fun k => doMove p 1 (k : Nat)) (List.range' (i + 1) d) by simp]
    refine Ev.step (fun k => ?_) hh
    simp only [spec_l05Cuts.l0]
    rw [if_pos (by omega), spec_l04Do_cut p i hp (by omega), Option.bind_some, w64 (by omega) (by omega)]
    simp only [if_pos (show out.length < 5864062014805 by omega)]
    rfl
theorem spec_l05Cuts_ev (p : List Int) (hp : p.length ≤ 12) : Ev (fun k => spec_l05Cuts.f k p) (cutsU p) := by
  unfold spec_l05Cuts.f
  exact spec_l05Cuts_loop p hp p.length 0 [] (by omega) (by simp; omega)
/-- The choice's results as the reference lists them. -/
def specAll (p : List Int) (kind : Int) : List (List Int) := if kind = 2 then (List.range' 0 (p.length + 1)).flatMap (fun k => weaveU p.length [] (p.take k) (p.drop k)) else choiceU p kind
theorem specAll_mem (p : List Int) (kind : Int) (x : List Int) : x ∈ specAll p kind ↔ x ∈ choiceU p kind := by
  unfold specAll
  by_cases h : kind = 2
  · rw [if_pos h]
    have e : choiceU p kind = rifs p := by simp [choiceU, h]
    rw [e, rifs, weaves_masks, List.range_eq_range']
  · rw [if_neg h]
theorem spec_l05Of_ev (p : List Int) (kind : Int) (h : choiceOk p kind) : Ev (fun k => spec_l05Of.f k p kind) (specAll p kind) := by
  obtain ⟨hpk, hz, h0, h4, h3, h2⟩ := h
  have hp := packetOk_length hpk
  unfold spec_l05Of.f
  simp only [Option.bind_some]
  by_cases k1 : kind = 1
  · refine ev_ite_true k1 (Ev.bind (spec_l05Cuts_ev p hp) ?_)
    simp only [specAll, choiceU, if_neg (show ¬ kind = 2 by omega), if_pos k1]
    exact Ev.now _
  refine ev_ite_false k1 ?_
  by_cases k2 : kind = 2
  · refine ev_ite_true k2 ?_
    simp only [specAll, if_pos k2]
    have hle := h2 k2
    exact spec_l05Of_riffles p (h2 k2) (p.length + 1) 0 [] (by omega) (by simp only [List.length_nil]; omega)
  refine ev_ite_false k2 ?_
  by_cases k3 : kind = 3
  · have h2' := h3 k3
    have e := spec_l04Back_ev p 2 true hp (by omega) (by omega)
    have ed : ((p.take (2 : Int).toNat).map (fun x => if true = true then turnCard x else x)).reverse ++ p.drop (2 : Int).toNat = doMove p 3 2 := by
      unfold doMove
      rw [if_neg (by omega), if_neg (by omega), if_pos rfl]
      simp
    rw [ed] at e
    refine ev_ite_true k3 (Ev.bind e (Ev.bind (spec_l05Cuts_ev _ (by rw [doMove3_length p h2']; exact hp)) ?_))
    simp only [specAll, choiceU, if_neg k1, if_neg k2, if_pos k3]
    exact Ev.now _
  refine ev_ite_false k3 ?_
  by_cases k4 : kind = 4
  · refine ev_ite_true k4 ?_
    simp only [specAll, choiceU, if_neg k1, if_neg k2, if_neg k3, if_pos k4]
    exact spec_l05Of_picks p hp p.length 0 [] (by omega) (by simp; omega)
  refine ev_ite_false k4 ?_
  simp only [specAll, choiceU, if_neg k1, if_neg k2, if_neg k3, if_neg k4]
  rw [if_pos (by simp)]
  exact Ev.now _
theorem spec_sorted_ev (p : List Int) (kind : Int) (h : choiceOk p kind) : Ev (fun k => spec_SortPackets.f k (specAll p kind)) (sortU (choiceU p kind)) := by
  obtain ⟨hpk, hz, h0, h4, h3, h2⟩ := id h
  have hp := packetOk_length hpk
  have hlen : ∀ x ∈ specAll p kind, x.length ≤ 4194304 := fun x hx => by rw [choiceU_len p kind h3 x ((specAll_mem p kind x).1 hx)]; omega
  have hcount : (specAll p kind).length ≤ 4194304 := by
    unfold specAll
    split
    · rename_i k2
      have hb := pow_le_2048 (h2 k2)
      have : ∀ (l : List Nat), (l.flatMap (fun k => weaveU p.length [] (p.take k) (p.drop k))).length ≤ l.length * 2048 := by
        intro l
        induction l with
        | nil => simp
        | cons x l ih =>
          rw [List.flatMap_cons, List.length_append, List.length_cons, Nat.succ_mul]
          have := weaveU_count p.length [] (p.take x) (p.drop x)
          omega
      have := this (List.range' 0 (p.length + 1))
      simp only [List.length_range'] at this
      have h11 := h2 k2
      have : (p.length + 1) * 2048 ≤ 12 * 2048 := Nat.mul_le_mul_right _ (by omega)
      omega
    · have := choiceU_count p kind h3 (by omega)
      have : 2 ^ p.length ≤ 4096 := Nat.pow_le_pow_right (n := 2) (by omega) hp
      omega
  have e := spec_SortPackets_ev _ (specAll p kind) (Nat.le_refl _) hcount hlen
  rw [sortU_congr (fun x => specAll_mem p kind x)] at e
  exact e

theorem impl_CardOf_eq (x : Int) (hx : -9223372036854775808 ≤ x) : impl_CardOf.f x = some (cardOf x) := by
  unfold impl_CardOf.f cardOf
  by_cases h0 : x < 0
  · rw [if_pos h0, w64 (by omega) (by omega), if_neg (show ¬ 0 ≤ x by omega)]
    by_cases h1 : -12 ≤ x
    · rw [if_neg (by omega), if_pos h1]
    · rw [if_pos (by omega), if_neg h1]
  · rw [if_neg h0, if_pos (show 0 ≤ x by omega)]
    by_cases h1 : x ≤ 11
    · rw [if_neg (by omega), if_pos h1]
    · rw [if_pos (by omega), if_neg h1]

theorem impl_PacketOk_loop (l : List Int) (hl : l.length ≤ 9223372036854775806) (hw : ∀ x ∈ l, (Lit.int .i64 x).wf = true) : ∀ (r pre seen : List Int) (m : List Bool), l = pre ++ r → m.length = 12 → (∀ c : Int, 0 ≤ c → c < 12 → (rdOf false m c = true ↔ c ∈ seen)) →
    Ev (fun k => impl_PacketOk.l0 k m l (pre.length : Int)) (pktFrom seen r) := by
  intro r
  induction r with
  | nil =>
    intro pre seen m h hm hs
    have e := lens h
    simp only [List.length_nil] at e
    refine Ev.step (f := fun _ => some _) (fun k => ?_) (Ev.now _)
    simp only [impl_PacketOk.l0]
    rw [if_neg (by omega)]
    simp [pktFrom]
  | cons x r ih =>
    intro pre seen m h hm hs
    have e := lens h
    simp only [List.length_cons] at e
    have hx := bd64 (hw x (by rw [h]; simp))
    have hc := cardOf_le x
    by_cases c0 : cardOf x < 0
    · have e : pktFrom seen (x :: r) = false := by simp only [pktFrom]; rw [decide_eq_false (by omega)]; rfl
      rw [e]
      refine Ev.step (f := fun _ => some _) (fun k => ?_) (Ev.now _)
      simp only [impl_PacketOk.l0]
      rw [if_pos (by omega), if_pos (by omega), rd_mid' h, impl_CardOf_eq x hx.1]
      simp only [Option.bind_some]
      rw [if_pos c0]
    have hsc := hs (cardOf x) (by omega) (by omega)
    by_cases c2 : cardOf x ∈ seen
    · have e : pktFrom seen (x :: r) = false := by simp only [pktFrom]; simp [c2]
      rw [e]
      refine Ev.step (f := fun _ => some _) (fun k => ?_) (Ev.now _)
      simp only [impl_PacketOk.l0]
      rw [if_pos (by omega), if_pos (by omega), rd_mid' h, impl_CardOf_eq x hx.1]
      simp only [Option.bind_some]
      rw [if_neg c0, if_pos (by omega), if_pos (hsc.2 c2)]
    · have e : pktFrom seen (x :: r) = pktFrom (seen ++ [cardOf x]) r := by simp only [pktFrom]; rw [decide_eq_true (by omega)]; simp [c2]
      rw [e]
      refine Ev.step (fun k => ?_) (ih (pre ++ [x]) (seen ++ [cardOf x]) (m.set (cardOf x).toNat true) (snoc_eq h) (by simp [hm]) ?_)
      · simp only [impl_PacketOk.l0]
        rw [if_pos (by omega), if_pos (by omega), rd_mid' h, impl_CardOf_eq x hx.1]
        simp only [Option.bind_some]
        rw [if_neg c0, if_pos (by omega), if_neg (fun q => c2 (hsc.1 q)), snoc_len x (by omega)]
      · intro c h0 h1
        rw [List.mem_append, List.mem_singleton, ← hs c h0 h1]
        simp only [rdOf, List.getD_eq_getElem?_getD, List.getElem?_set, hm]
        by_cases ec : c = cardOf x
        · subst ec
          rw [if_pos rfl, if_pos (by omega)]
          simp
        · rw [if_neg (by omega)]
          simp [ec]
theorem impl_PacketOk_ev (l : List Int) (hl : l.length ≤ 9223372036854775806) (hw : ∀ x ∈ l, (Lit.int .i64 x).wf = true) : Ev (fun k => impl_PacketOk.f k l) (packetOk l) := by
  unfold impl_PacketOk.f packetOk
  refine impl_PacketOk_loop l hl hw l [] [] _ rfl (by simp) ?_
  intro c h0 h1
  simp only [rdOf, List.getD_eq_getElem?_getD, List.getElem?_replicate]
  rw [if_pos (by omega)]
  simp

theorem impl_TurnCard_eq (x : Int) (hx : -9223372036854775808 ≤ x) : impl_TurnCard.f x = some (turnCard x) := by
  unfold impl_TurnCard.f turnCard
  rw [impl_CardOf_eq x hx]
  simp only [Option.bind_some]
  by_cases h : cardOf x < 0
  · rw [if_pos h, if_pos h]
  · rw [if_neg h, if_neg h, w64]
    all_goals (unfold cardOf at h; split at h <;> split at h <;> omega)

theorem slices_Reverse_int_int_loop : ∀ (d : Nat) (m p q : List Int), m.length ≤ d → p.length = q.length → p.length + m.length + q.length ≤ 100 →
    Ev (fun k => slices_Reverse_int_int.l0 k (p ++ m ++ q) (p.length : Int) ((p.length : Int) + m.length - 1)) (p ++ m.reverse ++ q) := by
  intro d
  induction d with
  | zero =>
    intro m p q h hp hl
    have hm : m = [] := List.length_eq_zero_iff.mp (by omega)
    subst hm
    refine Ev.step (f := fun _ => some _) (fun k => ?_) (Ev.now _)
    simp only [slices_Reverse_int_int.l0]
    rw [if_neg (by simp <;> omega)]
    rfl
  | succ d ih =>
    intro m p q h hp hl
    match m with
    | [] =>
      refine Ev.step (f := fun _ => some _) (fun k => ?_) (Ev.now _)
      simp only [slices_Reverse_int_int.l0]
      rw [if_neg (by simp <;> omega)]
      rfl
    | [x] =>
      refine Ev.step (f := fun _ => some _) (fun k => ?_) (Ev.now _)
      simp only [slices_Reverse_int_int.l0]
      rw [if_neg (by simp)]
      rfl
    | x :: y :: r =>
      obtain ⟨m', z, e⟩ : ∃ m' z, y :: r = m' ++ [z] := ⟨(y :: r).dropLast, (y :: r).getLast (by simp), (List.dropLast_concat_getLast (by simp)).symm⟩
      rw [e] at h hl ⊢
      simp only [List.length_cons, List.length_append, List.length_singleton] at h hl
      have hi := ih m' (p ++ [z]) (x :: q) (by omega) (by simp [hp]) (by simp <;> omega)
      have e1 : p ++ (x :: (m' ++ [z])).reverse ++ q = p ++ [z] ++ m'.reverse ++ (x :: q) := by simp
      rw [e1]
      refine Ev.step (fun k => ?_) hi
      have hj : ((p.length : Int) + ((x :: (m' ++ [z])).length : Int) - 1) = ((p.length + 1 + m'.length : Nat) : Int) := by simp <;> omega
      have ei : wrap64 ((p.length : Int) + 1) = ((p ++ [z]).length : Int) := snoc_len z (by omega)
      have ej : wrap64 (((p.length + 1 + m'.length : Nat) : Int) - 1) = ((p ++ [z]).length : Int) + (m'.length : Int) - 1 := by rw [w64 (by omega) (by omega), List.length_append, List.length_singleton]; omega
      have ex : rd (p ++ (x :: (m' ++ [z])) ++ q) (p.length : Int) = x := by simp [rd]
      have ez : rd (p ++ (x :: (m' ++ [z])) ++ q) ((p.length + 1 + m'.length : Nat) : Int) = z := by
        have : p ++ (x :: (m' ++ [z])) ++ q = (p ++ x :: m') ++ (z :: q) := by simp
        rw [this, show p.length + 1 + m'.length = (p ++ x :: m').length by simp <;> omega]
        exact rd_mid _ _ _
      have es : ((p ++ (x :: (m' ++ [z])) ++ q).set p.length z).set (p.length + 1 + m'.length) x = p ++ [z] ++ m' ++ (x :: q) := by
        have e2 : p ++ (x :: (m' ++ [z])) ++ q = p ++ x :: (m' ++ z :: q) := by simp
        rw [e2, set_mid, show (p ++ [z] ++ (m' ++ z :: q)) = (p ++ [z] ++ m') ++ z :: q by simp, show p.length + 1 + m'.length = (p ++ [z] ++ m').length by simp <;> omega, set_mid]
        simp
      simp only [slices_Reverse_int_int.l0]
      rw [hj, if_pos (by omega), if_pos (by omega), if_pos (by simp <;> omega), if_pos (by omega), if_pos (by simp <;> omega), ex, ez, ei, ej, Int.toNat_natCast, Int.toNat_natCast, es]
theorem slices_Reverse_int_int_ev (l : List Int) (hl : l.length ≤ 100) : Ev (fun k => slices_Reverse_int_int.f k l) l.reverse := by
  unfold slices_Reverse_int_int.f
  have h := slices_Reverse_int_int_loop l.length l [] [] (by omega) rfl (by simp <;> omega)
  simp only [List.nil_append, List.append_nil, List.length_nil] at h
  rw [w64 (by omega) (by omega)]
  have e : (((0 : Nat) : Int) + (l.length : Int) - 1) = (l.length : Int) - 1 := by omega
  rw [e] at h
  exact h
theorem impl_reversed_ev (l : List Int) (hl : l.length ≤ 100) : Ev (fun k => impl_reversed.f k l) l.reverse := by
  unfold impl_reversed.f
  have e : slices_Clone_int_int.f l = some l := by unfold slices_Clone_int_int.f; rw [if_pos (by omega)]
  simp only [e, Option.bind_some]
  exact Ev.bind (slices_Reverse_int_int_ev l hl) (Ev.now _)

theorem flen {ls pre r : List (List Int)} (h : ls = pre ++ r) : ls.flatten.length = pre.flatten.length + r.flatten.length := by rw [h]; simp
theorem slices_Concat_int_int_two (ls : List (List Int)) (hn : ls.length ≤ 100) (hl : ls.flatten.length ≤ 100) : ∀ (r pre : List (List Int)), ls = pre ++ r →
    Ev (fun k => slices_Concat_int_int.l1 k pre.flatten ls (ls.length : Int) (pre.length : Int)) ls.flatten := by
  intro r
  induction r with
  | nil =>
    intro pre h
    refine Ev.step (f := fun _ => some _) (fun k => ?_) (Ev.now _)
    simp only [slices_Concat_int_int.l1]
    rw [if_neg (by rw [h]; simp), h, List.append_nil]
  | cons x r ih =>
    intro pre h
    have e : ls.length = pre.length + (r.length + 1) := by rw [h]; simp
    have hf := flen h
    simp only [List.flatten_cons, List.length_append] at hf
    have hr : rd_L2 ls (pre.length : Int) = x := by rw [h]; simp [rd_L2]
    have hi := ih (pre ++ [x]) (by rw [h]; simp)
    rw [show (pre ++ [x]).flatten = pre.flatten ++ x by simp, show (pre ++ [x]).length = pre.length + 1 by simp] at hi
    refine Ev.step (fun k => ?_) hi
    simp only [slices_Concat_int_int.l1]
    rw [if_pos (by omega), if_pos (by omega), if_pos (by omega), hr, if_pos (by omega), w64 (by omega) (by omega)]
    rfl
theorem slices_Concat_int_int_one (ls : List (List Int)) (hn : ls.length ≤ 100) (hl : ls.flatten.length ≤ 100) : ∀ (r pre : List (List Int)), ls = pre ++ r →
    Ev (fun k => slices_Concat_int_int.l0 k ls (pre.flatten.length : Int) ls (ls.length : Int) (pre.length : Int)) ls.flatten := by
  intro r
  induction r with
  | nil =>
    intro pre h
    refine Ev.step (f := fun k => slices_Concat_int_int.l1 k [] ls (ls.length : Int) 0) (fun k => ?_) (slices_Concat_int_int_two ls hn hl ls [] rfl)
    have hf := flen h
    simp only [slices_Concat_int_int.l0]
    have e : slices_Grow_int_int.f ([] : List Int) (pre.flatten.length : Int) = some [] := by unfold slices_Grow_int_int.f; rw [if_pos ⟨rfl, by omega, by omega⟩]
    rw [if_neg (by rw [h]; simp), e]
    rfl
  | cons x r ih =>
    intro pre h
    have e : ls.length = pre.length + (r.length + 1) := by rw [h]; simp
    have hf := flen h
    simp only [List.flatten_cons, List.length_append] at hf
    have hr : rd_L2 ls (pre.length : Int) = x := by rw [h]; simp [rd_L2]
    have hi := ih (pre ++ [x]) (by rw [h]; simp)
    rw [show (pre ++ [x]).flatten.length = pre.flatten.length + x.length by simp, show (pre ++ [x]).length = pre.length + 1 by simp] at hi
    have ew : wrap64 ((pre.flatten.length : Int) + (x.length : Int)) = ((pre.flatten.length + x.length : Nat) : Int) := by rw [w64 (by omega) (by omega)]; rfl
    refine Ev.step (fun k => ?_) hi
    simp only [slices_Concat_int_int.l0]
    rw [if_pos (by omega), if_pos (by omega), if_pos (by omega), hr, ew, if_neg (by omega), w64 (by omega) (by omega)]
    rfl
theorem slices_Concat_int_int_ev (ls : List (List Int)) (hn : ls.length ≤ 100) (hl : ls.flatten.length ≤ 100) : Ev (fun k => slices_Concat_int_int.f k ls) ls.flatten := by
  unfold slices_Concat_int_int.f
  exact slices_Concat_int_int_one ls hn hl ls [] rfl

theorem impl_moved_loop (a : Nat) (v : List Int) (hv : v.length ≤ 12) : ∀ (r pre : List Int), (∀ x ∈ r, (Lit.int .i64 x).wf = true) → pre.length + r.length = a → a ≤ 12 →
    Ev (fun k => impl_moved.l0 k (a : Int) (pre ++ r ++ v) (pre.length : Int)) (pre ++ r.map turnCard ++ v) := by
  intro r
  induction r with
  | nil =>
    intro pre hw hp ha
    refine Ev.step (f := fun _ => some _) (fun k => ?_) (Ev.now _)
    simp only [impl_moved.l0]
    rw [if_neg (by simp at hp; omega)]
    rfl
  | cons x r ih =>
    intro pre hw hp ha
    simp only [List.length_cons] at hp
    have hi := ih (pre ++ [turnCard x]) (fun y hy => hw y (by simp [hy])) (by simp <;> omega) ha
    rw [show pre ++ List.map turnCard (x :: r) ++ v = pre ++ [turnCard x] ++ List.map turnCard r ++ v by simp]
    refine Ev.step (fun k => ?_) hi
    have e : pre ++ (x :: r) ++ v = pre ++ x :: (r ++ v) := by simp
    have er : rd (pre ++ (x :: r) ++ v) (pre.length : Int) = x := by rw [e]; exact rd_mid _ _ _
    have es : (pre ++ (x :: r) ++ v).set pre.length (turnCard x) = pre ++ [turnCard x] ++ r ++ v := by rw [e, set_mid]; simp
    simp only [impl_moved.l0]
    rw [if_pos (by omega), if_pos (by omega), if_pos (by simp <;> omega), er, impl_TurnCard_eq x (bd64 (hw x (by simp))).1]
    simp only [Option.bind_some]
    rw [Int.toNat_natCast, es, snoc_len (turnCard x) (by omega)]
theorem impl_moved_cut (l : List Int) (a : Nat) (hl : l.length ≤ 12) (ha : a ≤ l.length) : Ev (fun j => impl_moved.f j l 1 (a : Int)) (doMove l 1 (a : Nat)) := by
  have ed : doMove l 1 (a : Nat) = l.drop a ++ l.take a := by
    unfold doMove
    rw [if_pos rfl, Int.toNat_natCast]
  rw [ed]
  unfold impl_moved.f
  have hc := slices_Concat_int_int_ev [l.drop a, l.take a] (by simp) (by simp <;> omega)
  simp only [if_true, Int.toNat_natCast]
  refine ev_ite_true (by omega) (ev_ite_true (by omega) (Ev.bind hc ?_))
  simp only [List.flatten_cons, List.flatten_nil, List.append_nil]
  exact Ev.now _
theorem impl_moved_flip (l : List Int) (hw : ∀ x ∈ l, (Lit.int .i64 x).wf = true) (hl : l.length ≤ 12) (ha : 2 ≤ l.length) : Ev (fun j => impl_moved.f j l 3 2) (doMove l 3 2) := by
  have ed : doMove l 3 2 = ((l.take 2).map turnCard).reverse ++ l.drop 2 := by
    unfold doMove
    rw [if_neg (by omega), if_neg (by omega), if_pos rfl]
    rfl
  rw [ed]
  unfold impl_moved.f
  have hc := slices_Concat_int_int_ev [(l.take 2).reverse, l.drop 2] (by simp) (by simp <;> omega)
  refine ev_ite_false (by omega) (ev_ite_false (by omega) (ev_ite_true rfl (ev_ite_true (by omega) (ev_ite_true (by omega) (Ev.bind (impl_reversed_ev _ (by simp; omega)) (Ev.bind hc ?_))))))
  simp only [List.flatten_cons, List.flatten_nil, List.append_nil]
  have hm := impl_moved_loop 2 (l.drop 2) (by simp; omega) (l.take 2).reverse [] (fun x hx => hw x (List.mem_of_mem_take (List.mem_reverse.1 hx))) (by simp <;> omega) (by omega)
  rw [List.nil_append, List.nil_append, List.map_reverse] at hm
  exact hm

theorem bit_lt' : ∀ a, a < 64 → ∀ b, b < 64 → Go.bits .and .i64 ((64 * a + b : Nat) : Int) 1 = (((64 * a + b) % 2 : Nat) : Int) := by decide +kernel
theorem bit_lt (y : Nat) (h : y < 4096) : Go.bits .and .i64 (y : Int) 1 = ((y % 2 : Nat) : Int) := by
  have := bit_lt' (y / 64) (by omega) (y % 64) (by omega)
  rw [Nat.div_add_mod] at this
  exact this
theorem bit_at (w i : Nat) (hw : w < 4096) (hi : i < 13) : Go.bits .and .i64 (Go.Proofs.YtdgoeomelnlekaaW.PrintWords.shr .i64 (w : Int) (i : Int)) 1 = ((w / 2 ^ i % 2 : Nat) : Int) := by
  have e : Go.Proofs.YtdgoeomelnlekaaW.PrintWords.shr .i64 (w : Int) (i : Int) = ((w / 2 ^ i : Nat) : Int) := by
    unfold Go.Proofs.YtdgoeomelnlekaaW.PrintWords.shr
    rw [Int.toNat_natCast, Nat.min_eq_left (by simp [IntKind.bits]; omega)]
    rw [Int.natCast_ediv, Int.natCast_pow]
    rfl
  rw [e]
  exact bit_lt _ (Nat.lt_of_le_of_lt (Nat.div_le_self _ _) hw)
theorem two_shl : ∀ n : Nat, n < 13 → Go.Proofs.YtdgoeomelnlekaaW.PrintWords.shl .i64 1 (n : Nat) = ((2 ^ n : Nat) : Int) := by decide +kernel
theorem bits_div (w i d : Nat) : bitsOf (d + 1) (w / 2 ^ i) = decide (w / 2 ^ i % 2 = 1) :: bitsOf d (w / 2 ^ (i + 1)) := by
  rw [bitsOf, Nat.div_div_eq_div_mul, Nat.pow_succ]
theorem riffled_two (p : List Int) (w : Nat) (hw : w < 4096) (hp : p.length ≤ 12) : ∀ (d i f s : Nat) (out : List Int), i + d = p.length → f + (bitsOf d (w / 2 ^ i)).count false ≤ p.length → s + (bitsOf d (w / 2 ^ i)).count true ≤ p.length → out.length ≤ 100 - d →
    Ev (fun k => impl_riffled.l1 k p (w : Int) (f : Int) (s : Int) out (p.length : Int) (i : Int)) (out ++ wv (bitsOf d (w / 2 ^ i)) (p.drop f) (p.drop s)) := by
  intro d
  induction d with
  | zero =>
    intro i f s out hi _ _ _
    refine Ev.step (f := fun _ => some _) (fun k => ?_) (Ev.now _)
    simp only [impl_riffled.l1]
    rw [if_neg (by omega)]
    simp [bitsOf, wv]
  | succ d ih =>
    intro i f s out hi hf hs ho
    rw [bits_div] at hf hs ⊢
    by_cases c : w / 2 ^ i % 2 = 1
    · simp only [c, decide_true, List.count_cons_self] at hf hs
      rw [List.count_cons_of_ne (by simp)] at hf
      have hlt : s < p.length := by omega
      have hi' := ih (i + 1) f (s + 1) (out ++ [rd p s]) (by omega) hf (by omega) (by simp; omega)
      have e : out ++ wv (decide (w / 2 ^ i % 2 = 1) :: bitsOf d (w / 2 ^ (i + 1))) (p.drop f) (p.drop s) = out ++ [rd p s] ++ wv (bitsOf d (w / 2 ^ (i + 1))) (p.drop f) (p.drop (s + 1)) := by
        simp only [c, decide_true, wv]
        rw [List.drop_eq_getElem_cons hlt, rd_lt hlt]
        simp [hlt]
      rw [e]
      refine Ev.step (fun k => ?_) hi'
      simp only [impl_riffled.l1]
      rw [if_pos (by omega), if_pos (by omega), bit_at w i hw (by omega), c, if_pos (by rfl), if_pos (by omega), if_pos (by omega), if_pos (by omega), w64 (by omega) (by omega), w64 (by omega) (by omega)]
      rfl
    · have c0 : w / 2 ^ i % 2 = 0 := by omega
      have hf' : decide (w / 2 ^ i % 2 = 1) = false := by simp [c0]
      rw [hf'] at hf hs ⊢
      rw [List.count_cons_self] at hf
      rw [List.count_cons_of_ne (by simp)] at hs
      have hlt : f < p.length := by omega
      have hi' := ih (i + 1) (f + 1) s (out ++ [rd p f]) (by omega) (by omega) hs (by simp; omega)
      have e : out ++ wv (false :: bitsOf d (w / 2 ^ (i + 1))) (p.drop f) (p.drop s) = out ++ [rd p f] ++ wv (bitsOf d (w / 2 ^ (i + 1))) (p.drop (f + 1)) (p.drop s) := by
        simp only [wv]
        rw [List.drop_eq_getElem_cons hlt, rd_lt hlt]
        simp [hlt]
      rw [e]
      refine Ev.step (fun k => ?_) hi'
      simp only [impl_riffled.l1]
      rw [if_pos (by omega), if_pos (by omega), bit_at w i hw (by omega), c0, if_neg (by decide), if_pos (by omega), if_pos (by omega), if_pos (by omega), w64 (by omega) (by omega), w64 (by omega) (by omega)]
      rfl
theorem riffled_one (p : List Int) (w : Nat) (hw : w < 4096) (hp : p.length ≤ 12) (R : List Int) : ∀ (d i c : Nat), i + d = p.length → c + d ≤ 100 →
    Ev (fun k => impl_riffled.l1 k p (w : Int) 0 ((c + (bitsOf d (w / 2 ^ i)).count false : Nat) : Int) [] (p.length : Int) 0) R → Ev (fun k => impl_riffled.l0 k p (w : Int) 0 (c : Int) (p.length : Int) (i : Int)) R := by
  intro d
  induction d with
  | zero =>
    intro i c hi hc h
    refine Ev.step (fun k => ?_) h
    simp only [impl_riffled.l0]
    rw [if_neg (by omega)]
    simp [bitsOf]
  | succ d ih =>
    intro i c hi hc h
    rw [bits_div] at h
    by_cases g : w / 2 ^ i % 2 = 1
    · rw [List.count_cons_of_ne (by simp [g])] at h
      refine Ev.step (fun k => ?_) (ih (i + 1) c (by omega) (by omega) h)
      simp only [impl_riffled.l0]
      rw [if_pos (by omega), if_pos (by omega), bit_at w i hw (by omega), g, show wrap64 (1 - ((1 : Nat) : Int)) = 0 by rw [w64 (by omega) (by omega)]; rfl, Int.add_zero, w64 (by omega) (by omega), w64 (by omega) (by omega)]
      rfl
    · have c0 : w / 2 ^ i % 2 = 0 := by omega
      have hf' : decide (w / 2 ^ i % 2 = 1) = false := by simp [c0]
      rw [hf', List.count_cons_self] at h
      refine Ev.step (fun k => ?_) (ih (i + 1) (c + 1) (by omega) (by omega) (by rw [show c + 1 + (bitsOf d (w / 2 ^ (i + 1))).count false = c + ((bitsOf d (w / 2 ^ (i + 1))).count false + 1) by omega]; exact h))
      simp only [impl_riffled.l0]
      rw [if_pos (by omega), if_pos (by omega), bit_at w i hw (by omega), c0, show wrap64 (1 - ((0 : Nat) : Int)) = 1 by rw [w64 (by omega) (by omega)]; rfl, w64 (by omega) (by omega), w64 (by omega) (by omega)]
      rfl
theorem impl_riffled_ev (p : List Int) (w : Nat) (hw : w < 4096) (hp : p.length ≤ 12) : Ev (fun k => impl_riffled.f k p (w : Int)) (rif p (bitsOf p.length w)) := by
  unfold impl_riffled.f
  have hb := bitsOf_length p.length w
  have hc := count_tf (bitsOf p.length w)
  have h2 := riffled_two p w hw hp p.length 0 0 ((bitsOf p.length w).count false) [] (by omega) (by simp <;> omega) (by simp <;> omega) (by simp <;> omega)
  simp only [Nat.pow_zero, Nat.div_one, List.drop_zero, List.nil_append] at h2
  rw [rif_whole p _ hb] at h2
  refine riffled_one p w hw hp _ p.length 0 0 (by omega) (by omega) ?_
  simp only [Nat.pow_zero, Nat.div_one, Nat.zero_add]
  exact h2
theorem impl_all_riffles (p : List Int) (hp : p.length ≤ 12) : ∀ (d w : Nat) (out : List (List Int)), w + d = 2 ^ p.length → out.length + d ≤ 100000 →
    Ev (fun k => impl_all.l0 k p out (w : Int)) (out ++ (List.range' w d).map (fun v => rif p (bitsOf p.length v)), true) := by
  have hpow : 2 ^ p.length ≤ 4096 := Nat.pow_le_pow_right (n := 2) (by omega) hp
  intro d
  induction d with
  | zero =>
    intro w out hw ho
    refine Ev.step (f := fun _ => some _) (fun k => ?_) (Ev.now _)
    simp only [impl_all.l0]
    rw [two_shl _ (by omega), if_neg (by omega)]
    simp
  | succ d ih =>
    intro w out hw ho
    have hi := ih (w + 1) (out ++ [rif p (bitsOf p.length w)]) (by omega) (by simp; omega)
    rw [List.range'_succ, List.map_cons, show out ++ rif p (bitsOf p.length w) :: List.map (fun v => rif p (bitsOf p.length v)) (List.range' (w + 1) d) = out ++ [rif p (bitsOf p.length w)] ++ List.map (fun v => rif p (bitsOf p.length v)) (List.range' (w + 1) d) by simp]
    refine Ev.step (f := fun k => (impl_riffled.f k p (w : Int)).bind fun t => impl_all.l0 k p (out ++ [t]) ((w + 1 : Nat) : Int)) (fun k => ?_) (Ev.bind (impl_riffled_ev p w (by omega) hp) hi)
    simp only [impl_all.l0]
    rw [two_shl _ (by omega), if_pos (by omega), w64 (by omega) (by omega)]
    simp only [if_pos (show out.length < 5864062014805 by omega)]
    rfl
theorem pick_concat (p : List Int) (i : Nat) (h : i < p.length) : (((p.take (i + 1)).drop i) :: (p.take i) :: [p.drop (i + 1)]).flatten = pickU p i := by
  have e1 : (p.take (i + 1)).drop i = [rd p (i : Int)] := by
    rw [List.take_succ_eq_append_getElem h, List.drop_append_of_le_length (by simp; omega), rd_lt h]
    simp
  rw [e1]
  simp [pickU]
theorem impl_all_picks (p : List Int) (hp : p.length ≤ 12) : ∀ (d i : Nat) (out : List (List Int)), i + d = p.length → out.length + d ≤ 100000 →
    Ev (fun k => impl_all.l1 k p out (p.length : Int) (i : Int)) (out ++ (List.range' i d).map (pickU p), true) := by
  intro d
  induction d with
  | zero =>
    intro i out hi ho
    refine Ev.step (f := fun _ => some _) (fun k => ?_) (Ev.now _)
    simp only [impl_all.l1]
    rw [if_neg (by omega)]
    simp
  | succ d ih =>
    intro i out hi ho
    have hh := ih (i + 1) (out ++ [pickU p i]) (by omega) (by simp; omega)
    rw [List.range'_succ, List.map_cons, show out ++ pickU p i :: List.map (pickU p) (List.range' (i + 1) d) = out ++ [pickU p i] ++ List.map (pickU p) (List.range' (i + 1) d) by simp]
    have hcc := slices_Concat_int_int_ev [((p.take (i + 1)).drop i), (p.take i), (p.drop (i + 1))] (by simp) (by simp; omega)
    rw [pick_concat p i (by omega)] at hcc
    refine Ev.step (f := fun k => (slices_Concat_int_int.f k [((p.take (i + 1)).drop i), (p.take i), (p.drop (i + 1))]).bind fun t => impl_all.l1 k p (out ++ [t]) (p.length : Int) ((i + 1 : Nat) : Int)) (fun k => ?_) (Ev.bind hcc hh)
    simp only [impl_all.l1]
    rw [w64 (by omega) (by omega), if_pos (by omega), if_pos (by omega), if_pos (by omega), if_pos (by omega), if_pos (by omega), if_pos (by omega)]
    simp only [if_pos (show out.length < 5864062014805 by omega), Int.toNat_natCast, show ((i : Int) + 1).toNat = i + 1 by omega]
    rfl
theorem impl_cuts_loop (p : List Int) (hp : p.length ≤ 12) (hw : ∀ x ∈ p, (Lit.int .i64 x).wf = true) : ∀ (d i : Nat) (out : List (List Int)), i + d = p.length → out.length + d ≤ 100000 →
    Ev (fun k => impl_cuts.l0 k p out (p.length : Int) (i : Int)) (out ++ (List.range' i d).map (fun k => doMove p 1 (k : Nat))) := by
  intro d
  induction d with
  | zero =>
    intro i out hi ho
    refine Ev.step (f := fun _ => some _) (fun k => ?_) (Ev.now _)
    simp only [impl_cuts.l0]
    rw [if_neg (by omega)]
    simp
  | succ d ih =>
    intro i out hi ho
    have hh := ih (i + 1) (out ++ [doMove p 1 (i : Nat)]) (by omega) (by simp; omega)
    rw [List.range'_succ, List.map_cons, show out ++ doMove p 1 (i : Nat) :: List.map (fun k => doMove p 1 (k : Nat)) (List.range' (i + 1) d) = out ++ [doMove p 1 (i : Nat)] ++ List.map (fun k => doMove p 1 (k : Nat)) (List.range' (i + 1) d) by simp]
    refine Ev.step (f := fun k => (impl_moved.f k p 1 (i : Int)).bind fun t => impl_cuts.l0 k p (out ++ [t]) (p.length : Int) ((i + 1 : Nat) : Int)) (fun k => ?_) (Ev.bind (impl_moved_cut p i hp (by omega)) hh)
    simp only [impl_cuts.l0]
    rw [if_pos (by omega), w64 (by omega) (by omega)]
    simp only [if_pos (show out.length < 5864062014805 by omega)]
    rfl
theorem impl_cuts_ev (p : List Int) (hp : p.length ≤ 12) (hw : ∀ x ∈ p, (Lit.int .i64 x).wf = true) : Ev (fun k => impl_cuts.f k p) (cutsU p) := by
  unfold impl_cuts.f
  exact impl_cuts_loop p hp hw p.length 0 [] (by omega) (by simp; omega)
theorem impl_all_ev (p : List Int) (kind : Int) (h : packetOk p = true) (h1 : 1 ≤ p.length) :
    Ev (fun k => impl_all.f k p kind) (if 0 ≤ kind ∧ kind ≤ 4 ∧ (kind = 3 → 2 ≤ p.length) then (choiceU p kind, true) else ([], false)) := by
  have hp := packetOk_length h
  have hw := packet_wf h
  unfold impl_all.f
  have ec : slices_Clone_int_int.f p = some p := by unfold slices_Clone_int_int.f; rw [if_pos (by omega)]
  by_cases k0 : kind = 0
  · rw [if_pos ⟨by omega, by omega, by omega⟩]
    simp only [if_pos k0]
    refine ev_some fun j => ?_
    rw [ec]
    simp [choiceU, k0]
  refine ev_ite_false k0 ?_
  by_cases k1 : kind = 1
  · rw [if_pos ⟨by omega, by omega, by omega⟩]
    refine ev_ite_true k1 (Ev.bind (impl_cuts_ev p hp hw) ?_)
    simp only [choiceU, if_pos k1]
    exact Ev.now _
  refine ev_ite_false k1 ?_
  by_cases k2 : kind = 2
  · rw [if_pos ⟨by omega, by omega, by omega⟩]
    refine ev_ite_true k2 ?_
    have := impl_all_riffles p hp (2 ^ p.length) 0 [] (by omega) (by have : 2 ^ p.length ≤ 4096 := Nat.pow_le_pow_right (n := 2) (by omega) hp; simp; omega)
    simp only [choiceU, if_neg k1, if_pos k2]
    rw [rifs, List.range_eq_range']
    exact this
  refine ev_ite_false k2 ?_
  by_cases k3 : kind = 3
  · refine ev_ite_true k3 ?_
    by_cases g : p.length < 2
    · rw [if_neg (fun h => by have := h.2.2 k3; omega)]
      exact ev_ite_true (by omega) (Ev.now _)
    · rw [if_pos ⟨by omega, by omega, fun _ => by omega⟩]
      refine ev_ite_false (by omega) (Ev.bind (impl_moved_flip p hw hp (by omega)) (Ev.bind (impl_cuts_ev _ (by rw [doMove3_length p (by omega)]; exact hp) (flip_wf h)) ?_))
      simp only [choiceU, if_neg k1, if_neg k2, if_pos k3]
      exact Ev.now _
  refine ev_ite_false k3 ?_
  by_cases k4 : kind = 4
  · rw [if_pos ⟨by omega, by omega, by omega⟩]
    refine ev_ite_true k4 ?_
    simp only [choiceU, if_neg k1, if_neg k2, if_neg k3, if_pos k4]
    exact impl_all_picks p hp p.length 0 [] (by omega) (by simp; omega)
  refine ev_ite_false k4 ?_
  rw [if_neg (by omega)]
  exact Ev.now _
theorem impl_SortPackets_small (l : List (List Int)) (hl : l.length ≤ 4194304) (hs : ∀ x ∈ l, x.length ≤ 4194304) : impl_SortPackets.f l = some (sortU l) := by
  unfold impl_SortPackets.f
  rw [if_pos ⟨by omega, fun x hx => by have := hs x hx; omega⟩]
theorem rifs_many {p : List Int} (h : packetOk p = true) (hp : p.length = 12) : 3000 < (sortU (rifs p)).length := by
  rw [rifs_count (packet_nodup h), hp]
  exact rifs12
theorem choiceU_few {p : List Int} {kind : Int} (h : packetOk p = true) (h1 : 1 ≤ p.length) (h3 : kind = 3 → 2 ≤ p.length) (hk : ¬ (kind = 2 ∧ 11 < p.length)) : (sortU (choiceU p kind)).length ≤ 3000 := by
  have hp := packetOk_length h
  refine Nat.le_trans (length_sortU _) ?_
  by_cases k2 : p.length ≤ 11
  · have := choiceU_count p kind h3 h1
    have := pow_le_2048 k2
    omega
  · have hn : kind ≠ 2 := fun e => hk ⟨e, by omega⟩
    by_cases e1 : kind = 1
    · simp only [choiceU, if_pos e1]; rw [cutsU_length]; omega
    by_cases e3 : kind = 3
    · simp only [choiceU, if_neg e1, if_neg hn, if_pos e3]; rw [cutsU_length, doMove3_length p (h3 e3)]; omega
    by_cases e4 : kind = 4
    · simp only [choiceU, if_neg e1, if_neg hn, if_neg e3, if_pos e4]; simp; omega
    · simp only [choiceU, if_neg e1, if_neg hn, if_neg e3, if_neg e4]; simp
theorem impl_ResultsOf_ev (p : List Int) (kind : Int) (hl : p.length ≤ 9223372036854775806) (hw : ∀ x ∈ p, (Lit.int .i64 x).wf = true) : Ev (fun k => impl_ResultsOf.f k p kind) (resultsOf p kind) := by
  unfold impl_ResultsOf.f
  refine Ev.bind (impl_PacketOk_ev p hl hw) ?_
  by_cases h : packetOk p = true
  · refine ev_ite_false (by rw [h]; simp) ?_
    have hp := packetOk_length h
    by_cases z : p.length = 0
    · refine ev_ite_true z ?_
      rw [resultsOf, if_neg (fun hc => hc.2.1 z)]
      exact Ev.now _
    · refine ev_ite_false z ?_
      have ha := impl_all_ev p kind h (by omega)
      by_cases g : 0 ≤ kind ∧ kind ≤ 4 ∧ (kind = 3 → 2 ≤ p.length)
      · rw [if_pos g] at ha
        have hs : impl_SortPackets.f (choiceU p kind) = some (sortU (choiceU p kind)) := by
          refine impl_SortPackets_small _ ?_ (fun x hx => by rw [choiceU_len p kind g.2.2 x hx]; omega)
          have := choiceU_count p kind g.2.2 (by omega)
          have : 2 ^ p.length ≤ 4096 := Nat.pow_le_pow_right (n := 2) (by omega) hp
          omega
        refine Ev.bind ha ?_
        simp only [hs, Option.bind_some, if_neg (show ¬ (true = false) by simp)]
        by_cases big : kind = 2 ∧ 11 < p.length
        · have er : resultsOf p kind = ([], false) := by rw [resultsOf, if_neg (fun hc => by have := hc.2.2.2.2.2 big.1; omega)]
          rw [er]
          have := rifs_many h (by omega)
          have e : choiceU p kind = rifs p := by simp [choiceU, big.1]
          rw [e]
          simp only [if_pos this]
          exact Ev.now _
        · have er : resultsOf p kind = (sortU (choiceU p kind), true) := by
            rw [resultsOf, if_pos ⟨h, z, g.1, g.2.1, g.2.2, fun e => by
              apply Decidable.byContradiction
              intro hh
              exact big ⟨e, by omega⟩⟩]
          rw [er]
          have := choiceU_few h (by omega) g.2.2 big
          simp only [if_neg (show ¬ 3000 < (sortU (choiceU p kind)).length by omega)]
          exact Ev.now _
      · rw [if_neg g] at ha
        have er : resultsOf p kind = ([], false) := by rw [resultsOf, if_neg (fun hc => g ⟨hc.2.2.1, hc.2.2.2.1, hc.2.2.2.2.1⟩)]
        rw [er]
        refine Ev.bind ha ?_
        simp only [impl_SortPackets_small [] (by simp) (by simp), Option.bind_some, if_true]
        exact Ev.now _
  · have hf : packetOk p = false := by simpa using h
    refine ev_ite_true hf ?_
    rw [resultsOf, if_neg (fun hc => h hc.1)]
    exact Ev.now _

theorem impl_IsResult_ev (p : List Int) (kind : Int) (q : List Int) (hl : p.length ≤ 9223372036854775806) (hw : ∀ x ∈ p, (Lit.int .i64 x).wf = true) : Ev (fun k => impl_IsResult.f k p kind q) ((resultsOf p kind).1.any fun x => decide (x = q)) := by
  unfold impl_IsResult.f
  refine Ev.bind (impl_ResultsOf_ev p kind hl hw) ?_
  have h := (resultsOf_small p kind).2
  refine ev_ite_true (List.all_eq_true.2 (fun x hx => by have := h x hx; simp; omega)) (Ev.now _)

def addLast (out : List (List Int)) (v : Int) : List (List Int) := out.set (out.length - 1) (out.getD (out.length - 1) [] ++ [v])
def riseFrom (at_ : Int → Int) : Nat → List (List Int) → Int → List (List Int)
  | 0, out, _ => out
  | n + 1, out, v => riseFrom at_ n (if v = 0 ∨ at_ v < at_ (v - 1) then out ++ [[v]] else addLast out v) (v + 1)
/-- The rising sequences of a permutation. -/
def rising (a : List Int) : List (List Int) := if permOk a = true then riseFrom (fun v => rd (inverse a) v) a.length [] 0 else []
theorem addLast_length (out : List (List Int)) (v : Int) : (addLast out v).length = out.length := by simp [addLast]
/-- No more and no longer than so. -/
def Small (out : List (List Int)) (n : Nat) : Prop := out.length ≤ n ∧ ∀ l ∈ out, l.length ≤ n
theorem Small.last {out : List (List Int)} {n : Nat} (h : Small out n) : (out.getD (out.length - 1) []).length ≤ n := by
  by_cases hl : out.length - 1 < out.length
  · have e : out.getD (out.length - 1) [] = out[out.length - 1] := by simp [hl]
    rw [e]
    exact h.2 _ (List.getElem_mem hl)
  · have e : out = [] := List.eq_nil_of_length_eq_zero (by omega)
    subst e
    simp
theorem Small.new {out : List (List Int)} {n : Nat} (h : Small out n) (v : Int) : Small (out ++ [[v]]) (n + 1) := by
  refine ⟨by simp; exact h.1, fun l hl => ?_⟩
  rcases List.mem_append.1 hl with hl | hl
  · have := h.2 l hl; omega
  · simp at hl; subst hl; simp
theorem Small.more {out : List (List Int)} {n : Nat} (h : Small out n) (v : Int) : Small (addLast out v) (n + 1) := by
  refine ⟨by rw [addLast_length]; have := h.1; omega, fun l hl => ?_⟩
  rcases List.mem_or_eq_of_mem_set hl with hl | hl
  · have := h.2 l hl; omega
  · have := h.last
    rw [hl, List.length_append]
    simp only [List.length_cons, List.length_nil]
    omega
theorem riseFrom_small (at_ : Int → Int) (n : Nat) : ∀ (m : Nat) (out : List (List Int)) (v : Int), Small out m → Small (riseFrom at_ n out v) (m + n) := by
  induction n with
  | zero => intro m out v h; exact h
  | succ n ih =>
    intro m out v h
    rw [riseFrom]
    have e : m + (n + 1) = (m + 1) + n := by omega
    rw [e]
    by_cases c : v = 0 ∨ at_ v < at_ (v - 1)
    · rw [if_pos c]; exact ih _ _ _ (h.new v)
    · rw [if_neg c]; exact ih _ _ _ (h.more v)
theorem rising_small (a : List Int) : Small (rising a) 12 := by
  unfold rising
  by_cases h : permOk a = true
  · rw [if_pos h]
    have h3 := ((permOk_iff a).1 h).2.2
    have hs := riseFrom_small (fun v => rd (inverse a) v) a.length 0 [] 0 ⟨by simp, by simp⟩
    refine ⟨by have := hs.1; omega, fun l hl => by have := hs.2 l hl; omega⟩
  · rw [if_neg h]
    exact ⟨by simp, by simp⟩
def fillRow {α : Type} (v : α) : List α → List Int → List α
  | m, [] => m
  | m, x :: r => fillRow v (m.set x.toNat v) r
def fillAll {α : Type} (g : Nat → α) : Nat → List α → List (List Int) → List α
  | _, m, [] => m
  | i, m, l :: r => fillAll g (i + 1) (fillRow (g i) m l) r
theorem fillRow_length {α : Type} (v : α) (r : List Int) : ∀ m : List α, (fillRow v m r).length = m.length := by
  induction r with
  | nil => intro m; rfl
  | cons x r ih => intro m; rw [fillRow, ih, List.length_set]
/-- For each card the index of its rising sequence. -/
def partsOf (a : List Int) : List Int := fillAll (fun i => (i : Int)) 0 (List.replicate a.length 0) (rising a)
/-- Whether a card's rising sequence has an odd index. -/
def oddAt (a : List Int) (x : Int) : Bool := Int.tmod (rd (partsOf a) x) 2 == 1
/-- The permutation before the last riffle. -/
def beforeP (a : List Int) : List Int := a.filter (fun x => !oddAt a x) ++ a.filter (fun x => oddAt a x)
theorem filter_two_perm (p : Int → Bool) (l : List Int) : (l.filter (fun x => !p x) ++ l.filter p).Perm l := by
  induction l with
  | nil => exact List.Perm.refl _
  | cons x l ih =>
    cases h : p x with
    | true =>
      rw [List.filter_cons_of_neg (by simp [h]), List.filter_cons_of_pos h]
      exact List.perm_middle.trans (List.Perm.cons x ih)
    | false =>
      rw [List.filter_cons_of_pos (by simp [h]), List.filter_cons_of_neg (by simp [h])]
      exact List.Perm.cons x ih
theorem beforeP_perm (a : List Int) : (beforeP a).Perm a := filter_two_perm _ a
theorem beforeP_length (a : List Int) : (beforeP a).length = a.length := (beforeP_perm a).length_eq
theorem permOk_perm {a b : List Int} (h : b.Perm a) (ha : permOk a = true) : permOk b = true := by
  obtain ⟨p1, p2, p3⟩ := (permOk_iff a).1 ha
  have hl := h.length_eq
  exact (permOk_iff b).2 ⟨fun x hx => by rw [hl]; exact p1 x (h.mem_iff.1 hx), h.nodup_iff.2 p2, by omega⟩
theorem riseFrom_range (at_ : Int → Int) (n : Nat) : ∀ (d : Nat) (out : List (List Int)) (v : Int), 0 ≤ v → v + d ≤ n → (∀ l ∈ out, ∀ x ∈ l, 0 ≤ x ∧ x < n) → ∀ l ∈ riseFrom at_ d out v, ∀ x ∈ l, 0 ≤ x ∧ x < n := by
  intro d
  induction d with
  | zero => intro out v _ _ h; exact h
  | succ d ih =>
    intro out v h0 h1 h
    rw [riseFrom]
    refine ih _ _ (by omega) (by omega) ?_
    intro l hl x hx
    split at hl
    · rcases List.mem_append.1 hl with hl | hl
      · exact h l hl x hx
      · rw [List.mem_singleton.1 hl] at hx; rw [List.mem_singleton.1 hx]; omega
    · rcases List.mem_or_eq_of_mem_set hl with hl | hl
      · exact h l hl x hx
      · rw [hl] at hx
        rcases List.mem_append.1 hx with hx | hx
        · by_cases hq : out.length - 1 < out.length
          · have e : out.getD (out.length - 1) [] = out[out.length - 1] := by simp [hq]
            rw [e] at hx
            exact h _ (List.getElem_mem hq) x hx
          · have e : out = [] := List.eq_nil_of_length_eq_zero (by omega)
            subst e
            simp at hx
        · rw [List.mem_singleton.1 hx]; omega
theorem rising_range (a : List Int) : ∀ l ∈ rising a, ∀ x ∈ l, 0 ≤ x ∧ x < a.length := by
  unfold rising
  by_cases h : permOk a = true
  · rw [if_pos h]
    exact riseFrom_range _ a.length a.length [] 0 (by omega) (by omega) (by simp)
  · rw [if_neg h]; simp

theorem inverse_ne {a : List Int} (h : permOk a = true) (v u : Int) (h0 : 0 ≤ v) (h1 : v < a.length) (g0 : 0 ≤ u) (g1 : u < a.length) (hne : v ≠ u) : rd (inverse a) v ≠ rd (inverse a) u := by
  obtain ⟨p1, p2, p3⟩ := (permOk_iff a).1 h
  obtain ⟨j, hj, e, e'⟩ := perm_at p1 p2 v h0 h1
  obtain ⟨i, hi, f, f'⟩ := perm_at p1 p2 u g0 g1
  intro q
  rw [e', f'] at q
  have : j = i := by omega
  subst this
  exact hne (e.symm.trans f)

def isRiffle (a : List Int) : Bool := permOk a && decide ((rising a).length ≤ 2)
def splitOf (a : List Int) : Int := if (rising a).length = 2 then ((rising a).getD 0 []).length else -1
def riffleWays (a : List Int) : Int := if isRiffle a = true then (if (rising a).length = 2 then 1 else (a.length : Int) + 1) else 0

/-- The number of falls among the places of 0 .. v. -/
def falls (at_ : Int → Int) : Nat → Nat
  | 0 => 0
  | v + 1 => falls at_ v + (if at_ ((v + 1 : Nat) : Int) < at_ (v : Int) then 1 else 0)
structure RiseInv (at_ : Int → Int) (out : List (List Int)) (v : Nat) : Prop where
  inn : ∀ u, u < v → ∃ l, out[falls at_ u]? = some l ∧ (u : Int) ∈ l
  only : ∀ (j : Nat) (l : List Int), out[j]? = some l → ∀ x ∈ l, ∃ u : Nat, u < v ∧ x = (u : Int) ∧ falls at_ u = j
  len : 0 < v → out.length = falls at_ (v - 1) + 1
  none : v = 0 → out = []
theorem RiseInv.step {at_ : Int → Int} {out : List (List Int)} {v : Nat} (h : RiseInv at_ out v) : RiseInv at_ (if (v : Int) = 0 ∨ at_ (v : Int) < at_ ((v : Int) - 1) then out ++ [[(v : Int)]] else addLast out v) (v + 1) := by
  by_cases c : (v : Int) = 0 ∨ at_ (v : Int) < at_ ((v : Int) - 1)
  · rw [if_pos c]
    have hf : falls at_ v = out.length := by
      by_cases hv : v = 0
      · subst hv; rw [h.none rfl]; rfl
      · obtain ⟨u, rfl⟩ : ∃ u, v = u + 1 := ⟨v - 1, by omega⟩
        have hl := h.len (by omega)
        have hc : at_ ((u + 1 : Nat) : Int) < at_ (u : Int) := by
          rcases c with c | c
          · omega
          · rw [show ((u + 1 : Nat) : Int) - 1 = (u : Int) by omega] at c; exact c
        rw [falls, if_pos hc, hl]
        rfl
    refine ⟨fun u hu => ?_, fun j l hj x hx => ?_, fun _ => ?_, fun h0 => by omega⟩
    · by_cases e : u = v
      · subst e; exact ⟨[(u : Int)], by rw [hf]; simp, by simp⟩
      · obtain ⟨l, h1, h2⟩ := h.inn u (by omega)
        exact ⟨l, by rw [List.getElem?_append_left (List.getElem?_eq_some_iff.1 h1).1]; exact h1, h2⟩
    · by_cases hj2 : j < out.length
      · rw [List.getElem?_append_left hj2] at hj
        obtain ⟨u, h1, h2⟩ := h.only j l hj x hx
        exact ⟨u, by omega, h2⟩
      · rw [List.getElem?_append_right (by omega)] at hj
        have hz : j - out.length = 0 := by
          apply Decidable.byContradiction
          intro hne
          rw [List.getElem?_eq_none (by simp; omega)] at hj
          cases hj
        rw [hz] at hj
        simp at hj
        subst hj
        exact ⟨v, by omega, by simpa using hx, by omega⟩
    · rw [List.length_append, List.length_singleton, Nat.add_sub_cancel, hf]
  · rw [if_neg c]
    have hv : v ≠ 0 := fun e => c (.inl (by omega))
    obtain ⟨u0, rfl⟩ : ∃ u, v = u + 1 := ⟨v - 1, by omega⟩
    have hl := h.len (by omega)
    rw [Nat.add_sub_cancel] at hl
    have hc : ¬ at_ ((u0 + 1 : Nat) : Int) < at_ (u0 : Int) := fun h' => c (.inr (by rw [show ((u0 + 1 : Nat) : Int) - 1 = (u0 : Int) by omega]; exact h'))
    have hf : falls at_ (u0 + 1) = out.length - 1 := by rw [falls, if_neg hc, hl]; omega
    have hq : out.length - 1 < out.length := by omega
    have hg : out.getD (out.length - 1) [] = out[out.length - 1] := by simp [hq]
    unfold addLast
    rw [hg]
    refine ⟨fun u hu => ?_, fun j l hj x hx => ?_, fun _ => ?_, fun h0 => by omega⟩
    · by_cases e : u = u0 + 1
      · subst e
        exact ⟨_, by rw [hf, List.getElem?_set_self hq], by simp⟩
      · obtain ⟨l, h1, h2⟩ := h.inn u (by omega)
        by_cases e2 : falls at_ u = out.length - 1
        · rw [e2, List.getElem?_eq_getElem hq] at h1
          injection h1 with h1
          exact ⟨_, by rw [e2, List.getElem?_set_self hq], by rw [h1]; simp [h2]⟩
        · exact ⟨l, by rw [List.getElem?_set_ne (fun e => e2 e.symm)]; exact h1, h2⟩
    · by_cases e : j = out.length - 1
      · subst e
        rw [List.getElem?_set_self hq] at hj
        injection hj with hj
        rw [← hj] at hx
        rcases List.mem_append.1 hx with hx | hx
        · obtain ⟨u, h1, h2⟩ := h.only _ _ (List.getElem?_eq_getElem hq) x hx
          exact ⟨u, by omega, h2⟩
        · exact ⟨u0 + 1, by omega, by simpa using hx, hf⟩
      · rw [List.getElem?_set_ne (fun e' => e e'.symm)] at hj
        obtain ⟨u, h1, h2⟩ := h.only j l hj x hx
        exact ⟨u, by omega, h2⟩
    · rw [List.length_set, Nat.add_sub_cancel, hf]
      omega
theorem riseFrom_inv (at_ : Int → Int) : ∀ (d v : Nat) (out : List (List Int)), RiseInv at_ out v → RiseInv at_ (riseFrom at_ d out (v : Int)) (v + d) := by
  intro d
  induction d with
  | zero => intro v out h; exact h
  | succ d ih =>
    intro v out h
    rw [riseFrom]
    have := ih (v + 1) _ h.step
    rw [show v + 1 + d = v + (d + 1) by omega] at this
    exact this
def placeOf (a : List Int) (v : Int) : Int := rd (inverse a) v
theorem rising_inv {a : List Int} (h : permOk a = true) : RiseInv (placeOf a) (rising a) a.length := by
  have h0 : RiseInv (placeOf a) [] 0 := ⟨fun u hu => by omega, fun j l hj => by simp at hj, fun h => by omega, fun _ => rfl⟩
  have := riseFrom_inv (placeOf a) a.length 0 [] h0
  rw [Nat.zero_add] at this
  unfold rising
  rw [if_pos h]
  exact this
theorem rd_fillRow {v : Int} : ∀ (r : List Int) (m : List Int) (u : Int), 0 ≤ u → u < m.length → (∀ x ∈ r, 0 ≤ x) → rd (fillRow v m r) u = if u ∈ r then v else rd m u := by
  intro r
  induction r with
  | nil => intro m u _ _ _; simp [fillRow]
  | cons x r ih =>
    intro m u h0 h1 hx
    rw [fillRow, ih _ _ h0 (by simpa using h1) (fun y hy => hx y (by simp [hy]))]
    by_cases c : u ∈ r
    · rw [if_pos c, if_pos (by simp [c])]
    · rw [if_neg c]
      by_cases e : u = x
      · subst e; rw [rd_set_eq h0 h1, if_pos (by simp)]
      · rw [rd_set_ne (hx x (by simp)) h0 (fun e' => e e'.symm), if_neg (by simp [c, e])]
theorem rd_fillAll : ∀ (r : List (List Int)) (i : Nat) (m : List Int) (u : Int) (j : Nat), 0 ≤ u → u < m.length → (∀ l ∈ r, ∀ x ∈ l, 0 ≤ x) → (∃ l, r[j]? = some l ∧ u ∈ l) → (∀ j' l, r[j']? = some l → u ∈ l → j' = j) → rd (fillAll (fun i => (i : Int)) i m r) u = ((i + j : Nat) : Int) := by
  have keep : ∀ (r : List (List Int)) (i : Nat) (m : List Int) (u : Int), 0 ≤ u → u < m.length → (∀ l ∈ r, ∀ x ∈ l, 0 ≤ x) → (∀ l ∈ r, u ∉ l) → rd (fillAll (fun i => (i : Int)) i m r) u = rd m u := by
    intro r
    induction r with
    | nil => intro i m u _ _ _ _; rfl
    | cons l r ih =>
      intro i m u h0 h1 hx hn
      rw [fillAll, ih _ _ _ h0 (by rw [fillRow_length]; exact h1) (fun l' hl' => hx l' (by simp [hl'])) (fun l' hl' => hn l' (by simp [hl'])), rd_fillRow _ _ _ h0 h1 (hx l (by simp)), if_neg (hn l (by simp))]
  intro r
  induction r with
  | nil => intro i m u j _ _ _ ⟨l, hl, _⟩; simp at hl
  | cons l r ih =>
    intro i m u j h0 h1 hx ⟨l', hl', hu⟩ hone
    rw [fillAll]
    cases j with
    | zero =>
      rw [keep r _ _ u h0 (by rw [fillRow_length]; exact h1) (fun l' hl' => hx l' (by simp [hl'])) (fun l2 hl2 hu2 => by
        obtain ⟨q, hq, e⟩ := List.getElem_of_mem hl2
        have := hone (q + 1) l2 (by rw [List.getElem?_cons_succ, List.getElem?_eq_getElem hq, e]) hu2
        omega)]
      rw [List.getElem?_cons_zero] at hl'
      injection hl' with hl'
      subst hl'
      rw [rd_fillRow _ _ _ h0 h1 (hx l (by simp)), if_pos hu]
      rfl
    | succ j =>
      rw [List.getElem?_cons_succ] at hl'
      rw [ih (i + 1) _ u j h0 (by rw [fillRow_length]; exact h1) (fun l' hl' => hx l' (by simp [hl'])) ⟨l', hl', hu⟩ (fun j' l2 h2 hu2 => by have := hone (j' + 1) l2 (by rw [List.getElem?_cons_succ]; exact h2) hu2; omega)]
      congr 1
      omega
theorem parts_falls {a : List Int} (h : permOk a = true) (u : Nat) (hu : u < a.length) : rd (partsOf a) (u : Int) = (falls (placeOf a) u : Int) := by
  have hi := rising_inv h
  have := rd_fillAll (rising a) 0 (List.replicate a.length 0) (u : Int) (falls (placeOf a) u) (by omega) (by simp; omega) (fun l hl x hx => (rising_range a l hl x hx).1) (hi.inn u hu) (fun j' l hl hx => by
    obtain ⟨u', _, e, e2⟩ := hi.only j' l hl _ hx
    have : u' = u := by omega
    rw [← this]; exact e2.symm)
  rw [Nat.zero_add] at this
  exact this
theorem rising_count {a : List Int} (h : permOk a = true) (hn : 0 < a.length) : (rising a).length = falls (placeOf a) (a.length - 1) + 1 := (rising_inv h).len hn
theorem oddAt_falls {a : List Int} (h : permOk a = true) (u : Nat) (hu : u < a.length) : oddAt a (u : Int) = decide (falls (placeOf a) u % 2 = 1) := by
  unfold oddAt
  rw [parts_falls h u hu, Int.tmod_eq_emod_of_nonneg (by omega), Bool.eq_iff_iff]
  simp only [beq_iff_eq, decide_eq_true_eq]
  omega
theorem place_get {a : List Int} (h : permOk a = true) (j : Nat) (hj : j < a.length) : placeOf a a[j] = j := by
  obtain ⟨p1, p2, p3⟩ := (permOk_iff a).1 h
  exact inverse_get p1 p2 j hj
theorem place_ex {a : List Int} (h : permOk a = true) (v : Int) (h0 : 0 ≤ v) (h1 : v < a.length) : ∃ j : Nat, ∃ hj : j < a.length, a[j] = v ∧ placeOf a v = j := by
  obtain ⟨p1, p2, p3⟩ := (permOk_iff a).1 h
  exact perm_at p1 p2 v h0 h1
/-- In the order of their places. -/
theorem places_up {a : List Int} (h : permOk a = true) : a.Pairwise (fun u v => placeOf a u < placeOf a v) := by
  rw [List.pairwise_iff_getElem]
  intro i j hi hj hij
  rw [place_get h i hi, place_get h j hj]
  omega
theorem before_even {a : List Int} (h : permOk a = true) (u v : Int) (hu : u ∈ a) (hv : v ∈ a) (e : oddAt a u = oddAt a v) (hlt : placeOf a u < placeOf a v) : placeOf (beforeP a) u < placeOf (beforeP a) v := by
  have hb := permOk_perm (beforeP_perm a) h
  have key : ∀ (E pre post : List Int), beforeP a = pre ++ E ++ post → E.Pairwise (fun u v => placeOf a u < placeOf a v) → u ∈ E → v ∈ E → placeOf (beforeP a) u < placeOf (beforeP a) v := by
    intro E pre post he hp hu hv
    obtain ⟨i, hi, ei⟩ := List.getElem_of_mem hu
    obtain ⟨j, hj, ej⟩ := List.getElem_of_mem hv
    have hat : ∀ (i : Nat) (hi : i < E.length), placeOf (beforeP a) E[i] = ((pre.length + i : Nat) : Int) := fun i hi => by
      have hl : pre.length + i < (beforeP a).length := by rw [he]; simp; omega
      have e2 : (beforeP a)[pre.length + i] = E[i] := by
        have : (pre ++ E ++ post)[pre.length + i]'(by simp; omega) = E[i] := by
          rw [List.getElem_append_left (by simp; omega), List.getElem_append_right (by omega)]
          simp
        simpa only [he] using this
      rw [← e2]
      exact place_get hb _ hl
    rw [← ei, ← ej, hat i hi, hat j hj]
    have hij : i < j := by
      rcases Nat.lt_trichotomy i j with c | c | c
      · exact c
      · subst c; rw [ei] at ej; rw [ej] at hlt; omega
      · have := List.pairwise_iff_getElem.1 hp j i hj hi c
        rw [ei, ej] at this
        omega
    omega
  cases c : oddAt a u with
  | false =>
    rw [c] at e
    exact key (a.filter (fun x => !oddAt a x)) [] (a.filter (fun x => oddAt a x)) rfl ((places_up h).filter _) (List.mem_filter.2 ⟨hu, by simp [c]⟩) (List.mem_filter.2 ⟨hv, by simp [← e]⟩)
  | true =>
    rw [c] at e
    exact key (a.filter (fun x => oddAt a x)) (a.filter (fun x => !oddAt a x)) [] (by simp [beforeP]) ((places_up h).filter _) (List.mem_filter.2 ⟨hu, c⟩) (List.mem_filter.2 ⟨hv, e.symm⟩)
theorem app_at (E O : List Int) (j : Nat) (hj : j < O.length) (h : E.length + j < (E ++ O).length) : (E ++ O)[E.length + j] = O[j] := by
  rw [List.getElem_append_right (by omega)]
  congr 1
  omega
theorem before_cross {a : List Int} (h : permOk a = true) (u v : Int) (hu : u ∈ a) (hv : v ∈ a) (cu : oddAt a u = false) (cv : oddAt a v = true) : placeOf (beforeP a) u < placeOf (beforeP a) v := by
  have hb := permOk_perm (beforeP_perm a) h
  obtain ⟨i, hi, ei⟩ := List.getElem_of_mem (List.mem_filter.2 ⟨hu, by simp [cu]⟩ : u ∈ a.filter (fun x => !oddAt a x))
  obtain ⟨j, hj, ej⟩ := List.getElem_of_mem (List.mem_filter.2 ⟨hv, cv⟩ : v ∈ a.filter (fun x => oddAt a x))
  have e1 : placeOf (beforeP a) u = i := by
    have hl : i < (beforeP a).length := by unfold beforeP; rw [List.length_append]; omega
    have : (beforeP a)[i] = u := by rw [← ei]; exact List.getElem_append_left hi
    rw [← this]
    exact place_get hb i hl
  have e2 : placeOf (beforeP a) v = (((a.filter (fun x => !oddAt a x)).length + j : Nat) : Int) := by
    have hl : (a.filter (fun x => !oddAt a x)).length + j < (beforeP a).length := by unfold beforeP; rw [List.length_append]; omega
    have : (beforeP a)[(a.filter (fun x => !oddAt a x)).length + j] = v := by
      rw [← ej]
      exact app_at _ _ j hj hl
    rw [← this]
    exact place_get hb _ hl
  omega
theorem mem_perm {a : List Int} (h : permOk a = true) (u : Nat) (hu : u < a.length) : (u : Int) ∈ a := by
  obtain ⟨j, hj, e, _⟩ := place_ex h (u : Int) (by omega) (by omega)
  rw [← e]; exact List.getElem_mem hj
/-- Dividing halves the number of falls. -/
theorem falls_before {a : List Int} (h : permOk a = true) : ∀ v, v < a.length → falls (placeOf (beforeP a)) v = falls (placeOf a) v / 2 := by
  intro v
  induction v with
  | zero => intro _; simp [falls]
  | succ v ih =>
    intro hv
    have h1 := ih (by omega)
    have m1 := mem_perm h v (by omega)
    have m2 := mem_perm h (v + 1) hv
    have o1 := oddAt_falls h v (by omega)
    have o2 := oddAt_falls h (v + 1) hv
    have hne : placeOf a ((v + 1 : Nat) : Int) ≠ placeOf a (v : Int) := inverse_ne h _ _ (by omega) (by omega) (by omega) (by omega) (by omega)
    rw [falls, h1]
    by_cases c : placeOf a ((v + 1 : Nat) : Int) < placeOf a (v : Int)
    · have e : falls (placeOf a) (v + 1) = falls (placeOf a) v + 1 := by rw [falls, if_pos c]
      by_cases p : falls (placeOf a) v % 2 = 1
      · have := before_cross h ((v + 1 : Nat) : Int) (v : Int) m2 m1 (by rw [o2, e]; exact decide_eq_false (by omega)) (by rw [o1]; exact decide_eq_true p)
        rw [if_pos this, e]
        omega
      · have := before_cross h (v : Int) ((v + 1 : Nat) : Int) m1 m2 (by rw [o1]; exact decide_eq_false p) (by rw [o2, e]; exact decide_eq_true (by omega))
        rw [if_neg (by omega), e]
        omega
    · have e : falls (placeOf a) (v + 1) = falls (placeOf a) v := by rw [falls, if_neg c]; rfl
      have := before_even h (v : Int) ((v + 1 : Nat) : Int) m1 m2 (by rw [o1, o2, e]) (by omega)
      rw [if_neg (by omega), e]
      rfl
theorem rising_before {a : List Int} (h : permOk a = true) (hn : 0 < a.length) : (rising (beforeP a)).length = ((rising a).length - 1) / 2 + 1 := by
  have hb := permOk_perm (beforeP_perm a) h
  have hl := beforeP_length a
  rw [rising_count hb (by omega), rising_count h hn, hl, falls_before h _ (by omega)]
  rfl
theorem falls_mono (at_ : Int → Int) (u v : Nat) (h : u ≤ v) : falls at_ u ≤ falls at_ v := by
  induction v with
  | zero => obtain rfl : u = 0 := by omega
            exact Nat.le_refl _
  | succ v ih =>
    by_cases c : u = v + 1
    · subst c; exact Nat.le_refl _
    · have := ih (by omega)
      rw [falls]
      omega
/-- One rising sequence: the identity. -/
theorem one_rising {a : List Int} (h : permOk a = true) (hn : 0 < a.length) (hr : (rising a).length = 1) : a = upFrom 0 a.length := by
  have hc := rising_count h hn
  have hz : ∀ v, v < a.length → falls (placeOf a) v = 0 := fun v hv => by have := falls_mono (placeOf a) v (a.length - 1) (by omega); omega
  have hup : ∀ v, v + 1 < a.length → placeOf a (v : Int) < placeOf a ((v + 1 : Nat) : Int) := fun v hv => by
    have hne : placeOf a ((v + 1 : Nat) : Int) ≠ placeOf a (v : Int) := inverse_ne h _ _ (by omega) (by omega) (by omega) (by omega) (by omega)
    have h1 := hz (v + 1) hv
    rw [falls] at h1
    by_cases c : placeOf a ((v + 1 : Nat) : Int) < placeOf a (v : Int)
    · rw [if_pos c] at h1; omega
    · omega
  have hge : ∀ v, v < a.length → (v : Int) ≤ placeOf a (v : Int) := by
    intro v
    induction v with
    | zero => intro hv; obtain ⟨j, _, _, e⟩ := place_ex h ((0 : Nat) : Int) (by omega) (by omega); omega
    | succ v ih => intro hv; have := ih (by omega); have := hup v hv; omega
  have hle : ∀ d v, v + d + 1 = a.length → placeOf a (v : Int) ≤ (v : Int) := by
    intro d
    induction d with
    | zero => intro v hv; obtain ⟨j, hj, _, e⟩ := place_ex h (v : Int) (by omega) (by omega); omega
    | succ d ih => intro v hv; have := ih (v + 1) (by omega); have := hup v (by omega); omega
  refine List.ext_getElem (by rw [upFrom_length]) (fun i h1 h2 => ?_)
  rw [upFrom_get]
  obtain ⟨j, hj, e1, e2⟩ := place_ex h (i : Int) (by omega) (by omega)
  have := hge i h1
  have := hle (a.length - 1 - i) i (by omega)
  have : j = i := by omega
  subst this
  rw [e1]; omega
def findFrom (v : Int) : Int → List Int → Int
  | _, [] => -1
  | i, x :: r => if v = x then i else findFrom v (i + 1) r
theorem findFrom_nonneg (v : Int) (l : List Int) : ∀ i : Int, 0 ≤ i → (0 ≤ findFrom v i l ↔ v ∈ l) := by
  induction l with
  | nil => intro i hi; simp [findFrom]
  | cons x r ih =>
    intro i hi
    simp only [findFrom, List.mem_cons]
    by_cases c : v = x
    · rw [if_pos c]; simp [c, hi]
    · rw [if_neg c, ih (i + 1) (by omega)]; simp [c]
theorem slices_Index_loop (l : List Int) (v : Int) (hl : l.length ≤ 9223372036854775806) : ∀ (r pre : List Int), l = pre ++ r →
    Ev (fun k => slices_Index_int_int.l0 k l v (l.length : Int) (pre.length : Int)) (findFrom v pre.length r) := by
  intro r
  induction r with
  | nil =>
    intro pre h
    refine Ev.step (f := fun _ => some _) (fun k => ?_) (Ev.now _)
    subst h
    simp only [slices_Index_int_int.l0, findFrom]
    rw [if_neg (by simp)]
  | cons x r ih =>
    intro pre h
    have hlen : l.length = pre.length + (r.length + 1) := by rw [h]; simp
    have hx := rd_mid' h
    have e : ((pre ++ [x]).length : Int) = (pre.length : Int) + 1 := by simp
    simp only [findFrom]
    by_cases c : v = x
    · rw [if_pos c]
      refine Ev.step (f := fun _ => some _) (fun k => ?_) (Ev.now _)
      simp only [slices_Index_int_int.l0]
      rw [if_pos (by omega), if_pos (by omega), if_pos (by omega), hx, if_pos c]
    · rw [if_neg c, ← e]
      refine Ev.step (fun k => ?_) (ih (pre ++ [x]) (snoc_eq h))
      simp only [slices_Index_int_int.l0]
      rw [if_pos (by omega), if_pos (by omega), if_pos (by omega), hx, if_neg c, snoc_len x (by omega)]
theorem slices_Contains_ev (l : List Int) (v : Int) (hl : l.length ≤ 9223372036854775806) : Ev (fun k => slices_Contains_int_int.f k l v) (decide (v ∈ l)) := by
  unfold slices_Contains_int_int.f slices_Index_int_int.f
  refine Ev.bind (slices_Index_loop l v hl l [] rfl) (ev_some fun _ => ?_)
  have := findFrom_nonneg v l 0 (by omega)
  simp only [List.length_nil, Int.ofNat_zero, Option.some.injEq, decide_eq_decide]
  exact this

theorem impl_PermOk_loop (a : List Int) (ha : a.length ≤ 9223372036854775806) : ∀ (r pre : List Int), a = pre ++ r →
    Ev (fun k => impl_PermOk.l0 k a a (a.length : Int) (pre.length : Int)) (pokFrom a.length pre r && decide (a.length ≤ 12)) := by
  intro r
  induction r with
  | nil =>
    intro pre h
    refine Ev.step (f := fun _ => some _) (fun k => ?_) (Ev.now _)
    have hlen : a.length = pre.length := by rw [h]; simp
    simp only [impl_PermOk.l0, pokFrom, Bool.true_and]
    rw [if_neg (by omega)]
    simp; omega
  | cons x r ih =>
    intro pre h
    have hlen : a.length = pre.length + (r.length + 1) := by rw [h]; simp
    have hx := rd_mid' h
    have ht : a.take ((pre.length : Int).toNat) = pre := by rw [h]; simp
    by_cases c0 : x < 0
    · have e : pokFrom a.length pre (x :: r) = false := by simp only [pokFrom]; rw [decide_eq_false (by omega)]; rfl
      rw [e, Bool.false_and]
      refine Ev.step (f := fun _ => some _) (fun k => ?_) (Ev.now _)
      simp only [impl_PermOk.l0]
      rw [if_pos (by omega), if_pos (by omega), if_pos (by omega), hx, if_pos c0]
    by_cases c1 : x ≥ (a.length : Int)
    · have e : pokFrom a.length pre (x :: r) = false := by simp only [pokFrom]; rw [decide_eq_false (by omega)]; rfl
      rw [e, Bool.false_and]
      refine Ev.step (f := fun _ => some _) (fun k => ?_) (Ev.now _)
      simp only [impl_PermOk.l0]
      rw [if_pos (by omega), if_pos (by omega), if_pos (by omega), hx, if_neg c0, if_pos c1]
    refine Ev.step (f := fun k => (slices_Contains_int_int.f k pre x).bind fun t => if t = true then some false else impl_PermOk.l0 k a a (a.length : Int) ((pre ++ [x]).length : Int)) (fun k => ?_) ?_
    · simp only [impl_PermOk.l0]
      rw [if_pos (by omega), if_pos (by omega), if_pos (by omega), hx, if_neg c0, if_neg c1, if_pos (by omega), ht, snoc_len x (by omega)]
    · refine Ev.bind (slices_Contains_ev pre x (by omega)) ?_
      by_cases c2 : x ∈ pre
      · have e : pokFrom a.length pre (x :: r) = false := by simp only [pokFrom]; simp [c2]
        rw [e, Bool.false_and]
        exact ev_some fun _ => by simp [c2]
      · have e : pokFrom a.length pre (x :: r) = pokFrom a.length (pre ++ [x]) r := by simp only [pokFrom]; rw [decide_eq_true (by omega)]; simp [c2]
        rw [e]
        simp only [c2, decide_false, Bool.false_eq_true, if_false]
        exact ih (pre ++ [x]) (snoc_eq h)
theorem impl_PermOk_ev (a : List Int) (ha : a.length ≤ 9223372036854775806) : Ev (fun k => impl_PermOk.f k a) (permOk a) := by
  unfold impl_PermOk.f permOk
  exact impl_PermOk_loop a ha a [] rfl

theorem impl_inverse_loop (a : List Int) (ha : a.length ≤ 9223372036854775806) : ∀ (r pre m : List Int), a = pre ++ r → (∀ x ∈ r, 0 ≤ x ∧ x < m.length) →
    Ev (fun k => impl_inverse.l0 k m a (a.length : Int) (pre.length : Int)) (invFrom m pre.length r) := by
  intro r
  induction r with
  | nil =>
    intro pre m h _
    have e := lens h
    simp only [List.length_nil] at e
    refine Ev.step (f := fun _ => some _) (fun k => ?_) (Ev.now _)
    simp only [impl_inverse.l0]
    rw [if_neg (by omega)]
    rfl
  | cons x r ih =>
    intro pre m h hp
    have e := lens h
    simp only [List.length_cons] at e
    have hx := hp x (by simp)
    have hi := ih (pre ++ [x]) (m.set x.toNat pre.length) (snoc_eq h) (fun z hz => by rw [List.length_set]; exact hp z (by simp [hz]))
    rw [snoc_cast] at hi
    refine Ev.step (fun k => ?_) hi
    simp only [impl_inverse.l0]
    rw [if_pos (by omega), if_pos (by omega), if_pos (by omega), rd_mid' h, if_pos hx.1, if_pos hx.2, w64 (by omega) (by omega)]
theorem impl_inverse_ev (a : List Int) (ha : a.length ≤ 17592186044415) (hp : ∀ x ∈ a, 0 ≤ x ∧ x < a.length) : Ev (fun k => impl_inverse.f k a) (inverse a) := by
  unfold impl_inverse.f inverse
  refine ev_ite_true (by omega) (ev_ite_true (by omega) ?_)
  simp only [Int.toNat_natCast]
  exact impl_inverse_loop a (by omega) a [] _ rfl (fun x hx => by simpa using hp x hx)

theorem impl_RisingSequences_loop (m : List Int) (n : Nat) (hm : m.length = n) (hn : n ≤ 12) : ∀ (d i : Nat) (out : List (List Int)), i + d = n → Small out i → (0 < i → 0 < out.length) →
    Ev (fun k => impl_RisingSequences.l0 k out m (n : Int) (i : Int)) (riseFrom (fun v => rd m v) d out (i : Int)) := by
  intro d
  induction d with
  | zero =>
    intro i out hi hs hp
    refine Ev.step (f := fun _ => some _) (fun k => ?_) (Ev.now _)
    simp only [impl_RisingSequences.l0]
    rw [if_neg (by omega)]
    rfl
  | succ d ih =>
    intro i out hi hs hp
    have hs1 := hs.1
    have hw : wrap64 ((i : Int) + 1) = ((i + 1 : Nat) : Int) := by rw [w64 (by omega) (by omega)]; omega
    have hlen : ((out ++ [[]]).length : Int) - 1 = out.length := by simp
    have hl1 : (out ++ [[]]).length = out.length + 1 := by simp
    have hrd : rd_L2 (out ++ [[]]) (out.length : Int) = [] := by simp [rd_L2]
    have hset : (out ++ [[]]).set ((out.length : Int)).toNat ([] ++ [(i : Int)]) = out ++ [[(i : Int)]] := by simp
    rw [riseFrom]
    by_cases c0 : i = 0
    · have hc : (i : Int) = 0 ∨ (fun v => rd m v) (i : Int) < (fun v => rd m v) ((i : Int) - 1) := .inl (by omega)
      rw [if_pos hc]
      have hi2 := ih (i + 1) (out ++ [[(i : Int)]]) (by omega) (hs.new _) (fun _ => by simp)
      refine Ev.step (fun k => ?_) hi2
      simp only [impl_RisingSequences.l0]
      rw [if_pos (by omega), if_pos (by omega), if_pos (by omega)]
      simp only [Option.bind_some]
      rw [hlen, w64 (by omega) (by omega), if_pos (by omega), if_pos (by omega), hrd, if_pos (by simp), hset, hw]
    · have hq := hp (by omega)
      have hv : wrap64 ((i : Int) - 1) = (i : Int) - 1 := w64 (by omega) (by omega)
      by_cases c1 : rd m (i : Int) < rd m ((i : Int) - 1)
      · rw [if_pos (.inr c1)]
        have hi2 := ih (i + 1) (out ++ [[(i : Int)]]) (by omega) (hs.new _) (fun _ => by simp)
        refine Ev.step (fun k => ?_) hi2
        simp only [impl_RisingSequences.l0]
        rw [if_pos (by omega), if_neg (by omega), if_pos (by omega), if_pos (by omega), hv, if_pos (by omega), if_pos (by omega), if_pos c1, if_pos (by omega)]
        simp only [Option.bind_some]
        rw [hlen, w64 (by omega) (by omega), if_pos (by omega), if_pos (by omega), hrd, if_pos (by simp), hset, hw]
      · rw [if_neg (fun h => h.elim (by omega) c1)]
        have hi2 := ih (i + 1) (addLast out i) (by omega) (hs.more _) (fun _ => by rw [addLast_length]; exact hq)
        have hl := hs.last
        have hL : wrap64 ((out.length : Int) - 1) = ((out.length - 1 : Nat) : Int) := by rw [w64 (by omega) (by omega)]; omega
        have hrd2 : rd_L2 out ((out.length - 1 : Nat) : Int) = out.getD (out.length - 1) [] := by simp [rd_L2]
        refine Ev.step (fun k => ?_) hi2
        simp only [impl_RisingSequences.l0]
        rw [if_pos (by omega), if_neg (by omega), if_pos (by omega), if_pos (by omega), hv, if_pos (by omega), if_pos (by omega), if_neg c1, hL, if_pos (by omega), if_pos (by omega), hrd2, if_pos (by omega), hw, Int.toNat_natCast]
        rfl
theorem impl_RisingSequences_ev (a : List Int) (ha : a.length ≤ 9223372036854775806) : Ev (fun k => impl_RisingSequences.f k a) (rising a) := by
  unfold impl_RisingSequences.f rising
  refine Ev.bind (impl_PermOk_ev a ha) ?_
  by_cases h : permOk a = true
  · obtain ⟨p1, p2, p3⟩ := (permOk_iff a).1 h
    refine ev_ite_true h ?_
    rw [if_pos h]
    refine Ev.bind (impl_inverse_ev a (by omega) p1) ?_
    exact impl_RisingSequences_loop (inverse a) a.length (inverse_length a) p3 a.length 0 [] (by omega) ⟨by simp, by simp⟩ (by omega)
  · refine ev_ite_false h ?_
    rw [if_neg h]
    exact Ev.now _

theorem impl_IsRiffle_ev (a : List Int) (ha : a.length ≤ 9223372036854775806) : Ev (fun k => impl_IsRiffle.f k a) (isRiffle a) := by
  unfold impl_IsRiffle.f isRiffle
  refine Ev.bind (impl_PermOk_ev a ha) ?_
  by_cases h : permOk a = true
  · refine ev_ite_true h (Ev.bind (impl_RisingSequences_ev a ha) (ev_some fun _ => ?_))
    rw [h]; simp; omega
  · refine ev_ite_false h (ev_some fun _ => ?_)
    simp [h]

theorem impl_RiffleWays_ev (a : List Int) (ha : a.length ≤ 9223372036854775806) : Ev (fun k => impl_RiffleWays.f k a) (riffleWays a) := by
  unfold impl_RiffleWays.f riffleWays
  refine Ev.bind (impl_IsRiffle_ev a ha) ?_
  by_cases h : isRiffle a = true
  · refine ev_ite_true h (Ev.bind (impl_RisingSequences_ev a ha) ?_)
    rw [if_pos h]
    by_cases h2 : (rising a).length = 2
    · refine ev_ite_true (by omega) (ev_some fun _ => ?_)
      rw [if_pos h2]
    · refine ev_ite_false (by omega) (ev_some fun _ => ?_)
      rw [if_neg h2, w64 (by omega) (by omega)]
  · refine ev_ite_false h (ev_some fun _ => ?_)
    rw [if_neg h]

theorem impl_SplitOf_ev (a : List Int) (ha : a.length ≤ 9223372036854775806) : Ev (fun k => impl_SplitOf.f k a) (splitOf a) := by
  unfold impl_SplitOf.f splitOf
  refine Ev.bind (impl_RisingSequences_ev a ha) ?_
  by_cases h : (rising a).length = 2
  · refine ev_ite_true (by omega) (ev_ite_true (by omega) (ev_some fun _ => ?_))
    rw [if_pos h]; simp [rd_L2]
  · refine ev_ite_false (by omega) (ev_some fun _ => ?_)
    rw [if_neg h]

def rifL (n : Nat) : List (List Int) := sortU (rifs (upFrom 0 n))
def lenSum (r : List (List Int)) : Nat := (r.map List.length).sum
def waysSum (l : List (List Int)) : Int := (l.map riffleWays).sum
def rifAll (n : Nat) : Bool := (rifL n).all (fun a => isRiffle a && (decide (lenSum (rising a) = n) && decide (1 ≤ riffleWays a))) && (decide (waysSum (rifL n) = ((2 ^ n : Nat) : Int)) && packetOk (upFrom 0 n))
theorem rif_all : ∀ n, n < 8 → 1 ≤ n → rifAll n = true := by decide +kernel
theorem upFrom_iota : ∀ n, n < 8 → upFrom 0 n = iota n := by decide +kernel
theorem wv_filter (p : Int → Bool) : ∀ l : List Int, wv (l.map p) (l.filter fun x => !p x) (l.filter p) = l := by
  intro l
  induction l with
  | nil => rfl
  | cons x l ih =>
    cases h : p x with
    | true =>
      rw [List.map_cons, h, List.filter_cons_of_neg (by simp [h]), List.filter_cons_of_pos h]
      simp only [wv, List.headD_cons, List.tail_cons]
      rw [ih]
    | false =>
      rw [List.map_cons, h, List.filter_cons_of_pos (by simp [h]), List.filter_cons_of_neg (by simp [h])]
      simp only [wv, List.headD_cons, List.tail_cons]
      rw [ih]
theorem count_false_map (p : Int → Bool) : ∀ l : List Int, (l.map p).count false = (l.filter fun x => !p x).length := by
  intro l
  induction l with
  | nil => rfl
  | cons x l ih =>
    cases h : p x with
    | true => rw [List.map_cons, h, List.filter_cons_of_neg (by simp [h]), List.count_cons_of_ne (by simp), ih]
    | false => rw [List.map_cons, h, List.filter_cons_of_pos (by simp [h]), List.count_cons_self, ih, List.length_cons]
theorem riffle_mem {b : List Int} (hb : isRiffle b = true) (hn : 0 < b.length) : b ∈ rifs (upFrom 0 b.length) := by
  simp only [isRiffle, Bool.and_eq_true, decide_eq_true_eq] at hb
  obtain ⟨hp, hr⟩ := hb
  have h1 := rising_before hp hn
  have h2 : (rising (beforeP b)).length = 1 := by omega
  have h3 := one_rising (permOk_perm (beforeP_perm b) hp) (by rw [beforeP_length]; exact hn) h2
  rw [beforeP_length] at h3
  have e : rif (upFrom 0 b.length) (b.map (oddAt b)) = b := by
    rw [← h3]
    unfold rif beforeP
    rw [count_false_map, List.take_left, List.drop_left]
    exact wv_filter _ b
  unfold rifs
  rw [mem_masks]
  exact ⟨b.map (oddAt b), by rw [List.length_map, upFrom_length], e.symm⟩
theorem result_riffle {n : Nat} (h1 : 1 ≤ n) (hn : n < 8) (b : List Int) (hb : permOk b = true) (hl : b.length = n) : ((rifL n).any fun x => decide (x = b)) = isRiffle b := by
  have hall := rif_all n hn h1
  simp only [rifAll, Bool.and_eq_true, List.all_eq_true, decide_eq_true_eq] at hall
  rw [Bool.eq_iff_iff, List.any_eq_true]
  constructor
  · rintro ⟨x, hx, e⟩
    rw [decide_eq_true_eq] at e
    subst e
    exact (hall.1 x hx).1
  · intro h
    have := riffle_mem h (by omega)
    rw [hl] at this
    exact ⟨b, (mem_sortU b _).2 this, by simp⟩
theorem waysSum_nonneg : ∀ l : List (List Int), (∀ x ∈ l, 1 ≤ riffleWays x) → 0 ≤ waysSum l := by
  intro l
  induction l with
  | nil => intro _; simp [waysSum]
  | cons x l ih =>
    intro h
    have h1 := h x (by simp)
    have h2 := ih (fun y hy => h y (by simp [hy]))
    simp only [waysSum, List.map_cons, List.sum_cons] at h2 ⊢
    omega
theorem rif_l1 (a : List Int) (n : Nat) (r : List (List Int)) (hn : n < 8) (L : List (List Int)) (hL : L.length ≤ 4096) (hs : ∀ x ∈ L, 1 ≤ riffleWays x ∧ x.length ≤ 12) (hr : r = rising a) (ha : a.length ≤ 12) (hrl : ∀ l ∈ r, l.length ≤ 12) : ∀ (rest pre : List (List Int)) (m : Int), L = pre ++ rest → 0 ≤ m → m + waysSum rest = ((2 ^ n : Nat) : Int) →
    Ev (fun k => laws_FnRiffles.l1 k a (n : Int) r true m L (L.length : Int) (pre.length : Int)) true := by
  have hp : 2 ^ n ≤ 2 ^ 7 := Nat.pow_le_pow_right (by omega) (by omega)
  intro rest
  induction rest with
  | nil =>
    intro pre m h h0 hm
    have e : L.length = pre.length := by rw [h]; simp
    have hm' : m = ((2 ^ n : Nat) : Int) := by simpa [waysSum] using hm
    have hS := impl_SplitOf_ev a (by omega)
    by_cases c : (r.length : Int) = 2
    · have hlen : (rising a).length = 2 := by rw [← hr]; omega
      have es : splitOf a = ((rd_L2 r 0).length : Int) := by
        unfold splitOf
        rw [if_pos hlen, hr]
        rfl
      rw [es] at hS
      refine Ev.step (f := fun k => (impl_SplitOf.f k a).bind fun t => (if 0 < (r.length : Int) then (some (t == ((rd_L2 r 0).length : Int))) else (none))) (fun k => ?_) (Ev.bind hS (ev_ite_true (by omega) ?_))
      · rw [laws_FnRiffles.l1, if_neg (by omega), if_pos rfl, if_pos (by omega), two_shl n (by omega), if_pos hm', if_pos c]
      · rw [beq_self_eq_true]
        exact Ev.now _
    · refine Ev.step (f := fun _ => some _) (fun k => ?_) (Ev.now _)
      rw [laws_FnRiffles.l1, if_neg (by omega), if_pos rfl, if_pos (by omega), two_shl n (by omega), if_pos hm', if_neg c]
  | cons x rest ih =>
    intro pre m h h0 hm
    have e : L.length = pre.length + (rest.length + 1) := by rw [h]; simp
    have hx := hs x (by rw [h]; simp)
    have hrd : rd_L2 L (pre.length : Int) = x := by rw [h]; simp [rd_L2]
    have ew : wrap64 ((pre.length : Int) + 1) = ((pre ++ [x]).length : Int) := by rw [w64 (by omega) (by omega)]; simp
    have hrest := waysSum_nonneg rest (fun y hy => (hs y (by rw [h]; simp [hy])).1)
    have hsum : m + riffleWays x + waysSum rest = ((2 ^ n : Nat) : Int) := by
      simp only [waysSum, List.map_cons, List.sum_cons] at hm ⊢
      omega
    have ew2 : wrap64 (m + riffleWays x) = m + riffleWays x := w64 (by omega) (by omega)
    refine Ev.step (f := fun k => (impl_RiffleWays.f k x).bind fun t => if t < 1 then some false else laws_FnRiffles.l1 k a (n : Int) r true (wrap64 (m + t)) L (L.length : Int) ((pre ++ [x]).length : Int)) (fun k => ?_) (Ev.bind (impl_RiffleWays_ev x (by omega)) (ev_ite_false (by omega) ?_))
    · rw [laws_FnRiffles.l1, if_pos (by omega), if_pos (by omega), if_pos (by omega), hrd, ew]
    · rw [ew2]
      exact ih (pre ++ [x]) _ (by rw [h]; simp) (by omega) hsum
theorem count_ok (n : Nat) (h1 : 1 ≤ n) (hn : n < 8) : impl_CountRiffles.f (n : Int) = some (wrap64 ((Go.Proofs.YtdgoeomelnlekaaW.PrintWords.shl .i64 1 (n : Int)) - n)) := by
  unfold impl_CountRiffles.f
  rw [if_neg (by omega), if_neg (by omega), if_pos (by omega)]
theorem rif_l0 (a b : List Int) (n : Nat) (r : List (List Int)) (h1 : 1 ≤ n) (hn : n < 8) (hb : permOk b = true) (hbl : b.length = n) (ha : isRiffle a = true) (hal : a.length ≤ 12) (hr : r = rising a) (hlens : lenSum r = n) : ∀ (rest pre : List (List Int)) (m : Nat), r = pre ++ rest → m + lenSum rest = n →
    Ev (fun k => laws_FnRiffles.l0 k a (n : Int) b r (m : Int) r (r.length : Int) (pre.length : Int)) true := by
  have hsm := rising_small a
  rw [← hr] at hsm
  have hall := rif_all n hn h1
  simp only [rifAll, Bool.and_eq_true, List.all_eq_true, decide_eq_true_eq] at hall
  obtain ⟨hA, hW, hP⟩ := hall
  have hlP : (upFrom 0 n).length = n := upFrom_length n 0
  have hwf := packet_wf hP
  have hch : choiceOk (upFrom 0 n) 2 := ⟨hP, by omega, by omega, by omega, fun e => by omega, fun _ => by omega⟩
  have eres : resultsOf (upFrom 0 n) 2 = (rifL n, true) := by
    unfold resultsOf
    rw [if_pos hch]
    rfl
  have hNP : newPacket (n : Int) = upFrom 0 n := by
    unfold newPacket
    rw [if_pos (by omega), Int.toNat_natCast]
  have hN := impl_NewPacket_ev (n : Int)
  rw [hNP] at hN
  have hRes := impl_ResultsOf_ev (upFrom 0 n) 2 (by omega) hwf
  rw [eres] at hRes
  have hIs := impl_IsResult_ev (upFrom 0 n) 2 b (by omega) hwf
  rw [eres, result_riffle h1 hn b hb hbl] at hIs
  have hlen2 : r.length ≤ 2 := by
    simp only [isRiffle, Bool.and_eq_true, decide_eq_true_eq] at ha
    rw [hr]; exact ha.2
  have hsmall := resultsOf_small (upFrom 0 n) 2
  rw [eres] at hsmall
  have hl1 := rif_l1 a n r hn (rifL n) hsmall.1 (fun x hx => ⟨(hA x hx).2.2, hsmall.2 x hx⟩) hr hal hsm.2 (rifL n) [] 0 rfl (by omega) (by rw [hW]; omega)
  have hj : Ev (fun k => laws_FnRiffles.j1 k a (n : Int) r false) true := by
    refine Ev.step (f := fun k => (impl_NewPacket.f k (n : Int)).bind fun t562 => ((impl_ResultsOf.f k t562 2).bind fun bt565 => (laws_FnRiffles.l1 k a (n : Int) r bt565.2 0 bt565.1 (bt565.1.length : Int) 0))) (fun k => ?_) (Ev.bind hN (Ev.bind hRes hl1))
    rw [laws_FnRiffles.j1, if_neg (by simp)]
  intro rest
  induction rest with
  | nil =>
    intro pre m h hm
    have e : r.length = pre.length := by rw [h]; simp
    have hm' : m = n := by simpa [lenSum] using hm
    have hI := impl_IsRiffle_ev a (by omega)
    rw [ha] at hI
    have hIb := impl_IsRiffle_ev b (by omega)
    refine Ev.step (f := fun k => (impl_IsRiffle.f k a).bind fun t555 => (if t555 = true then (if (m : Int) = (n : Int) then (if (r.length : Int) > 2 then (laws_FnRiffles.j1 k a (n : Int) r true) else ((impl_CountRiffles.f (n : Int)).bind fun t556 => (if 0 ≤ (n : Int) then (if t556 = (wrap64 ((Go.Proofs.YtdgoeomelnlekaaW.PrintWords.shl .i64 1 (n : Int)) - n)) then ((impl_IsRiffle.f k b).bind fun t557 => ((impl_NewPacket.f k (n : Int)).bind fun t558 => ((impl_IsResult.f k t558 2 b).bind fun t561 => (laws_FnRiffles.j1 k a (n : Int) r (t557 != t561))))) else (laws_FnRiffles.j1 k a (n : Int) r true)) else (none)))) else (laws_FnRiffles.j1 k a (n : Int) r true)) else (laws_FnRiffles.j1 k a (n : Int) r true))) (fun k => ?_) (Ev.bind hI (ev_ite_true rfl (ev_ite_true (by omega) (ev_ite_false (by omega) ?_))))
    · rw [laws_FnRiffles.l0, if_neg (by omega)]
    · rw [count_ok n h1 hn]
      simp only [Option.bind_some]
      refine ev_ite_true (by omega) (ev_ite_true (by first | trivial | rfl) (Ev.bind hIb (Ev.bind hN (Ev.bind hIs ?_))))
      rw [bne_self_eq_false]
      exact hj
  | cons x rest ih =>
    intro pre m h hm
    have e : r.length = pre.length + (rest.length + 1) := by rw [h]; simp
    have hrd : rd_L2 r (pre.length : Int) = x := by rw [h]; simp [rd_L2]
    have ew : wrap64 ((pre.length : Int) + 1) = ((pre ++ [x]).length : Int) := by rw [w64 (by omega) (by omega)]; simp
    have hm2 : m + x.length + lenSum rest = n := by simp only [lenSum, List.map_cons, List.sum_cons] at hm ⊢; omega
    have ew2 : wrap64 ((m : Int) + (x.length : Int)) = ((m + x.length : Nat) : Int) := by rw [w64 (by omega) (by omega)]; omega
    refine Ev.step (fun k => ?_) (ih (pre ++ [x]) (m + x.length) (by rw [h]; simp) hm2)
    rw [laws_FnRiffles.l0, if_pos (by omega), if_pos (by omega), if_pos (by omega), hrd, ew, ew2]
theorem FnRiffles : laws_FnRiffles.Pure := by
  intro code c1 c2 hw
  unfold laws_FnRiffles.f
  by_cases g : (code.length : Int) > 1048576
  · exact ⟨0, by rw [if_pos g]⟩
  simp only [if_neg g]
  obtain ⟨h, hN⟩ := new_ok code (by omega)
  obtain ⟨b, t1, t2, hb, b0, b8, ht⟩ := below_ok code 0 h 7 (by omega) (by omega) (by omega) (by omega)
  have ew : wrap64 (1 + b) = 1 + b := w64 (by omega) (by omega)
  obtain ⟨n, hn⟩ : ∃ n : Nat, 1 + b = (n : Int) := ⟨(1 + b).toNat, by omega⟩
  have ew' : wrap64 (1 + b) = (n : Int) := by rw [ew, hn]
  have h1 : 1 ≤ n := by omega
  have h8 : n < 8 := by omega
  have hall := rif_all n h8 h1
  simp only [rifAll, Bool.and_eq_true, List.all_eq_true, decide_eq_true_eq] at hall
  obtain ⟨hA, hW, hP⟩ := hall
  have hlP : (upFrom 0 n).length = n := upFrom_length n 0
  have hch : choiceOk (upFrom 0 n) 2 := ⟨hP, by omega, by omega, by omega, fun e => by omega, fun _ => by omega⟩
  have hNP : newPacket (n : Int) = upFrom 0 n := by
    unfold newPacket
    rw [if_pos (by omega), Int.toNat_natCast]
  have hS := spec_NewPacket_ev (n : Int)
  rw [hNP] at hS
  have hO := spec_l05Of_ev (upFrom 0 n) 2 hch
  have hT := spec_sorted_ev (upFrom 0 n) 2 hch
  have eT : sortU (choiceU (upFrom 0 n) 2) = rifL n := rfl
  rw [eT] at hT
  have hcnt : (rifL n).length = 2 ^ n - n := by
    unfold rifL
    rw [upFrom_iota n h8]
    exact rifs_counts n h8
  have hp1 : n < 2 ^ n := Nat.lt_two_pow_self
  have hp2 : 2 ^ n ≤ 2 ^ 7 := Nat.pow_le_pow_right (by omega) (by omega)
  obtain ⟨c, u1, u2, hc, d0, d8, hu⟩ := below_ok code t1 t2 ((rifL n).length : Int) (by omega) ht (by omega) (by omega)
  obtain ⟨a, hadef⟩ : ∃ a, a = rd_L2 (rifL n) c := ⟨_, rfl⟩
  have hmem : a ∈ rifL n := by
    have hlt : c.toNat < (rifL n).length := by omega
    have : rd_L2 (rifL n) c = (rifL n)[c.toNat] := by simp [rd_L2, hlt]
    rw [hadef, this]
    exact List.getElem_mem hlt
  have hal : a.length = n := by
    have := choiceU_len (upFrom 0 n) 2 (fun e => by omega) a ((mem_sortU a _).1 hmem)
    rw [this, hlP]
  have hM : Ev (fun k => spec_MakeRiffle.f k code) a := by
    unfold spec_MakeRiffle.f
    refine Ev.bind hN ?_
    simp only [hb, Option.bind_some, ew']
    refine Ev.bind hS (Ev.bind hO (Ev.bind hT ?_))
    simp only [hc, Option.bind_some, ← hadef]
    exact ev_ite_true d0 (ev_ite_true d8 (Ev.now _))
  obtain ⟨q, hq1, hq2, hQ⟩ := makePerm_ok code (by omega) 20 (by omega) (n : Int) (by omega) (by omega)
  obtain ⟨ha1, ha2, ha3⟩ := hA a hmem
  have hl0 := rif_l0 a q n (rising a) h1 h8 hq1 (by omega) ha1 (by omega) rfl ha2 (rising a) [] 0 rfl (by rw [ha2]; omega)
  refine Ev.rounds (Ev.bind hM ?_)
  rw [hal]
  exact Ev.bind hQ (Ev.bind (impl_RisingSequences_ev a (by omega)) hl0)

end Go.Proofs.Ytdgoeomelnlekaa.Pure
