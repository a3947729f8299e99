/- For every code: the permutation that it makes is a Gilbreath permutation, there are as many as there should be, each size has its blocks, and the pairs of its colors differ. No conditions. -/
import Derived.Test.YtmhfnacbmajdjaaMFnGilbreathx0
import Derived.Test.YtmhfnacbmajdjaaMFnGilbreathx1
import Derived.Test.YtmhfnacbmajdjaaMFnGilbreathx2
import Derived.Test.YtmhfnacbmajdjaaMFnGilbreathx3
import Derived.Test.YtmhfnacbmajdjaaMFnGilbreathx4
import Derived.Test.YtmhfnacbmajdjaaMFnGilbreathx5
import Derived.Test.YtmhfnacbmajdjaaMFnGilbreathx6
import Derived.OpenShut
namespace Go.Proofs.Ytmhfnacbmajdjaa.Pure
open Go.RowKit Go.Proofs.Ytmhfnacbmajdjaa.MFnGilbreath Go.Proofs.YtmhfnacbmajdjaaW.PrintWords Go.Proofs.YtmhfnacbmajdjaaW.PrintLast
set_option linter.unusedVariables false
set_option linter.unusedSimpArgs false

/-! ### base: numbers, reads, loops -/
theorem w64 {a : Int} (h0 : -9223372036854775808 ≤ a) (h1 : a ≤ 9223372036854775807) : wrap64 a = a := by
  unfold wrap64
  omega
theorem w64n {n : Nat} (h : n ≤ 9223372036854775807) : wrap64 (n : Int) = n := w64 (by omega) (by omega)
theorem bd64 {n : Int} (h : (Lit.int .i64 n).wf = true) : -9223372036854775808 ≤ n ∧ n ≤ 9223372036854775807 := Go.bounds_i64 h
theorem rd_nat (xs : List Int) (i : Nat) : rd xs (i : Int) = xs.getD i 0 := by simp [rd]
theorem rd_lt {xs : List Int} {i : Nat} (h : i < xs.length) : rd xs (i : Int) = xs[i] := by simp [rd, h]
theorem bt_nat {s : ByteArray} {i : Nat} (h : i < s.size) : bt s (i : Int) = (s[i].toNat : Int) := by simp [bt, h]
/-- Going up to n: what holds at n holds from i on. -/
theorem up_ind (n : Nat) (P : Nat → Prop) (h0 : P n) (hs : ∀ i, i < n → P (i + 1) → P i) : ∀ i, i ≤ n → P i := by
  have h : ∀ d i, i + d = n → P i := by
    intro d
    induction d with
    | zero => intro i hi; obtain rfl : i = n := by omega
              exact h0
    | succ d ih => intro i hi; exact hs i (by omega) (ih (i + 1) (by omega))
  intro i hi
  exact h (n - i) i (by omega)
theorem ev_some {α : Type} {g : Nat → Option α} {r : α} (h : ∀ k, g k = some r) : Ev g r := ⟨0, fun k _ => h k⟩
theorem ev_pair {α β : Type} {g : Nat → Option α} {f : Nat → Option β} {a : α} {b : β} {h : α → β → Option Bool} (hg : Ev g a) (hf : Ev f b) (hh : h a b = some true) : ∃ k, ((g k).bind fun x => (f k).bind fun y => h x y) = some true :=
  Ev.rounds (Ev.bind hg (Ev.bind hf (ev_some fun _ => hh)))

/-- What every law of one list does: it hands a copy to the reference and one to the program, compares, and looks at the copy. -/
theorem ev_ite_true {α : Type} {f g : Nat → Option α} {r : α} {c : Prop} [Decidable c] (h : c) (k : Ev f r) : Ev (fun n => if c then f n else g n) r := by simpa only [if_pos h] using k
theorem ev_ite_false {α : Type} {f g : Nat → Option α} {r : α} {c : Prop} [Decidable c] (h : ¬ c) (k : Ev g r) : Ev (fun n => if c then f n else g n) r := by simpa only [if_neg h] using k

theorem and255 (x : Int) : 0 ≤ Go.bits .and .i64 x 255 ∧ Go.bits .and .i64 x 255 ≤ 255 := by
  have h : (BitVec.ofInt 64 x &&& BitVec.ofInt 64 255).toNat ≤ 255 := by
    rw [BitVec.toNat_and]
    exact Nat.le_trans Nat.and_le_right (by decide)
  have e : Go.bits .and .i64 x 255 = (((BitVec.ofInt 64 x &&& BitVec.ofInt 64 255).toNat : Nat) : Int) := by
    have : Go.bits .and .i64 x 255 = IntKind.i64.wrap (((BitVec.ofInt 64 x &&& BitVec.ofInt 64 255).toNat : Nat) : Int) := rfl
    rw [this, i64_w, w64 (by omega) (by omega)]
  rw [e]
  omega
theorem byte_ok (s0 : List Int) (s1 s2 : Int) (hl : s0.length ≤ 1048576) (h : 0 ≤ s1) : ∃ b t1 t2, spec_l01Byte.f s0 s1 s2 = some (b, t1, t2) ∧ 0 ≤ b ∧ b ≤ 255 ∧ 0 ≤ t1 := by
  unfold spec_l01Byte.f
  by_cases c : s1 < (s0.length : Int)
  · rw [if_pos c, if_pos h]
    exact ⟨_, _, _, rfl, (and255 _).1, (and255 _).2, by rw [w64 (by omega) (by omega)]; omega⟩
  · rw [if_neg c]
    exact ⟨_, _, _, rfl, (and255 _).1, (and255 _).2, h⟩
theorem below_ok (s0 : List Int) (s1 s2 n : Int) (hl : s0.length ≤ 1048576) (h : 0 ≤ s1) (hn : 1 ≤ n) (hm : n ≤ 256) : ∃ b t1 t2, spec_l01Below.f s0 s1 s2 n = some (b, t1, t2) ∧ 0 ≤ b ∧ b < n ∧ 0 ≤ t1 := by
  unfold spec_l01Below.f
  obtain ⟨b, t1, t2, e, b0, b1, ht⟩ := byte_ok s0 s1 s2 hl h
  rw [if_neg (by omega), if_pos hm, e]
  simp only [Option.bind_some]
  rw [if_neg (by omega)]
  refine ⟨_, _, _, rfl, ?_, ?_, ht⟩
  · rw [Int.tmod_eq_emod_of_nonneg b0]; exact Int.emod_nonneg _ (by omega)
  · rw [Int.tmod_eq_emod_of_nonneg b0]; exact Int.emod_lt_of_pos _ (by omega)
theorem new_loop (l : List Int) (hl : l.length ≤ 1048576) : ∀ (d : Nat) (i : Nat) (x : Int), l.length ≤ i + d → i ≤ l.length → ∃ h, Ev (fun k => spec_l01New.l0 k l x (i : Int)) (l, 0, h) := by
  intro d
  induction d with
  | zero =>
    intro i x hi hj
    refine ⟨x, Ev.step (f := fun _ => some _) (fun k => ?_) (Ev.now _)⟩
    simp only [spec_l01New.l0]
    rw [if_neg (by omega)]
  | succ d ih =>
    intro i x hi hj
    by_cases c : i < l.length
    · by_cases c2 : (i : Int) < 4000
      · obtain ⟨h, hh⟩ := ih (i + 1) (Go.bits .and .i64 (wrap64 ((wrap64 ((wrap64 (x * 101)) + (wrap64 (rd l i)))) + 7)) 1073741823) (by omega) (by omega)
        refine ⟨h, Ev.step (fun k => ?_) hh⟩
        simp only [spec_l01New.l0]
        rw [if_pos (by omega), if_pos c2, if_pos (by omega), w64 (a := (i : Int) + 1) (by omega) (by omega)]
        rfl
      · refine ⟨x, Ev.step (f := fun _ => some _) (fun k => ?_) (Ev.now _)⟩
        simp only [spec_l01New.l0]
        rw [if_pos (by omega), if_neg c2]
    · refine ⟨x, Ev.step (f := fun _ => some _) (fun k => ?_) (Ev.now _)⟩
      simp only [spec_l01New.l0]
      rw [if_neg (by omega)]
theorem new_ok (l : List Int) (hl : l.length ≤ 1048576) : ∃ h, Ev (fun k => spec_l01New.f k l) (l, 0, h) := new_loop l hl l.length 0 _ (by omega) (by omega)

/-! ### gil0: the Gilbreath permutations, on lists -/
def gilU : Nat → List Int → Int → Int → Int → List (List Int)
  | 0, a, _, _, _ => [a]
  | d + 1, a, low, high, n => (if low > 0 then gilU d (a ++ [low - 1]) (low - 1) high n else []) ++ (if high < n - 1 then gilU d (a ++ [high + 1]) low (high + 1) n else [])
def gilsU (n : Nat) : List (List Int) := (List.range' 0 n).flatMap fun x : Nat => gilU (n - 1) [(x : Int)] (x : Int) (x : Int) (n : Int)
theorem gilU_count : ∀ (d : Nat) (a : List Int) (low high n : Int), (gilU d a low high n).length ≤ 2 ^ d := by
  intro d
  induction d with
  | zero => intro a low high n; simp [gilU]
  | succ d ih =>
    intro a low high n
    rw [gilU, List.length_append, Nat.pow_succ]
    have h1 : (if low > 0 then gilU d (a ++ [low - 1]) (low - 1) high n else ([] : List (List Int))).length ≤ 2 ^ d := by
      split
      · exact ih _ _ _ _
      · simp
    have h2 : (if high < n - 1 then gilU d (a ++ [high + 1]) low (high + 1) n else ([] : List (List Int))).length ≤ 2 ^ d := by
      split
      · exact ih _ _ _ _
      · simp
    omega
theorem gilU_len : ∀ (d : Nat) (a : List Int) (low high n : Int), ∀ x ∈ gilU d a low high n, x.length = a.length + d := by
  intro d
  induction d with
  | zero => intro a low high n x hx; rw [gilU, List.mem_singleton] at hx; rw [hx]; rfl
  | succ d ih =>
    intro a low high n x hx
    rw [gilU, List.mem_append] at hx
    rcases hx with hx | hx
    · split at hx
      · have := ih _ _ _ _ x hx; rw [this, List.length_append, List.length_singleton]; omega
      · simp at hx
    · split at hx
      · have := ih _ _ _ _ x hx; rw [this, List.length_append, List.length_singleton]; omega
      · simp at hx
def gilsOf (n : Int) : List (List Int) := if n < 1 then [] else if n > 12 then [] else gilsU n.toNat
theorem pow_4096 {d : Nat} (h : d ≤ 12) : 2 ^ d ≤ 4096 := Nat.pow_le_pow_right (by omega) h
theorem pow_2048 {d : Nat} (h : d ≤ 11) : 2 ^ d ≤ 2048 := Nat.pow_le_pow_right (by omega) h
theorem gilsU_small (n : Nat) (h1 : 1 ≤ n) (hn : n ≤ 12) : (gilsU n).length ≤ 12 * 2048 ∧ ∀ x ∈ gilsU n, x.length = n := by
  constructor
  · have : ∀ l : List Nat, (l.flatMap fun x : Nat => gilU (n - 1) [(x : Int)] (x : Int) (x : Int) (n : Int)).length ≤ l.length * 2048 := by
      intro l
      induction l with
      | nil => simp
      | cons x l ih =>
        rw [List.flatMap_cons, List.length_append, List.length_cons, Nat.succ_mul]
        have := gilU_count (n - 1) [(x : Int)] x x n
        have := pow_2048 (d := n - 1) (by omega)
        omega
    have h := this (List.range' 0 n)
    rw [List.length_range'] at h
    exact Nat.le_trans h (Nat.mul_le_mul_right _ hn)
  · intro x hx
    obtain ⟨i, _, hx⟩ := List.mem_flatMap.1 hx
    rw [gilU_len _ _ _ _ _ x hx, List.length_singleton]
    omega
theorem gilsOf_small (n : Int) : (gilsOf n).length ≤ 24576 ∧ ∀ x ∈ gilsOf n, x.length ≤ 12 := by
  unfold gilsOf
  split
  · exact ⟨by simp, fun x hx => by simp at hx⟩
  split
  · exact ⟨by simp, fun x hx => by simp at hx⟩
  · obtain ⟨h1, h2⟩ := gilsU_small n.toNat (by omega) (by omega)
    exact ⟨h1, fun x hx => by rw [h2 x hx]; omega⟩

theorem impl_gilbreaths_ev : ∀ (d : Nat) (a : List Int) (low high n : Int), (a.length : Int) + d = n → n ≤ 12 → 0 ≤ low → low ≤ 20 → -20 ≤ high → high ≤ 40 - d → Ev (fun k => impl_gilbreaths.f k n a low high) (gilU d a low high n) := by
  intro d
  induction d with
  | zero =>
    intro a low high n h hn h0 h1 h2 h3
    refine Ev.step (f := fun _ => some _) (fun k => ?_) (Ev.now _)
    rw [impl_gilbreaths.f, if_pos (by omega)]
    rfl
  | succ d ih =>
    intro a low high n h hn h0 h1 h2 h3
    have e1 : Ev (fun k => if low > 0 then impl_gilbreaths.f k n (a ++ [wrap64 (low - 1)]) (wrap64 (low - 1)) high else some []) (if low > 0 then gilU d (a ++ [low - 1]) (low - 1) high n else []) := by
      by_cases c : low > 0
      · simp only [if_pos c, w64 (show -9223372036854775808 ≤ low - 1 by omega) (show low - 1 ≤ 9223372036854775807 by omega)]
        exact ih _ _ _ _ (by rw [List.length_append, List.length_singleton]; omega) hn (by omega) (by omega) h2 (by omega)
      · simp only [if_neg c]
        exact Ev.now _
    have e2 : Ev (fun k => if high < wrap64 (n - 1) then impl_gilbreaths.f k n (a ++ [wrap64 (high + 1)]) low (wrap64 (high + 1)) else some []) (if high < n - 1 then gilU d (a ++ [high + 1]) low (high + 1) n else []) := by
      simp only [w64 (show -9223372036854775808 ≤ n - 1 by omega) (show n - 1 ≤ 9223372036854775807 by omega)]
      by_cases c : high < n - 1
      · simp only [if_pos c, w64 (show -9223372036854775808 ≤ high + 1 by omega) (show high + 1 ≤ 9223372036854775807 by omega)]
        exact ih _ _ _ _ (by rw [List.length_append, List.length_singleton]; omega) hn h0 h1 (by omega) (by omega)
      · simp only [if_neg c]
        exact Ev.now _
    have hc := gilU_count (d + 1) a low high n
    rw [gilU, List.length_append] at hc
    have hp := pow_4096 (d := d + 1) (by omega)
    have hlt : (if low > 0 then gilU d (a ++ [low - 1]) (low - 1) high n else ([] : List (List Int))).length + (if high < n - 1 then gilU d (a ++ [high + 1]) low (high + 1) n else ([] : List (List Int))).length < 5864062014805 := by omega
    refine Ev.step (f := fun k => (if low > 0 then impl_gilbreaths.f k n (a ++ [wrap64 (low - 1)]) (wrap64 (low - 1)) high else some []).bind fun o1 => (if high < wrap64 (n - 1) then impl_gilbreaths.f k n (a ++ [wrap64 (high + 1)]) low (wrap64 (high + 1)) else some []).bind fun o2 => if o1.length + o2.length < 5864062014805 then some (o1 ++ o2) else none) (fun k => ?_) (Ev.bind e1 (Ev.bind e2 ?_))
    · rw [impl_gilbreaths.f, if_neg (by omega), if_pos (by omega)]
    · rw [gilU]
      exact ev_ite_true hlt (Ev.now _)
theorem impl_GilbreathsOf_loop (n : Nat) (h1 : 1 ≤ n) (hn : n ≤ 12) : ∀ (d i : Nat) (out : List (List Int)), i + d = n → out.length + d * 2048 ≤ 100000 →
    Ev (fun k => impl_GilbreathsOf.l0 k (n : Int) out (i : Int)) (out ++ (List.range' i d).flatMap fun x : Nat => gilU (n - 1) [(x : Int)] (x : Int) (x : Int) (n : Int)) := by
  intro d
  induction d with
  | zero =>
    intro i out hi ho
    refine Ev.step (f := fun _ => some _) (fun k => ?_) (Ev.now _)
    simp only [impl_GilbreathsOf.l0]
    rw [if_neg (by omega)]
    simp
  | succ d ih =>
    intro i out hi ho
    have hc := gilU_count (n - 1) [(i : Int)] i i n
    have hp := pow_2048 (d := n - 1) (by omega)
    have hh := ih (i + 1) (out ++ gilU (n - 1) [(i : Int)] (i : Int) (i : Int) (n : Int)) (by omega) (by rw [List.length_append]; omega)
    rw [List.range'_succ, List.flatMap_cons, ← List.append_assoc]
    refine Ev.step (f := fun k => (impl_gilbreaths.f k (n : Int) [(i : Int)] i i).bind fun t => if out.length + t.length < 5864062014805 then impl_GilbreathsOf.l0 k (n : Int) (out ++ t) ((i + 1 : Nat) : Int) else none) (fun k => ?_) (Ev.bind (impl_gilbreaths_ev (n - 1) [(i : Int)] i i n (by rw [List.length_singleton]; omega) (by omega) (by omega) (by omega) (by omega) (by omega)) ?_)
    · simp only [impl_GilbreathsOf.l0]
      rw [if_pos (by omega), w64 (by omega) (by omega)]
      rfl
    · simp only [if_pos (show out.length + (gilU (n - 1) [(i : Int)] (i : Int) (i : Int) (n : Int)).length < 5864062014805 by omega)]
      exact hh
theorem impl_GilbreathsOf_ev (n : Int) : Ev (fun k => impl_GilbreathsOf.f k n) (gilsOf n) := by
  unfold impl_GilbreathsOf.f gilsOf
  by_cases c1 : n < 1
  · simp only [if_pos c1]
    exact Ev.now _
  simp only [if_neg c1]
  by_cases c2 : n > 12
  · simp only [if_pos c2]
    exact Ev.now _
  simp only [if_neg c2]
  have h := impl_GilbreathsOf_loop n.toNat (by omega) (by omega) n.toNat 0 [] (by omega) (by simp only [List.length_nil]; omega)
  rw [Int.toNat_of_nonneg (by omega)] at h
  rw [gilsU, Int.toNat_of_nonneg (by omega)]
  exact h

theorem spec_l01In_eq (a b c : Int) : spec_l01In.f a b c = some (decide (b ≤ a ∧ a ≤ c)) := by
  unfold spec_l01In.f
  by_cases h : a ≥ b
  · rw [if_pos h]; simp; omega
  · rw [if_neg h]; simp; omega

theorem spec_l07Grow_ev : ∀ (d : Nat) (out : List (List Int)) (a : List Int) (low high n : Int), (a.length : Int) + d = n → n ≤ 12 → 0 ≤ low → low ≤ 20 → -20 ≤ high → high ≤ 40 - d → out.length + 2 ^ d ≤ 1000000 → Ev (fun k => spec_l07Grow.f k out a low high n) (out ++ gilU d a low high n) := by
  intro d
  induction d with
  | zero =>
    intro out a low high n h hn h0 h1 h2 h3 ho
    refine Ev.step (f := fun _ => some _) (fun k => ?_) (Ev.now _)
    rw [spec_l07Grow.f, if_pos (by omega), if_pos (by omega)]
    rfl
  | succ d ih =>
    intro out a low high n h hn h0 h1 h2 h3 ho
    rw [Nat.pow_succ] at ho
    have e1 : Ev (fun k => if low > 0 then spec_l07Grow.f k out (a ++ [wrap64 (low - 1)]) (wrap64 (low - 1)) high n else some out) (out ++ (if low > 0 then gilU d (a ++ [low - 1]) (low - 1) high n else [])) := by
      by_cases c : low > 0
      · simp only [if_pos c, w64 (show -9223372036854775808 ≤ low - 1 by omega) (show low - 1 ≤ 9223372036854775807 by omega)]
        exact ih _ _ _ _ _ (by rw [List.length_append, List.length_singleton]; omega) hn (by omega) (by omega) h2 (by omega) (by omega)
      · simp only [if_neg c, List.append_nil]
        exact Ev.now _
    have hl : (out ++ (if low > 0 then gilU d (a ++ [low - 1]) (low - 1) high n else [])).length ≤ out.length + 2 ^ d := by
      rw [List.length_append]
      have : (if low > 0 then gilU d (a ++ [low - 1]) (low - 1) high n else ([] : List (List Int))).length ≤ 2 ^ d := by
        split
        · exact gilU_count _ _ _ _ _
        · simp
      omega
    generalize hO : out ++ (if low > 0 then gilU d (a ++ [low - 1]) (low - 1) high n else []) = O at e1 hl
    have e2 : Ev (fun k => if high < wrap64 (n - 1) then spec_l07Grow.f k O (a ++ [wrap64 (high + 1)]) low (wrap64 (high + 1)) n else some O) (O ++ (if high < n - 1 then gilU d (a ++ [high + 1]) low (high + 1) n else [])) := by
      simp only [w64 (show -9223372036854775808 ≤ n - 1 by omega) (show n - 1 ≤ 9223372036854775807 by omega)]
      by_cases c : high < n - 1
      · simp only [if_pos c, w64 (show -9223372036854775808 ≤ high + 1 by omega) (show high + 1 ≤ 9223372036854775807 by omega)]
        exact ih _ _ _ _ _ (by rw [List.length_append, List.length_singleton]; omega) hn h0 h1 (by omega) (by omega) (by omega)
      · simp only [if_neg c, List.append_nil]
        exact Ev.now _
    have ee : out ++ gilU (d + 1) a low high n = O ++ (if high < n - 1 then gilU d (a ++ [high + 1]) low (high + 1) n else []) := by
      rw [gilU, ← hO, List.append_assoc]
    rw [ee]
    refine Ev.step (f := fun k => (if low > 0 then spec_l07Grow.f k out (a ++ [wrap64 (low - 1)]) (wrap64 (low - 1)) high n else some out).bind fun o => (if high < wrap64 (n - 1) then spec_l07Grow.f k o (a ++ [wrap64 (high + 1)]) low (wrap64 (high + 1)) n else some o)) (fun k => ?_) (Ev.bind e1 e2)
    rw [spec_l07Grow.f, if_neg (by omega), if_pos (by omega)]
theorem spec_GilbreathsOf_loop (n : Nat) (h1 : 1 ≤ n) (hn : n ≤ 12) : ∀ (d i : Nat) (out : List (List Int)), i + d = n → out.length + (d + 1) * 2048 ≤ 100000 →
    Ev (fun k => spec_GilbreathsOf.l0 k (n : Int) out (i : Int)) (out ++ (List.range' i d).flatMap fun x : Nat => gilU (n - 1) [(x : Int)] (x : Int) (x : Int) (n : Int)) := by
  intro d
  induction d with
  | zero =>
    intro i out hi ho
    refine Ev.step (f := fun _ => some _) (fun k => ?_) (Ev.now _)
    simp only [spec_GilbreathsOf.l0]
    rw [if_neg (by omega)]
    simp
  | succ d ih =>
    intro i out hi ho
    have hc := gilU_count (n - 1) [(i : Int)] i i n
    have hp := pow_2048 (d := n - 1) (by omega)
    have hh := ih (i + 1) (out ++ gilU (n - 1) [(i : Int)] (i : Int) (i : Int) (n : Int)) (by omega) (by rw [List.length_append]; omega)
    rw [List.range'_succ, List.flatMap_cons, ← List.append_assoc]
    refine Ev.step (f := fun k => (spec_l07Grow.f k out [(i : Int)] i i (n : Int)).bind fun o => spec_GilbreathsOf.l0 k (n : Int) o ((i + 1 : Nat) : Int)) (fun k => ?_) (Ev.bind (spec_l07Grow_ev (n - 1) out [(i : Int)] i i n (by rw [List.length_singleton]; omega) (by omega) (by omega) (by omega) (by omega) (by omega) (by omega)) hh)
    simp only [spec_GilbreathsOf.l0]
    rw [if_pos (by omega), w64 (by omega) (by omega)]
    rfl
theorem spec_GilbreathsOf_ev (n : Int) : Ev (fun k => spec_GilbreathsOf.f k n) (gilsOf n) := by
  unfold spec_GilbreathsOf.f gilsOf
  simp only [spec_l01In_eq, Option.bind_some]
  by_cases c1 : n < 1
  · rw [if_pos c1]
    exact ev_ite_false (by simp; omega) (Ev.now _)
  rw [if_neg c1]
  by_cases c2 : n > 12
  · rw [if_pos c2]
    exact ev_ite_false (by simp; omega) (Ev.now _)
  rw [if_neg c2]
  refine ev_ite_true (by simp; omega) ?_
  have h := spec_GilbreathsOf_loop n.toNat (by omega) (by omega) n.toNat 0 [] (by omega) (by simp only [List.length_nil]; omega)
  rw [Int.toNat_of_nonneg (by omega)] at h
  rw [gilsU, Int.toNat_of_nonneg (by omega)]
  exact h

/-! ### lists -/
theorem rd_mid (pre : List Int) (x : Int) (r : List Int) : rd (pre ++ x :: r) (pre.length : Int) = x := by simp [rd]
theorem rd_mid' {l pre : List Int} {x : Int} {r : List Int} (h : l = pre ++ x :: r) : rd l (pre.length : Int) = x := by subst h; exact rd_mid _ _ _
theorem snoc_eq {l pre : List Int} {x : Int} {r : List Int} (h : l = pre ++ x :: r) : l = (pre ++ [x]) ++ r := by simp [h]
theorem snoc_len {pre : List Int} (x : Int) (h : pre.length ≤ 9223372036854775806) : wrap64 ((pre.length : Int) + 1) = ((pre ++ [x]).length : Int) := by
  rw [w64 (by omega) (by omega)]; simp
/-- The whole numbers from m on, n of them. -/
def upFrom (m : Int) : Nat → List Int
  | 0 => []
  | n + 1 => m :: upFrom (m + 1) n
theorem upFrom_length (n : Nat) : ∀ m, (upFrom m n).length = n := by
  induction n with
  | zero => intro m; rfl
  | succ n ih => intro m; simp [upFrom, ih]
theorem upFrom_get (n : Nat) : ∀ (m : Int) (i : Nat) (h : i < (upFrom m n).length), (upFrom m n)[i] = m + i := by
  induction n with
  | zero => intro m i h; simp [upFrom] at h
  | succ n ih =>
    intro m i h
    cases i with
    | zero => simp [upFrom]
    | succ i => simp only [upFrom, List.getElem_cons_succ]; rw [ih]; omega
theorem upFrom_snoc (n : Nat) : ∀ m, upFrom m (n + 1) = upFrom m n ++ [m + n] := by
  induction n with
  | zero => intro m; simp [upFrom]
  | succ n ih => intro m; rw [upFrom, ih]; simp [upFrom]; omega
theorem upFrom_mem (n : Nat) : ∀ (m x : Int), x ∈ upFrom m n ↔ m ≤ x ∧ x < m + n := by
  induction n with
  | zero => intro m x; simp only [upFrom, List.not_mem_nil, false_iff]; omega
  | succ n ih => intro m x; simp only [upFrom, List.mem_cons, ih]; omega
theorem upFrom_nodup (n : Nat) : ∀ m, (upFrom m n).Nodup := by
  induction n with
  | zero => intro m; simp [upFrom]
  | succ n ih => intro m; simp only [upFrom, List.nodup_cons, ih, and_true, upFrom_mem]; omega
theorem nodup_inj {l : List Int} (h : l.Nodup) (i j : Nat) (hi : i < l.length) (hj : j < l.length) (e : l[i] = l[j]) : i = j := by
  have hp := List.pairwise_iff_getElem.1 h
  rcases Nat.lt_trichotomy i j with c | c | c
  · exact absurd e (hp i j hi hj c)
  · exact c
  · exact absurd e.symm (hp j i hj hi c)
theorem set_mid (pre : List Int) (x y : Int) (r : List Int) : (pre ++ y :: r).set pre.length x = (pre ++ [x]) ++ r := by simp
theorem lens {l pre r : List Int} (h : l = pre ++ r) : l.length = pre.length + r.length := by rw [h]; simp
theorem snoc_cast (pre : List Int) (x : Int) : ((pre ++ [x]).length : Int) = (pre.length : Int) + 1 := by simp

/-! ### permutations -/
def pokFrom (n : Nat) : List Int → List Int → Bool
  | _, [] => true
  | seen, x :: r => decide (0 ≤ x ∧ x < n) && (!decide (x ∈ seen) && pokFrom n (seen ++ [x]) r)
/-- A list of whole numbers is a permutation of at most 12 positions. -/
def permOk (a : List Int) : Bool := pokFrom a.length [] a && decide (a.length ≤ 12)
theorem pokFrom_iff (n : Nat) (r : List Int) : ∀ seen, pokFrom n seen r = true ↔ (∀ x ∈ r, 0 ≤ x ∧ x < n) ∧ r.Nodup ∧ (∀ x ∈ r, x ∉ seen) := by
  induction r with
  | nil => intro seen; simp [pokFrom]
  | cons x r ih =>
    intro seen
    simp only [pokFrom, Bool.and_eq_true, decide_eq_true_eq, Bool.not_eq_true', decide_eq_false_iff_not, ih, List.mem_cons, forall_eq_or_imp, List.nodup_cons, List.mem_append, List.not_mem_nil, or_false, not_or]
    constructor
    · rintro ⟨h1, h2, h3, h4, h5⟩
      exact ⟨⟨h1, h3⟩, ⟨fun hx => (h5 x hx).2 rfl, h4⟩, h2, fun y hy => (h5 y hy).1⟩
    · rintro ⟨⟨h1, h3⟩, ⟨h6, h4⟩, h2, h5⟩
      exact ⟨h1, h2, h3, h4, fun y hy => ⟨h5 y hy, fun e => h6 (e ▸ hy)⟩⟩
theorem permOk_iff (a : List Int) : permOk a = true ↔ (∀ x ∈ a, 0 ≤ x ∧ x < a.length) ∧ a.Nodup ∧ a.length ≤ 12 := by
  simp only [permOk, Bool.and_eq_true, pokFrom_iff, decide_eq_true_eq]
  simp [and_assoc]

def mxs (x : Int) (l : List Int) : Int := l.foldl mx x
def mns (x : Int) (l : List Int) : Int := l.foldl mn x
/-- The first k entries are consecutive numbers. -/
def prefB (a : List Int) (k : Nat) : Bool := decide (wrap64 (mxs (rd a 0) ((a.take k).drop 1) - mns (rd a 0) ((a.take k).drop 1)) = wrap64 ((k : Int) - 1))
def gilFrom (a : List Int) : Nat → Nat → Bool
  | 0, _ => true
  | d + 1, k => prefB a k && gilFrom a d (k + 1)
def isGilbreath (a : List Int) : Bool := permOk a && gilFrom a a.length 1
theorem take_head {a : List Int} {k : Nat} (hk : 1 ≤ k) (ha : 1 ≤ a.length) : a.take k = rd a 0 :: (a.take k).drop 1 := by
  cases a with
  | nil => simp at ha
  | cons x r =>
    cases k with
    | zero => omega
    | succ k => simp [rd]

/-! ### slices.Index, slices.Contains -/
def findFrom (v : Int) : Int → List Int → Int
  | _, [] => -1
  | i, x :: r => if v = x then i else findFrom v (i + 1) r
theorem findFrom_nonneg (v : Int) (l : List Int) : ∀ i : Int, 0 ≤ i → (0 ≤ findFrom v i l ↔ v ∈ l) := by
  induction l with
  | nil => intro i hi; simp [findFrom]
  | cons x r ih =>
    intro i hi
    simp only [findFrom, List.mem_cons]
    by_cases c : v = x
    · rw [if_pos c]; simp [c, hi]
    · rw [if_neg c, ih (i + 1) (by omega)]; simp [c]
theorem slices_Index_loop (l : List Int) (v : Int) (hl : l.length ≤ 9223372036854775806) : ∀ (r pre : List Int), l = pre ++ r →
    Ev (fun k => slices_Index_int_int.l0 k l v (l.length : Int) (pre.length : Int)) (findFrom v pre.length r) := by
  intro r
  induction r with
  | nil =>
    intro pre h
    refine Ev.step (f := fun _ => some _) (fun k => ?_) (Ev.now _)
    subst h
    simp only [slices_Index_int_int.l0, findFrom]
    rw [if_neg (by simp)]
  | cons x r ih =>
    intro pre h
    have hlen : l.length = pre.length + (r.length + 1) := by rw [h]; simp
    have hx := rd_mid' h
    have e : ((pre ++ [x]).length : Int) = (pre.length : Int) + 1 := by simp
    simp only [findFrom]
    by_cases c : v = x
    · rw [if_pos c]
      refine Ev.step (f := fun _ => some _) (fun k => ?_) (Ev.now _)
      simp only [slices_Index_int_int.l0]
      rw [if_pos (by omega), if_pos (by omega), if_pos (by omega), hx, if_pos c]
    · rw [if_neg c, ← e]
      refine Ev.step (fun k => ?_) (ih (pre ++ [x]) (snoc_eq h))
      simp only [slices_Index_int_int.l0]
      rw [if_pos (by omega), if_pos (by omega), if_pos (by omega), hx, if_neg c, snoc_len x (by omega)]
theorem slices_Contains_ev (l : List Int) (v : Int) (hl : l.length ≤ 9223372036854775806) : Ev (fun k => slices_Contains_int_int.f k l v) (decide (v ∈ l)) := by
  unfold slices_Contains_int_int.f slices_Index_int_int.f
  refine Ev.bind (slices_Index_loop l v hl l [] rfl) (ev_some fun _ => ?_)
  have := findFrom_nonneg v l 0 (by omega)
  simp only [List.length_nil, Int.ofNat_zero, Option.some.injEq, decide_eq_decide]
  exact this

theorem impl_PermOk_loop (a : List Int) (ha : a.length ≤ 9223372036854775806) : ∀ (r pre : List Int), a = pre ++ r →
    Ev (fun k => impl_PermOk.l0 k a a (a.length : Int) (pre.length : Int)) (pokFrom a.length pre r && decide (a.length ≤ 12)) := by
  intro r
  induction r with
  | nil =>
    intro pre h
    refine Ev.step (f := fun _ => some _) (fun k => ?_) (Ev.now _)
    have hlen : a.length = pre.length := by rw [h]; simp
    simp only [impl_PermOk.l0, pokFrom, Bool.true_and]
    rw [if_neg (by omega)]
    simp; omega
  | cons x r ih =>
    intro pre h
    have hlen : a.length = pre.length + (r.length + 1) := by rw [h]; simp
    have hx := rd_mid' h
    have ht : a.take ((pre.length : Int).toNat) = pre := by rw [h]; simp
    by_cases c0 : x < 0
    · have e : pokFrom a.length pre (x :: r) = false := by simp only [pokFrom]; rw [decide_eq_false (by omega)]; rfl
      rw [e, Bool.false_and]
      refine Ev.step (f := fun _ => some _) (fun k => ?_) (Ev.now _)
      simp only [impl_PermOk.l0]
      rw [if_pos (by omega), if_pos (by omega), if_pos (by omega), hx, if_pos c0]
    by_cases c1 : x ≥ (a.length : Int)
    · have e : pokFrom a.length pre (x :: r) = false := by simp only [pokFrom]; rw [decide_eq_false (by omega)]; rfl
      rw [e, Bool.false_and]
      refine Ev.step (f := fun _ => some _) (fun k => ?_) (Ev.now _)
      simp only [impl_PermOk.l0]
      rw [if_pos (by omega), if_pos (by omega), if_pos (by omega), hx, if_neg c0, if_pos c1]
    refine Ev.step (f := fun k => (slices_Contains_int_int.f k pre x).bind fun t => if t = true then some false else impl_PermOk.l0 k a a (a.length : Int) ((pre ++ [x]).length : Int)) (fun k => ?_) ?_
    · simp only [impl_PermOk.l0]
      rw [if_pos (by omega), if_pos (by omega), if_pos (by omega), hx, if_neg c0, if_neg c1, if_pos (by omega), ht, snoc_len x (by omega)]
    · refine Ev.bind (slices_Contains_ev pre x (by omega)) ?_
      by_cases c2 : x ∈ pre
      · have e : pokFrom a.length pre (x :: r) = false := by simp only [pokFrom]; simp [c2]
        rw [e, Bool.false_and]
        exact ev_some fun _ => by simp [c2]
      · have e : pokFrom a.length pre (x :: r) = pokFrom a.length (pre ++ [x]) r := by simp only [pokFrom]; rw [decide_eq_true (by omega)]; simp [c2]
        rw [e]
        simp only [c2, decide_false, Bool.false_eq_true, if_false]
        exact ih (pre ++ [x]) (snoc_eq h)
theorem impl_PermOk_ev (a : List Int) (ha : a.length ≤ 9223372036854775806) : Ev (fun k => impl_PermOk.f k a) (permOk a) := by
  unfold impl_PermOk.f permOk
  exact impl_PermOk_loop a ha a [] rfl

theorem slices_Max_loop (l : List Int) (hl : l.length ≤ 9223372036854775806) : ∀ (r pre : List Int) (m : Int), l = pre ++ r → Ev (fun k => slices_Max_int_int.l0 k l m (pre.length : Int)) (mxs m r) := by
  intro r
  induction r with
  | nil =>
    intro pre m h
    have e := lens h
    simp only [List.length_nil] at e
    refine Ev.step (f := fun _ => some _) (fun k => ?_) (Ev.now _)
    simp only [slices_Max_int_int.l0]
    rw [if_neg (by omega)]
    rfl
  | cons x r ih =>
    intro pre m h
    have e := lens h
    simp only [List.length_cons] at e
    refine Ev.step (fun k => ?_) (ih (pre ++ [x]) (mx m x) (snoc_eq h))
    simp only [slices_Max_int_int.l0]
    rw [if_pos (by omega), if_pos (by omega), rd_mid' h, snoc_len x (by omega)]
theorem slices_Min_loop (l : List Int) (hl : l.length ≤ 9223372036854775806) : ∀ (r pre : List Int) (m : Int), l = pre ++ r → Ev (fun k => slices_Min_int_int.l0 k l m (pre.length : Int)) (mns m r) := by
  intro r
  induction r with
  | nil =>
    intro pre m h
    have e := lens h
    simp only [List.length_nil] at e
    refine Ev.step (f := fun _ => some _) (fun k => ?_) (Ev.now _)
    simp only [slices_Min_int_int.l0]
    rw [if_neg (by omega)]
    rfl
  | cons x r ih =>
    intro pre m h
    have e := lens h
    simp only [List.length_cons] at e
    refine Ev.step (fun k => ?_) (ih (pre ++ [x]) (mn m x) (snoc_eq h))
    simp only [slices_Min_int_int.l0]
    rw [if_pos (by omega), if_pos (by omega), rd_mid' h, snoc_len x (by omega)]
theorem slices_Max_ev (x : Int) (r : List Int) (hl : (x :: r).length ≤ 9223372036854775806) : Ev (fun k => slices_Max_int_int.f k (x :: r)) (mxs x r) := by
  unfold slices_Max_int_int.f
  refine ev_ite_false (by simp only [List.length_cons]; omega) (ev_ite_true (by simp only [List.length_cons]; omega) ?_)
  exact slices_Max_loop (x :: r) hl r [x] x rfl
theorem slices_Min_ev (x : Int) (r : List Int) (hl : (x :: r).length ≤ 9223372036854775806) : Ev (fun k => slices_Min_int_int.f k (x :: r)) (mns x r) := by
  unfold slices_Min_int_int.f
  refine ev_ite_false (by simp only [List.length_cons]; omega) (ev_ite_true (by simp only [List.length_cons]; omega) ?_)
  exact slices_Min_loop (x :: r) hl r [x] x rfl
theorem impl_IsGilbreath_loop (a : List Int) (ha : a.length ≤ 9223372036854775806) (h : permOk a = true) : ∀ (d k : Nat), k + d = a.length + 1 → 1 ≤ k → Ev (fun n => impl_IsGilbreath.l0 n a (k : Int)) (gilFrom a d k) := by
  have h12 := ((permOk_iff a).1 h).2.2
  have hp := impl_PermOk_ev a ha
  rw [h] at hp
  intro d
  induction d with
  | zero =>
    intro k hk h1
    refine Ev.step (fun n => by rw [impl_IsGilbreath.l0]) ?_
    refine ev_ite_false (by omega) ?_
    refine Ev.step (fun n => by rw [impl_IsGilbreath.j1]) ?_
    refine ev_ite_false (by simp) (Ev.bind hp (Ev.now _))
  | succ d ih =>
    intro k hk h1
    have hw : wrap64 ((k : Int) + 1) = ((k + 1 : Nat) : Int) := by rw [w64 (by omega) (by omega)]; omega
    refine Ev.step (fun n => by rw [impl_IsGilbreath.l0]) ?_
    refine ev_ite_true (by omega) (Ev.bind hp ?_)
    refine Ev.step (fun n => by rw [impl_IsGilbreath.j1]) ?_
    refine ev_ite_true rfl (ev_ite_true (by omega) (ev_ite_true (by omega) ?_))
    simp only [Option.bind_some, Int.toNat_natCast]
    have ht := take_head (a := a) h1 (by omega)
    have hl : (a.take k).length ≤ 12 := by rw [List.length_take]; omega
    have hM := slices_Max_ev (rd a 0) ((a.take k).drop 1) (by rw [← ht]; omega)
    have hm := slices_Min_ev (rd a 0) ((a.take k).drop 1) (by rw [← ht]; omega)
    rw [← ht] at hM hm
    refine Ev.bind hM (Ev.bind hm ?_)
    rw [gilFrom]
    by_cases c : wrap64 (mxs (rd a 0) ((a.take k).drop 1) - mns (rd a 0) ((a.take k).drop 1)) = wrap64 ((k : Int) - 1)
    · refine ev_ite_true c ?_
      rw [hw, prefB, decide_eq_true c, Bool.true_and]
      exact ih (k + 1) (by omega) (by omega)
    · refine ev_ite_false c ?_
      rw [prefB, decide_eq_false c, Bool.false_and]
      exact Ev.now _
theorem impl_IsGilbreath_ev (a : List Int) (ha : a.length ≤ 9223372036854775806) : Ev (fun k => impl_IsGilbreath.f k a) (isGilbreath a) := by
  unfold impl_IsGilbreath.f isGilbreath
  by_cases h : permOk a = true
  · rw [h, Bool.true_and]
    exact impl_IsGilbreath_loop a ha h a.length 1 (by omega) (by omega)
  · have hf : permOk a = false := by simpa using h
    have hp := impl_PermOk_ev a ha
    rw [hf] at hp ⊢
    refine Ev.step (fun n => by rw [impl_IsGilbreath.l0]) ?_
    have hj : Ev (fun n => impl_IsGilbreath.j1 n a 1 false) false := by
      refine Ev.step (fun n => by rw [impl_IsGilbreath.j1]) ?_
      exact ev_ite_false (by simp) (Ev.bind hp (Ev.now _))
    by_cases c : (1 : Int) ≤ (a.length : Int)
    · exact ev_ite_true c (Ev.bind hp hj)
    · exact ev_ite_false c hj

/-- The entries before index i in its block. -/
def seg (a : List Int) (s i : Nat) : List Int := (a.take i).drop (i / s * s)
def clash (s : Nat) (x : Int) (l : List Int) : Bool := l.any fun y => decide (Int.tmod y s = Int.tmod x s)
def blocksFrom (a : List Int) (s : Nat) : Nat → Nat → Bool
  | 0, _ => true
  | d + 1, i => if clash s (rd a i) (seg a s i) = true then false else blocksFrom a s d (i + 1)
def hasBlocks (a : List Int) (s : Int) : Bool := if permOk a = true ∧ 1 ≤ s ∧ s ≤ a.length then blocksFrom a s.toNat a.length 0 else false

theorem impl_HasBlocks_in (a : List Int) (ha : a.length ≤ 12) (s i : Nat) (hs : 1 ≤ s) (hi : i < a.length) (x : Int) (R : Bool) (l : List Int) (hl : l.length ≤ 12)
    (hR : Ev (fun k => impl_HasBlocks.l0 k a (s : Int) a (a.length : Int) (wrap64 ((i : Int) + 1))) R) : ∀ (r pre : List Int), l = pre ++ r →
    Ev (fun k => impl_HasBlocks.l1 k a (s : Int) x a (a.length : Int) (i : Int) l (l.length : Int) (pre.length : Int)) (if clash s x r = true then false else R) := by
  intro r
  induction r with
  | nil =>
    intro pre h
    have e := lens h
    simp only [List.length_nil] at e
    refine Ev.step (fun n => by rw [impl_HasBlocks.l1]) ?_
    exact ev_ite_false (by omega) (by simpa [clash] using hR)
  | cons y r ih =>
    intro pre h
    have e := lens h
    simp only [List.length_cons] at e
    refine Ev.step (fun n => by rw [impl_HasBlocks.l1]) ?_
    refine ev_ite_true (by omega) (ev_ite_true (by omega) (ev_ite_true (by omega) (ev_ite_false (by omega) ?_)))
    rw [rd_mid' h]
    by_cases c : Int.tmod x s = Int.tmod y s
    · refine ev_ite_true c ?_
      rw [if_pos (by simp [clash, c])]
      exact Ev.now _
    · refine ev_ite_false c ?_
      have c' : ¬ Int.tmod y s = Int.tmod x s := fun q => c q.symm
      have e2 : clash s x (y :: r) = clash s x r := by simp [clash, c']
      rw [e2, snoc_len y (by omega)]
      exact ih (pre ++ [y]) (snoc_eq h)
theorem tdiv_nat (i s : Nat) : Int.tdiv (i : Int) (s : Int) = ((i / s : Nat) : Int) := by rw [Int.tdiv_eq_ediv_of_nonneg (by omega)]; simp
theorem impl_HasBlocks_loop (a : List Int) (ha : a.length ≤ 12) (s : Nat) (hs : 1 ≤ s) : ∀ (d i : Nat), i + d = a.length →
    Ev (fun k => impl_HasBlocks.l0 k a (s : Int) a (a.length : Int) (i : Int)) (blocksFrom a s d i) := by
  intro d
  induction d with
  | zero =>
    intro i hi
    refine Ev.step (fun n => by rw [impl_HasBlocks.l0]) ?_
    exact ev_ite_false (by omega) (Ev.now _)
  | succ d ih =>
    intro i hi
    have hw : wrap64 ((i : Int) + 1) = ((i + 1 : Nat) : Int) := by rw [w64 (by omega) (by omega)]; omega
    have hle : i / s * s ≤ i := Nat.div_mul_le_self i s
    have hd : i / s ≤ i := Nat.div_le_self i s
    have hm : ((i / s : Nat) : Int) * (s : Int) = ((i / s * s : Nat) : Int) := by simp
    refine Ev.step (fun n => by rw [impl_HasBlocks.l0]) ?_
    rw [tdiv_nat, w64n (Nat.le_trans hd (by omega)), hm, w64n (Nat.le_trans hle (by omega))]
    refine ev_ite_true (by omega) (ev_ite_true (by omega) (ev_ite_true (by omega) (ev_ite_false (by omega) (ev_ite_true (Int.natCast_nonneg _) (ev_ite_true (Int.ofNat_le.2 hle) (ev_ite_true (by omega) ?_))))))
    simp only [Option.bind_some, Int.toNat_natCast]
    rw [blocksFrom]
    have hI := ih (i + 1) (by omega)
    rw [← hw] at hI
    exact impl_HasBlocks_in a ha s i hs (by omega) (rd a i) _ (seg a s i) (by unfold seg; rw [List.length_drop, List.length_take]; omega) hI (seg a s i) [] rfl
theorem impl_HasBlocks_ev (a : List Int) (ha : a.length ≤ 9223372036854775806) (s : Int) : Ev (fun k => impl_HasBlocks.f k a s) (hasBlocks a s) := by
  unfold impl_HasBlocks.f hasBlocks
  have hj : Ev (fun n => impl_HasBlocks.j0 n a s true) false := Ev.step (fun n => by rw [impl_HasBlocks.j0]) (ev_ite_true rfl (Ev.now _))
  refine Ev.bind (impl_PermOk_ev a ha) ?_
  by_cases h : permOk a = true
  · have h12 := ((permOk_iff a).1 h).2.2
    refine ev_ite_true h ?_
    by_cases h1 : s < 1
    · refine ev_ite_true h1 ?_
      rw [if_neg (by omega)]
      exact hj
    · refine ev_ite_false h1 ?_
      by_cases h2 : s > a.length
      · rw [if_neg (by omega)]
        simp only [decide_eq_true h2]
        exact hj
      · rw [if_pos ⟨h, by omega, by omega⟩]
        simp only [decide_eq_false h2]
        refine Ev.step (fun n => by rw [impl_HasBlocks.j0]) ?_
        refine ev_ite_false (by simp) ?_
        have := impl_HasBlocks_loop a h12 s.toNat (by omega) a.length 0 (by omega)
        rw [Int.toNat_of_nonneg (by omega)] at this
        exact this
  · refine ev_ite_false h ?_
    rw [if_neg (fun q => h q.1)]
    exact hj

/-- The list of a's entries at b's entries. -/
def compose (a b : List Int) : List Int := b.map fun x => rd a x
theorem compose_length (a b : List Int) : (compose a b).length = b.length := by simp [compose]

def colorsAfter (c a : List Int) : List Int × Bool := if permOk a = true ∧ c.length = a.length then (compose c a, true) else ([], false)
theorem colorsAfter_length (c a : List Int) : (colorsAfter c a).1.length ≤ 12 := by
  unfold colorsAfter
  by_cases h : permOk a = true ∧ c.length = a.length
  · rw [if_pos h, compose_length]; exact ((permOk_iff a).1 h.1).2.2
  · rw [if_neg h]; simp

theorem impl_composed_loop (a b : List Int) (hb : b.length ≤ 17592186044415) (hr : ∀ x ∈ b, 0 ≤ x ∧ x < a.length) : ∀ (r pre : List Int), b = pre ++ r →
    Ev (fun k => impl_composed.l0 k a (compose a pre) b (b.length : Int) (pre.length : Int)) (compose a b) := by
  intro r
  induction r with
  | nil =>
    intro pre h
    have e := lens h
    simp only [List.length_nil] at e
    refine Ev.step (f := fun _ => some _) (fun k => ?_) (Ev.now _)
    simp only [impl_composed.l0]
    rw [if_neg (by omega)]
    simp [h]
  | cons x r ih =>
    intro pre h
    have e := lens h
    simp only [List.length_cons] at e
    have hx := hr x (by rw [h]; simp)
    refine Ev.step (fun k => ?_) (ih (pre ++ [x]) (snoc_eq h))
    simp only [impl_composed.l0]
    rw [if_pos (by omega), if_pos (by omega), if_pos (by omega), rd_mid' h, if_pos hx.1, if_pos hx.2, if_pos (by rw [compose_length]; omega), snoc_len x (by omega)]
    simp [compose]
theorem impl_composed_ev (a b : List Int) (hb : b.length ≤ 17592186044415) (hr : ∀ x ∈ b, 0 ≤ x ∧ x < a.length) : Ev (fun k => impl_composed.f k a b) (compose a b) := by
  unfold impl_composed.f
  exact impl_composed_loop a b hb hr b [] rfl

theorem impl_ColorsAfter_ev (c a : List Int) (ha : a.length ≤ 9223372036854775806) : Ev (fun k => impl_ColorsAfter.f k c a) (colorsAfter c a) := by
  unfold impl_ColorsAfter.f colorsAfter
  refine Ev.bind (impl_PermOk_ev a ha) ?_
  by_cases h1 : permOk a = true
  · obtain ⟨p1, p2, p3⟩ := (permOk_iff a).1 h1
    refine ev_ite_true h1 ?_
    by_cases h3 : (c.length : Int) = (a.length : Int)
    · refine ev_ite_true h3 ?_
      rw [if_pos ⟨h1, by omega⟩]
      exact Ev.bind (impl_composed_ev c a (by omega) (fun x hx => by have := p1 x hx; omega)) (Ev.now _)
    · refine ev_ite_false h3 ?_
      rw [if_neg (by omega)]
      exact Ev.now _
  · refine ev_ite_false h1 ?_
    rw [if_neg (fun h => h1 h.1)]
    exact Ev.now _

/-- The reds and blacks, at most twelve. -/
def colorsOk (l : List Int) : Bool := decide (l.length ≤ 12) && l.all (fun c => c == 0 || c == 1)

/-- No neighbour (of the looked-at ones) is of the same color, from i on. -/
def altFrom (l : List Int) : Nat → Nat → Bool
  | 0, _ => true
  | d + 1, i => if i < l.length then (if rd l i = rd l ((i : Int) - 1) then false else altFrom l d (i + 1)) else true
def altOk (l : List Int) : Bool := colorsOk l && altFrom l l.length 1

theorem impl_areColors_eq (l : List Int) : impl_areColors.f l 12 = some (colorsOk l) := by
  unfold impl_areColors.f colorsOk
  have e : (!l.any noColor) = l.all (fun c => c == 0 || c == 1) := by
    rw [List.not_any_eq_all_not]
    congr 1
    funext c
    simp only [noColor, bne, Bool.not_and, Bool.not_not]
  rw [e]
  by_cases g : l.length ≤ 12
  · rw [if_pos (by omega), decide_eq_true g, Bool.true_and]
  · rw [if_neg (by omega), decide_eq_false g, Bool.false_and]

theorem impl_AlternateOk_loop (l : List Int) (hl : l.length ≤ 4611686018427387904) : ∀ (d i : Nat), l.length ≤ i + d → 1 ≤ i → i ≤ l.length + 2 →
    Ev (fun k => impl_AlternateOk.l0 k l (i : Int)) (colorsOk l && altFrom l d i) := by
  intro d
  induction d with
  | zero =>
    intro i h hi hj
    refine Ev.step (f := fun _ => some _) (fun k => ?_) (Ev.now _)
    simp only [impl_AlternateOk.l0, altFrom, impl_areColors_eq, Option.bind_some]
    rw [if_neg (by omega), Bool.and_true]
  | succ d ih =>
    intro i h hi hj
    by_cases c : i < l.length
    · have ew : wrap64 ((i : Int) - 1) = (i : Int) - 1 := w64 (by omega) (by omega)
      have en : wrap64 ((i : Int) + 1) = ((i + 1 : Nat) : Int) := by rw [w64 (by omega) (by omega)]; omega
      by_cases e : rd l (i : Int) = rd l ((i : Int) - 1)
      · refine Ev.step (f := fun _ => some _) (fun k => ?_) (Ev.now _)
        simp only [impl_AlternateOk.l0, altFrom]
        rw [ew, if_pos (by omega), if_pos (by omega), if_pos (by omega), if_pos (by omega), if_pos e.symm, if_pos c, if_pos e, Bool.and_false]
      · rw [altFrom, if_pos c, if_neg e]
        refine Ev.step (fun k => ?_) (ih (i + 1) (by omega) (by omega) (by omega))
        simp only [impl_AlternateOk.l0]
        rw [ew, en, if_pos (by omega), if_pos (by omega), if_pos (by omega), if_pos (by omega), if_neg (fun q => e q.symm)]
    · refine Ev.step (f := fun _ => some _) (fun k => ?_) (Ev.now _)
      simp only [impl_AlternateOk.l0, altFrom, impl_areColors_eq, Option.bind_some]
      rw [if_neg (by omega), if_neg c, Bool.and_true]
theorem impl_AlternateOk_ev (l : List Int) (hl : l.length ≤ 4611686018427387904) : Ev (fun k => impl_AlternateOk.f k l) (altOk l) := impl_AlternateOk_loop l hl l.length 1 (by omega) (by omega) (by omega)

/-- No neighbour (of the looked-at ones) is of the same color, from i on. -/
def prsFrom (l : List Int) : Nat → Nat → Bool
  | 0, _ => true
  | d + 1, i => if i < l.length then (if rd l i = rd l ((i : Int) - 1) then false else prsFrom l d (i + 2)) else true
def prsOk (l : List Int) : Bool := colorsOk l && prsFrom l l.length 1

theorem impl_PairsDiffer_loop (l : List Int) (hl : l.length ≤ 4611686018427387904) : ∀ (d i : Nat), l.length ≤ i + d → 1 ≤ i → i ≤ l.length + 2 →
    Ev (fun k => impl_PairsDiffer.l0 k l (i : Int)) (colorsOk l && prsFrom l d i) := by
  intro d
  induction d with
  | zero =>
    intro i h hi hj
    refine Ev.step (f := fun _ => some _) (fun k => ?_) (Ev.now _)
    simp only [impl_PairsDiffer.l0, prsFrom, impl_areColors_eq, Option.bind_some]
    rw [if_neg (by omega), Bool.and_true]
  | succ d ih =>
    intro i h hi hj
    by_cases c : i < l.length
    · have ew : wrap64 ((i : Int) - 1) = (i : Int) - 1 := w64 (by omega) (by omega)
      have en : wrap64 ((i : Int) + 2) = ((i + 2 : Nat) : Int) := by rw [w64 (by omega) (by omega)]; omega
      by_cases e : rd l (i : Int) = rd l ((i : Int) - 1)
      · refine Ev.step (f := fun _ => some _) (fun k => ?_) (Ev.now _)
        simp only [impl_PairsDiffer.l0, prsFrom]
        rw [ew, if_pos (by omega), if_pos (by omega), if_pos (by omega), if_pos (by omega), if_pos e.symm, if_pos c, if_pos e, Bool.and_false]
      · rw [prsFrom, if_pos c, if_neg e]
        refine Ev.step (fun k => ?_) (ih (i + 2) (by omega) (by omega) (by omega))
        simp only [impl_PairsDiffer.l0]
        rw [ew, en, if_pos (by omega), if_pos (by omega), if_pos (by omega), if_pos (by omega), if_neg (fun q => e q.symm)]
    · refine Ev.step (f := fun _ => some _) (fun k => ?_) (Ev.now _)
      simp only [impl_PairsDiffer.l0, prsFrom, impl_areColors_eq, Option.bind_some]
      rw [if_neg (by omega), if_neg c, Bool.and_true]
theorem impl_PairsDiffer_ev (l : List Int) (hl : l.length ≤ 4611686018427387904) : Ev (fun k => impl_PairsDiffer.f k l) (prsOk l) := impl_PairsDiffer_loop l hl l.length 1 (by omega) (by omega) (by omega)

theorem two_shl : ∀ n : Nat, n < 13 → Go.Proofs.YtmhfnacbmajdjaaW.PrintWords.shl .i64 1 (n : Nat) = ((2 ^ n : Nat) : Int) := by decide +kernel
def colsU (n : Nat) : List Int := (List.range n).map fun i => ((i % 2 : Nat) : Int)
def gilAll (n : Nat) : Bool := (gilsU n).all (fun a => isGilbreath a && ((List.range n).all (fun s => hasBlocks a ((s + 1 : Nat) : Int)) && ((colorsAfter (colsU n) a).2 && prsOk (colorsAfter (colsU n) a).1))) && (altOk (colsU n) && decide ((gilsU n).length = 2 ^ (n - 1)))
theorem gil_all : ∀ n, n < 9 → 1 ≤ n → gilAll n = true := by decide +kernel
theorem colsU_succ (n : Nat) : colsU (n + 1) = colsU n ++ [((n % 2 : Nat) : Int)] := by simp [colsU, List.range_succ]
theorem colsU_length (n : Nat) : (colsU n).length = n := by simp [colsU]
theorem gil_colors (a : List Int) (n : Nat) (hn : n ≤ 8) (ha : a.length = n) (h1 : (colorsAfter (colsU n) a).2 = true) (h2 : prsOk (colorsAfter (colsU n) a).1 = true) (h3 : altOk (colsU n) = true) (h4 : (colorsAfter (colsU n) a).1.length ≤ 12) : ∀ (d i : Nat), i + d = n → Ev (fun k => laws_FnGilbreath.l1 k a (n : Int) (colsU i) (i : Int)) true := by
  intro d
  induction d with
  | zero =>
    intro i hi
    obtain rfl : i = n := by omega
    refine Ev.step (f := fun k => (impl_ColorsAfter.f k (colsU i) a).bind fun bt => (if bt.2 = true then ((impl_AlternateOk.f k (colsU i)).bind fun t => (if t = true then ((impl_PairsDiffer.f k bt.1).bind fun u => (some u)) else (some false))) else (some false))) (fun k => ?_) (Ev.bind (impl_ColorsAfter_ev (colsU i) a (by omega)) (ev_ite_true h1 (Ev.bind (impl_AlternateOk_ev (colsU i) (by rw [colsU_length]; omega)) (ev_ite_true h3 (Ev.bind (impl_PairsDiffer_ev _ (by omega)) ?_)))))
    · simp only [laws_FnGilbreath.l1]
      rw [if_neg (by omega)]
    · rw [h2]
      exact Ev.now _
  | succ d ih =>
    intro i hi
    refine Ev.step (fun k => ?_) (ih (i + 1) (by omega))
    simp only [laws_FnGilbreath.l1]
    have e : Int.tmod (i : Int) 2 = ((i % 2 : Nat) : Int) := by rw [Int.tmod_eq_emod_of_nonneg (by omega)]; omega
    rw [if_pos (by omega), if_pos (by rw [colsU_length]; omega), w64 (by omega) (by omega), e, colsU_succ]
    rfl
theorem gil_sizes (a : List Int) (n : Nat) (hn : n ≤ 8) (ha : a.length = n) (hE : Ev (fun k => laws_FnGilbreath.l1 k a (n : Int) [] 0) true) (h : ∀ s, s < n → hasBlocks a ((s + 1 : Nat) : Int) = true) : ∀ (d i : Nat), i + d = n → Ev (fun k => laws_FnGilbreath.l0 k a (n : Int) ((i + 1 : Nat) : Int)) true := by
  intro d
  induction d with
  | zero =>
    intro i hi
    refine Ev.step (fun k => ?_) hE
    simp only [laws_FnGilbreath.l0]
    rw [if_neg (by omega)]
  | succ d ih =>
    intro i hi
    have hb := impl_HasBlocks_ev a (by omega) ((i + 1 : Nat) : Int)
    rw [h i (by omega)] at hb
    refine Ev.step (f := fun k => (impl_HasBlocks.f k a ((i + 1 : Nat) : Int)).bind fun t => if t = true then laws_FnGilbreath.l0 k a (n : Int) ((i + 1 + 1 : Nat) : Int) else some false) (fun k => ?_) (Ev.bind hb (ev_ite_true rfl (ih (i + 1) (by omega))))
    simp only [laws_FnGilbreath.l0]
    rw [if_pos (by omega), w64 (by omega) (by omega)]
    rfl
theorem gil_of (a : List Int) (n : Nat) (h1 : 1 ≤ n) (hn : n ≤ 8) (ha : a ∈ gilsU n) : Ev (fun k => (impl_IsGilbreath.f k a).bind fun t186 => (if t186 = true then ((impl_GilbreathsOf.f k (a.length : Int)).bind fun t187 => (if 0 ≤ (wrap64 ((a.length : Int) - 1)) then (laws_FnGilbreath.j0 k a (a.length : Int) ((t187.length : Int) != (Go.Proofs.YtmhfnacbmajdjaaW.PrintWords.shl .i64 1 (wrap64 ((a.length : Int) - 1))))) else (none))) else (laws_FnGilbreath.j0 k a (a.length : Int) true))) true := by
  have hl : a.length = n := (gilsU_small n h1 (by omega)).2 a ha
  have hall := gil_all n (by omega) h1
  simp only [gilAll, Bool.and_eq_true, List.all_eq_true, decide_eq_true_eq] at hall
  obtain ⟨h2, h3, h4⟩ := hall
  obtain ⟨g1, g2, g3, g4⟩ := h2 a ha
  have hc : (colorsAfter (colsU n) a).1.length ≤ 12 := by
    have : (colorsOk (colorsAfter (colsU n) a).1) = true := by
      have := g4
      unfold prsOk at this
      simp only [Bool.and_eq_true] at this
      exact this.1
    unfold colorsOk at this
    simp only [Bool.and_eq_true, decide_eq_true_eq] at this
    exact this.1
  have e1 := gil_colors a n hn hl g3 g4 h3 hc n 0 (by omega)
  have e0 := gil_sizes a n hn hl e1 (fun s hs => g2 s (List.mem_range.2 hs)) n 0 (by omega)
  have eI := impl_IsGilbreath_ev a (by omega)
  rw [g1] at eI
  have eG := impl_GilbreathsOf_ev (a.length : Int)
  have eg : gilsOf (a.length : Int) = gilsU n := by
    unfold gilsOf
    rw [if_neg (by omega), if_neg (by omega), hl, Int.toNat_natCast]
  rw [eg] at eG
  refine Ev.bind eI (ev_ite_true rfl (Ev.bind eG ?_))
  have ew : wrap64 ((a.length : Int) - 1) = ((n - 1 : Nat) : Int) := by rw [w64 (by omega) (by omega)]; omega
  rw [ew, two_shl (n - 1) (by omega), h4, bne_self_eq_false, hl]
  refine ev_ite_true (by omega) ?_
  refine Ev.step (fun k => ?_) e0
  simp only [laws_FnGilbreath.j0]
  rw [if_neg (by simp)]
  rfl
theorem FnGilbreath : laws_FnGilbreath.Pure := by
  intro code c1 c2 hw
  unfold laws_FnGilbreath.f
  by_cases g : (code.length : Int) > 1048576
  · exact ⟨0, by rw [if_pos g]⟩
  simp only [if_neg g]
  obtain ⟨h, hN⟩ := new_ok code (by omega)
  obtain ⟨b, t1, t2, hb, b0, b8, ht⟩ := below_ok code 0 h 8 (by omega) (by omega) (by omega) (by omega)
  have ew : wrap64 (1 + b) = 1 + b := w64 (by omega) (by omega)
  have hS := spec_GilbreathsOf_ev (1 + b)
  obtain ⟨n, hn⟩ : ∃ n : Nat, 1 + b = (n : Int) := ⟨(1 + b).toNat, by omega⟩
  have eg : gilsOf (1 + b) = gilsU n := by
    unfold gilsOf
    rw [if_neg (by omega), if_neg (by omega), hn, Int.toNat_natCast]
  rw [eg] at hS
  have hall := gil_all n (by omega) (by omega)
  simp only [gilAll, Bool.and_eq_true, List.all_eq_true, decide_eq_true_eq] at hall
  have hlen := hall.2.2
  have hp1 : 1 ≤ 2 ^ (n - 1) := Nat.one_le_two_pow
  have hp2 : 2 ^ (n - 1) ≤ 2 ^ 7 := Nat.pow_le_pow_right (by omega) (by omega)
  obtain ⟨c, u1, u2, hc, d0, d8, hu⟩ := below_ok code t1 t2 ((gilsU n).length : Int) (by omega) ht (by omega) (by omega)
  have hmem : rd_L1 (gilsU n) c ∈ gilsU n := by
    have hlt : c.toNat < (gilsU n).length := by omega
    have : rd_L1 (gilsU n) c = (gilsU n)[c.toNat] := by simp [rd_L1, hlt]
    rw [this]
    exact List.getElem_mem hlt
  have hM : Ev (fun k => spec_MakeGilbreath.f k code) (rd_L1 (gilsU n) c) := by
    unfold spec_MakeGilbreath.f
    refine Ev.bind hN ?_
    simp only [hb, Option.bind_some, ew]
    refine Ev.bind hS ?_
    simp only [hc, Option.bind_some]
    exact ev_ite_true d0 (ev_ite_true d8 (Ev.now _))
  exact Ev.rounds (Ev.bind hM (gil_of _ n (by omega) (by omega) hmem))

end Go.Proofs.Ytmhfnacbmajdjaa.Pure
