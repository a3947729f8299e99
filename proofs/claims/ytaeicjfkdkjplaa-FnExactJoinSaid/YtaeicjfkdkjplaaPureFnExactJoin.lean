/- For every list of texts and every separator, the program's Join answers as the reference's does. No conditions. -/
import Derived.Test.YtaeicjfkdkjplaaMFnExactJoinx0
import Derived.Test.YtaeicjfkdkjplaaMFnExactJoinx1
import Derived.OpenShut
namespace Go.Proofs.Ytaeicjfkdkjplaa.Pure
open Go.RowKit Go.Proofs.Ytaeicjfkdkjplaa.MFnExactJoin Go.Proofs.YtaeicjfkdkjplaaW.PrintWords Go.Proofs.YtaeicjfkdkjplaaW.PrintLast
set_option linter.unusedVariables false
set_option linter.unusedSimpArgs false

/-! ### base: numbers, reads, loops -/
theorem w64 {a : Int} (h0 : -9223372036854775808 ≤ a) (h1 : a ≤ 9223372036854775807) : wrap64 a = a := by
  unfold wrap64
  omega
theorem w64n {n : Nat} (h : n ≤ 9223372036854775807) : wrap64 (n : Int) = n := w64 (by omega) (by omega)
theorem bd64 {n : Int} (h : (Lit.int .i64 n).wf = true) : -9223372036854775808 ≤ n ∧ n ≤ 9223372036854775807 := Go.bounds_i64 h
theorem rd_nat (xs : List Int) (i : Nat) : rd xs (i : Int) = xs.getD i 0 := by simp [rd]
theorem rd_lt {xs : List Int} {i : Nat} (h : i < xs.length) : rd xs (i : Int) = xs[i] := by simp [rd, h]
theorem bt_nat {s : ByteArray} {i : Nat} (h : i < s.size) : bt s (i : Int) = (s[i].toNat : Int) := by simp [bt, h]
/-- Going up to n: what holds at n holds from i on. -/
theorem up_ind (n : Nat) (P : Nat → Prop) (h0 : P n) (hs : ∀ i, i < n → P (i + 1) → P i) : ∀ i, i ≤ n → P i := by
  have h : ∀ d i, i + d = n → P i := by
    intro d
    induction d with
    | zero => intro i hi; obtain rfl : i = n := by omega
              exact h0
    | succ d ih => intro i hi; exact hs i (by omega) (ih (i + 1) (by omega))
  intro i hi
  exact h (n - i) i (by omega)
theorem ev_some {α : Type} {g : Nat → Option α} {r : α} (h : ∀ k, g k = some r) : Ev g r := ⟨0, fun k _ => h k⟩
theorem ev_pair {α β : Type} {g : Nat → Option α} {f : Nat → Option β} {a : α} {b : β} {h : α → β → Option Bool} (hg : Ev g a) (hf : Ev f b) (hh : h a b = some true) : ∃ k, ((g k).bind fun x => (f k).bind fun y => h x y) = some true :=
  Ev.rounds (Ev.bind hg (Ev.bind hf (ev_some fun _ => hh)))

/-! ### lists -/
theorem rd_mid (pre : List Int) (x : Int) (r : List Int) : rd (pre ++ x :: r) (pre.length : Int) = x := by simp [rd]
theorem rd_mid' {l pre : List Int} {x : Int} {r : List Int} (h : l = pre ++ x :: r) : rd l (pre.length : Int) = x := by subst h; exact rd_mid _ _ _
theorem snoc_eq {l pre : List Int} {x : Int} {r : List Int} (h : l = pre ++ x :: r) : l = (pre ++ [x]) ++ r := by simp [h]
theorem snoc_len {pre : List Int} (x : Int) (h : pre.length ≤ 9223372036854775806) : wrap64 ((pre.length : Int) + 1) = ((pre ++ [x]).length : Int) := by
  rw [w64 (by omega) (by omega)]; simp
/-- The whole numbers from m on, n of them. -/
def upFrom (m : Int) : Nat → List Int
  | 0 => []
  | n + 1 => m :: upFrom (m + 1) n
theorem upFrom_length (n : Nat) : ∀ m, (upFrom m n).length = n := by
  induction n with
  | zero => intro m; rfl
  | succ n ih => intro m; simp [upFrom, ih]
theorem upFrom_get (n : Nat) : ∀ (m : Int) (i : Nat) (h : i < (upFrom m n).length), (upFrom m n)[i] = m + i := by
  induction n with
  | zero => intro m i h; simp [upFrom] at h
  | succ n ih =>
    intro m i h
    cases i with
    | zero => simp [upFrom]
    | succ i => simp only [upFrom, List.getElem_cons_succ]; rw [ih]; omega
theorem upFrom_snoc (n : Nat) : ∀ m, upFrom m (n + 1) = upFrom m n ++ [m + n] := by
  induction n with
  | zero => intro m; simp [upFrom]
  | succ n ih => intro m; rw [upFrom, ih]; simp [upFrom]; omega
theorem upFrom_mem (n : Nat) : ∀ (m x : Int), x ∈ upFrom m n ↔ m ≤ x ∧ x < m + n := by
  induction n with
  | zero => intro m x; simp only [upFrom, List.not_mem_nil, false_iff]; omega
  | succ n ih => intro m x; simp only [upFrom, List.mem_cons, ih]; omega
theorem upFrom_nodup (n : Nat) : ∀ m, (upFrom m n).Nodup := by
  induction n with
  | zero => intro m; simp [upFrom]
  | succ n ih => intro m; simp only [upFrom, List.nodup_cons, ih, and_true, upFrom_mem]; omega
theorem nodup_inj {l : List Int} (h : l.Nodup) (i j : Nat) (hi : i < l.length) (hj : j < l.length) (e : l[i] = l[j]) : i = j := by
  have hp := List.pairwise_iff_getElem.1 h
  rcases Nat.lt_trichotomy i j with c | c | c
  · exact absurd e (hp i j hi hj c)
  · exact c
  · exact absurd e.symm (hp j i hj hi c)
theorem set_mid (pre : List Int) (x y : Int) (r : List Int) : (pre ++ y :: r).set pre.length x = (pre ++ [x]) ++ r := by simp
theorem lens {l pre r : List Int} (h : l = pre ++ r) : l.length = pre.length + r.length := by rw [h]; simp
theorem snoc_cast (pre : List Int) (x : Int) : ((pre ++ [x]).length : Int) = (pre.length : Int) + 1 := by simp

/-- What every law of one list does: it hands a copy to the reference and one to the program, compares, and looks at the copy. -/
theorem ev_ite_true {α : Type} {f g : Nat → Option α} {r : α} {c : Prop} [Decidable c] (h : c) (k : Ev f r) : Ev (fun n => if c then f n else g n) r := by simpa only [if_pos h] using k
theorem ev_ite_false {α : Type} {f g : Nat → Option α} {r : α} {c : Prop} [Decidable c] (h : ¬ c) (k : Ev g r) : Ev (fun n => if c then f n else g n) r := by simpa only [if_neg h] using k

theorem rdS_mid {l pre : List ByteArray} {x : ByteArray} {r : List ByteArray} (h : l = pre ++ x :: r) : rdOf ByteArray.empty l (pre.length : Int) = x := by subst h; simp [rdOf]
theorem snocS_len {pre : List ByteArray} (x : ByteArray) (h : pre.length ≤ 9223372036854775806) : wrap64 ((pre.length : Int) + 1) = ((pre ++ [x]).length : Int) := by
  rw [w64 (by omega) (by omega)]; simp
theorem setS_mid (pre : List ByteArray) (x y : ByteArray) (r : List ByteArray) : (pre ++ y :: r).set pre.length x = (pre ++ [x]) ++ r := by simp
theorem laws_eqStringS_loop (l : List ByteArray) (hl : l.length ≤ 9223372036854775806) : ∀ (r pre : List ByteArray), l = pre ++ r →
    Ev (fun k => laws_eqStringS.l0 k l l (pre.length : Int)) true := by
  intro r
  induction r with
  | nil =>
    intro pre h
    refine Ev.step (f := fun _ => some _) (fun k => ?_) (Ev.now _)
    simp only [laws_eqStringS.l0]
    rw [if_neg (by rw [h]; simp)]
  | cons x r ih =>
    intro pre h
    have e : l.length = pre.length + (r.length + 1) := by rw [h]; simp
    refine Ev.step (fun k => ?_) (ih (pre ++ [x]) (by rw [h]; simp))
    simp only [laws_eqStringS.l0]
    rw [if_pos (by omega), if_pos (by omega), if_pos (by omega), if_pos trivial, snocS_len x (by omega)]
theorem laws_eqStringS_ev (l : List ByteArray) (hl : l.length ≤ 9223372036854775806) : Ev (fun k => laws_eqStringS.f k l l) true := by
  unfold laws_eqStringS.f
  simp only [if_true]
  exact laws_eqStringS_loop l hl l [] rfl
/-- A list that is handed out: marked, held, and held once more. -/

theorem lensS {l a b : List ByteArray} (h : l = a ++ b) : l.length = a.length + b.length := by rw [h, List.length_append]
theorem snocS_eq {l pre r : List ByteArray} {x : ByteArray} (h : l = pre ++ x :: r) : l = (pre ++ [x]) ++ r := by rw [h]; simp
theorem szStringS_ev (l : List ByteArray) (hz : ∀ x ∈ l, x.size ≤ 9223372036854775807) (hl : l.length ≤ 1048576) : ∀ (r pre : List ByteArray) (left : Int), l = pre ++ r → 0 ≤ left → left ≤ 1048576 →
    ∃ v, Ev (fun k => laws_szStringS.l0 k l left (pre.length : Int)) v ∧ (0 ≤ v → ∀ x ∈ r, x.size ≤ 1048576) := by
  intro r
  induction r with
  | nil =>
    intro pre left h h0 h1
    have e := lensS h
    simp only [List.length_nil] at e
    refine ⟨left, Ev.step (f := fun _ => some _) (fun k => ?_) (Ev.now _), fun _ x hx => by cases hx⟩
    simp only [laws_szStringS.l0]
    rw [if_neg (by omega)]
  | cons x r ih =>
    intro pre left h h0 h1
    have e := lensS h
    simp only [List.length_cons] at e
    have hx : x.size ≤ 9223372036854775807 := hz x (by rw [h]; simp)
    have hw : wrap64 (left - (x.size : Int)) = left - (x.size : Int) := w64 (by omega) (by omega)
    by_cases c : left - (x.size : Int) < 0
    · refine ⟨-1, Ev.step (f := fun _ => some _) (fun k => ?_) (Ev.now _), fun q => by omega⟩
      simp only [laws_szStringS.l0]
      rw [if_pos (by omega), if_pos (by omega), rdS_mid h, hw, if_pos c]
    · obtain ⟨v, hv, hb⟩ := ih (pre ++ [x]) (left - (x.size : Int)) (snocS_eq h) (by omega) (by omega)
      refine ⟨v, Ev.step (fun k => ?_) hv, fun q y hy => ?_⟩
      · simp only [laws_szStringS.l0]
        rw [if_pos (by omega), if_pos (by omega), rdS_mid h, hw, if_neg c, snocS_len x (by omega)]
      · rcases List.mem_cons.mp hy with rfl | hy
        · omega
        · exact hb q y hy
theorem laws_toStringS_loop (l : List ByteArray) (hl : l.length ≤ 17592186044415) : ∀ (r pre : List ByteArray), l = pre ++ r →
    Ev (fun k => laws_toStringS.l0 k l (pre ++ List.replicate r.length ⟨#[]⟩) (pre.length : Int)) l := by
  intro r
  induction r with
  | nil =>
    intro pre h
    have e := lensS h
    simp only [List.length_nil] at e
    refine Ev.step (f := fun _ => some _) (fun k => ?_) (Ev.now _)
    simp only [laws_toStringS.l0]
    rw [if_neg (by omega)]
    simp [h]
  | cons x r ih =>
    intro pre h
    have e := lensS h
    simp only [List.length_cons] at e
    refine Ev.step (fun k => ?_) (ih (pre ++ [x]) (snocS_eq h))
    simp only [laws_toStringS.l0]
    rw [if_pos (by omega), if_pos (by omega), if_pos (by simp; omega), rdS_mid h, snocS_len x (by omega), List.length_cons, List.replicate_succ, Int.toNat_natCast, setS_mid]
theorem laws_toStringS_ev (l : List ByteArray) (hl : l.length ≤ 17592186044415) : Ev (fun k => laws_toStringS.f k l) l := by
  unfold laws_toStringS.f
  have h := laws_toStringS_loop l hl l [] rfl
  simp only [if_pos (show 0 ≤ (l.length : Int) by omega), if_pos (show ((l.length : Int) : Int).toNat ≤ 17592186044416 by omega)]
  simpa using h
theorem append_toList (a b : ByteArray) : (a ++ b).data.toList = a.data.toList ++ b.data.toList := by simp
theorem bytes_ext {a b : ByteArray} (h : a.data.toList = b.data.toList) : a = b := by
  cases a with
  | mk x =>
    cases b with
    | mk y =>
      have h' : x.toList = y.toList := h
      rw [Array.toList_inj.mp h']
def ofL (l : List UInt8) : ByteArray := ⟨l.toArray⟩
theorem ofL_toList (l : List UInt8) : (ofL l).data.toList = l := by unfold ofL; simp
theorem tail_len (b : ByteArray) (r : List ByteArray) (hb : b.size ≤ 1048576) (hr : ∀ x ∈ r, x.size ≤ 1048576) : (Lib.joinTail b.data.toList (r.map (·.data.toList))).length ≤ r.length * 2097152 := by
  induction r with
  | nil => simp [Lib.joinTail]
  | cons x r ih =>
    have h1 := ih (fun y hy => hr y (List.mem_cons_of_mem _ hy))
    have h2 := hr x List.mem_cons_self
    have e : (Lib.joinTail b.data.toList ((x :: r).map (·.data.toList))).length = b.data.toList.length + x.data.toList.length + (Lib.joinTail b.data.toList (r.map (·.data.toList))).length := by
      simp [Lib.joinTail]
      omega
    have e1 : b.data.toList.length = b.size := rfl
    have e2 : x.data.toList.length = x.size := rfl
    rw [e, List.length_cons, e1, e2]
    omega
theorem spec_Join_loop (b : ByteArray) (l : List ByteArray) (hb : b.size ≤ 1048576) (hl : l.length ≤ 1048576) (hz : ∀ x ∈ l, x.size ≤ 1048576) : ∀ (r pre : List ByteArray) (s : ByteArray), l = pre ++ r → 0 < pre.length → s.size ≤ pre.length * 2097152 →
    Ev (fun k => spec_Join.l0 k b s l (l.length : Int) (pre.length : Int)) (ofL (s.data.toList ++ Lib.joinTail b.data.toList (r.map (·.data.toList)))) := by
  intro r
  induction r with
  | nil =>
    intro pre s h hp hs
    have e := lensS h
    simp only [List.length_nil] at e
    have es : ofL (s.data.toList ++ Lib.joinTail b.data.toList (([] : List ByteArray).map (·.data.toList))) = s := bytes_ext (by rw [ofL_toList]; simp [Lib.joinTail])
    rw [es]
    refine Ev.step (f := fun _ => some _) (fun k => ?_) (Ev.now _)
    simp only [spec_Join.l0]
    rw [if_neg (by omega)]
  | cons x r ih =>
    intro pre s h hp hs
    have e := lensS h
    simp only [List.length_cons] at e
    have hx : x.size ≤ 1048576 := hz x (by rw [h]; simp)
    have z1 : (s ++ b).size = s.size + b.size := ByteArray.size_append
    have z2 : ((s ++ b) ++ x).size = s.size + b.size + x.size := by rw [ByteArray.size_append, z1]
    have es : s.data.toList ++ Lib.joinTail b.data.toList ((x :: r).map (·.data.toList)) = ((s ++ b) ++ x).data.toList ++ Lib.joinTail b.data.toList (r.map (·.data.toList)) := by
      rw [append_toList, append_toList]
      simp [Lib.joinTail]
    rw [es]
    refine Ev.step (fun k => ?_) (ih (pre ++ [x]) ((s ++ b) ++ x) (snocS_eq h) (by simp) (by rw [z2, List.length_append]; simp only [List.length_cons, List.length_nil]; omega))
    simp only [spec_Join.l0]
    rw [if_pos (by omega), if_pos (by omega), if_pos (by omega), if_pos (by omega), if_pos (by omega), rdS_mid h, if_pos (by omega), snocS_len x (by omega)]
theorem spec_Join_ev (l : List ByteArray) (b : ByteArray) (hb : b.size ≤ 1048576) (hl : l.length ≤ 1048576) (hz : ∀ x ∈ l, x.size ≤ 1048576) :
    Ev (fun k => spec_Join.f k l b) (ofL (Lib.join (l.map (·.data.toList)) b.data.toList)) := by
  unfold spec_Join.f
  cases l with
  | nil =>
    refine Ev.step (f := fun _ => some _) (fun k => ?_) (Ev.now _)
    simp only [spec_Join.l0]
    rw [if_neg (by simp)]
    rfl
  | cons x r =>
    have hx : x.size ≤ 1048576 := hz x List.mem_cons_self
    have z1 : ((⟨#[]⟩ : ByteArray) ++ x).size = x.size := by rw [ByteArray.size_append]; show 0 + x.size = _; omega
    have h := spec_Join_loop b (x :: r) hb hl hz r [x] ((⟨#[]⟩ : ByteArray) ++ x) rfl (by simp) (by rw [z1]; simp only [List.length_cons, List.length_nil]; omega)
    rw [List.map_cons, Lib.join_cons]
    have ez : (((⟨#[]⟩ : ByteArray) ++ x)).data.toList = x.data.toList := by rw [append_toList]; rfl
    rw [ez] at h
    have hl' : (x :: r).length = r.length + 1 := rfl
    refine Ev.step (fun k => ?_) h
    simp only [spec_Join.l0]
    have e0 : rdOf ByteArray.empty (x :: r) 0 = x := rfl
    rw [if_pos (by omega), if_pos (by omega), if_pos (by omega), if_neg (by omega), e0, if_pos (by show 0 + x.size ≤ _; omega), show wrap64 (0 + 1) = (([x] : List ByteArray).length : Int) by rw [w64 (by omega) (by omega)]; rfl]
theorem impl_Join_is (l : List ByteArray) (b : ByteArray) (hb : b.size ≤ 1048576) (hl : l.length ≤ 1048576) (hz : ∀ x ∈ l, x.size ≤ 1048576) :
    impl_Join.f l b = some (ofL (Lib.join (l.map (·.data.toList)) b.data.toList)) := by
  unfold impl_Join.f strings_Join.f
  have hlen : (Lib.join (l.map (·.data.toList)) b.data.toList).length ≤ 140737488355328 := by
    cases l with
    | nil => simp [Lib.join]
    | cons x r =>
      have hx : x.size ≤ 1048576 := hz x List.mem_cons_self
      have ht := tail_len b r hb (fun y hy => hz y (List.mem_cons_of_mem _ hy))
      have hl' : (x :: r).length = r.length + 1 := rfl
      have e2 : x.data.toList.length = x.size := rfl
      rw [List.map_cons, Lib.join_cons, List.length_append, e2]
      omega
  rw [if_pos (by omega), if_pos hlen]
  rfl
theorem FnExactJoin_ (l : List ByteArray) (b : ByteArray) (hl : l.length ≤ maxLen) (hz : ∀ x ∈ l, x.size ≤ maxLen) : ∃ k, laws_FnExactJoin.f k l b = some true := by
  unfold maxLen at hl hz
  unfold laws_FnExactJoin.f
  by_cases g1 : (b.size : Int) > 1048576
  · exact ⟨0, by rw [if_pos g1]⟩
  simp only [if_neg g1]
  have ew : wrap64 (1048576 - (l.length : Int)) = 1048576 - (l.length : Int) := w64 (by omega) (by omega)
  unfold laws_szStringS.f
  rw [ew]
  by_cases g2 : 1048576 - (l.length : Int) < 0
  · exact ⟨0, by rw [if_pos g2]; rfl⟩
  simp only [if_neg g2]
  obtain ⟨v, hv, hb⟩ := szStringS_ev l (fun x hx => hz x hx) (by omega) l [] (1048576 - (l.length : Int)) rfl (by omega) (by omega)
  have hv' : Ev (fun k => laws_szStringS.l0 k l (1048576 - (l.length : Int)) 0) v := hv
  suffices h : Ev (fun k => (laws_szStringS.l0 k l (1048576 - (l.length : Int)) 0).bind fun t111 => (if t111 < 0 then (some true) else ((laws_toStringS.f k l).bind fun t112 => ((spec_Join.f k t112 b).bind fun t115 => ((laws_toStringS.f k l).bind fun t116 => ((impl_Join.f t116 b).bind fun t119 => (if t119.toList = t115.toList then ((laws_toStringS.f k l).bind fun t120 => ((laws_eqStringS.f k t116 t120).bind fun t123 => (if t123 = true then (some true) else (some false)))) else (some false)))))))) true by
    obtain ⟨k, hk⟩ := h
    exact ⟨k, hk k (Nat.le_refl k)⟩
  refine Ev.bind hv' ?_
  by_cases c : v < 0
  · simp only [if_pos c]; exact Ev.now _
  simp only [if_neg c]
  have hz' := hb (by omega)
  have ct := laws_toStringS_ev l (by omega)
  refine Ev.bind ct (Ev.bind (spec_Join_ev l b (by omega) (by omega) hz') (Ev.bind ct ?_))
  rw [impl_Join_is l b (by omega) (by omega) hz']
  simp only [Option.bind_some, if_pos]
  exact Ev.bind ct (Ev.bind (laws_eqStringS_ev l (by omega)) (by simp only [if_pos]; exact Ev.now _))

end Go.Proofs.Ytaeicjfkdkjplaa.Pure
