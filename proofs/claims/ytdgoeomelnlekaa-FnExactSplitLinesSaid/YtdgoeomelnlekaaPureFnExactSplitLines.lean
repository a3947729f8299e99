/- For all arguments, the program's SplitLines answers as the reference's does, in memory of its own. No conditions. -/
import Derived.Test.YtdgoeomelnlekaaMFnExactSplitLinesx0
import Derived.Test.YtdgoeomelnlekaaMFnExactSplitLinesx1
import Derived.Test.YtdgoeomelnlekaaMFnExactSplitLinesx2
import Derived.OpenShut
namespace Go.Proofs.Ytdgoeomelnlekaa.Pure
open Go.RowKit Go.Proofs.Ytdgoeomelnlekaa.MFnExactSplitLines Go.Proofs.YtdgoeomelnlekaaW.PrintWords Go.Proofs.YtdgoeomelnlekaaW.PrintLast
set_option linter.unusedVariables false
set_option linter.unusedSimpArgs false

/-! ### base: numbers, reads, loops -/
theorem w64 {a : Int} (h0 : -9223372036854775808 ≤ a) (h1 : a ≤ 9223372036854775807) : wrap64 a = a := by
  unfold wrap64
  omega
theorem w64n {n : Nat} (h : n ≤ 9223372036854775807) : wrap64 (n : Int) = n := w64 (by omega) (by omega)
theorem bd64 {n : Int} (h : (Lit.int .i64 n).wf = true) : -9223372036854775808 ≤ n ∧ n ≤ 9223372036854775807 := Go.bounds_i64 h
theorem rd_nat (xs : List Int) (i : Nat) : rd xs (i : Int) = xs.getD i 0 := by simp [rd]
theorem rd_lt {xs : List Int} {i : Nat} (h : i < xs.length) : rd xs (i : Int) = xs[i] := by simp [rd, h]
theorem bt_nat {s : ByteArray} {i : Nat} (h : i < s.size) : bt s (i : Int) = (s[i].toNat : Int) := by simp [bt, h]
/-- Going up to n: what holds at n holds from i on. -/
theorem up_ind (n : Nat) (P : Nat → Prop) (h0 : P n) (hs : ∀ i, i < n → P (i + 1) → P i) : ∀ i, i ≤ n → P i := by
  have h : ∀ d i, i + d = n → P i := by
    intro d
    induction d with
    | zero => intro i hi; obtain rfl : i = n := by omega
              exact h0
    | succ d ih => intro i hi; exact hs i (by omega) (ih (i + 1) (by omega))
  intro i hi
  exact h (n - i) i (by omega)
theorem ev_some {α : Type} {g : Nat → Option α} {r : α} (h : ∀ k, g k = some r) : Ev g r := ⟨0, fun k _ => h k⟩
theorem ev_pair {α β : Type} {g : Nat → Option α} {f : Nat → Option β} {a : α} {b : β} {h : α → β → Option Bool} (hg : Ev g a) (hf : Ev f b) (hh : h a b = some true) : ∃ k, ((g k).bind fun x => (f k).bind fun y => h x y) = some true :=
  Ev.rounds (Ev.bind hg (Ev.bind hf (ev_some fun _ => hh)))

/-! ### lists -/
theorem rd_mid (pre : List Int) (x : Int) (r : List Int) : rd (pre ++ x :: r) (pre.length : Int) = x := by simp [rd]
theorem rd_mid' {l pre : List Int} {x : Int} {r : List Int} (h : l = pre ++ x :: r) : rd l (pre.length : Int) = x := by subst h; exact rd_mid _ _ _
theorem snoc_eq {l pre : List Int} {x : Int} {r : List Int} (h : l = pre ++ x :: r) : l = (pre ++ [x]) ++ r := by simp [h]
theorem snoc_len {pre : List Int} (x : Int) (h : pre.length ≤ 9223372036854775806) : wrap64 ((pre.length : Int) + 1) = ((pre ++ [x]).length : Int) := by
  rw [w64 (by omega) (by omega)]; simp
/-- The whole numbers from m on, n of them. -/
def upFrom (m : Int) : Nat → List Int
  | 0 => []
  | n + 1 => m :: upFrom (m + 1) n
theorem upFrom_length (n : Nat) : ∀ m, (upFrom m n).length = n := by
  induction n with
  | zero => intro m; rfl
  | succ n ih => intro m; simp [upFrom, ih]
theorem upFrom_get (n : Nat) : ∀ (m : Int) (i : Nat) (h : i < (upFrom m n).length), (upFrom m n)[i] = m + i := by
  induction n with
  | zero => intro m i h; simp [upFrom] at h
  | succ n ih =>
    intro m i h
    cases i with
    | zero => simp [upFrom]
    | succ i => simp only [upFrom, List.getElem_cons_succ]; rw [ih]; omega
theorem upFrom_snoc (n : Nat) : ∀ m, upFrom m (n + 1) = upFrom m n ++ [m + n] := by
  induction n with
  | zero => intro m; simp [upFrom]
  | succ n ih => intro m; rw [upFrom, ih]; simp [upFrom]; omega
theorem upFrom_mem (n : Nat) : ∀ (m x : Int), x ∈ upFrom m n ↔ m ≤ x ∧ x < m + n := by
  induction n with
  | zero => intro m x; simp only [upFrom, List.not_mem_nil, false_iff]; omega
  | succ n ih => intro m x; simp only [upFrom, List.mem_cons, ih]; omega
theorem upFrom_nodup (n : Nat) : ∀ m, (upFrom m n).Nodup := by
  induction n with
  | zero => intro m; simp [upFrom]
  | succ n ih => intro m; simp only [upFrom, List.nodup_cons, ih, and_true, upFrom_mem]; omega
theorem nodup_inj {l : List Int} (h : l.Nodup) (i j : Nat) (hi : i < l.length) (hj : j < l.length) (e : l[i] = l[j]) : i = j := by
  have hp := List.pairwise_iff_getElem.1 h
  rcases Nat.lt_trichotomy i j with c | c | c
  · exact absurd e (hp i j hi hj c)
  · exact c
  · exact absurd e.symm (hp j i hj hi c)
theorem set_mid (pre : List Int) (x y : Int) (r : List Int) : (pre ++ y :: r).set pre.length x = (pre ++ [x]) ++ r := by simp
theorem lens {l pre r : List Int} (h : l = pre ++ r) : l.length = pre.length + r.length := by rw [h]; simp
theorem snoc_cast (pre : List Int) (x : Int) : ((pre ++ [x]).length : Int) = (pre.length : Int) + 1 := by simp

/-- What every law of one list does: it hands a copy to the reference and one to the program, compares, and looks at the copy. -/
theorem ev_ite_true {α : Type} {f g : Nat → Option α} {r : α} {c : Prop} [Decidable c] (h : c) (k : Ev f r) : Ev (fun n => if c then f n else g n) r := by simpa only [if_pos h] using k
theorem ev_ite_false {α : Type} {f g : Nat → Option α} {r : α} {c : Prop} [Decidable c] (h : ¬ c) (k : Ev g r) : Ev (fun n => if c then f n else g n) r := by simpa only [if_neg h] using k

/-! ### texts as marks -/
theorem markText_loop : ∀ (d : Nat) (x : Int) (s : ByteArray), 0 ≤ x → x ≤ 9223372036854775807 → x < 10 ^ d → s.size + d ≤ 1000 → ∃ t, Ev (fun k => laws_markText.l0 k x s) t := by
  intro d
  induction d with
  | zero =>
    intro x s h0 hb h1 hs
    refine ⟨(⟨#[109]⟩ : ByteArray) ++ s, Ev.step (f := fun _ => some ((⟨#[109]⟩ : ByteArray) ++ s)) (fun k => ?_) (Ev.now _)⟩
    simp only [laws_markText.l0]
    rw [if_neg (by simp at h1; omega), if_pos (by omega)]
  | succ d ih =>
    intro x s h0 hb h1 hs
    by_cases c : x > 0
    · have hd : 0 ≤ Int.tdiv x 10 ∧ Int.tdiv x 10 ≤ x ∧ Int.tdiv x 10 < 10 ^ d := by
        rw [Int.tdiv_eq_ediv_of_nonneg h0]
        have : (10 : Int) ^ (d + 1) = 10 ^ d * 10 := Int.pow_succ ..
        omega
      have hz : ∀ v : Int, (Go.strOfNums [v]).size = 1 := fun v => rfl
      obtain ⟨t, ht⟩ := ih (wrap64 (Int.tdiv x 10)) (Go.strOfNums [(wrap64 (48 + (Int.tmod x 10))) % 256] ++ s) (by rw [w64 (by omega) (by omega)]; omega) (by rw [w64 (by omega) (by omega)]; omega) (by
        have hw : wrap64 (Int.tdiv x 10) = Int.tdiv x 10 := w64 (by omega) (by omega)
        omega) (by rw [ByteArray.size_append, hz]; omega)
      refine ⟨t, Ev.step (fun k => ?_) ht⟩
      simp only [laws_markText.l0, Option.bind_some]
      rw [if_pos c, if_pos (by rw [hz]; omega)]
    · refine ⟨(⟨#[109]⟩ : ByteArray) ++ s, Ev.step (f := fun _ => some ((⟨#[109]⟩ : ByteArray) ++ s)) (fun k => ?_) (Ev.now _)⟩
      simp only [laws_markText.l0]
      rw [if_neg c, if_pos (by omega)]
theorem markText_ev (x : Int) (h1 : x ≤ 9223372036854775807) : ∃ t, Ev (fun k => laws_markText.f k x) t := by
  unfold laws_markText.f
  by_cases c : x ≤ 0
  · exact ⟨_, ev_ite_true c (Ev.now _)⟩
  · obtain ⟨t, ht⟩ := markText_loop 19 x ⟨#[]⟩ (by omega) h1 (by omega) (by decide)
    exact ⟨t, ev_ite_false c ht⟩
theorem marks_ex : ∃ mt : Int → ByteArray, ∀ x, x ≤ 9223372036854775807 → Ev (fun k => laws_markText.f k x) (mt x) := by
  refine ⟨fun x => if h : x ≤ 9223372036854775807 then (markText_ev x h).choose else ⟨#[]⟩, fun x h => ?_⟩
  simp only [dif_pos h]
  exact (markText_ev x h).choose_spec
def textsFrom (mt : Int → ByteArray) : Int → Nat → List ByteArray
  | _, 0 => []
  | m, n + 1 => mt m :: textsFrom mt (m + 1) n
theorem textsFrom_length (mt : Int → ByteArray) (n : Nat) : ∀ m, (textsFrom mt m n).length = n := by
  induction n with
  | zero => intro m; rfl
  | succ n ih => intro m; simp [textsFrom, ih]
theorem rdS_mid {l pre : List ByteArray} {x : ByteArray} {r : List ByteArray} (h : l = pre ++ x :: r) : rdOf ByteArray.empty l (pre.length : Int) = x := by subst h; simp [rdOf]
theorem snocS_len {pre : List ByteArray} (x : ByteArray) (h : pre.length ≤ 9223372036854775806) : wrap64 ((pre.length : Int) + 1) = ((pre ++ [x]).length : Int) := by
  rw [w64 (by omega) (by omega)]; simp
theorem setS_mid (pre : List ByteArray) (x y : ByteArray) (r : List ByteArray) : (pre ++ y :: r).set pre.length x = (pre ++ [x]) ++ r := by simp
theorem laws_markStringS_loop (mt : Int → ByteArray) (hmt : ∀ x, x ≤ 9223372036854775807 → Ev (fun k => laws_markText.f k x) (mt x)) : ∀ (r pre : List ByteArray) (m : Int), 0 ≤ m → m + r.length ≤ 9223372036854775806 → pre.length + r.length ≤ 9223372036854775806 →
    Ev (fun k => laws_markStringS.l0 k (pre ++ r) m (pre.length : Int)) (m + r.length, pre ++ textsFrom mt m r.length) := by
  intro r
  induction r with
  | nil =>
    intro pre m h0 h1 h2
    refine Ev.step (f := fun _ => some _) (fun k => ?_) (Ev.now _)
    simp only [laws_markStringS.l0]
    rw [if_neg (by simp)]
    simp [textsFrom]
  | cons x r ih =>
    intro pre m h0 h1 h2
    simp only [List.length_cons] at h1 h2
    have hi := ih (pre ++ [mt m]) (m + 1) (by omega) (by omega) (by simp; omega)
    have er : ((m + 1 + r.length : Int), (pre ++ [mt m]) ++ textsFrom mt (m + 1) r.length) = (m + (x :: r).length, pre ++ textsFrom mt m (x :: r).length) := by
      simp [textsFrom]; omega
    rw [er] at hi
    refine Ev.step (f := fun k => (laws_markText.f k m).bind fun t => laws_markStringS.l0 k ((pre ++ x :: r).set pre.length t) (wrap64 (m + 1)) (wrap64 ((pre.length : Int) + 1))) (fun k => ?_) (Ev.bind (hmt m (by omega)) ?_)
    · simp only [laws_markStringS.l0]
      rw [if_pos (by simp; omega)]
      simp only [if_pos (show (0 : Int) ≤ (pre.length : Int) by omega), Int.toNat_natCast]
    · simp only [setS_mid, snocS_len (mt m) (show pre.length ≤ 9223372036854775806 by omega), w64 (show -9223372036854775808 ≤ m + 1 by omega) (show m + 1 ≤ 9223372036854775807 by omega)]
      exact hi
theorem laws_heldStringS_loop (mt : Int → ByteArray) (hmt : ∀ x, x ≤ 9223372036854775807 → Ev (fun k => laws_markText.f k x) (mt x)) (l : List ByteArray) (hl : l.length ≤ 9223372036854775806) : ∀ (n : Nat) (pre : List ByteArray) (m : Int), 0 ≤ m → m + n ≤ 9223372036854775806 → l = pre ++ textsFrom mt m n →
    Ev (fun k => laws_heldStringS.l0 k l m (pre.length : Int)) (m + n) := by
  intro n
  induction n with
  | zero =>
    intro pre m h0 h1 h
    refine Ev.step (f := fun _ => some _) (fun k => ?_) (Ev.now _)
    simp only [laws_heldStringS.l0]
    rw [if_neg (by rw [h]; simp [textsFrom])]
    simp
  | succ n ih =>
    intro pre m h0 h1 h
    have e : l.length = pre.length + (n + 1) := by rw [h, List.length_append, textsFrom_length]
    have hi := ih (pre ++ [mt m]) (m + 1) (by omega) (by omega) (by rw [h]; simp [textsFrom])
    have er : m + 1 + (n : Int) = m + (n + 1 : Nat) := by omega
    rw [er] at hi
    have hrd := rdS_mid (l := l) (pre := pre) (by rw [h, textsFrom])
    refine Ev.step (f := fun k => (laws_markText.f k m).bind fun t => if (mt m).toList = t.toList then laws_heldStringS.l0 k l (wrap64 (m + 1)) (wrap64 ((pre.length : Int) + 1)) else some (-1)) (fun k => ?_) (Ev.bind (hmt m (by omega)) ?_)
    · simp only [laws_heldStringS.l0]
      rw [if_pos (by omega), if_pos (by omega), hrd]
    · simp only [if_true, snocS_len (mt m) (show pre.length ≤ 9223372036854775806 by omega), w64 (show -9223372036854775808 ≤ m + 1 by omega) (show m + 1 ≤ 9223372036854775807 by omega)]
      exact hi
theorem laws_eqStringS_loop (l : List ByteArray) (hl : l.length ≤ 9223372036854775806) : ∀ (r pre : List ByteArray), l = pre ++ r →
    Ev (fun k => laws_eqStringS.l0 k l l (pre.length : Int)) true := by
  intro r
  induction r with
  | nil =>
    intro pre h
    refine Ev.step (f := fun _ => some _) (fun k => ?_) (Ev.now _)
    simp only [laws_eqStringS.l0]
    rw [if_neg (by rw [h]; simp)]
  | cons x r ih =>
    intro pre h
    have e : l.length = pre.length + (r.length + 1) := by rw [h]; simp
    refine Ev.step (fun k => ?_) (ih (pre ++ [x]) (by rw [h]; simp))
    simp only [laws_eqStringS.l0]
    rw [if_pos (by omega), if_pos (by omega), if_pos (by omega), if_pos trivial, snocS_len x (by omega)]
theorem laws_eqStringS_ev (l : List ByteArray) (hl : l.length ≤ 9223372036854775806) : Ev (fun k => laws_eqStringS.f k l l) true := by
  unfold laws_eqStringS.f
  simp only [if_true]
  exact laws_eqStringS_loop l hl l [] rfl
/-- A list that is handed out: marked, held, and held once more. -/
theorem textsS_held (l : List ByteArray) (hl : l.length ≤ 1048577) : ∃ (m : Int) (l' : List ByteArray), 0 ≤ m ∧ Ev (fun k => laws_markStringS.f k l 1) (m, l') ∧ Ev (fun k => laws_heldStringS.f k l' 1) m := by
  obtain ⟨mt, hmt⟩ := marks_ex
  refine ⟨1 + (l.length : Int), textsFrom mt 1 l.length, by omega, ?_, ?_⟩
  · unfold laws_markStringS.f
    exact laws_markStringS_loop mt hmt l [] 1 (by omega) (by omega) (by simp; omega)
  · unfold laws_heldStringS.f
    exact laws_heldStringS_loop mt hmt _ (by rw [textsFrom_length]; omega) l.length [] 1 (by omega) (by omega) rfl

/-- Is it a byte of the string? -/
def hasB (b : ByteArray) (v : Int) : Bool := b.data.toList.any fun c => decide ((c.toNat : Int) = v)
/-- The pieces between the bytes of b, from place i on; the last one begins at place f. -/
def splitF (s b : ByteArray) : Nat → List ByteArray → Nat → Nat → List ByteArray
  | 0, out, f, _ => out ++ [s.extract f s.size]
  | d + 1, out, f, i => if hasB b (bt s (i : Int)) = true then splitF s b d (out ++ [s.extract f i]) (i + 1) (i + 1) else splitF s b d out f (i + 1)
def splitAny (s b : ByteArray) : List ByteArray := splitF s b s.size [] 0 0
theorem splitF_length (s b : ByteArray) : ∀ (d : Nat) (out : List ByteArray) (f i : Nat), out.length + 1 ≤ (splitF s b d out f i).length ∧ (splitF s b d out f i).length ≤ out.length + d + 1 := by
  intro d
  induction d with
  | zero => intro out f i; simp [splitF]
  | succ d ih =>
    intro out f i
    rw [splitF]
    split
    · have := ih (out ++ [s.extract f i]) (i + 1) (i + 1); simp only [List.length_append, List.length_singleton] at this; omega
    · have := ih out f (i + 1); omega
theorem splitAny_length (s b : ByteArray) : 1 ≤ (splitAny s b).length ∧ (splitAny s b).length ≤ s.size + 1 := by
  have := splitF_length s b s.size [] 0 0
  simp only [List.length_nil] at this
  unfold splitAny
  omega

theorem hasB_drop (b : ByteArray) (v : Int) (j : Nat) (hj : j < b.size) : ((b.data.toList.drop j).any fun c => decide ((c.toNat : Int) = v)) = (decide (bt b (j : Int) = v) || (b.data.toList.drop (j + 1)).any fun c => decide ((c.toNat : Int) = v)) := by
  have hl : j < b.data.toList.length := by simpa using hj
  rw [List.drop_eq_getElem_cons hl, List.any_cons, bt_nat hj]
  rfl
theorem spec_SplitAny_in (s b : ByteArray) (hs : s.size ≤ 1048576) (hb : b.size ≤ 1048576) (i f : Nat) (hi : i < s.size) (hf : f ≤ i) (out : List ByteArray) (ho : out.length ≤ i) (R : List ByteArray) : ∀ (e j : Nat), j + e = b.size →
    Ev (fun k => if ((b.data.toList.drop j).any fun c => decide ((c.toNat : Int) = bt s (i : Int))) = true then spec_SplitAny.l0 k s b (out ++ [s.extract f i]) ((i + 1 : Nat) : Int) ((i + 1 : Nat) : Int) else spec_SplitAny.l0 k s b out (f : Int) ((i + 1 : Nat) : Int)) R →
    Ev (fun k => spec_SplitAny.l1 k s b out (f : Int) (i : Int) (j : Int)) R := by
  have ew : wrap64 ((i : Int) + 1) = ((i + 1 : Nat) : Int) := by rw [w64 (by omega) (by omega)]; rfl
  intro e
  induction e with
  | zero =>
    intro j hj hk
    refine Ev.step (fun k => ?_) hk
    simp only [spec_SplitAny.l1]
    rw [if_neg (by omega), if_neg (by rw [List.drop_eq_nil_of_le (by simpa using (show b.size ≤ j by omega))]; simp), ew]
  | succ e ih =>
    intro j hj hk
    have hd := hasB_drop b (bt s (i : Int)) j (by omega)
    by_cases c : bt b (j : Int) = bt s (i : Int)
    · rw [hd] at hk
      simp only [c, decide_true, Bool.true_or, if_true] at hk
      refine Ev.step (fun k => ?_) hk
      simp only [spec_SplitAny.l1]
      rw [if_pos (by omega), if_pos (by omega), if_pos (by omega), if_pos (by omega), if_pos c.symm, if_pos (by omega), if_pos (by omega), if_pos (by omega), if_pos (by omega), ew, Int.toNat_natCast, Int.toNat_natCast]
    · rw [hd] at hk
      simp only [c, decide_false, Bool.false_or] at hk
      refine Ev.step (fun k => ?_) (ih (j + 1) (by omega) hk)
      simp only [spec_SplitAny.l1]
      rw [if_pos (by omega), if_pos (by omega), if_pos (by omega), if_pos (by omega), if_neg (fun h => c h.symm), w64 (by omega) (by omega)]
      rfl
theorem spec_SplitAny_loop (s b : ByteArray) (hs : s.size ≤ 1048576) (hb : b.size ≤ 1048576) : ∀ (d i f : Nat) (out : List ByteArray), i + d = s.size → f ≤ i → out.length ≤ i →
    Ev (fun k => spec_SplitAny.l0 k s b out (f : Int) (i : Int)) (splitF s b d out f i) := by
  intro d
  induction d with
  | zero =>
    intro i f out hi hf ho
    refine Ev.step (f := fun _ => some _) (fun k => ?_) (Ev.now _)
    simp only [spec_SplitAny.l0]
    rw [if_neg (by omega), if_pos (by omega), if_pos (by omega), if_pos (by omega), Int.toNat_natCast]
    rfl
  | succ d ih =>
    intro i f out hi hf ho
    rw [splitF]
    have h1 := ih (i + 1) (i + 1) (out ++ [s.extract f i]) (by omega) (by omega) (by simp; omega)
    have h2 := ih (i + 1) f out (by omega) (by omega) (by omega)
    refine Ev.step (fun k => ?_) (spec_SplitAny_in s b hs hb i f (by omega) hf out ho _ b.size 0 (by omega) ?_)
    · simp only [spec_SplitAny.l0]
      rw [if_pos (by omega)]
      rfl
    · rw [List.drop_zero]
      by_cases c : hasB b (bt s (i : Int)) = true
      · rw [if_pos c]; exact ev_ite_true c h1
      · rw [if_neg c]; exact ev_ite_false c h2
theorem spec_SplitAny_ev (s b : ByteArray) (hs : s.size ≤ 1048576) (hb : b.size ≤ 1048576) : Ev (fun k => spec_SplitAny.f k s b) (splitAny s b) := by
  unfold spec_SplitAny.f splitAny
  exact spec_SplitAny_loop s b hs hb s.size 0 0 [] (by omega) (by omega) (by simp)

theorem indexByte_any (l : List UInt8) (c : UInt8) : 0 ≤ Lib.indexByte l c ↔ l.any (fun b => b == c) = true := by
  induction l with
  | nil => simp [Lib.indexByte]
  | cons b l ih =>
    rw [Lib.indexByte, List.any_cons]
    by_cases h : (b == c) = true
    · rw [if_pos h]; simp [h]
    · rw [if_neg h]
      have hf : (b == c) = false := by simpa using h
      rw [hf, Bool.false_or, ← ih]
      have := Lib.indexByte_ge l c
      by_cases e : (Lib.indexByte l c == -1) = true
      · rw [if_pos e]
        have e2 : Lib.indexByte l c = -1 := by simpa using e
        omega
      · rw [if_neg e]
        have e2 : ¬ Lib.indexByte l c = -1 := by simpa using e
        omega
theorem byte_of_bt (s : ByteArray) (i : Int) (c : UInt8) : (c == (bt s i).toNat.toUInt8) = decide ((c.toNat : Int) = bt s i) := by
  have h := bt_range s i
  rw [Bool.eq_iff_iff, beq_iff_eq, decide_eq_true_eq]
  constructor
  · intro e
    rw [e]
    simp only [Nat.toUInt8_eq, UInt8.toNat_ofNat']
    omega
  · intro e
    apply UInt8.toNat.inj
    simp only [Nat.toUInt8_eq, UInt8.toNat_ofNat']
    omega
theorem indexByte_hasB (b s : ByteArray) (i : Int) : 0 ≤ Lib.indexByte b.data.toList (bt s i).toNat.toUInt8 ↔ hasB b (bt s i) = true := by
  rw [indexByte_any, hasB]
  have e : (fun c : UInt8 => c == (bt s i).toNat.toUInt8) = fun c => decide ((c.toNat : Int) = bt s i) := funext fun c => byte_of_bt s i c
  rw [e]
theorem impl_SplitAny_loop (s b : ByteArray) (hs : s.size ≤ 1048576) : ∀ (d i f : Nat) (out : List ByteArray), i + d = s.size → f ≤ i → out.length ≤ i →
    Ev (fun k => impl_SplitAny.l0 k s b out (f : Int) (i : Int)) (splitF s b d out f i) := by
  intro d
  induction d with
  | zero =>
    intro i f out hi hf ho
    refine Ev.step (f := fun _ => some _) (fun k => ?_) (Ev.now _)
    simp only [impl_SplitAny.l0]
    rw [if_neg (by omega), if_pos (by omega), if_pos (by omega), if_pos (by omega), Int.toNat_natCast]
    rfl
  | succ d ih =>
    intro i f out hi hf ho
    have ew : wrap64 ((i : Int) + 1) = ((i + 1 : Nat) : Int) := by rw [w64 (by omega) (by omega)]; rfl
    have hb := indexByte_hasB b s (i : Int)
    rw [splitF]
    by_cases c : hasB b (bt s (i : Int)) = true
    · rw [if_pos c]
      refine Ev.step (fun k => ?_) (ih (i + 1) (i + 1) (out ++ [s.extract f i]) (by omega) (by omega) (by simp; omega))
      simp only [impl_SplitAny.l0, strings_IndexByte.f, Option.bind_some]
      rw [if_pos (by omega), if_pos (by omega), if_pos (hb.2 c), if_pos (by omega), if_pos (by omega), if_pos (by omega), if_pos (by omega), ew, Int.toNat_natCast, Int.toNat_natCast]
    · rw [if_neg c]
      refine Ev.step (fun k => ?_) (ih (i + 1) f out (by omega) (by omega) (by omega))
      simp only [impl_SplitAny.l0, strings_IndexByte.f, Option.bind_some]
      rw [if_pos (by omega), if_pos (by omega), if_neg (fun h => c (hb.1 h)), ew]
theorem impl_SplitAny_ev (s b : ByteArray) (hs : s.size ≤ 1048576) : Ev (fun k => impl_SplitAny.f k s b) (splitAny s b) := by
  unfold impl_SplitAny.f splitAny
  exact impl_SplitAny_loop s b hs s.size 0 0 [] (by omega) (by omega) (by simp)

def splitLines (s : ByteArray) : List ByteArray := if (rdOf ByteArray.empty (splitAny s ⟨#[10]⟩) (((splitAny s ⟨#[10]⟩).length - 1 : Nat) : Int)).toList = [] then (splitAny s ⟨#[10]⟩).take ((splitAny s ⟨#[10]⟩).length - 1) else splitAny s ⟨#[10]⟩
theorem splitLines_length (s : ByteArray) : (splitLines s).length ≤ s.size + 1 := by
  have hl := splitAny_length s ⟨#[10]⟩
  unfold splitLines
  split
  · rw [List.length_take]; omega
  · omega
theorem spec_SplitLines_ev (s : ByteArray) (hs : s.size ≤ 1048576) : Ev (fun k => spec_SplitLines.f k s) (splitLines s) := by
  have hl := splitAny_length s ⟨#[10]⟩
  have ew : wrap64 (((splitAny s ⟨#[10]⟩).length : Int) - 1) = (((splitAny s ⟨#[10]⟩).length - 1 : Nat) : Int) := by rw [w64 (by omega) (by omega)]; omega
  unfold spec_SplitLines.f splitLines
  refine Ev.bind (spec_SplitAny_ev s ⟨#[10]⟩ hs (by decide)) ?_
  simp only [ew, Int.toNat_natCast]
  refine ev_ite_true (by omega) (ev_ite_true (by omega) ?_)
  by_cases c : (rdOf ByteArray.empty (splitAny s ⟨#[10]⟩) (((splitAny s ⟨#[10]⟩).length - 1 : Nat) : Int)).toList = []
  · simp only [if_pos c]; exact ev_ite_true (by omega) (Ev.now _)
  · simp only [if_neg c]; exact Ev.now _
theorem impl_SplitLines_ev (s : ByteArray) (hs : s.size ≤ 1048576) : Ev (fun k => impl_SplitLines.f k s) (splitLines s) := by
  have hl := splitAny_length s ⟨#[10]⟩
  have ew : wrap64 (((splitAny s ⟨#[10]⟩).length : Int) - 1) = (((splitAny s ⟨#[10]⟩).length - 1 : Nat) : Int) := by rw [w64 (by omega) (by omega)]; omega
  unfold impl_SplitLines.f splitLines
  refine Ev.bind (impl_SplitAny_ev s ⟨#[10]⟩ hs) ?_
  simp only [ew, Int.toNat_natCast]
  refine ev_ite_true (by omega) (ev_ite_true (by omega) ?_)
  by_cases c : (rdOf ByteArray.empty (splitAny s ⟨#[10]⟩) (((splitAny s ⟨#[10]⟩).length - 1 : Nat) : Int)).toList = []
  · simp only [if_pos c]; exact ev_ite_true (by omega) (Ev.now _)
  · simp only [if_neg c]; exact Ev.now _
theorem FnExactSplitLines : laws_FnExactSplitLines.Pure := by
  intro s ws
  unfold laws_FnExactSplitLines.f
  by_cases g1 : (s.size : Int) > 1048576
  · exact ⟨0, by rw [if_pos g1]⟩
  simp only [if_neg g1]
  have hl := splitLines_length s
  obtain ⟨m, l', h0, hm, hh⟩ := textsS_held (splitLines s) (by omega)
  have cs := spec_SplitLines_ev s (by omega)
  have ci := impl_SplitLines_ev s (by omega)
  have eq := laws_eqStringS_ev (splitLines s) (by omega)
  refine Ev.rounds ?_
  refine Ev.bind cs (Ev.bind ci (Ev.bind eq ?_))
  simp only [if_true]
  refine Ev.bind hm (Ev.bind hh ?_)
  simp only [if_neg (show ¬ m < 0 by omega), if_true]
  refine Ev.bind ci (Ev.bind eq ?_)
  simp only [if_true]
  refine Ev.bind hh ?_
  simp only [if_neg (show ¬ m < 0 by omega), if_true]
  exact Ev.now _

end Go.Proofs.Ytdgoeomelnlekaa.Pure
