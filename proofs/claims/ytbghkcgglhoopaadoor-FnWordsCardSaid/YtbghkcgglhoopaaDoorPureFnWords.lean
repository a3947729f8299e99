/- For every code: numbers are read back from their text, and a text from its pieces. No conditions. -/
import Derived.Test.YtbghkcgglhoopaaDoorMFnWordsx0
import Derived.Test.YtbghkcgglhoopaaDoorMFnWordsx1
import Derived.Test.YtbghkcgglhoopaaDoorMFnWordsx2
import Derived.Test.YtbghkcgglhoopaaDoorMFnWordsx3
import Derived.OpenShut
namespace Go.Proofs.YtbghkcgglhoopaaDoor.Pure
open Go.RowKit Go.Proofs.YtbghkcgglhoopaaDoor.MFnWords Go.Proofs.YtbghkcgglhoopaaDoorW.PrintWords Go.Proofs.YtbghkcgglhoopaaDoorW.PrintLast
set_option linter.unusedVariables false
set_option linter.unusedSimpArgs false

/-! ### base: numbers, reads, loops -/
theorem w64 {a : Int} (h0 : -9223372036854775808 ≤ a) (h1 : a ≤ 9223372036854775807) : wrap64 a = a := by
  unfold wrap64
  omega
theorem w64n {n : Nat} (h : n ≤ 9223372036854775807) : wrap64 (n : Int) = n := w64 (by omega) (by omega)
theorem bd64 {n : Int} (h : (Lit.int .i64 n).wf = true) : -9223372036854775808 ≤ n ∧ n ≤ 9223372036854775807 := Go.bounds_i64 h
theorem rd_nat (xs : List Int) (i : Nat) : rd xs (i : Int) = xs.getD i 0 := by simp [rd]
theorem rd_lt {xs : List Int} {i : Nat} (h : i < xs.length) : rd xs (i : Int) = xs[i] := by simp [rd, h]
theorem bt_nat {s : ByteArray} {i : Nat} (h : i < s.size) : bt s (i : Int) = (s[i].toNat : Int) := by simp [bt, h]
/-- Going up to n: what holds at n holds from i on. -/
theorem up_ind (n : Nat) (P : Nat → Prop) (h0 : P n) (hs : ∀ i, i < n → P (i + 1) → P i) : ∀ i, i ≤ n → P i := by
  have h : ∀ d i, i + d = n → P i := by
    intro d
    induction d with
    | zero => intro i hi; obtain rfl : i = n := by omega
              exact h0
    | succ d ih => intro i hi; exact hs i (by omega) (ih (i + 1) (by omega))
  intro i hi
  exact h (n - i) i (by omega)
theorem ev_some {α : Type} {g : Nat → Option α} {r : α} (h : ∀ k, g k = some r) : Ev g r := ⟨0, fun k _ => h k⟩
theorem ev_pair {α β : Type} {g : Nat → Option α} {f : Nat → Option β} {a : α} {b : β} {h : α → β → Option Bool} (hg : Ev g a) (hf : Ev f b) (hh : h a b = some true) : ∃ k, ((g k).bind fun x => (f k).bind fun y => h x y) = some true :=
  Ev.rounds (Ev.bind hg (Ev.bind hf (ev_some fun _ => hh)))

/-- What every law of one list does: it hands a copy to the reference and one to the program, compares, and looks at the copy. -/
theorem ev_ite_true {α : Type} {f g : Nat → Option α} {r : α} {c : Prop} [Decidable c] (h : c) (k : Ev f r) : Ev (fun n => if c then f n else g n) r := by simpa only [if_pos h] using k
theorem ev_ite_false {α : Type} {f g : Nat → Option α} {r : α} {c : Prop} [Decidable c] (h : ¬ c) (k : Ev g r) : Ev (fun n => if c then f n else g n) r := by simpa only [if_neg h] using k

theorem and255 (x : Int) : 0 ≤ Go.bits .and .i64 x 255 ∧ Go.bits .and .i64 x 255 ≤ 255 := by
  have h : (BitVec.ofInt 64 x &&& BitVec.ofInt 64 255).toNat ≤ 255 := by
    rw [BitVec.toNat_and]
    exact Nat.le_trans Nat.and_le_right (by decide)
  have e : Go.bits .and .i64 x 255 = (((BitVec.ofInt 64 x &&& BitVec.ofInt 64 255).toNat : Nat) : Int) := by
    have : Go.bits .and .i64 x 255 = IntKind.i64.wrap (((BitVec.ofInt 64 x &&& BitVec.ofInt 64 255).toNat : Nat) : Int) := rfl
    rw [this, i64_w, w64 (by omega) (by omega)]
  rw [e]
  omega
theorem byte_ok (s0 : List Int) (s1 s2 : Int) (hl : s0.length ≤ 1048576) (h : 0 ≤ s1) : ∃ b t1 t2, spec_l01Byte.f s0 s1 s2 = some (b, t1, t2) ∧ 0 ≤ b ∧ b ≤ 255 ∧ 0 ≤ t1 := by
  unfold spec_l01Byte.f
  by_cases c : s1 < (s0.length : Int)
  · rw [if_pos c, if_pos h]
    exact ⟨_, _, _, rfl, (and255 _).1, (and255 _).2, by rw [w64 (by omega) (by omega)]; omega⟩
  · rw [if_neg c]
    exact ⟨_, _, _, rfl, (and255 _).1, (and255 _).2, h⟩
theorem below_ok (s0 : List Int) (s1 s2 n : Int) (hl : s0.length ≤ 1048576) (h : 0 ≤ s1) (hn : 1 ≤ n) (hm : n ≤ 256) : ∃ b t1 t2, spec_l01Below.f s0 s1 s2 n = some (b, t1, t2) ∧ 0 ≤ b ∧ b < n ∧ 0 ≤ t1 := by
  unfold spec_l01Below.f
  obtain ⟨b, t1, t2, e, b0, b1, ht⟩ := byte_ok s0 s1 s2 hl h
  rw [if_neg (by omega), if_pos hm, e]
  simp only [Option.bind_some]
  rw [if_neg (by omega)]
  refine ⟨_, _, _, rfl, ?_, ?_, ht⟩
  · rw [Int.tmod_eq_emod_of_nonneg b0]; exact Int.emod_nonneg _ (by omega)
  · rw [Int.tmod_eq_emod_of_nonneg b0]; exact Int.emod_lt_of_pos _ (by omega)
theorem new_loop (l : List Int) (hl : l.length ≤ 1048576) : ∀ (d : Nat) (i : Nat) (x : Int), l.length ≤ i + d → i ≤ l.length → ∃ h, Ev (fun k => spec_l01New.l0 k l x (i : Int)) (l, 0, h) := by
  intro d
  induction d with
  | zero =>
    intro i x hi hj
    refine ⟨x, Ev.step (f := fun _ => some _) (fun k => ?_) (Ev.now _)⟩
    simp only [spec_l01New.l0]
    rw [if_neg (by omega)]
  | succ d ih =>
    intro i x hi hj
    by_cases c : i < l.length
    · by_cases c2 : (i : Int) < 4000
      · obtain ⟨h, hh⟩ := ih (i + 1) (Go.bits .and .i64 (wrap64 ((wrap64 ((wrap64 (x * 101)) + (wrap64 (rd l i)))) + 7)) 1073741823) (by omega) (by omega)
        refine ⟨h, Ev.step (fun k => ?_) hh⟩
        simp only [spec_l01New.l0]
        rw [if_pos (by omega), if_pos c2, if_pos (by omega), w64 (a := (i : Int) + 1) (by omega) (by omega)]
        rfl
      · refine ⟨x, Ev.step (f := fun _ => some _) (fun k => ?_) (Ev.now _)⟩
        simp only [spec_l01New.l0]
        rw [if_pos (by omega), if_neg c2]
    · refine ⟨x, Ev.step (f := fun _ => some _) (fun k => ?_) (Ev.now _)⟩
      simp only [spec_l01New.l0]
      rw [if_neg (by omega)]
theorem new_ok (l : List Int) (hl : l.length ≤ 1048576) : ∃ h, Ev (fun k => spec_l01New.f k l) (l, 0, h) := new_loop l hl l.length 0 _ (by omega) (by omega)

theorem l23_loop (l : List Int) (hl : l.length ≤ 1048576) (n : Nat) (hn : n ≤ 1000) : ∀ (d i : Nat) (s1 s2 : Int), i + d = n → 0 ≤ s1 → ∃ t1 t2, 0 ≤ t1 ∧ Ev (fun k => spec_l23New.l0 k (n : Int) (i : Int) l s1 s2) (l, t1, t2) := by
  intro d
  induction d with
  | zero =>
    intro i s1 s2 hi h
    refine ⟨s1, s2, h, Ev.step (f := fun _ => some _) (fun k => ?_) (Ev.now _)⟩
    simp only [spec_l23New.l0]
    rw [if_neg (by omega)]
  | succ d ih =>
    intro i s1 s2 hi h
    obtain ⟨b, u1, u2, e, b0, b1, hu⟩ := byte_ok l s1 s2 hl h
    obtain ⟨t1, t2, ht, hE⟩ := ih (i + 1) u1 u2 (by omega) hu
    refine ⟨t1, t2, ht, Ev.step (fun k => ?_) hE⟩
    simp only [spec_l23New.l0]
    rw [if_pos (by omega), e, w64 (by omega) (by omega)]
    rfl
theorem l23_ok (l : List Int) (hl : l.length ≤ 1048576) (n : Nat) (hn : n ≤ 1000) : ∃ t1 t2, 0 ≤ t1 ∧ Ev (fun k => spec_l23New.f k l (n : Int)) (l, t1, t2) := by
  obtain ⟨h, hh⟩ := new_ok l hl
  obtain ⟨t1, t2, ht, hE⟩ := l23_loop l hl n hn n 0 0 h (by omega) (by omega)
  exact ⟨t1, t2, ht, by unfold spec_l23New.f; exact Ev.bind hh hE⟩

theorem makeNum_ok (l : List Int) (hl : l.length ≤ 1048576) (n : Nat) (hn : n ≤ 1000) : ∃ v, 0 ≤ v ∧ v ≤ 65535 ∧ Ev (fun k => spec_MakeNum.f k l (n : Int)) v := by
  obtain ⟨t1, t2, ht, hE⟩ := l23_ok l hl n hn
  obtain ⟨b, u1, u2, e, b0, b1, hu⟩ := byte_ok l t1 t2 hl ht
  obtain ⟨c, v1, v2, e2, c0, c1, hv⟩ := byte_ok l u1 u2 hl hu
  refine ⟨b * 256 + c, by omega, by omega, ?_⟩
  unfold spec_MakeNum.f
  refine Ev.bind hE ?_
  simp only [e, e2, Option.bind_some]
  rw [w64 (a := b * 256) (by omega) (by omega), w64 (by omega) (by omega)]
  exact Ev.now _

/-! ### decimal numerals -/
theorem append_toList' (a b : ByteArray) : (a ++ b).data.toList = a.data.toList ++ b.data.toList := by simp
theorem bytes_ext' {a b : ByteArray} (h : a.data.toList = b.data.toList) : a = b := by
  cases a with
  | mk x =>
    cases b with
    | mk y =>
      have h' : x.toList = y.toList := h
      rw [Array.toList_inj.mp h']
def ofB (l : List UInt8) : ByteArray := ⟨l.toArray⟩
theorem ofB_toList (l : List UInt8) : (ofB l).data.toList = l := by unfold ofB; simp
theorem digit_of (m : Nat) (h : m < 10) : (Go.strOfNums [((48 + m : Nat) : Int) % 256]).data.toList = [UInt8.ofNat (48 + m)] := by
  have : ∀ i : Fin 10, (Go.strOfNums [((48 + i.val : Nat) : Int) % 256]).data.toList = [UInt8.ofNat (48 + i.val)] := by decide +kernel
  exact this ⟨m, h⟩
theorem num_size (v : Int) : (Go.strOfNums [v]).size = 1 := rfl
theorem dec_small (m : Nat) (h : m < 10) : Lib.decDigits m = [UInt8.ofNat (48 + m)] := Lib.decDigits_one h
theorem dec_big (m : Nat) (h : ¬ m < 10) : Lib.decDigits m = Lib.decDigits (m / 10) ++ [UInt8.ofNat (48 + m % 10)] := by rw [Lib.decDigits, dif_neg h]
theorem tdiv_neg (m : Nat) : Int.tdiv (-(m : Int)) 10 = -((m / 10 : Nat) : Int) := by
  rw [Int.neg_tdiv]; rfl
theorem tmod_neg (m : Nat) : Int.tmod (-(m : Int)) 10 = -((m % 10 : Nat) : Int) := by
  rw [Int.neg_tmod]; rfl

/-! ### numerals are read back -/
theorem dec_digit : ∀ (d m : Nat), m < 10 ^ d → ∀ c ∈ Lib.decDigits m, 48 ≤ c.toNat ∧ c.toNat ≤ 57 := by
  have one : ∀ i, i < 10 → (UInt8.ofNat (48 + i)).toNat = 48 + i := by
    intro i hi
    have : ∀ j : Fin 10, (UInt8.ofNat (48 + j.val)).toNat = 48 + j.val := by decide +kernel
    exact this ⟨i, hi⟩
  intro d
  induction d with
  | zero =>
    intro m h c hc
    have : m = 0 := by simpa using h
    subst this
    rw [dec_small 0 (by omega)] at hc
    have hc := List.mem_singleton.mp hc
    rw [hc, one 0 (by omega)]
    omega
  | succ d ih =>
    intro m h c hc
    by_cases q : m < 10
    · rw [dec_small m q] at hc
      have hc := List.mem_singleton.mp hc
      rw [hc, one m q]
      omega
    · rw [dec_big m q] at hc
      have hp : (10 : Nat) ^ (d + 1) = 10 ^ d * 10 := Nat.pow_succ ..
      rcases List.mem_append.mp hc with hc | hc
      · exact ih (m / 10) (by omega) c hc
      · have hc := List.mem_singleton.mp hc
        rw [hc, one (m % 10) (by omega)]
        omega
theorem digit_toNat (i : Nat) (h : i < 10) : (UInt8.ofNat (48 + i)).toNat = 48 + i := by
  have : ∀ j : Fin 10, (UInt8.ofNat (48 + j.val)).toNat = 48 + j.val := by decide +kernel
  exact this ⟨i, h⟩
theorem dec_ne (m : Nat) : Lib.decDigits m ≠ [] := by
  by_cases q : m < 10
  · rw [dec_small m q]; simp
  · rw [dec_big m q]; simp
theorem dec_len : ∀ (d m : Nat), m < 10 ^ d → 0 < d → (Lib.decDigits m).length ≤ d := by
  intro d
  induction d with
  | zero => intro m _ h; omega
  | succ d ih =>
    intro m h _
    by_cases q : m < 10
    · rw [dec_small m q]; simp
    · rw [dec_big m q, List.length_append]
      have hp : (10 : Nat) ^ (d + 1) = 10 ^ d * 10 := Nat.pow_succ ..
      have hd : 0 < d := by
        rcases Nat.eq_zero_or_pos d with h0 | h0
        · subst h0; simp at h; omega
        · exact h0
      have := ih (m / 10) (by omega) hd
      simp only [List.length_cons, List.length_nil]
      omega
theorem parse_append : ∀ (l : List UInt8) (a : Nat) (c : UInt8), Lib.parseUint10 a (l ++ [c]) = match Lib.parseUint10 a l with | .ok b => Lib.parseUint10 b [c] | .«syntax» => .«syntax» | .range => .range := by
  intro l
  induction l with
  | nil => intro a c; rfl
  | cons x l ih =>
    intro a c
    rw [List.cons_append]
    simp only [Lib.parseUint10]
    by_cases h1 : 48 ≤ x.toNat ∧ x.toNat ≤ 57
    · rw [if_pos h1, if_pos h1]
      by_cases h2 : 1844674407370955162 ≤ a
      · rw [if_pos h2, if_pos h2]
      · rw [if_neg h2, if_neg h2]
        by_cases h3 : 18446744073709551616 ≤ a * 10 + (x.toNat - 48)
        · rw [if_pos h3, if_pos h3]
        · rw [if_neg h3, if_neg h3]
          exact ih _ c
    · rw [if_neg h1, if_neg h1]
theorem parse_dec : ∀ (d m : Nat), m < 10 ^ d → m < 18446744073709551616 → Lib.parseUint10 0 (Lib.decDigits m) = .ok m := by
  have one : ∀ a i, i < 10 → a * 10 + i < 18446744073709551616 → Lib.parseUint10 a [UInt8.ofNat (48 + i)] = .ok (a * 10 + i) := by
    intro a i hi h
    simp only [Lib.parseUint10]
    rw [digit_toNat i hi, if_pos (by omega), if_neg (by omega), if_neg (by omega)]
    congr 1
    omega
  intro d
  induction d with
  | zero =>
    intro m h _
    have : m = 0 := by simpa using h
    subst this
    rw [dec_small 0 (by omega), one 0 0 (by omega) (by omega)]
  | succ d ih =>
    intro m h hm
    by_cases q : m < 10
    · rw [dec_small m q, one 0 m q (by omega)]
      congr 1
      omega
    · have hp : (10 : Nat) ^ (d + 1) = 10 ^ d * 10 := Nat.pow_succ ..
      rw [dec_big m q, parse_append, ih (m / 10) (by omega) (by omega)]
      show Lib.parseUint10 (m / 10) [UInt8.ofNat (48 + m % 10)] = _
      rw [one (m / 10) (m % 10) (by omega) (by omega)]
      congr 1
      omega
theorem atoi_itoa (v : Int) (h0 : -9223372036854775808 ≤ v) (h1 : v ≤ 9223372036854775807) : Lib.atoiAll (Lib.itoa v) = .ok v := by
  unfold Lib.itoa
  by_cases c : v < 0
  · rw [if_pos c, Lib.atoiAll_minus]
    have hp : Lib.parseMag (Lib.decDigits v.natAbs) = .ok v.natAbs := by
      unfold Lib.parseMag
      rw [if_neg (dec_ne _), parse_dec 20 v.natAbs (by omega) (by omega)]
    rw [hp]
    unfold Lib.signed
    simp only
    rw [if_neg (by omega)]
    congr 1
    omega
  · rw [if_neg c]
    cases hd : Lib.decDigits v.toNat with
    | nil => exact absurd hd (dec_ne _)
    | cons x r =>
      have hx := dec_digit 20 v.toNat (by omega) x (by rw [hd]; exact List.mem_cons_self)
      rw [Lib.atoiAll_plain x r (by omega) (by omega)]
      have hp : Lib.parseMag (x :: r) = .ok v.toNat := by
        rw [← hd]
        unfold Lib.parseMag
        rw [if_neg (dec_ne _), parse_dec 20 v.toNat (by omega) (by omega)]
      rw [hp]
      unfold Lib.signless
      simp only
      rw [if_neg (by omega)]
      congr 1
      omega

/-- Is it a byte of the string? -/
def hasB (b : ByteArray) (v : Int) : Bool := b.data.toList.any fun c => decide ((c.toNat : Int) = v)
/-- The pieces between the bytes of b, from place i on; the last one begins at place f. -/
def splitF (s b : ByteArray) : Nat → List ByteArray → Nat → Nat → List ByteArray
  | 0, out, f, _ => out ++ [s.extract f s.size]
  | d + 1, out, f, i => if hasB b (bt s (i : Int)) = true then splitF s b d (out ++ [s.extract f i]) (i + 1) (i + 1) else splitF s b d out f (i + 1)
def splitAny (s b : ByteArray) : List ByteArray := splitF s b s.size [] 0 0
theorem splitF_length (s b : ByteArray) : ∀ (d : Nat) (out : List ByteArray) (f i : Nat), out.length + 1 ≤ (splitF s b d out f i).length ∧ (splitF s b d out f i).length ≤ out.length + d + 1 := by
  intro d
  induction d with
  | zero => intro out f i; simp [splitF]
  | succ d ih =>
    intro out f i
    rw [splitF]
    split
    · have := ih (out ++ [s.extract f i]) (i + 1) (i + 1); simp only [List.length_append, List.length_singleton] at this; omega
    · have := ih out f (i + 1); omega
theorem splitAny_length (s b : ByteArray) : 1 ≤ (splitAny s b).length ∧ (splitAny s b).length ≤ s.size + 1 := by
  have := splitF_length s b s.size [] 0 0
  simp only [List.length_nil] at this
  unfold splitAny
  omega

theorem indexByte_any (l : List UInt8) (c : UInt8) : 0 ≤ Lib.indexByte l c ↔ l.any (fun b => b == c) = true := by
  induction l with
  | nil => simp [Lib.indexByte]
  | cons b l ih =>
    rw [Lib.indexByte, List.any_cons]
    by_cases h : (b == c) = true
    · rw [if_pos h]; simp [h]
    · rw [if_neg h]
      have hf : (b == c) = false := by simpa using h
      rw [hf, Bool.false_or, ← ih]
      have := Lib.indexByte_ge l c
      by_cases e : (Lib.indexByte l c == -1) = true
      · rw [if_pos e]
        have e2 : Lib.indexByte l c = -1 := by simpa using e
        omega
      · rw [if_neg e]
        have e2 : ¬ Lib.indexByte l c = -1 := by simpa using e
        omega
theorem byte_of_bt (s : ByteArray) (i : Int) (c : UInt8) : (c == (bt s i).toNat.toUInt8) = decide ((c.toNat : Int) = bt s i) := by
  have h := bt_range s i
  rw [Bool.eq_iff_iff, beq_iff_eq, decide_eq_true_eq]
  constructor
  · intro e
    rw [e]
    simp only [Nat.toUInt8_eq, UInt8.toNat_ofNat']
    omega
  · intro e
    apply UInt8.toNat.inj
    simp only [Nat.toUInt8_eq, UInt8.toNat_ofNat']
    omega
theorem indexByte_hasB (b s : ByteArray) (i : Int) : 0 ≤ Lib.indexByte b.data.toList (bt s i).toNat.toUInt8 ↔ hasB b (bt s i) = true := by
  rw [indexByte_any, hasB]
  have e : (fun c : UInt8 => c == (bt s i).toNat.toUInt8) = fun c => decide ((c.toNat : Int) = bt s i) := funext fun c => byte_of_bt s i c
  rw [e]
theorem impl_SplitAny_loop (s b : ByteArray) (hs : s.size ≤ 1048576) : ∀ (d i f : Nat) (out : List ByteArray), i + d = s.size → f ≤ i → out.length ≤ i →
    Ev (fun k => impl_SplitAny.l0 k s b out (f : Int) (i : Int)) (splitF s b d out f i) := by
  intro d
  induction d with
  | zero =>
    intro i f out hi hf ho
    refine Ev.step (f := fun _ => some _) (fun k => ?_) (Ev.now _)
    simp only [impl_SplitAny.l0]
    rw [if_neg (by omega), if_pos (by omega), if_pos (by omega), if_pos (by omega), Int.toNat_natCast]
    rfl
  | succ d ih =>
    intro i f out hi hf ho
    have ew : wrap64 ((i : Int) + 1) = ((i + 1 : Nat) : Int) := by rw [w64 (by omega) (by omega)]; rfl
    have hb := indexByte_hasB b s (i : Int)
    rw [splitF]
    by_cases c : hasB b (bt s (i : Int)) = true
    · rw [if_pos c]
      refine Ev.step (fun k => ?_) (ih (i + 1) (i + 1) (out ++ [s.extract f i]) (by omega) (by omega) (by simp; omega))
      simp only [impl_SplitAny.l0, strings_IndexByte.f, Option.bind_some]
      rw [if_pos (by omega), if_pos (by omega), if_pos (hb.2 c), if_pos (by omega), if_pos (by omega), if_pos (by omega), if_pos (by omega), ew, Int.toNat_natCast, Int.toNat_natCast]
    · rw [if_neg c]
      refine Ev.step (fun k => ?_) (ih (i + 1) f out (by omega) (by omega) (by omega))
      simp only [impl_SplitAny.l0, strings_IndexByte.f, Option.bind_some]
      rw [if_pos (by omega), if_pos (by omega), if_neg (fun h => c (hb.1 h)), ew]
theorem impl_SplitAny_ev (s b : ByteArray) (hs : s.size ≤ 1048576) : Ev (fun k => impl_SplitAny.f k s b) (splitAny s b) := by
  unfold impl_SplitAny.f splitAny
  exact impl_SplitAny_loop s b hs s.size 0 0 [] (by omega) (by omega) (by simp)

def splitLines (s : ByteArray) : List ByteArray := if (rdOf ByteArray.empty (splitAny s ⟨#[10]⟩) (((splitAny s ⟨#[10]⟩).length - 1 : Nat) : Int)).toList = [] then (splitAny s ⟨#[10]⟩).take ((splitAny s ⟨#[10]⟩).length - 1) else splitAny s ⟨#[10]⟩
theorem splitLines_length (s : ByteArray) : (splitLines s).length ≤ s.size + 1 := by
  have hl := splitAny_length s ⟨#[10]⟩
  unfold splitLines
  split
  · rw [List.length_take]; omega
  · omega
theorem impl_SplitLines_ev (s : ByteArray) (hs : s.size ≤ 1048576) : Ev (fun k => impl_SplitLines.f k s) (splitLines s) := by
  have hl := splitAny_length s ⟨#[10]⟩
  have ew : wrap64 (((splitAny s ⟨#[10]⟩).length : Int) - 1) = (((splitAny s ⟨#[10]⟩).length - 1 : Nat) : Int) := by rw [w64 (by omega) (by omega)]; omega
  unfold impl_SplitLines.f splitLines
  refine Ev.bind (impl_SplitAny_ev s ⟨#[10]⟩ hs) ?_
  simp only [ew, Int.toNat_natCast]
  refine ev_ite_true (by omega) (ev_ite_true (by omega) ?_)
  by_cases c : (rdOf ByteArray.empty (splitAny s ⟨#[10]⟩) (((splitAny s ⟨#[10]⟩).length - 1 : Nat) : Int)).toList = []
  · simp only [if_pos c]; exact ev_ite_true (by omega) (Ev.now _)
  · simp only [if_neg c]; exact Ev.now _

theorem join_snoc (L : List (List UInt8)) (x sep : List UInt8) : Lib.join (L ++ [x]) sep = (if L = [] then [] else Lib.join L sep ++ sep) ++ x := by
  cases L with
  | nil => rw [List.nil_append, Lib.join_one, if_pos rfl, List.nil_append]
  | cons y L =>
    rw [if_neg (by simp), List.cons_append, Lib.join_cons, Lib.join_cons]
    simp [Lib.joinTail]
def bsOf (s : ByteArray) : List UInt8 := s.data.toList
theorem bsOf_size (s : ByteArray) : (bsOf s).length = s.size := rfl
theorem bsOf_extract (s : ByteArray) (f i : Nat) (hf : f ≤ i) (hi : i ≤ s.size) : bsOf (s.extract f i) = ((bsOf s).drop f).take (i - f) := by
  unfold bsOf
  rw [ByteArray.data_extract, Array.toList_extract]
theorem byte_at (s : ByteArray) (i : Nat) (h : i < s.size) : (bsOf s).drop i = s[i] :: (bsOf s).drop (i + 1) := by
  have hl : i < (bsOf s).length := h
  rw [List.drop_eq_getElem_cons hl]
  rfl
theorem space_hit (s : ByteArray) (i : Nat) (h : i < s.size) (hb : hasB ⟨#[32]⟩ (bt s (i : Int)) = true) : s[i] = 32 := by
  rw [bt_nat h] at hb
  unfold hasB at hb
  simp at hb
  exact UInt8.toNat_inj.mp (by
    have : ((32 : UInt8).toNat : Int) = (s[i].toNat : Int) := by simpa using hb
    omega)
theorem join_split (s : ByteArray) : ∀ (d : Nat) (out : List ByteArray) (f i : Nat), i + d = s.size → f ≤ i →
    Lib.join ((splitF s ⟨#[32]⟩ d out f i).map bsOf) [32] = (if out = [] then [] else Lib.join (out.map bsOf) [32] ++ [32]) ++ (bsOf s).drop f := by
  intro d
  induction d with
  | zero =>
    intro out f i hi hf
    rw [splitF, List.map_append, List.map_cons, List.map_nil, join_snoc, bsOf_extract s f s.size (by omega) (by omega)]
    rw [List.take_of_length_le (by rw [List.length_drop, bsOf_size]; exact Nat.le_refl _)]
    by_cases c : out = []
    · rw [if_pos c, if_pos (by rw [c]; rfl)]
    · rw [if_neg c, if_neg (by simpa using c)]
  | succ d ih =>
    intro out f i hi hf
    rw [splitF]
    by_cases hb : hasB ⟨#[32]⟩ (bt s (i : Int)) = true
    · rw [if_pos hb, ih (out ++ [s.extract f i]) (i + 1) (i + 1) (by omega) (by omega), if_neg (by simp)]
      rw [List.map_append, List.map_cons, List.map_nil, join_snoc, bsOf_extract s f i hf (by omega)]
      have h1 := byte_at s i (by omega)
      rw [space_hit s i (by omega) hb] at h1
      have h2 : (bsOf s).drop f = ((bsOf s).drop f).take (i - f) ++ (32 : UInt8) :: (bsOf s).drop (i + 1) := by
        have h3 : ((bsOf s).drop f).drop (i - f) = (32 : UInt8) :: (bsOf s).drop (i + 1) := by rw [List.drop_drop, show f + (i - f) = i by omega, h1]
        rw [← h3, List.take_append_drop]
      have h4 : (if out.map bsOf = [] then ([] : List UInt8) else Lib.join (out.map bsOf) [32] ++ [32]) = (if out = [] then [] else Lib.join (out.map bsOf) [32] ++ [32]) := by
        by_cases c : out = []
        · rw [if_pos c, if_pos (by rw [c]; rfl)]
        · rw [if_neg c, if_neg (by simpa using c)]
      rw [h4]
      conv => rhs; rw [h2]
      simp
    · rw [if_neg hb, ih out f (i + 1) (by omega) (by omega)]
theorem join_splitAny (s : ByteArray) : Lib.join ((splitAny s ⟨#[32]⟩).map (·.data.toList)) [32] = s.data.toList := by
  have h := join_split s s.size [] 0 0 (by omega) (by omega)
  rw [if_pos rfl, List.nil_append, List.drop_zero] at h
  exact h
theorem words_join (s : ByteArray) (hs : s.size ≤ 1048576) : impl_Join.f (splitAny s ⟨#[32]⟩) ⟨#[32]⟩ = some s := by
  have hl := splitAny_length s ⟨#[32]⟩
  have hj := join_splitAny s
  have e32 : (⟨#[32]⟩ : ByteArray).data.toList = [32] := rfl
  have hz : s.data.toList.length = s.size := rfl
  unfold impl_Join.f strings_Join.f
  rw [e32, hj, if_pos (by omega), if_pos (by omega), Option.bind_some]
theorem text_loop (l : List Int) (hl : l.length ≤ 1048576) : ∀ (d : Nat) (n : Int) (s : ByteArray) (s1 s2 : Int), n ≤ d → s.size + 2 * d ≤ 1000 → 0 ≤ n → 0 ≤ s1 → ∃ t : ByteArray, t.size ≤ 1000 ∧ Ev (fun k => spec_MakeText.l0 k s n l s1 s2) t := by
  intro d
  induction d with
  | zero =>
    intro n s s1 s2 h hs h0 h1
    refine ⟨s, by omega, Ev.step (f := fun _ => some _) (fun k => ?_) (Ev.now _)⟩
    simp only [spec_MakeText.l0]
    rw [if_neg (by omega)]
  | succ d ih =>
    intro n s s1 s2 h hs h0 h1
    by_cases c : n > 0
    · obtain ⟨b, t1, t2, e, b0, b1, ht⟩ := below_ok l s1 s2 5 hl h1 (by omega) (by omega)
      obtain ⟨x, hx, hz⟩ : ∃ x, spec_l01Str.f l s1 s2 ([(⟨#[97]⟩ : ByteArray), (⟨#[98, 99]⟩ : ByteArray), (⟨#[32]⟩ : ByteArray), (⟨#[44]⟩ : ByteArray), (⟨#[120, 49]⟩ : ByteArray)] : List ByteArray) = some (x, t1, t2) ∧ x.size ≤ 2 := by
        refine ⟨rdOf ByteArray.empty [(⟨#[97]⟩ : ByteArray), (⟨#[98, 99]⟩ : ByteArray), (⟨#[32]⟩ : ByteArray), (⟨#[44]⟩ : ByteArray), (⟨#[120, 49]⟩ : ByteArray)] b, ?_, ?_⟩
        · unfold spec_l01Str.f
          have e5 : spec_l01Below.f l s1 s2 ((([(⟨#[97]⟩ : ByteArray), (⟨#[98, 99]⟩ : ByteArray), (⟨#[32]⟩ : ByteArray), (⟨#[44]⟩ : ByteArray), (⟨#[120, 49]⟩ : ByteArray)] : List ByteArray).length : Int)) = some (b, t1, t2) := e
          rw [e5, Option.bind_some]
          simp only
          rw [if_pos b0, if_pos (by show b < 5; omega)]
        · obtain ⟨m, rfl⟩ := Int.eq_ofNat_of_zero_le b0
          have hm : m < 5 := by omega
          have all : ∀ j : Fin 5, (rdOf ByteArray.empty [(⟨#[97]⟩ : ByteArray), (⟨#[98, 99]⟩ : ByteArray), (⟨#[32]⟩ : ByteArray), (⟨#[44]⟩ : ByteArray), (⟨#[120, 49]⟩ : ByteArray)] ((j.val : Nat) : Int)).size ≤ 2 := by decide +kernel
          exact all ⟨m, hm⟩
      have zs : (s ++ x).size = s.size + x.size := ByteArray.size_append
      have ew : wrap64 (n - 1) = n - 1 := w64 (by omega) (by omega)
      obtain ⟨t, htz, hE⟩ := ih (n - 1) (s ++ x) t1 t2 (by omega) (by omega) (by omega) ht
      refine ⟨t, htz, Ev.step (fun k => ?_) hE⟩
      simp only [spec_MakeText.l0]
      rw [if_pos c, hx, Option.bind_some]
      simp only
      rw [if_pos (by omega), ew]
    · refine ⟨s, by omega, Ev.step (f := fun _ => some _) (fun k => ?_) (Ev.now _)⟩
      simp only [spec_MakeText.l0]
      rw [if_neg c]
theorem makeText_ok (l : List Int) (hl : l.length ≤ 1048576) : ∃ t : ByteArray, t.size ≤ 1000 ∧ Ev (fun k => spec_MakeText.f k l) t := by
  obtain ⟨h, hN⟩ := new_ok l hl
  obtain ⟨b, t1, t2, e, b0, b1, ht⟩ := below_ok l 0 h 8 hl (by omega) (by omega) (by omega)
  obtain ⟨t, hz, hE⟩ := text_loop l hl 8 b ⟨#[]⟩ t1 t2 (by omega) (by decide) b0 ht
  refine ⟨t, hz, ?_⟩
  unfold spec_MakeText.f
  refine Ev.bind hN ?_
  simp only [e, Option.bind_some]
  exact hE
theorem x1_name : Ev (fun k => impl_IsName.f k ⟨#[120, 49]⟩) true := by
  have h2 : Ev (fun k => impl_IsName.l0 k ⟨#[120, 49]⟩ 2) true := Ev.step (f := fun _ => some true) (fun k => rfl) (Ev.now _)
  have h1 : Ev (fun k => impl_IsName.l0 k ⟨#[120, 49]⟩ 1) true := Ev.step (f := fun k => impl_IsName.l0 k ⟨#[120, 49]⟩ 2) (fun k => by
    simp only [impl_IsName.l0]
    rw [if_pos (by decide), if_pos (by decide), if_neg (by decide), if_pos (by decide), if_pos (by decide), if_neg (by decide), show wrap64 (1 + 1) = 2 from w64 (by decide) (by decide)]) h2
  exact Ev.step (f := fun k => impl_IsName.l0 k ⟨#[120, 49]⟩ 1) (fun k => by
    simp only [impl_IsName.f, impl_IsName.l0]
    rw [if_pos (by decide), if_pos (by decide), if_pos (by decide), if_pos (by decide), if_pos (by decide), show wrap64 (0 + 1) = 1 from w64 (by decide) (by decide)]) h1
theorem two_lines : (splitLines ⟨#[97, 10, 98, 10]⟩).length = 2 := by decide +kernel
theorem FnWords_ (l : List Int) (hl : l.length ≤ maxLen) : ∃ k, laws_FnWords.f k l = some true := by
  unfold laws_FnWords.f
  by_cases g1 : (l.length : Int) > 1048576
  · exact ⟨0, by rw [if_pos g1]⟩
  simp only [if_neg g1]
  obtain ⟨v, v0, v1, hv⟩ := makeNum_ok l (by omega) 1 (by omega)
  obtain ⟨s, hs, hS⟩ := makeText_ok l (by omega)
  have ew : wrap64 (v - 30000) = v - 30000 := w64 (by omega) (by omega)
  have ef : impl_FormatInt.f (v - 30000) = some ⟨(Lib.itoa (v - 30000)).toArray⟩ := by
    unfold impl_FormatInt.f
    rw [if_pos ⟨by omega, by omega⟩]
  have ed : (⟨(Lib.itoa (v - 30000)).toArray⟩ : ByteArray).data.toList = Lib.itoa (v - 30000) := by simp
  have ez : (⟨(Lib.itoa (v - 30000)).toArray⟩ : ByteArray).size ≤ 1048576 := by
    show (⟨(Lib.itoa (v - 30000)).toArray⟩ : ByteArray).data.toList.length ≤ _
    rw [ed]
    unfold Lib.itoa
    by_cases c : v - 30000 < 0
    · rw [if_pos c, List.length_cons]
      have := dec_len 19 (v - 30000).natAbs (by omega) (by omega)
      omega
    · rw [if_neg c]
      have := dec_len 19 (v - 30000).toNat (by omega) (by omega)
      omega
  have ep : impl_ParseInt.f ⟨(Lib.itoa (v - 30000)).toArray⟩ = some (v - 30000, true) := by
    unfold impl_ParseInt.f
    rw [if_pos ez]
    congr 1
    unfold parseI
    rw [ed, atoi_itoa (v - 30000) (by omega) (by omega)]
    simp only
    rw [if_pos (by rw [ByteArray.toList_eq, ed])]
  have hv' : Ev (fun k => spec_MakeNum.f k l 1) v := hv
  suffices h : Ev (fun k => (spec_MakeNum.f k l 1).bind fun t166 => ((impl_FormatInt.f (wrap64 (t166 - 30000))).bind fun t167 => ((impl_ParseInt.f t167).bind fun bt168 => ((spec_MakeText.f k l).bind fun t170 => (if bt168.2 = true then (if bt168.1 = (wrap64 (t166 - 30000)) then ((impl_SplitAny.f k t170 (⟨#[32]⟩ : ByteArray)).bind fun t171 => ((impl_Join.f t171 (⟨#[32]⟩ : ByteArray)).bind fun t174 => (if t174.toList = t170.toList then ((impl_IsName.f k (⟨#[120, 49]⟩ : ByteArray)).bind fun t175 => (if t175 = true then ((impl_SplitLines.f k (⟨#[97, 10, 98, 10]⟩ : ByteArray)).bind fun t176 => (some ((t176.length : Int) == 2))) else (some false))) else (some false)))) else (some false)) else (some false)))))) true by
    obtain ⟨k, hk⟩ := h
    exact ⟨k, hk k (Nat.le_refl k)⟩
  refine Ev.bind hv' ?_
  simp only [ew, ef, ep, Option.bind_some]
  refine Ev.bind hS ?_
  simp only [if_pos]
  refine Ev.bind (impl_SplitAny_ev s ⟨#[32]⟩ (by omega)) ?_
  simp only [words_join s (by omega), Option.bind_some, if_pos]
  refine Ev.bind x1_name ?_
  simp only [if_pos]
  refine Ev.bind (impl_SplitLines_ev ⟨#[97, 10, 98, 10]⟩ (by decide)) ?_
  rw [two_lines]
  exact Ev.now _

end Go.Proofs.YtbghkcgglhoopaaDoor.Pure
