-- Written by this session's own program (wip/tools/myprint.py), over the kit's printer.
import Derived.Test.YtdgoeomelnlekaaMFnRifflesx0
import Derived.Test.YtdgoeomelnlekaaMFnRifflesx9
import Derived.Test.YtdgoeomelnlekaaMFnRifflesx13
import Derived.Test.YtdgoeomelnlekaaMFnRifflesx14
namespace Go.Proofs.Ytdgoeomelnlekaa.MFnRiffles
open Go.RowKit Go.Proofs.YtdgoeomelnlekaaW.PrintWords Go.Proofs.YtdgoeomelnlekaaW.PrintLast Go.Proofs.YtdgoeomelnlekaaW.PrintMore
attribute [local go_sem] max2_int min2_int max_two min_two max_three min_three max_four min_four   -- for this text's walks alone
set_option linter.unusedVariables false
set_option linter.unusedSimpArgs false

/-! ### impl_SortPackets: function 71, by hand -/
/-! #### a row as plain cells -/
/-- A slice's value, by its parts. -/
structure CV where
 A : Option Addr
 n : Nat
 c : Nat
def cv0 : CV := ⟨none, 0, 0⟩
def kV : Kd CV := Kd.scalar (fun x => Value.slice x.A x.n x.c) (fun _ => rfl)
/-- What a value's parts are; of no slice's value: nothing. -/
def cvOf : Value → CV
 | .slice A n c => ⟨A, n, c⟩
 | _ => cv0
/-- A list as its elements' cells, and the blocks that each leads to. -/
structure Cells {α : Type} (d : Kd α) (w : World) (base : Nat) (ok : Nat → Prop) (own : Option Nat) (xs : List α) (cs : List CV) (okj : Nat → Nat → Prop) : Prop where
 len : cs.length = xs.length
 apart : ∀ i j k, okj i k → okj j k → i = j
 inn : ∀ j k, okj j k → ok k ∧ some k ≠ own
 rep : ∀ (j : Nat) (x : α) (c : CV), xs[j]? = some x → cs[j]? = some c → d.M w base (okj j) x [Value.slice c.A c.n c.c]
theorem seg_one {inner : List Value} {j : Nat} (h : j < inner.length) : (inner.drop (j * 1)).take 1 = [inner[j]] := by
 rw [Nat.mul_one, List.drop_eq_getElem_cons h]
 rfl
theorem S_cells {α : Type} {d' : Kd α} {e e' : Nat} {w : World} {base : Nat} {ok : Nat → Prop} {v : Value} {xs : List (List α)} (h : Kd.S (Kd.slice e' d') e w base ok v xs) :
  ∃ cs okj, kV.R e w base (fun k => some k = v.ownBlock) v cs ∧ (∀ k, v.ownBlock = some k → ok k) ∧ Cells (Kd.slice e' d') w base ok v.ownBlock xs cs okj := by
 obtain ⟨f, h0, inner, ho, hr⟩ := h
 have hs : (Kd.tag f (Kd.slice e' d')).sz = 1 := rfl
 rw [hs] at ho hr
 have hl : inner.length = xs.length := by have := hr.1; rw [List.length_zipIdx, Nat.mul_one] at this; exact this
 have hM : ∀ (j : Nat) (x : List α), xs[j]? = some x → ∀ hj : j < inner.length, (Kd.slice e' d').M w base (fun k => (ok k ∧ some k ≠ v.ownBlock) ∧ f k = j) x [inner[j]] := fun j x hx hj => by
  have := hr.2 j (x, j) (Kd.zip_at hx)
  rw [seg_one hj] at this
  exact this
 have hcv : ∀ (j : Nat) (hj : j < inner.length), inner[j] = Value.slice (cvOf inner[j]).A (cvOf inner[j]).n (cvOf inner[j]).c := fun j hj => by
  obtain ⟨u, hu, hR⟩ := hM j (xs[j]'(by omega)) (List.getElem?_eq_getElem (by omega)) hj
  obtain ⟨A, c, rfl⟩ := Kd.R_slice hR
  injection hu with hu
  rw [hu]
  rfl
 refine ⟨inner.map cvOf, fun j k => (ok k ∧ some k ≠ v.ownBlock) ∧ f k = j, ⟨fun k hk => hk.symm, inner, ?_, ?_, ?_⟩, h0, ?_, ?_, ?_, ?_⟩
 ·rw [List.length_map, hl]; rw [List.length_zipIdx] at ho; exact ho
 ·rw [List.length_map]; exact (Nat.mul_one _).symm
 ·intro j p hp
  obtain ⟨hj, e⟩ := List.getElem?_eq_some_iff.1 hp
  rw [List.length_map] at hj
  show (inner.drop (j * 1)).take 1 = [Value.slice p.A p.n p.c]
  rw [seg_one hj, ← e, List.getElem_map, ← hcv j hj]
 ·rw [List.length_map, hl]
 ·rintro i j k ⟨_, rfl⟩ ⟨_, h⟩; exact h
 ·intro j k hk; exact hk.1
 ·intro j x c hx hc
  obtain ⟨hj, e⟩ := List.getElem?_eq_some_iff.1 hc
  rw [List.length_map] at hj
  rw [← e, List.getElem_map, ← hcv j hj]
  exact hM j x hx hj
theorem S_of_cells {α : Type} {d : Kd α} {e : Nat} {w : World} {base : Nat} {ok ok1 : Nat → Prop} {v : Value} {xs : List α} {cs : List CV} {okj : Nat → Nat → Prop} (hd : d.sz = 1) (hR : kV.R e w base ok1 v cs) (h0 : ∀ k, v.ownBlock = some k → ok k) (hc : Cells d w base ok v.ownBlock xs cs okj) : Kd.S d e w base ok v xs := by
 obtain ⟨_, inner, ho, hr⟩ := hR
 have hl : inner.length = cs.length := by have := hr.1; rw [show kV.sz = 1 from rfl, Nat.mul_one] at this; exact this
 have hv : ∀ (j : Nat) (hj : j < inner.length), inner[j] = Value.slice (cs[j]'(by omega)).A (cs[j]'(by omega)).n (cs[j]'(by omega)).c := fun j hj => by
  have := hr.2 j _ (List.getElem?_eq_getElem (by omega : j < cs.length))
  have e : (inner.drop (j * 1)).take 1 = [Value.slice (cs[j]'(by omega)).A (cs[j]'(by omega)).n (cs[j]'(by omega)).c] := this
  rw [seg_one hj] at e
  injection e
 obtain ⟨f, hf⟩ := Kd.reps_tag (d := d) (w := w) (base := base) (ok := fun k => ok k ∧ some k ≠ v.ownBlock) (xs := xs) (inner := inner) okj hc.apart hc.inn (by rw [hd, Nat.mul_one, hl, hc.len]) (fun j x hx => by
  have hj : j < inner.length := by rw [hl, hc.len]; exact (List.getElem?_eq_some_iff.1 hx).1
  rw [hd, seg_one hj, hv j hj]
  exact hc.rep j x _ hx (List.getElem?_eq_getElem (by omega)))
 refine ⟨f, h0, inner, ?_, hf⟩
 have hs : (Kd.tag f d).sz = 1 := hd
 rw [hs, List.length_zipIdx, ← hc.len]
 exact ho
/-- The elements may be told anew in another world, in another order. -/
theorem Cells.told {α : Type} {d : Kd α} {w w1 : World} {base : Nat} {ok : Nat → Prop} {own : Option Nat} {xs xs' : List α} {cs cs' : List CV} {okj : Nat → Nat → Prop} (h : Cells d w base ok own xs cs okj) (p : Nat → Nat) (hl : cs'.length = xs'.length) (hp : ∀ i j, i < xs'.length → j < xs'.length → p i = p j → i = j) (hx : ∀ j, j < xs'.length → xs'[j]? = xs[p j]?) (hc : ∀ j, j < xs'.length → cs'[j]? = cs[p j]?)
  (hm : ∀ k, ok k → some k ≠ own → k < w.heap.size → w1.heap[k]? = w.heap[k]?) : Cells d w1 base ok own xs' cs' (fun j k => j < xs'.length ∧ okj (p j) k) where
 len := hl
 apart := fun i j k h1 h2 => hp i j h1.1 h2.1 (h.apart _ _ k h1.2 h2.2)
 inn := fun j k hk => h.inn _ k hk.2
 rep := fun j x c h1 h2 => by
  have hj := (List.getElem?_eq_some_iff.1 h1).1
  rw [hx j hj] at h1
  rw [hc j hj] at h2
  exact d.M_mono (fun k hk => ⟨hj, hk⟩) (Kd.M_step (h.rep (p j) x c h1 h2) (fun k hk hlt => hm k (h.inn _ k hk).1 (h.inn _ k hk).2 hlt))
/-! #### a list of lists read at an index -/
def rdRows (xs : List (List Int)) (i : Int) : List Int := xs.getD i.toNat ([] : List Int)
theorem at_rows {e : Nat} {w : World} {A : Option Addr} {n : Nat} {xs : List (List Int)} (h : Kd.C (Kd.slice e (Kd.int .i64)) w A n xs) (i : Int) (h0 : 0 ≤ i) (h1 : i < n) : ∃ ad A0 c0, A = some ad ∧ w.cell? (ad.add i.toNat) = some (.slice A0 (rdRows xs i).length c0) ∧ (rdRows xs i).length ≤ c0 ∧ (Kd.int .i64).C w A0 (rdRows xs i).length (rdRows xs i) := by
 obtain ⟨ad, c, e, _, hK, hc0⟩ := Kd.C_get h ([] : List Int) i h0 h1
 have hc : ∀ j u, c[j]? = some u → w.cell? (ad.add (i.toNat * 1 + j)) = some u := hc0
 obtain ⟨A0, c0, rfl, l0, g0⟩ := hK
 exact ⟨ad, A0, c0, e, by have hq := hc 0 _ rfl; rwa [Nat.mul_one, Nat.add_zero] at hq, l0, g0⟩
/-! ### sort0: lists of lists in order, without repetitions -/
def lexLt : List Int → List Int → Bool
 | [], [] => false
 | [], _ :: _ => true
 | _ :: _, [] => false
 | x :: a, y :: b => if x = y then lexLt a b else decide (x < y)
theorem lexLt_irrefl : ∀ a, lexLt a a = false := by
 intro a
 induction a with
 | nil => rfl
 | cons x a ih => rw [lexLt, if_pos rfl]; exact ih
theorem lexLt_trans : ∀ a b c, lexLt a b = true → lexLt b c = true → lexLt a c = true := by
 intro a
 induction a with
 | nil =>
  intro b c h1 h2
  cases b with
  | nil => simp [lexLt] at h1
  | cons y b => cases c with
   | nil => simp [lexLt] at h2
   | cons z c => rfl
 | cons x a ih =>
  intro b c h1 h2
  cases b with
  | nil => simp [lexLt] at h1
  | cons y b => cases c with
   | nil => simp [lexLt] at h2
   | cons z c =>
    simp only [lexLt] at h1 h2 ⊢
    by_cases e1 : x = y
    ·subst e1
     rw [if_pos rfl] at h1
     by_cases e2 : x = z
     ·rw [if_pos e2] at h2 ⊢; exact ih b c h1 h2
     ·rw [if_neg e2] at h2 ⊢; exact h2
    ·rw [if_neg e1] at h1
     by_cases e2 : y = z
     ·subst e2; rw [if_neg e1]; exact h1
     ·rw [if_neg e2] at h2
      simp only [decide_eq_true_eq] at h1 h2
      rw [if_neg (by omega)]; simp only [decide_eq_true_eq]; omega
theorem lexLt_total : ∀ a b, lexLt a b = false → lexLt b a = false → a = b := by
 intro a
 induction a with
 | nil => intro b h1 h2; cases b with
  | nil => rfl
  | cons y b => simp [lexLt] at h1
 | cons x a ih =>
  intro b h1 h2
  cases b with
  | nil => simp [lexLt] at h2
  | cons y b =>
   simp only [lexLt] at h1 h2
   by_cases e : x = y
   ·subst e; rw [if_pos rfl] at h1 h2; rw [ih b h1 h2]
   ·rw [if_neg e] at h1
    rw [if_neg (fun h => e h.symm)] at h2
    simp only [decide_eq_false_iff_not] at h1 h2
    omega
theorem lexLt_asymm (a b : List Int) (h : lexLt a b = true) : lexLt b a = false := by
 cases c : lexLt b a with
 | false => rfl
 | true => have := lexLt_trans a b a h c; rw [lexLt_irrefl] at this; cases this
/-- in strict order -/
def Strict (l : List (List Int)) : Prop := l.Pairwise fun a b => lexLt a b = true
theorem strict_ext : ∀ (l m : List (List Int)), Strict l → Strict m → (∀ x, x ∈ l ↔ x ∈ m) → l = m := by
 intro l
 induction l with
 | nil => intro m _ _ h; cases m with
  | nil => rfl
  | cons y m => exact absurd ((h y).2 (by simp)) (by simp)
 | cons x l ih =>
  intro m hl hm h
  cases m with
  | nil => exact absurd ((h x).1 (by simp)) (by simp)
  | cons y m =>
   rw [Strict, List.pairwise_cons] at hl hm
   have hx := (h x).1 (by simp)
   have hy := (h y).2 (by simp)
   have e : x = y := by
    rcases List.mem_cons.1 hx with e | hx
    ·exact e
    rcases List.mem_cons.1 hy with e | hy
    ·exact e.symm
    have := lexLt_asymm _ _ (hm.1 x hx)
    rw [hl.1 y hy] at this; cases this
   subst e
   rw [ih m hl.2 hm.2 (fun z => ?_)]
   have hz := h z
   simp only [List.mem_cons] at hz
   constructor
   ·intro hzl
    rcases hz.1 (.inr hzl) with e | h'
    ·subst e; have := hl.1 z hzl; rw [lexLt_irrefl] at this; cases this
    ·exact h'
   ·intro hzm
    rcases hz.2 (.inr hzm) with e | h'
    ·subst e; have := hm.1 z hzm; rw [lexLt_irrefl] at this; cases this
    ·exact h'
def insU (x : List Int) : List (List Int) → List (List Int)
 | [] => [x]
 | y :: l => if lexLt x y = true then x :: y :: l else if x = y then y :: l else y :: insU x l
/-- A list's elements in strict order, each once. -/
def sortU : List (List Int) → List (List Int)
 | [] => []
 | x :: l => insU x (sortU l)
theorem mem_insU (x z : List Int) (l : List (List Int)) : z ∈ insU x l ↔ z = x ∨ z ∈ l := by
 induction l with
 | nil => simp [insU]
 | cons y l ih =>
  rw [insU]
  split
  ·simp
  ·split
   ·rename_i e; subst e; simp
   ·simp only [List.mem_cons, ih]; constructor
    ·rintro (h | h | h) <;> simp [h]
    ·rintro (h | h | h) <;> simp [h]
theorem strict_insU (x : List Int) (l : List (List Int)) (h : Strict l) : Strict (insU x l) := by
 induction l with
 | nil => simp [insU, Strict]
 | cons y l ih =>
  have h' := List.pairwise_cons.1 h
  rw [insU]
  split
  ·rename_i c
   refine List.pairwise_cons.2 ⟨fun z hz => ?_, h⟩
   rcases List.mem_cons.1 hz with rfl | hz
   ·exact c
   ·exact lexLt_trans _ _ _ c (h'.1 z hz)
  ·rename_i c
   split
   ·exact h
   ·rename_i e
    refine List.pairwise_cons.2 ⟨fun z hz => ?_, ih h'.2⟩
    rcases (mem_insU x z l).1 hz with rfl | hz
    ·cases d : lexLt y z with
     | true => rfl
     | false => exact absurd (lexLt_total _ _ (by simpa using c) d) e
    ·exact h'.1 z hz
theorem mem_sortU (z : List Int) (l : List (List Int)) : z ∈ sortU l ↔ z ∈ l := by
 induction l with
 | nil => simp [sortU]
 | cons x l ih => rw [sortU, mem_insU, ih, List.mem_cons]
theorem strict_sortU (l : List (List Int)) : Strict (sortU l) := by
 induction l with
 | nil => simp [sortU, Strict]
 | cons x l ih => exact strict_insU x _ ih
theorem sortU_eq {l m : List (List Int)} (h : Strict m) (e : ∀ x, x ∈ m ↔ x ∈ l) : m = sortU l :=
 strict_ext _ _ h (strict_sortU l) (fun x => by rw [e, mem_sortU])
theorem sortU_congr {l m : List (List Int)} (e : ∀ x, x ∈ m ↔ x ∈ l) : sortU m = sortU l :=
 strict_ext _ _ (strict_sortU m) (strict_sortU l) (fun x => by rw [mem_sortU, mem_sortU, e])
theorem length_insU (x : List Int) (l : List (List Int)) : (insU x l).length ≤ l.length + 1 := by
 induction l with
 | nil => simp [insU]
 | cons y l ih => rw [insU]; split; simp; split; simp; simp; omega
theorem length_sortU (l : List (List Int)) : (sortU l).length ≤ l.length := by
 induction l with
 | nil => simp [sortU]
 | cons x l ih => have := length_insU x (sortU l); simp only [sortU, List.length_cons]; omega
/-- x put behind out unless it stands there already. -/
def putU (out : List (List Int)) (x : List Int) : List (List Int) := if out = [] ∨ out.getLastD [] ≠ x then out ++ [x] else out
/-- The merge of two lists as the reference does it: the next one is put behind 'out' unless it stands there already. -/
def mergeU : Nat → List (List Int) → List (List Int) → List (List Int) → List (List Int)
 | 0, out, _, _ => out
 | d + 1, out, a, b => if a = [] ∧ b = [] then out else
  if b = [] ∨ (a ≠ [] ∧ ¬ lexLt (b.headD []) (a.headD []) = true) then mergeU d (putU out (a.headD [])) a.tail b
  else mergeU d (putU out (b.headD [])) a b.tail
theorem strict_snoc {l : List (List Int)} {x : List Int} (h : Strict l) (hx : ∀ y ∈ l, lexLt y x = true) : Strict (l ++ [x]) := by
 rw [Strict, List.pairwise_append]
 exact ⟨h, by simp, fun y hy z hz => by rw [List.mem_singleton.1 hz]; exact hx y hy⟩
theorem strict_le_last {l : List (List Int)} {x : List Int} (h : Strict l) (hl : l ≠ []) (hx : lexLt x (l.getLastD []) = false) (hne : l.getLastD [] ≠ x) : ∀ y ∈ l, lexLt y x = true := by
 have e : l = l.dropLast ++ [l.getLastD []] := by
  rw [List.getLastD_eq_getLast?, List.getLast?_eq_some_getLast hl]
  exact (List.dropLast_concat_getLast hl).symm
 have hlast : lexLt (l.getLastD []) x = true := by
  cases c : lexLt (l.getLastD []) x with
  | true => rfl
  | false => exact absurd (lexLt_total _ _ c hx) hne
 intro y hy
 rw [e] at hy h
 rcases List.mem_append.1 hy with hy | hy
 ·exact lexLt_trans _ _ _ ((List.pairwise_append.1 h).2.2 y hy _ (by simp)) hlast
 ·rw [List.mem_singleton.1 hy]; exact hlast
theorem put_last {out : List (List Int)} {x : List Int} (h : Strict out) (hx : out ≠ [] → lexLt x (out.getLastD []) = false) :
  Strict (putU out x) ∧ (∀ z, z ∈ putU out x ↔ z ∈ out ∨ z = x) ∧ (putU out x).getLastD [] = x ∧ putU out x ≠ [] := by
 unfold putU
 by_cases c : out = [] ∨ out.getLastD [] ≠ x
 ·rw [if_pos c]
  refine ⟨strict_snoc h ?_, by simp, by simp, by simp⟩
  by_cases e : out = []
  ·subst e; simp
  ·exact strict_le_last h e (hx e) (by rcases c with c | c; exact absurd c e; exact c)
 ·rw [if_neg c]
  have c1 : out ≠ [] := fun e => c (.inl e)
  have c2 : out.getLastD [] = x := Decidable.byContradiction fun e => c (.inr e)
  refine ⟨h, fun z => ?_, c2, c1⟩
  constructor
  ·exact .inl
  ·rintro (h | rfl)
   ·exact h
   ·rw [← c2, List.getLastD_eq_getLast?, List.getLast?_eq_some_getLast c1]; exact List.getLast_mem c1
theorem mergeU_run : ∀ (d : Nat) (out a b : List (List Int)), a.length + b.length ≤ d → Strict out → Strict a → Strict b → (out ≠ [] → ∀ x, x ∈ a ∨ x ∈ b → lexLt x (out.getLastD []) = false) →
  Strict (mergeU d out a b) ∧ ∀ z, z ∈ mergeU d out a b ↔ z ∈ out ∨ z ∈ a ∨ z ∈ b := by
 intro d
 induction d with
 | zero =>
  intro out a b hd h ha hb hl
  have e1 : a = [] := List.length_eq_zero_iff.1 (by omega)
  have e2 : b = [] := List.length_eq_zero_iff.1 (by omega)
  subst e1 e2
  exact ⟨h, by simp [mergeU]⟩
 | succ d ih =>
  intro out a b hd h ha hb hl
  rw [mergeU]
  by_cases c0 : a = [] ∧ b = []
  ·rw [if_pos c0, c0.1, c0.2]; exact ⟨h, by simp⟩
  ·rw [if_neg c0]
   by_cases c1 : b = [] ∨ (a ≠ [] ∧ ¬ lexLt (b.headD []) (a.headD []) = true)
   ·rw [if_pos c1]
    cases a with
    | nil => exfalso; rcases c1 with c1 | c1; exact c0 ⟨rfl, c1⟩; exact c1.1 rfl
    | cons x a =>
     have ha' := List.pairwise_cons.1 ha
     have hp := put_last (x := x) h (fun hne => hl hne x (by simp))
     simp only [List.headD_cons, List.tail_cons]
     have hle : ∀ z, z ∈ a ∨ z ∈ b → lexLt z x = false := by
      rintro z (hz | hz)
      ·exact lexLt_asymm _ _ (ha'.1 z hz)
      ·cases b with
       | nil => simp at hz
       | cons y b =>
        have hyx : lexLt y x = false := by
         rcases c1 with c1 | c1
         ·cases c1
         ·simpa using c1.2
        rcases List.mem_cons.1 hz with rfl | hz
        ·exact hyx
        ·cases cc : lexLt z x with
         | false => rfl
         | true => have := lexLt_trans _ _ _ ((List.pairwise_cons.1 hb).1 z hz) cc; rw [hyx] at this; cases this
     have := ih _ a b (by simp at hd; omega) hp.1 ha'.2 hb (fun _ z hz => by rw [hp.2.2.1]; exact hle z hz)
     refine ⟨this.1, fun z => ?_⟩
     rw [this.2, hp.2.1]
     simp only [List.mem_cons]
     constructor
     ·rintro ((h | h) | h | h) <;> simp [h]
     ·rintro (h | (h | h) | h) <;> simp [h]
   ·rw [if_neg c1]
    cases b with
    | nil => exact absurd (.inl rfl) c1
    | cons y b =>
     have hb' := List.pairwise_cons.1 hb
     have hp := put_last (x := y) h (fun hne => hl hne y (by simp))
     simp only [List.headD_cons, List.tail_cons]
     have hle : ∀ z, z ∈ a ∨ z ∈ b → lexLt z y = false := by
      rintro z (hz | hz)
      ·cases a with
       | nil => simp at hz
       | cons x a =>
        have hyx : lexLt y x = true := by
         cases cc : lexLt y x with
         | true => rfl
         | false => exact absurd (.inr ⟨by simp, by simp [cc]⟩) c1
        rcases List.mem_cons.1 hz with rfl | hz
        ·exact lexLt_asymm _ _ hyx
        ·exact lexLt_asymm _ _ (lexLt_trans _ _ _ hyx ((List.pairwise_cons.1 ha).1 z hz))
      ·exact lexLt_asymm _ _ (hb'.1 z hz)
     have := ih _ a b (by simp at hd; omega) hp.1 ha hb'.2 (fun _ z hz => by rw [hp.2.2.1]; exact hle z hz)
     refine ⟨this.1, fun z => ?_⟩
     rw [this.2, hp.2.1]
     simp only [List.mem_cons]
     constructor
     ·rintro ((h | h) | h | h) <;> simp [h]
     ·rintro (h | h | (h | h)) <;> simp [h]
/-- The merge of two strict lists. -/
theorem mergeU_eq {d : Nat} {a b : List (List Int)} (hd : a.length + b.length ≤ d) (ha : Strict a) (hb : Strict b) : mergeU d [] a b = sortU (a ++ b) := by
 have h := mergeU_run d [] a b hd (by simp [Strict]) ha hb (fun h => absurd rfl h)
 exact sortU_eq h.1 (fun x => by rw [h.2]; simp)
theorem strict_short {l : List (List Int)} (h : l.length < 2) : Strict l := by
 cases l with
 | nil => simp [Strict]
 | cons x l => cases l with
  | nil => simp [Strict]
  | cons y l => simp only [List.length_cons] at h; omega
/-- What is left of a sorted list when repetitions next to each other are taken out. -/
def compactU : List (List Int) → List (List Int)
 | [] => []
 | [x] => [x]
 | x :: y :: l => if x = y then compactU (y :: l) else x :: compactU (y :: l)
theorem compactU_mem (z : List Int) : ∀ l, z ∈ compactU l ↔ z ∈ l
 | [] => Iff.rfl
 | [x] => Iff.rfl
 | x :: y :: l => by
  rw [compactU]
  have h := compactU_mem z (y :: l)
  split
  ·rename_i e; subst e; rw [h]; simp
  ·simp only [List.mem_cons] at h ⊢; rw [h]
theorem compactU_strict : ∀ l : List (List Int), l.Pairwise (fun a b => lexLt b a = false) → Strict (compactU l)
 | [], _ => by simp [compactU, Strict]
 | [x], _ => by simp [compactU, Strict]
 | x :: y :: l, h => by
  have h' := List.pairwise_cons.1 h
  have ih := compactU_strict (y :: l) h'.2
  rw [compactU]
  split
  ·exact ih
  ·rename_i e
   refine List.pairwise_cons.2 ⟨fun z hz => ?_, ih⟩
   rw [compactU_mem] at hz
   have hxy : lexLt x y = true := by
    cases c : lexLt x y with
    | true => rfl
    | false => exact absurd (lexLt_total _ _ c (h'.1 y (by simp))) e
   rcases List.mem_cons.1 hz with rfl | hz
   ·exact hxy
   ·have hzy := (List.pairwise_cons.1 h'.2).1 z hz
    cases c : lexLt x z with
    | true => rfl
    | false =>
     have e2 := lexLt_total _ _ c (h'.1 z (by simp [hz]))
     subst e2
     rw [hxy] at hzy; cases hzy
theorem compactU_sorted {l m : List (List Int)} (hp : ∀ x, x ∈ m ↔ x ∈ l) (hs : m.Pairwise fun a b => lexLt b a = false) : compactU m = sortU l :=
 sortU_eq (compactU_strict m hs) (fun x => by rw [compactU_mem, hp])
def sorting.lay_ren : Go.Shelf.Ren := ⟨fun | 6 => 93 | 15 => 111 | 14 => 110 | 28 => 127 | 29 => 128 | 20 => 119 | 21 => 120 | 22 => 121 | 23 => 122 | 24 => 123 | 25 => 124 | 26 => 125 | 27 => 126 | 46 => 130 | 47 => 131 | 48 => 132 | 49 => 133 | 50 => 134 | 57 => 135 | n => n, fun | 22 => 33 | 24 => 22 | 25 => 74 | 3 => 3 | 39 => 77 | 0 => 0 | 53 => 91 | 55 => 93 | 4 => 4 | 46 => 84 | 45 => 83 | 50 => 88 | 5 => 5 | 9 => 9 | 66 => 94 | 70 => 98 | 76 => 100 | 77 => 101 | n => n, fun | n => n⟩
theorem sorting.lay : Go.Proofs.SlLaysF.n6 Try.prog sorting.lay_ren := {
 mixed := by kernel_rfl
 f6 := ⟨Try.f93.name, by decide, Try.func93.trans (congrArg some (by kernel_rfl))⟩
 f14 := ⟨Try.f110.name, by decide, Try.func110.trans (congrArg some (by kernel_rfl))⟩
 f15 := Try.func111.trans (congrArg some (by kernel_rfl))
 f20 := ⟨Try.f119.name, by decide, Try.func119.trans (congrArg some (by kernel_rfl))⟩
 f21 := ⟨Try.f120.name, by decide, Try.func120.trans (congrArg some (by kernel_rfl))⟩
 f22 := ⟨Try.f121.name, by decide, Try.func121.trans (congrArg some (by kernel_rfl))⟩
 f23 := ⟨Try.f122.name, by decide, Try.func122.trans (congrArg some (by kernel_rfl))⟩
 f24 := ⟨Try.f123.name, by decide, Try.func123.trans (congrArg some (by kernel_rfl))⟩
 f25 := ⟨Try.f124.name, by decide, Try.func124.trans (congrArg some (by kernel_rfl))⟩
 f26 := ⟨Try.f125.name, by decide, Try.func125.trans (congrArg some (by kernel_rfl))⟩
 f27 := ⟨Try.f126.name, by decide, Try.func126.trans (congrArg some (by kernel_rfl))⟩
 f28 := Try.func127.trans (congrArg some (by kernel_rfl))
 f29 := Try.func128.trans (congrArg some (by kernel_rfl))
 f46 := ⟨Try.f130.name, by decide, Try.func130.trans (congrArg some (by kernel_rfl))⟩
 f47 := Try.func131.trans (congrArg some (by kernel_rfl))
 f48 := Try.func132.trans (congrArg some (by kernel_rfl))
 f49 := ⟨Try.f133.name, by decide, Try.func133.trans (congrArg some (by kernel_rfl))⟩
 f50 := ⟨Try.f134.name, by decide, Try.func134.trans (congrArg some (by kernel_rfl))⟩
 f57 := ⟨Try.f135.name, by decide, Try.func135.trans (congrArg some (by kernel_rfl))⟩
 t0 := Try.underlying0
 a0 := Try.isAgg0
 z0 := Try.sizeOf0
 v0 := Try.zeroValue0
 t3 := Try.underlying3
 a3 := Try.isAgg3
 z3 := Try.sizeOf3
 v3 := Try.zeroValue3
 t4 := Try.underlying4
 a4 := Try.isAgg4
 z4 := Try.sizeOf4
 v4 := Try.zeroValue4
 t5 := Try.underlying5
 a5 := Try.isAgg5
 z5 := Try.sizeOf5
 v5 := Try.zeroValue5
 t9 := Try.underlying9
 a9 := Try.isAgg9
 z9 := Try.sizeOf9
 v9 := Try.zeroValue9
 t22 := Try.underlying33
 a22 := Try.isAgg33
 z22 := Try.sizeOf33
 v22 := Try.zeroValue33
 a24 := Try.isAgg22
 z24 := Try.sizeOf22
 t25 := Try.underlying74
 a25 := Try.isAgg74
 z25 := Try.sizeOf74
 v25 := Try.zeroValue74
 t39 := Try.underlying77
 a39 := Try.isAgg77
 z39 := Try.sizeOf77
 v39 := Try.zeroValue77
 t45 := Try.underlying83
 a45 := Try.isAgg83
 z45 := Try.sizeOf83
 v45 := Try.zeroValue83
 t46 := Try.underlying84
 a46 := Try.isAgg84
 z46 := Try.sizeOf84
 v46 := Try.zeroValue84
 t50 := Try.underlying88
 a50 := Try.isAgg88
 z50 := Try.sizeOf88
 v50 := Try.zeroValue88
 t53 := Try.underlying91
 a53 := Try.isAgg91
 z53 := Try.sizeOf91
 v53 := Try.zeroValue91
 t55 := Try.underlying93
 a55 := Try.isAgg93
 z55 := Try.sizeOf93
 v55 := Try.zeroValue93
 t66 := Try.underlying94
 a66 := Try.isAgg94
 z66 := Try.sizeOf94
 v66 := Try.zeroValue94
 t70 := Try.underlying98
 a70 := Try.isAgg98
 z70 := Try.sizeOf98
 v70 := Try.zeroValue98
 t76 := Try.underlying100
 a76 := Try.isAgg100
 z76 := Try.sizeOf100
 v76 := Try.zeroValue100
 t77 := Try.underlying101
 a77 := Try.isAgg101
 z77 := Try.sizeOf101
 v77 := Try.zeroValue101 }
theorem wr64 {a : Int} (h0 : -9223372036854775808 ≤ a) (h1 : a ≤ 9223372036854775807) : wrap64 a = a := by
 unfold wrap64
 omega
/-- How slices.Compare answers at whole numbers. -/
def cmpL : List Int → List Int → Int
 | [], [] => 0
 | [], _ :: _ => -1
 | _ :: _, [] => 1
 | a :: l, b :: m => if a < b then -1 else if b < a then 1 else cmpL l m
theorem cmpL_lt : ∀ l m, decide (cmpL l m < 0) = lexLt l m := by
 intro l
 induction l with
 | nil => intro m; cases m <;> rfl
 | cons a l ih =>
  intro m
  cases m with
  | nil => rfl
  | cons b m =>
   have h := ih m
   simp only [cmpL, lexLt]
   by_cases c1 : a < b
   ·have hne : ¬ a = b := by omega
    simp [c1, hne]
   ·by_cases c2 : b < a
    ·have : ¬ a = b := by omega
     simp [c1, c2, this]
    ·have : a = b := by omega
     subst this
     simp [h]
theorem compare_at (x y : Int) : cmp_Compare_int.f x y = some (if x < y then -1 else if y < x then 1 else 0) := by
 unfold cmp_Compare_int.f cmp_isNaN_int.f
 simp only [Option.bind_some, bne_self_eq_false, Bool.false_eq_true, if_false]
 by_cases c1 : x < y
 ·rw [if_pos c1, if_pos c1]
 ·rw [if_neg c1, if_neg c1]
  by_cases c2 : y < x
  ·rw [if_pos c2, if_pos (by omega)]
  ·rw [if_neg c2, if_neg (by omega)]
theorem compare_run (l m : List Int) (hl : l.length ≤ 9223372036854775806) (hm : m.length ≤ 9223372036854775806) : ∀ (r pre : List Int), l = pre ++ r →
  ∃ k, slices_Compare_int_int.l0 k l m l (l.length : Int) (pre.length : Int) = some (cmpL r (m.drop pre.length)) := by
 intro r
 induction r with
 | nil =>
  intro pre h
  have hz : l.length = pre.length := by rw [h]; simp
  refine ⟨1, ?_⟩
  simp only [slices_Compare_int_int.l0]
  rw [if_neg (by omega)]
  by_cases c : pre.length < m.length
  ·rw [if_pos (by omega), List.drop_eq_getElem_cons c]
   rfl
  ·rw [if_neg (by omega), List.drop_eq_nil_of_le (by omega)]
   rfl
 | cons x r ih =>
  intro pre h
  have hz : l.length = pre.length + (r.length + 1) := by rw [h]; simp
  have hx : rd l (pre.length : Int) = x := by rw [h]; simp [rd]
  by_cases c : pre.length < m.length
  ·have hy : rd m (pre.length : Int) = m[pre.length] := by simp [rd, c]
   rw [List.drop_eq_getElem_cons c]
   by_cases c1 : x < m[pre.length]
   ·refine ⟨1, ?_⟩
    simp only [slices_Compare_int_int.l0]
    rw [if_pos (by omega), if_pos (by omega), if_pos (by omega), if_neg (by omega), if_pos (by omega), hx, hy, compare_at, if_pos c1, Option.bind_some, if_neg (by decide)]
    simp only [cmpL]
    rw [if_pos c1]
   ·by_cases c2 : m[pre.length] < x
    ·refine ⟨1, ?_⟩
     simp only [slices_Compare_int_int.l0]
     rw [if_pos (by omega), if_pos (by omega), if_pos (by omega), if_neg (by omega), if_pos (by omega), hx, hy, compare_at, if_neg c1, if_pos c2, Option.bind_some, if_neg (by decide)]
     simp only [cmpL]
     rw [if_neg c1, if_pos c2]
    ·obtain ⟨k, hk⟩ := ih (pre ++ [x]) (by rw [h]; simp)
     rw [show (pre ++ [x]).length = pre.length + 1 by simp] at hk
     refine ⟨k + 1, ?_⟩
     simp only [slices_Compare_int_int.l0]
     rw [if_pos (by omega), if_pos (by omega), if_pos (by omega), if_neg (by omega), if_pos (by omega), hx, hy, compare_at, if_neg c1, if_neg c2, Option.bind_some, if_pos rfl, show wrap64 ((pre.length : Int) + 1) = ((pre.length + 1 : Nat) : Int) by rw [wr64 (by omega) (by omega)]; omega, hk]
     simp only [cmpL]
     rw [if_neg c1, if_neg c2]
  ·refine ⟨1, ?_⟩
   simp only [slices_Compare_int_int.l0]
   rw [if_pos (by omega), if_pos (by omega), if_pos (by omega), if_pos (by omega), List.drop_eq_nil_of_le (by omega)]
   rfl
/-- What an element of the row is good for: its list reads, outside the row that is sorted. -/
structure Good (w : World) (g : Nat) (x : CV × List Int) : Prop where
 len : x.1.n = x.2.length
 cap : x.2.length ≤ x.1.c
 rds : Kd.C (Kd.int .i64) w x.1.A x.2.length x.2
 out : 0 < x.2.length → ∀ ad, x.1.A = some ad → ad.block ≠ g
 small : x.2.length ≤ 9223372036854775806
abbrev El (w : World) (g : Nat) := { x : CV × List Int // Good w g x }
instance (w : World) (g : Nat) : Inhabited (El w g) := ⟨⟨(cv0, []), ⟨rfl, Nat.le_refl _, ⟨rfl, Nat.zero_le _, fun h => absurd h (Nat.lt_irrefl 0)⟩, fun h => absurd h (Nat.lt_irrefl 0), Nat.zero_le _⟩⟩⟩
def encE {w : World} {g : Nat} (x : El w g) : Value := .slice x.val.1.A x.val.1.n x.val.1.c
theorem sorted_heap {α : Type} [Inhabited α] (enc : α → Value) (w : World) (g m : Nat) (dk : Array α) (os : Array Obj) (k : Nat) (hk : k < w.heap.size) (hne : k ≠ g) : (sortWorld enc w g 0 m dk os).heap[k]? = w.heap[k]? := by
 unfold sortWorld
 rw [Sort.heap_grow_old _ _ (by simpa using hk)]
 simp [Sort.putRow, Sort.mapBlock, Sort.ahead, Array.getElem?_modify, Ne.symm hne]
theorem Good.sorted {w : World} {g : Nat} {x : CV × List Int} (h : Good w g x) {α : Type} [Inhabited α] (enc : α → Value) (m : Nat) (dk : Array α) (os : Array Obj) : Kd.C (Kd.int .i64) (sortWorld enc w g 0 m dk os) x.1.A x.2.length x.2 := by
 obtain ⟨h1, h2, h3⟩ := h.rds
 refine ⟨h1, h2, fun hn => ?_⟩
 obtain ⟨ad, e, hc⟩ := h3 hn
 refine ⟨ad, e, fun j p hj => ?_⟩
 obtain ⟨c, hs, hR, hcell⟩ := hc j p hj
 refine ⟨c, hs, hR, fun i u hu => ?_⟩
 have hu' := hcell i u hu
 have hb : (ad.add (j * (Kd.int .i64).sz + i)).block = ad.block := by unfold Addr.add; split <;> rfl
 have hlt := World.block_lt_of_cell? w _ hu'
 have hh := sorted_heap enc w g m dk os _ hlt (by rw [hb]; exact h.out hn ad e)
 unfold World.cell? at hu' ⊢
 rw [hh]
 exact hu'
theorem cmp_lays (w : World) (g size : Nat) : CmpLays1 Try.prog 94 #[] (encE (w := w) (g := g)) (fun x y => cmpL x.val.2 y.val.2) g 0 size w := by
 intro m os dk hs x y
 obtain ⟨k, hk⟩ := compare_run x.val.2 y.val.2 x.property.small y.property.small x.val.2 [] rfl
 have hc := slices_Compare_int_int.calls k x.val.1.A x.val.1.c x.val.2 y.val.1.A y.val.1.c y.val.2 _ (sortWorld encE w g 0 m dk os) (x.property.sorted encE m dk os) x.property.cap (y.property.sorted encE m dk os) y.property.cap hk
 have e1 : encE x = .slice x.val.1.A x.val.2.length x.val.1.c := by unfold encE; rw [x.property.len]
 have e2 : encE y = .slice y.val.1.A y.val.2.length y.val.1.c := by unfold encE; rw [y.property.len]
 rw [e1, e2]
 exact hc.mono fun e w' ⟨he, hd⟩ => ⟨he, by
  obtain ⟨n, hn⟩ := hd.out
  exact ⟨n, #[], by rw [hn, Sort.grow_empty]⟩⟩
theorem lex_swo (w : World) (g : Nat) : Sort.SWO (ltOf (fun (x y : El w g) => cmpL x.val.2 y.val.2)) := by
 refine ⟨fun x => ?_, fun x y z h1 h2 => ?_, fun x y z h1 h2 => ?_⟩
 ·show decide _ = _
  rw [cmpL_lt]
  exact lexLt_irrefl _
 ·have h1' : decide _ = true := h1
  have h2' : decide _ = true := h2
  show decide _ = _
  rw [cmpL_lt] at h1' h2' ⊢
  exact lexLt_trans _ _ _ h1' h2'
 ·have h1' : decide _ = false := h1
  have h2' : decide _ = false := h2
  show decide _ = _
  rw [cmpL_lt] at h1' h2' ⊢
  cases hxz : lexLt x.val.2 z.val.2 with
  | false => rfl
  | true =>
   cases hzy : lexLt z.val.2 y.val.2 with
   | true =>
    have := lexLt_trans _ _ _ hxz hzy
    rw [h1'] at this
    cases this
   | false =>
    have e := lexLt_total _ _ h2' hzy
    rw [← e, h1'] at hxz
    cases hxz
/-- The library's sort, at a row of good elements. -/
theorem sort_calls (w : World) (g cap : Nat) (d : Array (El w g)) (hH : Sort.Holds encE w g 0 d) (hg : g < w.heap.size) (hsz : d.size < 4611686018427387904) :
  Calls Try.prog 93 #[.slice (some ⟨g, 0, none⟩) d.size cap, .func (.func 94) #[] #[]] w fun e w' => e = .returned (.tuple #[]) ∧ ∃ d' n os, Sort.PermIn 0 d.size d d' ∧ Sort.SortedIn (ltOf (fun (x y : El w g) => cmpL x.val.2 y.val.2)) 0 d.size d' ∧ w' = sortWorld encE w g 0 n d' os :=
 Any.slices_SortFunc sorting.lay encE (fun _ => rfl) (fun x y => cmpL x.val.2 y.val.2) (lex_swo w g) 94 #[] g 0 cap d w (enters_of Try.func94 (by kernel_rfl) rfl) (cmp_lays w g d.size) hH hg hsz
/-! ##### the sort of an own row of rows -/
theorem holds_row {α : Type} [Inhabited α] (enc : α → Value) {w : World} {g : Nat} {cur : Array Value} {e : TypeId} {ss : List α} (hb : w.heap[g]? = some (.cells cur e (0, 0))) (ht : cur.toList.take ss.length = ss.map enc) : Sort.Holds enc w g 0 ss.toArray := by
 intro j hj
 have hj' : j < ss.length := by simpa using hj
 refine ⟨?_, by simp [World.frozen?, hb]⟩
 have h1 : (cur.toList.take ss.length)[j]? = (ss.map enc)[j]? := by rw [ht]
 rw [List.getElem?_take_of_lt hj'] at h1
 simp only [World.cell?, hb, Nat.zero_add]
 simp only [Option.isSome_none, Bool.false_eq_true, if_false]
 rw [← Array.getElem?_toList, h1]
 simp [hj']
theorem heap_row {α : Type} [Inhabited α] (enc : α → Value) {w : World} {g n : Nat} {os : Array Obj} {cur : Array Value} {e : TypeId} {fr : Nat × Nat} (d : Array α) (hb : w.heap[g]? = some (.cells cur e fr)) :
  (sortWorld enc w g 0 n d os).heap[g]? = some (.cells (Sort.putCells enc 0 d cur) e fr) := by
 have hg : g < w.heap.size := (Array.getElem?_eq_some_iff.1 hb).1
 unfold sortWorld
 rw [Sort.heap_grow_old _ _ (by simpa using hg)]
 simp [Sort.putRow, Sort.mapBlock, Sort.ahead, Array.getElem?_modify, hb, Sort.onCells]
theorem take_row {α : Type} [Inhabited α] (enc : α → Value) (cur : Array Value) (ts : List α) (h : ts.length ≤ cur.size) : (Sort.putCells enc 0 ts.toArray cur).toList.take ts.length = ts.map enc := by
 apply List.ext_getElem?
 intro j
 by_cases hj : j < ts.length
 ·rw [List.getElem?_take_of_lt hj, Array.getElem?_toList]
  simp [Sort.putCells, hj, show j < cur.size by omega]
 ·rw [List.getElem?_take_eq_none (by omega), List.getElem?_eq_none (by simp; omega)]
theorem grown_row {α : Type} [Inhabited α] (enc : α → Value) {w : World} {g n : Nat} {os : Array Obj} (d : Array α) : w.grownBy (sortWorld enc w g 0 n d os) (some g) := by
 refine ⟨rfl, rfl, rfl, by simp [sortWorld], fun k hk hne => ?_⟩
 exact sorted_heap enc w g n d os k hk (fun e => hne (by rw [e]))
/-- A permutation, by places. -/
theorem perm_places {α : Type} {l m : List α} (h : List.Perm l m) : ∃ p : Nat → Nat, (∀ i, i < l.length → p i < m.length) ∧ (∀ i j, i < l.length → j < l.length → p i = p j → i = j) ∧ ∀ i, i < l.length → l[i]? = m[p i]? := by
 induction h with
 | nil => exact ⟨id, fun i h => by simp at h, fun i j h => by simp at h, fun i h => by simp at h⟩
 | cons x h ih =>
  obtain ⟨p, h1, h2, h3⟩ := ih
  refine ⟨fun i => match i with | 0 => 0 | i + 1 => p i + 1, fun i hi => ?_, fun i j hi hj e => ?_, fun i hi => ?_⟩
  ·cases i with
   | zero => simp
   | succ i => have := h1 i (by simpa using hi); simpa using this
  ·cases i with
   | zero => cases j with
    | zero => rfl
    | succ j => simp at e
   | succ i => cases j with
    | zero => simp at e
    | succ j => have := h2 i j (by simpa using hi) (by simpa using hj) (by simpa using e); omega
  ·cases i with
   | zero => rfl
   | succ i => simpa using h3 i (by simpa using hi)
 | swap x y l =>
  refine ⟨fun i => match i with | 0 => 1 | 1 => 0 | i + 2 => i + 2, fun i hi => ?_, fun i j hi hj e => ?_, fun i hi => ?_⟩
  ·match i with
   | 0 => simp
   | 1 => simp
   | i + 2 => simpa using hi
  ·match i, j with
   | 0, 0 => rfl
   | 0, 1 => simp at e
   | 0, j + 2 => simp at e
   | 1, 0 => simp at e
   | 1, 1 => rfl
   | 1, j + 2 => simp at e
   | i + 2, 0 => simp at e
   | i + 2, 1 => simp at e
   | i + 2, j + 2 => simpa using e
  ·match i with
   | 0 => rfl
   | 1 => rfl
   | i + 2 => rfl
 | trans a b iha ihb =>
  obtain ⟨p, h1, h2, h3⟩ := iha
  obtain ⟨q, k1, k2, k3⟩ := ihb
  exact ⟨fun i => q (p i), fun i hi => k1 _ (h1 i hi), fun i j hi hj e => h2 i j hi hj (k2 _ _ (h1 i hi) (h1 j hj) e), fun i hi => (h3 i hi).trans (k3 _ (h1 i hi))⟩
theorem good_of_cells {w : World} {base g : Nat} {e : TypeId} {ok : Nat → Prop} {xs : List (List Int)} {cs : List CV} {okj : Nat → Nat → Prop} (h : Cells (Kd.slice e (Kd.int .i64)) w base ok (some g) xs cs okj) (hs : ∀ x ∈ xs, x.length ≤ 9223372036854775806) (j : Nat) (x : List Int) (c : CV) (hx : xs[j]? = some x) (hc : cs[j]? = some c) : Good w g (c, x) := by
 obtain ⟨u, hu, hR⟩ := h.rep j x c hx hc
 injection hu with hu
 subst hu
 obtain ⟨h1, h2, h3⟩ := Kd.R_reads' hR
 refine ⟨h1, (by show x.length ≤ c.c; omega), h3, fun _ ad e hg => ?_, hs x (List.mem_of_getElem? hx)⟩
 have e' : c.A = some ad := e
 have hk := hR.1 ad.block (by rw [e']; rfl)
 exact (h.inn _ _ hk).2 (by rw [hg])
theorem els {w : World} {g : Nat} : ∀ zs : List (CV × List Int), (∀ z ∈ zs, Good w g z) → ∃ es : List (El w g), es.map (fun e => e.val) = zs
 | [], _ => ⟨[], rfl⟩
 | z :: zs, h => by
  obtain ⟨es, he⟩ := els zs (fun y hy => h y (List.mem_cons_of_mem _ hy))
  exact ⟨⟨z, h z List.mem_cons_self⟩ :: es, by rw [List.map_cons, he]⟩
theorem sort_rows (P0 : Nat → Prop) (v : Value) (xs : List (List Int)) (w0 w : World) (hB : Below w0.heap.size w0 w) (hS : Kd.S (Kd.slice 3 (Kd.int .i64)) 22 w w0.heap.size P0 v xs) (hl : xs.length < 4611686018427387904) (hs : ∀ x ∈ xs, x.length ≤ 9223372036854775806) :
  Calls Try.prog 93 #[v, .func (.func 94) #[] #[]] w fun e w' => e = .returned (.tuple #[]) ∧ ∃ ys : List (List Int), (∀ x, x ∈ ys ↔ x ∈ xs) ∧ ys.length = xs.length ∧ ys.Pairwise (fun a b => lexLt b a = false) ∧ Kd.S (Kd.slice 3 (Kd.int .i64)) 22 w' w0.heap.size P0 v ys ∧ Below w0.heap.size w0 w' := by
 obtain ⟨cs, okj, hR, h0, hC⟩ := S_cells hS
 obtain ⟨hok, inner, ho, hr⟩ := hR
 obtain ⟨hi, hv⟩ := ho
 have hinner : inner = cs.map (fun c => Value.slice c.A c.n c.c) := by
  have hlen : inner.length = cs.length := by rw [hi]; exact Nat.mul_one _
  apply List.ext_getElem (by rw [hlen, List.length_map])
  intro j h1 h2
  have := hr.2 j _ (List.getElem?_eq_getElem (by omega : j < cs.length))
  have e : (inner.drop (j * 1)).take 1 = [Value.slice (cs[j]'(by omega)).A (cs[j]'(by omega)).n (cs[j]'(by omega)).c] := this
  rw [seg_one h1] at e
  injection e with e
  rw [e, List.getElem_map]
 rcases hv with ⟨hv, hn⟩ | ⟨g, cap, cur, hv, hbase, hcur, hnc, hcm, hsz, htk⟩
 ·subst hv
  have hx : xs = [] := List.length_eq_zero_iff.mp (by rw [← hC.len]; exact hn)
  subst hx
  exact (AnyF.slices_SortFunc_none { sorting.lay with } none 0 _ w).mono fun e w' ⟨he, hw⟩ => ⟨he, [], fun x => Iff.rfl, rfl, List.Pairwise.nil, hw ▸ hS, hw ▸ hB⟩
 ·subst hv
  have hC' : Cells (Kd.slice 3 (Kd.int .i64)) w w0.heap.size P0 (some g) xs cs okj := hC
  have hgood : ∀ z ∈ cs.zip xs, Good w g z := by
   intro z hz
   obtain ⟨j, hj⟩ := List.getElem?_of_mem hz
   rw [List.getElem?_zip_eq_some] at hj
   exact good_of_cells hC' hs j z.2 z.1 hj.2 hj.1
  obtain ⟨zs, hz1, hz2⟩ : ∃ zs : List (El w g), zs.map (fun z => z.val.1) = cs ∧ zs.map (fun z => z.val.2) = xs := by
   obtain ⟨es, he⟩ := els (cs.zip xs) hgood
   refine ⟨es, ?_, ?_⟩
   ·have h1 : es.map (fun z => z.val.1) = (es.map (fun e => e.val)).map (fun z => z.1) := by rw [List.map_map]; rfl
    rw [h1, he]
    exact List.map_fst_zip (by rw [hC.len]; exact Nat.le_refl _)
   ·have h1 : es.map (fun z => z.val.2) = (es.map (fun e => e.val)).map (fun z => z.2) := by rw [List.map_map]; rfl
    rw [h1, he]
    exact List.map_snd_zip (by rw [hC.len]; exact Nat.le_refl _)
  have hzl : zs.length = cs.length := by rw [← hz1, List.length_map]
  have hze : zs.map encE = inner := by
   rw [hinner, ← hz1, List.map_map]
   rfl
  have hgl : g < w.heap.size := (Array.getElem?_eq_some_iff.1 hcur).1
  have hH : Sort.Holds encE w g 0 zs.toArray := holds_row encE hcur (by rw [hzl, hze, ← htk]; show _ = List.take (cs.length * 1) _; rw [Nat.mul_one])
  have hsz' : zs.toArray.size = cs.length := by simpa using hzl
  have hcall := sort_calls w g cap zs.toArray hH hgl (by rw [hsz', hC.len]; exact hl)
  rw [hsz'] at hcall
  refine hcall.mono ?_
  rintro e w' ⟨rfl, d', n, os, hp, hsrt, rfl⟩
  have hd' : d'.size = cs.length := hp.1.trans hsz'
  have hperm : List.Perm d'.toList zs := by
   have h := hp.2.2
   have e1 : d'.extract 0 cs.length = d' := by rw [← hd']; simp
   have e2 : zs.toArray.extract 0 cs.length = zs.toArray := by rw [← hsz']; simp
   rw [e1, e2] at h
   simpa using h
  obtain ⟨p, hp1, hp2, hp3⟩ := perm_places hperm
  have hdl : d'.toList.length = cs.length := by rw [Array.length_toList]; exact hd'
  refine ⟨rfl, d'.toList.map (fun z => z.val.2), fun x => ?_, ?_, ?_, ?_, ?_⟩
  ·rw [← hz2]; exact (hperm.map _).mem_iff
  ·rw [List.length_map, hdl, hC.len]
  ·rw [List.pairwise_iff_getElem]
   intro i j hi' hj' hij
   rw [List.length_map] at hi' hj'
   have hlt := hsrt i j (Nat.zero_le _) hij (by rw [Array.length_toList] at hj'; omega)
   have hlt' : decide _ = false := hlt
   rw [cmpL_lt] at hlt'
   rw [List.getElem_map, List.getElem_map]
   rw [Array.length_toList] at hi' hj'
   rw [getElem!_pos d' i hi', getElem!_pos d' j hj'] at hlt'
   simpa using hlt'
  ·refine S_of_cells (cs := d'.toList.map (fun z => z.val.1)) (ok1 := fun k => some k = (Value.slice (some ⟨g, 0, none⟩) cs.length cap).ownBlock) rfl ⟨hok, d'.toList.map encE, ⟨by rw [List.length_map, List.length_map]; exact (Nat.mul_one _).symm, .inr ⟨g, cap, Sort.putCells encE 0 d' cur, by rw [List.length_map, hdl], hbase, heap_row encE d' hcur, by rw [List.length_map, hdl]; exact hnc, hcm, by simpa [Sort.putCells] using hsz, ?_⟩⟩, ?_⟩ h0 (Cells.told hC' p ?_ ?_ ?_ ?_ ?_)
   ·show List.take (_ * 1) _ = _
    rw [Nat.mul_one, List.length_map]
    have hcs : cur.size = cap := by rw [hsz]; exact Nat.mul_one _
    have h := take_row encE cur d'.toList (by rw [hdl, hcs]; exact hnc)
    simpa using h
   ·refine ⟨by rw [List.length_map, List.length_map]; exact (Nat.mul_one _).symm, fun j c hj => ?_⟩
    obtain ⟨hj', e⟩ := List.getElem?_eq_some_iff.1 hj
    rw [List.length_map] at hj'
    show (List.drop (j * 1) _).take 1 = [Value.slice c.A c.n c.c]
    rw [seg_one (by rw [List.length_map]; exact hj'), ← e, List.getElem_map, List.getElem_map]
    rfl
   ·rw [List.length_map, List.length_map]
   ·exact fun i j hi hj => hp2 i j (by rwa [List.length_map] at hi) (by rwa [List.length_map] at hj)
   ·exact fun j hj => by rw [List.getElem?_map, hp3 j (by rwa [List.length_map] at hj), ← List.getElem?_map, hz2]
   ·exact fun j hj => by rw [List.getElem?_map, hp3 j (by rwa [List.length_map] at hj), ← List.getElem?_map, hz1]
   ·exact fun k hk hne hlt => sorted_heap encE w g n d' os k hlt (fun e => hne (by rw [e]))
  ·exact hB.grown (grown_row encE d') hB.size (fun k hk => by injection hk with hk; omega)
/-! ##### what slices.CompactFunc leaves -/
theorem compactU_snoc (x : List Int) : ∀ l : List (List Int), l ≠ [] → compactU (l ++ [x]) = if l.getLastD [] = x then compactU l else compactU l ++ [x]
 | [], h => absurd rfl h
 | [y], _ => by
  show (if y = x then compactU [x] else y :: compactU [x]) = _
  by_cases c : y = x
  ·rw [if_pos c, if_pos (show [y].getLastD [] = x from c), c]
  ·rw [if_neg c, if_neg (show ¬ [y].getLastD [] = x from c)]
   rfl
 | y :: z :: l, _ => by
  have ih := compactU_snoc x (z :: l) (by simp)
  have e : (y :: z :: l).getLastD [] = (z :: l).getLastD [] := by simp [List.getLastD_cons]
  show (if y = z then compactU (z :: l ++ [x]) else y :: compactU (z :: l ++ [x])) = _
  rw [ih, e]
  by_cases c : y = z
  ·simp only [compactU, if_pos c]
  ·simp only [compactU, if_neg c]
   split <;> simp
def keysOf {w : World} {g : Nat} (d : Array (El w g)) (m : Nat) : List (List Int) := (d.toList.take m).map (fun z => z.val.2)
theorem keys_succ {w : World} {g : Nat} (d : Array (El w g)) (m : Nat) (h : m < d.size) : keysOf d (m + 1) = keysOf d m ++ [(d[m]!).val.2] := by
 unfold keysOf
 rw [List.take_succ_eq_append_getElem (by simpa using h), List.map_append, getElem!_pos d m h]
 simp
theorem keys_last {w : World} {g : Nat} (d : Array (El w g)) (m : Nat) (h : m ≤ d.size) (h0 : 0 < m) : keysOf d m ≠ [] ∧ (keysOf d m).getLastD [] = (d[m - 1]!).val.2 := by
 obtain ⟨n, rfl⟩ : ∃ n, m = n + 1 := ⟨m - 1, by omega⟩
 rw [keys_succ d n (by omega)]
 simp
/-- m places have been looked at; what is left of them, k elements, lies at the row's head; from place k on the row is as it was. -/
structure CInv {w : World} {g : Nat} (d : Array (El w g)) (m k : Nat) (dk : Array (El w g)) : Prop where
 size : dk.size = d.size
 lt : k < m
 pos : 0 < k
 low : keysOf dk k = compactU (keysOf d m)
 high : ∀ j, k ≤ j → dk[j]! = d[j]!
 places : ∃ p : Nat → Nat, (∀ i j, i < k → j < k → p i = p j → i = j) ∧ ∀ j, j < k → p j < m ∧ dk[j]! = d[p j]!
theorem CInv.start {w : World} {g : Nat} {d : Array (El w g)} {k : Nat} (h0 : 0 < k) (hk : k < d.size) (hall : compactU (keysOf d k) = keysOf d k) (hd : (d[k]!).val.2 = (d[k - 1]!).val.2) : CInv d (k + 1) k d where
 size := rfl
 lt := Nat.lt_succ_self _
 pos := h0
 low := by
  obtain ⟨h1, h2⟩ := keys_last d k (by omega) h0
  rw [keys_succ d k hk, compactU_snoc _ _ h1, if_pos (by rw [h2, hd]), hall]
 high := fun _ _ => rfl
 places := ⟨id, fun _ _ _ _ e => e, fun j hj => ⟨by show j < _; omega, rfl⟩⟩
theorem CInv.skip {w : World} {g : Nat} {d dk : Array (El w g)} {m k : Nat} (h : CInv d m k dk) (hm : m < d.size) (hd : (d[m]!).val.2 = (d[m - 1]!).val.2) : CInv d (m + 1) k dk where
 size := h.size
 lt := by have := h.lt; omega
 pos := h.pos
 low := by
  obtain ⟨h1, h2⟩ := keys_last d m (by omega) (by have := h.lt; omega)
  rw [keys_succ d m hm, compactU_snoc _ _ h1, if_pos (by rw [h2, hd]), h.low]
 high := h.high
 places := by
  obtain ⟨p, h1, h2⟩ := h.places
  exact ⟨p, h1, fun j hj => ⟨by have := (h2 j hj).1; omega, (h2 j hj).2⟩⟩
theorem CInv.keep {w : World} {g : Nat} {d dk : Array (El w g)} {m k : Nat} (h : CInv d m k dk) (hm : m < d.size) (hd : (d[m]!).val.2 ≠ (d[m - 1]!).val.2) : CInv d (m + 1) (k + 1) (dk.setIfInBounds k d[m]!) where
 size := by rw [Array.size_setIfInBounds, h.size]
 lt := by have := h.lt; omega
 pos := by omega
 low := by
  obtain ⟨h1, h2⟩ := keys_last d m (by omega) (by have := h.lt; omega)
  have hk : k < (dk.setIfInBounds k d[m]!).size := by rw [Array.size_setIfInBounds, h.size]; have := h.lt; omega
  rw [keys_succ d m hm, compactU_snoc _ _ h1, if_neg (by rw [h2]; exact fun e => hd e.symm), keys_succ _ k hk, Sort.getElem!_set_same dk k _ (by rw [h.size]; have := h.lt; omega), ← h.low]
  congr 1
  unfold keysOf
  congr 1
  rw [Array.toList_setIfInBounds]
  exact List.take_set_of_le (Nat.le_refl _)
 high := fun j hj => by rw [Sort.getElem!_set_other dk k j _ (by omega), h.high j (by omega)]
 places := by
  obtain ⟨p, h1, h2⟩ := h.places
  have hkd : k < dk.size := by rw [h.size]; have := h.lt; omega
  refine ⟨fun j => if j = k then m else p j, fun i j hi hj e => ?_, fun j hj => ?_⟩
  ·by_cases c1 : i = k
   ·by_cases c2 : j = k
    ·omega
    ·simp only [if_pos c1, if_neg c2] at e
     have := (h2 j (by omega)).1
     omega
   ·by_cases c2 : j = k
    ·simp only [if_neg c1, if_pos c2] at e
     have := (h2 i (by omega)).1
     omega
    ·simp only [if_neg c1, if_neg c2] at e
     exact h1 i j (by omega) (by omega) e
  ·by_cases c : j = k
   ·subst c
    simp only [if_pos]
    exact ⟨by omega, Sort.getElem!_set_same dk j _ hkd⟩
   ·simp only [if_neg c]
    obtain ⟨h3, h4⟩ := h2 j (by omega)
    exact ⟨by omega, by rw [Sort.getElem!_set_other dk k j _ c, h4]⟩
/-! ##### slices.CompactFunc -/
theorem equal_loop (l m : List Int) (hl : l.length ≤ 9223372036854775806) (e : l.length = m.length) : ∀ (r pre : List Int), l = pre ++ r →
  ∃ k, slices_Equal_int_int.l0 k l m (l.length : Int) (pre.length : Int) = some (decide (r = m.drop pre.length)) := by
 intro r
 induction r with
 | nil =>
  intro pre h
  have hz : l.length = pre.length := by rw [h]; simp
  refine ⟨1, ?_⟩
  simp only [slices_Equal_int_int.l0]
  rw [if_neg (by omega), List.drop_eq_nil_of_le (by omega)]
  rfl
 | cons x r ih =>
  intro pre h
  have hz : l.length = pre.length + (r.length + 1) := by rw [h]; simp
  have hx : rd l (pre.length : Int) = x := by rw [h]; simp [rd]
  have c : pre.length < m.length := by omega
  have hy : rd m (pre.length : Int) = m[pre.length] := by simp [rd, c]
  rw [List.drop_eq_getElem_cons c]
  by_cases c1 : x = m[pre.length]
  ·obtain ⟨k, hk⟩ := ih (pre ++ [x]) (by rw [h]; simp)
   rw [show (pre ++ [x]).length = pre.length + 1 by simp] at hk
   refine ⟨k + 1, ?_⟩
   simp only [slices_Equal_int_int.l0]
   rw [if_pos (by omega), if_pos (by omega), if_pos (by omega), if_pos (by omega), hx, hy, if_pos c1, show wrap64 ((pre.length : Int) + 1) = ((pre.length + 1 : Nat) : Int) by rw [wr64 (by omega) (by omega)]; omega, hk]
   congr 1
   apply decide_eq_decide.mpr
   constructor
   ·intro q
    rw [← q, c1]
   ·intro q
    injection q
  ·refine ⟨1, ?_⟩
   simp only [slices_Equal_int_int.l0]
   rw [if_pos (by omega), if_pos (by omega), if_pos (by omega), if_pos (by omega), hx, hy, if_neg c1]
   exact congrArg some (decide_eq_false (fun q => c1 (by injection q))).symm
theorem equal_run (l m : List Int) (hl : l.length ≤ 9223372036854775806) : ∃ k, slices_Equal_int_int.f k l m = some (decide (l = m)) := by
 by_cases e : l.length = m.length
 ·obtain ⟨k, hk⟩ := equal_loop l m hl e l [] rfl
  refine ⟨k, ?_⟩
  unfold slices_Equal_int_int.f
  rw [if_pos (by omega)]
  exact hk
 ·refine ⟨0, ?_⟩
  unfold slices_Equal_int_int.f
  rw [if_neg (by omega), decide_eq_false (fun h => e (by rw [h]))]
/-- The row holds dk; some answers were drawn; nothing else has turned. -/
def Wd {w : World} {g : Nat} (off : Nat) (dk : Array (El w g)) (wr : World) : Prop := ∃ q, wr = Sort.putRow encE (Sort.ahead w q) g off dk
theorem Wd.drewN {w wr : World} {g off : Nat} {dk : Array (El w g)} (h : Wd off dk wr) (n : Nat) : Wd off dk (wr.drewN n) := by
 obtain ⟨q, rfl⟩ := h
 exact ⟨q + n, by rw [← Sort.ahead_ahead]; rfl⟩
theorem Wd.drew {w wr : World} {g off : Nat} {dk : Array (El w g)} (h : Wd off dk wr) : Wd off dk wr.drew := h.drewN 1
theorem Wd.start {w : World} {g off : Nat} {d : Array (El w g)} (hH : Sort.Holds encE w g off d) : Wd off d w := ⟨0, by rw [Sort.ahead_zero, Sort.putRow_self encE w g off d hH]⟩
theorem Wd.holds {w wr : World} {g off : Nat} {d dk : Array (El w g)} (h : Wd off dk wr) (hH : Sort.Holds encE w g off d) (hs : dk.size = d.size) : Sort.Holds encE wr g off dk := by
 obtain ⟨q, rfl⟩ := h
 exact Sort.holds_putRow encE _ g off d dk (fun j hj => hH j hj) hs
theorem Wd.set {w wr : World} {g off : Nat} {dk : Array (El w g)} (h : Wd off dk wr) (i : Nat) (hi : i < dk.size) (x : El w g) : Wd off (dk.setIfInBounds i x) (wr.setCell ⟨g, off + i, none⟩ (encE x)) := by
 obtain ⟨q, rfl⟩ := h
 exact ⟨q, Sort.putRow_set encE _ g off dk i x hi⟩
theorem Wd.other {w wr : World} {g off : Nat} {dk : Array (El w g)} (h : Wd off dk wr) (k : Nat) (hne : k ≠ g) : wr.heap[k]? = w.heap[k]? := by
 obtain ⟨q, rfl⟩ := h
 simp [Sort.putRow, Sort.mapBlock, Sort.ahead, Array.getElem?_modify, Ne.symm hne]
theorem Good.in_ {w wr : World} {g : Nat} {x : CV × List Int} (h : Good w g x) (hw : ∀ k, k ≠ g → wr.heap[k]? = w.heap[k]?) : Kd.C (Kd.int .i64) wr x.1.A x.2.length x.2 := by
 obtain ⟨h1, h2, h3⟩ := h.rds
 refine ⟨h1, h2, fun hn => ?_⟩
 obtain ⟨ad, e, hc⟩ := h3 hn
 refine ⟨ad, e, fun j p hj => ?_⟩
 obtain ⟨c, hs, hR, hcell⟩ := hc j p hj
 refine ⟨c, hs, hR, fun i u hu => ?_⟩
 have hu' := hcell i u hu
 have hb : (ad.add (j * (Kd.int .i64).sz + i)).block = ad.block := by unfold Addr.add; split <;> rfl
 have hh := hw (ad.add (j * (Kd.int .i64).sz + i)).block (by rw [hb]; exact h.out hn ad e)
 unfold World.cell? at hu' ⊢
 rw [hh]
 exact hu'
/-- slices.Equal at two elements. -/
theorem equal_els {w wr : World} {g off : Nat} {dk : Array (El w g)} (h : Wd off dk wr) (x y : El w g) :
  Calls Try.prog 56 #[.slice x.val.1.A x.val.1.n x.val.1.c, .slice y.val.1.A y.val.1.n y.val.1.c] wr fun e w' => e = .returned (.bool (decide (x.val.2 = y.val.2))) ∧ Wd off dk w' := by
 obtain ⟨k, hk⟩ := equal_run x.val.2 y.val.2 x.property.small
 rw [x.property.len, y.property.len]
 exact (slices_Equal_int_int.calls k x.val.1.A x.val.1.c x.val.2 y.val.1.A y.val.1.c y.val.2 _ wr (x.property.in_ (fun k hk => h.other k hk)) x.property.cap (y.property.in_ (fun k hk => h.other k hk)) y.property.cap hk).mono fun e w' ⟨he, hd⟩ => ⟨he, by
  obtain ⟨n, hn⟩ := hd.out
  rw [hn]
  exact h.drewN n⟩
theorem lay_size {α : Type} : ∀ (xs : List α) (d : Array α) (k : Nat), (Lib.lay d k xs).size = d.size
 | [], _, _ => rfl
 | x :: r, d, k => by
  rw [Lib.lay, lay_size r _ (k + 1), Array.size_setIfInBounds]
theorem lay_low {α : Type} [Inhabited α] (xs : List α) (d : Array α) (k j : Nat) (h : k + xs.length ≤ d.size) (hj : j < k) : (Lib.lay d k xs)[j]! = d[j]! := by
 have h1 := Lib.lay_get? xs d k j h
 rw [if_neg (by omega)] at h1
 rw [getElem!_def, getElem!_def, h1]
theorem keys_low {w : World} {g : Nat} (xs : List (El w g)) (d : Array (El w g)) (k : Nat) (h : k + xs.length ≤ d.size) : keysOf (Lib.lay d k xs) k = keysOf d k := by
 unfold keysOf
 congr 1
 apply List.ext_getElem?
 intro j
 by_cases hj : j < k
 ·rw [List.getElem?_take_of_lt hj, List.getElem?_take_of_lt hj, Array.getElem?_toList, Array.getElem?_toList, Lib.lay_get? xs d k j h, if_neg (by omega)]
 ·rw [List.getElem?_take_eq_none (by omega), List.getElem?_take_eq_none (by omega)]
theorem Wd.clear {w wr : World} {g off : Nat} {dk : Array (El w g)} (h : Wd off dk wr) (kk n : Nat) (hs : kk + n ≤ dk.size) : Wd off (Lib.lay dk kk (List.replicate n (default : El w g))) (wr.setCells g (off + kk) (List.replicate n (.slice none 0 0))) := by
 obtain ⟨q, rfl⟩ := h
 have e := Lib.putRow_setCells encE (Sort.ahead w q) g off (List.replicate n (default : El w g)) dk kk (by rw [List.length_replicate]; exact hs)
 rw [List.map_replicate] at e
 exact ⟨q, e⟩
theorem equal_quiet {w wr : World} {g : Nat} (x y : El w g) (hw : ∀ k, k ≠ g → wr.heap[k]? = w.heap[k]?) :
  Calls Try.prog 56 #[.slice x.val.1.A x.val.1.n x.val.1.c, .slice y.val.1.A y.val.1.n y.val.1.c] wr fun e w' => e = .returned (.bool (decide (x.val.2 = y.val.2))) ∧ ∃ n, w' = wr.drewN n := by
 obtain ⟨k, hk⟩ := equal_run x.val.2 y.val.2 x.property.small
 rw [x.property.len, y.property.len]
 exact (slices_Equal_int_int.calls k x.val.1.A x.val.1.c x.val.2 y.val.1.A y.val.1.c y.val.2 _ wr (x.property.in_ hw) x.property.cap (y.property.in_ hw) y.property.cap hk).mono fun e w' ⟨he, hd⟩ => ⟨he, hd.out⟩
set_option maxHeartbeats 8000000 in
set_option maxRecDepth 100000 in
theorem compact_calls (w : World) (g off cap : Nat) (d : Array (El w g)) (hH : Sort.Holds encE w g off d) (hsz : d.size ≤ 4611686018427387904) (hcap : d.size ≤ cap) :
  Calls Try.prog 95 #[.slice (some ⟨g, off, none⟩) d.size cap, .func (.func 56) #[] #[]] w fun e w' =>
   ∃ (k : Nat) (D : Array (El w g)), e = .returned (.slice (some ⟨g, off, none⟩) k cap) ∧ Wd off D w' ∧ D.size = d.size ∧ k ≤ d.size ∧ keysOf D k = compactU (keysOf d d.size) ∧ ∃ p : Nat → Nat, (∀ i j, i < k → j < k → p i = p j → i = j) ∧ ∀ j, j < k → p j < d.size ∧ D[j]! = d[p j]! := by
 have HH := Aside0.mk hH
 have eqf : ∀ args w, (callFunc 56 args).run Try.prog w = .ok (.enter 56 args) w := enters_of Try.func56 (by kernel_rfl) rfl
 by_cases h2 : d.size < 2
 ·clear hH
  have h2b : decide ((d.size : Int) < 2) = true := decide_eq_true (by omega)
  go_enter Try.func95, Try.ntmps95
  go_wp2
  go_ret
  refine ⟨d.size, d, rfl, Wd.start HH.out, rfl, Nat.le_refl _, ?_, id, fun _ _ _ _ e => e, fun j hj => ⟨hj, rfl⟩⟩
  have hl : (keysOf d d.size).length < 2 := by unfold keysOf; simp; omega
  match keysOf d d.size, hl with
  | [], _ => rfl
  | [x], _ => rfl
  | x :: y :: l, h => exact absurd h (by simp)
 ·clear hH
  go_enter Try.func95, Try.ntmps95
  go_wp2
  go_loopg [5] d.size (fun gg s5 wr => ∃ k : Nat, s5 = .int .i64 k ∧ Aside0 (1 ≤ k ∧ k ≤ d.size ∧ d.size - k ≤ gg) ∧ Aside0 (Wd off d wr) ∧ Aside0 (compactU (keysOf d k) = keysOf d k))
  case atStart => exact ⟨1, rfl, ⟨by omega, by omega, by omega⟩, ⟨Wd.start HH.out⟩, ⟨by
   have hl : (keysOf d 1).length < 2 := by unfold keysOf; simp; omega
   match keysOf d 1, hl with
   | [], _ => rfl
   | [x], _ => rfl
   | x :: y :: l, h => exact absurd h (by simp)⟩⟩
  case round =>
   obtain ⟨k, rfl, HK, HW, HC⟩ := hrel
   by_cases hlt : k < d.size
   ·have Hk := HW.out.holds HH.out rfl
    have c1 : wr.cell? ⟨g, off + k, none⟩ = some (.slice (d[k]!).val.1.A (d[k]!).val.1.n (d[k]!).val.1.c) := (Hk k hlt).1
    have c0 : wr.cell? ⟨g, off + (k - 1), none⟩ = some (.slice (d[k - 1]!).val.1.A (d[k - 1]!).val.1.n (d[k - 1]!).val.1.c) := (Hk (k - 1) (by omega)).1
    have hltb : decide ((k : Int) < (d.size : Int)) = true := decide_eq_true (by omega)
    have hk1 := HK.out.1
    have HQ := Aside0.mk (fun (W : World) (h : ∀ k, k ≠ g → W.heap[k]? = w.heap[k]?) => equal_quiet (wr := W) d[k]! d[k - 1]! h)
    generalize hx : d[k]! = x at c1 HQ
    generalize hy : d[k - 1]! = y at c0 HQ
    have B := Aside0.mk (show d[k]! = x ∧ d[k - 1]! = y from ⟨hx, hy⟩)
    clear hx hy Hk
    by_cases hdup : x.val.2 = y.val.2
    ·have HD := Aside0.mk hdup
     rw [decide_eq_true hdup] at HQ
     clear hdup
     have HO := Aside0.mk (fun (k : Nat) (hk : k ≠ g) => HW.out.other k hk)
     go_wp2
     go_quiet ((go_at_fn 56; exact Calls.quiet_of (HQ.out _ HO.out)))
     go_wp2
     clear c0 c1
     go_loopg [5, 7] d.size (fun gg s5 s7 W => ∃ (kk k2 : Nat) (dk : Array (El w g)), s5 = .int .i64 kk ∧ s7 = .int .i64 k2 ∧ Aside0 (1 ≤ k2 ∧ k + k2 ≤ d.size ∧ d.size - (k + k2) ≤ gg) ∧ Aside0 (Wd off dk W) ∧ Aside0 (CInv d (k + k2) kk dk))
     case atStart => exact ⟨k, 1, d, rfl, rfl, ⟨by omega, by omega, by omega⟩, ⟨by repeat (first | exact HW.out | apply Wd.drewN | apply Wd.drew)⟩, ⟨CInv.start (by omega) hlt HC.out (by rw [B.out.1, B.out.2]; exact HD.out)⟩⟩
     case round =>
      obtain ⟨kk, k2, dk, rfl, rfl, HK2, HW2, HI⟩ := hrel
      clear HW HQ HO HC
      have hI1 := HI.out.lt
      have hI2 := HI.out.pos
      have hds := HI.out.size
      have Hk2 := HW2.out.holds HH.out hds
      have h21 := HK2.out.1
      have h22 := HK2.out.2.1
      by_cases hlt2 : k + k2 < d.size
      ·have cm := (Hk2 (k + k2) (by omega)).1
       have cp := (Hk2 (k + k2 - 1) (by omega)).1
       obtain ⟨ck, fk⟩ := Hk2 kk (by omega)
       rw [HI.out.high (k + k2) (by omega), show off + (k + k2) = off + k + k2 by omega] at cm
       rw [HI.out.high (k + k2 - 1) (by omega), show off + (k + k2 - 1) = off + k + (k2 - 1) by omega] at cp
       have HQ := Aside0.mk (fun (W : World) (h : ∀ k, k ≠ g → W.heap[k]? = w.heap[k]?) => equal_quiet (wr := W) d[k + k2]! d[k + k2 - 1]! h)
       have HO := Aside0.mk (fun (k : Nat) (hk : k ≠ g) => HW2.out.other k hk)
       generalize hu : d[k + k2]! = u at cm HQ
       generalize hv : d[k + k2 - 1]! = v at cp HQ
       generalize dk[kk]! = old at ck
       have C := Aside0.mk (show d[k + k2]! = u ∧ d[k + k2 - 1]! = v from ⟨hu, hv⟩)
       replace cm : wr.cell? ⟨g, off + k + k2, none⟩ = some (.slice u.val.1.A u.val.1.n u.val.1.c) := cm
       replace cp : wr.cell? ⟨g, off + k + (k2 - 1), none⟩ = some (.slice v.val.1.A v.val.1.n v.val.1.c) := cp
       replace ck : wr.cell? ⟨g, off + kk, none⟩ = some (.slice old.val.1.A old.val.1.n old.val.1.c) := ck
       clear hu hv Hk2
       by_cases huv : u.val.2 = v.val.2
       ·have HD2 := Aside0.mk huv
        rw [decide_eq_true huv] at HQ
        clear huv
        go_wp2
        go_quiet ((go_at_fn 56; exact Calls.quiet_of (HQ.out _ HO.out)))
        go_wp2
        go_roundg (d.size - (k + (k2 + 1)))
        case measure => have := HK2.out; omega
        case rel => exact ⟨kk, k2 + 1, dk, rfl, by go_num, ⟨by omega, by omega, by omega⟩, ⟨by repeat (first | exact HW2.out | apply Wd.drewN | apply Wd.drew)⟩, ⟨HI.out.skip hlt2 (by rw [C.out.1, C.out.2]; exact HD2.out)⟩⟩
       ·have HD2 := Aside0.mk huv
        rw [decide_eq_false huv] at HQ
        clear huv
        go_wp2
        go_quiet ((go_at_fn 56; exact Calls.quiet_of (HQ.out _ HO.out)))
        go_wp2
        go_roundg (d.size - (k + (k2 + 1)))
        case measure => have := HK2.out; omega
        case rel => exact ⟨kk + 1, k2 + 1, dk.setIfInBounds kk u, by go_num, by go_num, ⟨by omega, by omega, by omega⟩, ⟨by
          have hs : ∀ W, Wd off dk W → Wd off (dk.setIfInBounds kk u) (W.setCell ⟨g, off + kk, none⟩ (.slice u.val.1.A u.val.1.n u.val.1.c)) := fun W h => h.set kk (by omega) u
          repeat (first | exact HW2.out | apply hs | apply Wd.drewN | apply Wd.drew)⟩, ⟨by
          have h := HI.out.keep hlt2 (by rw [C.out.1, C.out.2]; exact HD2.out)
          rwa [C.out.1] at h⟩⟩
      ·have hend : k + k2 = d.size := by omega
       have hcl : ∀ ty, (Builtin.clear_ #[33] ty #[.slice (some ⟨g, off + kk, none⟩) (d.size - kk) (cap - kk)]).run Try.prog wr = .ok (.tuple #[]) (wr.setCells g (off + kk) (List.replicate (d.size - kk) (.slice none 0 0))) :=
        fun ty => Lib.run_clear_slice wr _ _ ty _ Try.underlying33 Try.zeroValue22 rfl rfl g (off + kk) _ _ (by omega) (fun j hj => by rw [show off + kk + j = off + (kk + j) by omega, (Hk2 (kk + j) (by omega)).1]; rfl) (fun j hj => by rw [show off + kk + j = off + (kk + j) by omega]; exact (Hk2 (kk + j) (by omega)).2)
       clear Hk2
       go_wp2
       go_ret
       have hI := HI.out
       rw [hend] at hI
       obtain ⟨p, hp1, hp2⟩ := hI.places
       have hsz2 : kk + (List.replicate (d.size - kk) (default : El w g)).length ≤ dk.size := by rw [List.length_replicate]; omega
       refine ⟨kk, Lib.lay dk kk (List.replicate (d.size - kk) default), rfl, HW2.out.clear kk (d.size - kk) (by omega), by rw [lay_size, hds], by omega, by rw [keys_low _ _ _ hsz2]; exact hI.low, p, hp1, fun j hj => ⟨(hp2 j hj).1, by rw [lay_low _ _ _ _ hsz2 hj]; exact (hp2 j hj).2⟩⟩
    ·have HD := Aside0.mk hdup
     rw [decide_eq_false hdup] at HQ
     clear hdup
     have HO := Aside0.mk (fun (k : Nat) (hk : k ≠ g) => HW.out.other k hk)
     go_wp2
     go_quiet ((go_at_fn 56; exact Calls.quiet_of (HQ.out _ HO.out)))
     go_wp2
     go_roundg (d.size - (k + 1))
     case measure => have := HK.out; omega
     case rel => exact ⟨k + 1, by go_num, ⟨by omega, by omega, by omega⟩, ⟨by repeat (first | exact HW.out | apply Wd.drewN | apply Wd.drew)⟩, ⟨by
      obtain ⟨h1, h2⟩ := keys_last d k (by omega) (by omega)
      rw [keys_succ d k hlt, compactU_snoc _ _ h1, if_neg (by rw [h2, B.out.1, B.out.2]; exact fun e => HD.out e.symm), HC.out]⟩⟩
   ·have e : k = d.size := by have := HK.out; omega
    subst e
    go_wp2
    go_ret
    exact ⟨d.size, d, rfl, HW.out, rfl, Nat.le_refl _, HC.out.symm, id, fun _ _ _ _ e => e, fun j hj => ⟨hj, rfl⟩⟩
set_option maxHeartbeats 2000000 in
theorem compact_none (w : World) : Calls Try.prog 95 #[.slice none 0 0, .func (.func 56) #[] #[]] w fun e w' => e = .returned (.slice none 0 0) ∧ w' = w := by
 go_enter Try.func95, Try.ntmps95
 go_wp2
 go_ret
 exact ⟨rfl, rfl⟩
/-- slices.CompactFunc at an own row of rows. -/
theorem compact_rows (P0 : Nat → Prop) (v : Value) (xs : List (List Int)) (w0 w : World) (hB : Below w0.heap.size w0 w) (hS : Kd.S (Kd.slice 3 (Kd.int .i64)) 22 w w0.heap.size P0 v xs) (hl : xs.length ≤ 4611686018427387904) (hs : ∀ x ∈ xs, x.length ≤ 9223372036854775806) :
  Calls Try.prog 95 #[v, .func (.func 56) #[] #[]] w fun e w' => ∃ v' : Value, e = .returned v' ∧ Kd.S (Kd.slice 3 (Kd.int .i64)) 22 w' w0.heap.size P0 v' (compactU xs) ∧ Below w0.heap.size w0 w' := by
 obtain ⟨cs, okj, hR, h0, hC⟩ := S_cells hS
 obtain ⟨hok, inner, ho, hr⟩ := hR
 obtain ⟨hi, hv⟩ := ho
 have hinner : inner = cs.map (fun c => Value.slice c.A c.n c.c) := by
  have hlen : inner.length = cs.length := by rw [hi]; exact Nat.mul_one _
  apply List.ext_getElem (by rw [hlen, List.length_map])
  intro j h1 h2
  have := hr.2 j _ (List.getElem?_eq_getElem (by omega : j < cs.length))
  have e : (inner.drop (j * 1)).take 1 = [Value.slice (cs[j]'(by omega)).A (cs[j]'(by omega)).n (cs[j]'(by omega)).c] := this
  rw [seg_one h1] at e
  injection e with e
  rw [e, List.getElem_map]
 rcases hv with ⟨hv, hn⟩ | ⟨g, cap, cur, hv, hbase, hcur, hnc, hcm, hsz, htk⟩
 ·subst hv
  have hx : xs = [] := List.length_eq_zero_iff.mp (by rw [← hC.len]; exact hn)
  subst hx
  have e0 : cs.length = 0 := hn
  have hc := compact_none w
  exact hc.mono fun e w' ⟨he, hw⟩ => ⟨_, he, hw ▸ Kd.S_nil _ _ _ _ _, hw ▸ hB⟩
 ·subst hv
  have hC' : Cells (Kd.slice 3 (Kd.int .i64)) w w0.heap.size P0 (some g) xs cs okj := hC
  have hgood : ∀ z ∈ cs.zip xs, Good w g z := by
   intro z hz
   obtain ⟨j, hj⟩ := List.getElem?_of_mem hz
   rw [List.getElem?_zip_eq_some] at hj
   exact good_of_cells hC' hs j z.2 z.1 hj.2 hj.1
  obtain ⟨zs, hz1, hz2⟩ : ∃ zs : List (El w g), zs.map (fun z => z.val.1) = cs ∧ zs.map (fun z => z.val.2) = xs := by
   obtain ⟨es, he⟩ := els (cs.zip xs) hgood
   refine ⟨es, ?_, ?_⟩
   ·have h1 : es.map (fun z => z.val.1) = (es.map (fun e => e.val)).map (fun z => z.1) := by rw [List.map_map]; rfl
    rw [h1, he]
    exact List.map_fst_zip (by rw [hC.len]; exact Nat.le_refl _)
   ·have h1 : es.map (fun z => z.val.2) = (es.map (fun e => e.val)).map (fun z => z.2) := by rw [List.map_map]; rfl
    rw [h1, he]
    exact List.map_snd_zip (by rw [hC.len]; exact Nat.le_refl _)
  have hzl : zs.length = cs.length := by rw [← hz1, List.length_map]
  have hze : zs.map encE = inner := by
   rw [hinner, ← hz1, List.map_map]
   rfl
  have hH : Sort.Holds encE w g 0 zs.toArray := holds_row encE hcur (by rw [hzl, hze, ← htk]; show _ = List.take (cs.length * 1) _; rw [Nat.mul_one])
  have hsz' : zs.toArray.size = cs.length := by simpa using hzl
  have hcall := compact_calls w g 0 cap zs.toArray hH (by rw [hsz', hC.len]; exact hl) (by rw [hsz']; exact hnc)
  rw [hsz'] at hcall
  refine hcall.mono ?_
  rintro e w' ⟨k, D, rfl, hW, hD, hk, hkeys, p, hp1, hp2⟩
  have hall : keysOf zs.toArray cs.length = xs := by
   unfold keysOf
   rw [List.take_of_length_le (by simpa using (by omega : zs.length ≤ cs.length))]
   simpa using hz2
  rw [hall] at hkeys
  rw [← hkeys]
  obtain ⟨q, hq⟩ := hW
  have hq' : w' = sortWorld encE w g 0 q D #[] := by rw [hq]; unfold sortWorld; rw [Sort.grow_empty]
  have hDl : D.toList.length = cs.length := by rw [Array.length_toList, hD]
  have hkl : (D.toList.take k).length = k := by rw [List.length_take]; omega
  have hget : ∀ j, j < k → (D.toList.take k)[j]? = zs[p j]? := fun j hj => by
   obtain ⟨h1, h2⟩ := hp2 j hj
   have hjD : j < D.size := by omega
   have hpz : p j < zs.toArray.size := by omega
   rw [List.getElem?_take_of_lt hj, Array.getElem?_toList, Array.getElem?_eq_getElem hjD, ← getElem!_pos D j hjD, h2, getElem!_pos zs.toArray (p j) hpz]
   have hpz' : p j < zs.length := by omega
   rw [List.getElem?_eq_getElem hpz']
   simp
  rw [hq']
  refine ⟨_, rfl, ?_, hB.grown (grown_row encE D) hB.size (fun k hk => by injection hk with hk; omega)⟩
  refine S_of_cells (cs := (D.toList.take k).map (fun z => z.val.1)) (ok1 := fun k' => some k' = (Value.slice (some ⟨g, 0, none⟩) k cap).ownBlock) rfl ⟨fun k' hk' => hk'.symm, (D.toList.take k).map encE, ⟨by rw [List.length_map, List.length_map]; exact (Nat.mul_one _).symm, .inr ⟨g, cap, Sort.putCells encE 0 D cur, by rw [List.length_map, hkl], hbase, heap_row encE D hcur, by rw [List.length_map, hkl]; omega, hcm, by simpa [Sort.putCells] using hsz, ?_⟩⟩, ?_⟩ h0 (Cells.told hC' p ?_ ?_ ?_ ?_ ?_)
  ·show List.take (_ * 1) _ = _
   rw [Nat.mul_one, List.length_map, hkl]
   have hcs : cur.size = cap := by rw [hsz]; exact Nat.mul_one _
   have h := take_row encE cur D.toList (by rw [hDl, hcs]; exact hnc)
   have h' : (Sort.putCells encE 0 D cur).toList.take D.toList.length = D.toList.map encE := by simpa using h
   have h2 := congrArg (List.take k) h'
   rw [List.take_take, Nat.min_eq_left (by omega)] at h2
   rw [h2, List.map_take]
  ·refine ⟨by rw [List.length_map, List.length_map]; exact (Nat.mul_one _).symm, fun j c hj => ?_⟩
   obtain ⟨hj', e⟩ := List.getElem?_eq_some_iff.1 hj
   rw [List.length_map] at hj'
   show (List.drop (j * 1) _).take 1 = [Value.slice c.A c.n c.c]
   rw [seg_one (by rw [List.length_map]; exact hj'), ← e, List.getElem_map, List.getElem_map]
   rfl
  ·unfold keysOf; rw [List.length_map, List.length_map]
  ·exact fun i j hi hj => hp1 i j (by unfold keysOf at hi; rw [List.length_map, hkl] at hi; exact hi) (by unfold keysOf at hj; rw [List.length_map, hkl] at hj; exact hj)
  ·exact fun j hj => by
    unfold keysOf at hj ⊢
    rw [List.length_map, hkl] at hj
    rw [List.getElem?_map, hget j hj, ← List.getElem?_map, hz2]
  ·exact fun j hj => by
    unfold keysOf at hj
    rw [List.length_map, hkl] at hj
    rw [List.getElem?_map, hget j hj, ← List.getElem?_map, hz1]
  ·exact fun k' hk' hne hlt => sorted_heap encE w g q D #[] k' hlt (fun e => hne (by rw [e]))
/-! ##### impl.SortPackets -/
def impl_SortPackets.f (l0 : List (List Int)) : Option (List (List Int)) := if l0.length ≤ 1099511627776 ∧ (∀ x ∈ l0, x.length ≤ 1099511627776) then some (sortU l0) else none
set_option maxHeartbeats 8000000 in
set_option maxRecDepth 100000 in
theorem impl_SortPackets.calls (A0 : Option Addr) (c0 : Nat) (l0 : List (List Int)) (r : List (List Int)) (w : World) (hr0 : Kd.C (Kd.slice 3 (Kd.int .i64)) w A0 l0.length l0) (hc0 : l0.length ≤ c0) (h : impl_SortPackets.f l0 = some r) :
  Calls Try.prog 71 #[.slice A0 l0.length c0] w fun e w' => ∃ v0_ : Value, e = .returned (v0_) ∧ Kd.S (Kd.slice 3 (Kd.int .i64)) 22 w' w.heap.size (fun _ => True) v0_ r ∧ Below w.heap.size w w' := by
 have HR0 := Aside0.mk hr0
 clear hr0
 unfold impl_SortPackets.f at h
 by_cases hb0 : l0.length ≤ 1099511627776 ∧ (∀ x ∈ l0, x.length ≤ 1099511627776)
 ·rw [if_pos hb0] at h
  have hr := Option.some.inj h
  subst hr
  clear h
  have HL := Aside0.mk hb0
  clear hb0
  go_enter Try.func71, Try.ntmps71
  go_wp2
  go_loopg [3, 8] l0.length (fun gg v3 v8 w' => ∃ i : Nat, v8 = .int .i64 i ∧ Aside0 (i ≤ l0.length ∧ l0.length - i ≤ gg) ∧ Aside0 (Kd.S (Kd.slice 3 (Kd.int .i64)) 22 w' w.heap.size (fun _ => True) v3 (l0.take i)) ∧ Aside0 (Below w.heap.size w w'))
  case atStart => exact ⟨0, rfl, ⟨by omega, by omega⟩, ⟨Kd.S_nil _ _ _ _ _⟩, ⟨Below.refl _ _⟩⟩
  case round =>
   obtain ⟨i, rfl, HK, HS, HB⟩ := hrel
   by_cases c1 : i < l0.length
   ·have c1b : decide ((i : Int) < (l0.length : Int)) = true := decide_eq_true (by omega)
    have p1 : 0 ≤ (i : Int) := by omega
    have q1 : (i : Int) < (l0.length : Int) := by omega
    obtain ⟨ad, A_, c_, e_, hx, hlen, hrd⟩ := at_rows HR0.out (i : Int) p1 q1
    cases e_
    replace hx := (HB.out.cell (World.block_lt_of_cell? w _ hx)).trans hx
    rw [Int.toNat_natCast] at hx
    have HWR := Aside0.mk (show wrap64 ((i : Int) + 1) = ((i + 1 : Nat) : Int) by have := HL.out.1; rw [wr64 (by omega) (by omega)]; omega)
    have HE := Aside0.mk (show rdRows l0 (i : Int) = l0[i] by simp [rdRows, c1])
    have HLE := Aside0.mk hlen
    have HRD := Aside0.mk (Kd.C_below hrd HB.out)
    have HX1 := Aside0.mk (HL.out.2 _ (List.getElem_mem c1))
    have HCL := Aside0.mk (show slices_Clone_int_int.f (rdRows l0 (i : Int)) = some (rdRows l0 (i : Int)) by unfold slices_Clone_int_int.f; rw [HE.out, if_pos (by have := HX1.out; omega)])
    clear hlen hrd
    replace p1 := eq_true p1
    replace q1 := eq_true q1
    go_wp2_with (first | ((with_reducible refine gate_callee (f := 88) rfl ?_); refine goesL_ (some 14) rfl rfl Try.func88 (by kernel_rfl) rfl #[.slice A_ (rdRows l0 (i : Int)).length c_] rfl (by (try simp only [List.map_toArray, List.map_cons, List.map_nil]); first | done | rfl) ?_; (with_reducible refine (slices_Clone_int_int.calls _ _ (rdRows l0 (i : Int)) (rdRows l0 (i : Int)) _ ?side1 ?side2 HCL.out).mono ?_); (case side1 => exact HRD.out); (case side2 => exact HLE.out); rintro e w2 ⟨v18, rfl, ho, hb⟩; refine ⟨_, rfl, ?_⟩; have HX := Aside0.mk (Kd.S_mono (ok' := fun k_ => True ∧ ¬ (some k_ = v18.ownBlock)) (Kd.S_below (Kd.S_bound HS.out) hb) (fun k hk => ⟨trivial, fun e_ => by have := Kd.R_base ho k e_.symm; have := hk.2.2.1; omega⟩)); have HNE := Aside0.mk (show ∀ k, some k = v18.ownBlock → some k ≠ u3.ownBlock from fun k e_ e2_ => by have := Kd.R_base ho k e_.symm; have := Kd.S_lt HS.out k e2_.symm; omega); have HO := Aside0.mk (Kd.R_tight rfl (Kd.R_lower ho HB.out.size)); have HB2 := Aside0.mk (below_step HB.out hb); clear HB HS HRD HLE ho hb; obtain ⟨A2_, c2_, e2_⟩ := Kd.R_slice HO.out; subst e2_) | ((with_reducible refine gate_builtin (b := .append) (xs := #[.tmp 12, .tmp 15]) rfl ?_); at_builtin; refine Kd.S_append (Kd.slice 3 (Kd.int .i64)) (w0 := w) w.heap.size rfl (.tmp 12) (.tmp 15) 33 22 (.slice none 0 0) 24 rfl Try.underlying33 info22 rfl (by decide) (by omega) u3 (l0.take i) (rdRows l0 (i : Int)) [.slice A2_ (rdRows l0 (i : Int)).length c2_] (fun _ => True) (fun k_ => some k_ = (.slice A2_ (rdRows l0 (i : Int)).length c2_ : Value).ownBlock) rfl rfl ?aP (fun k_ hk_ => ⟨trivial, HNE.out k_ hk_⟩) (fun _ _ => trivial) HX.out HB2.out HB2.out.size ?aL ?_; (case aP => exact Kd.M_row HO.out); (case aL => have := HL.out.1; rw [List.length_take]; omega); intro v22 w3 ho hb hg hat; have HS3 := Aside0.mk ho; have HB3 := Aside0.mk hb; clear HB2 HX HO ho hb hg hat))
    go_roundg (l0.length - (i + 1))
    case measure => have := HK.out; omega
    case rel => exact ⟨i + 1, by rw [HWR.out], ⟨by omega, by omega⟩, ⟨by rw [List.take_succ_eq_append_getElem c1, ← HE.out]; exact HS3.out⟩, HB3⟩
   ·have e : i = l0.length := by have := HK.out.1; omega
    subst e
    rw [List.take_length] at HS
    have HN := Aside0.mk (show l0.length < 4611686018427387904 by have := HL.out.1; omega)
    have HM := Aside0.mk (show ∀ x ∈ l0, x.length ≤ 9223372036854775806 from fun x hx => by have := HL.out.2 x hx; omega)
    go_wp2_with (first | ((with_reducible refine gate_callee (f := 93) rfl ?_); refine goesL_ (some 19) rfl rfl Try.func93 (by kernel_rfl) rfl #[u3, .func (.func 94) #[] #[]] rfl (by (try simp only [List.map_toArray, List.map_cons, List.map_nil]); first | done | rfl) ?_; (with_reducible refine (sort_rows (fun _ => True) u3 l0 w _ HB.out HS.out HN.out HM.out).mono ?_); rintro e w2 ⟨rfl, ys, hm, hy, hp, ho, hb⟩; refine ⟨_, rfl, ?_⟩; have HS2 := Aside0.mk ho; have HB2 := Aside0.mk hb; have HY := Aside0.mk (compactU_sorted hm hp); have HN2 := Aside0.mk (show ys.length ≤ 4611686018427387904 by rw [hy]; have := HN.out; omega); have HM2 := Aside0.mk (show ∀ x ∈ ys, x.length ≤ 9223372036854775806 from fun x hx => HM.out x ((hm x).1 hx)); clear HB HS ho hb hm hp hy) | ((with_reducible refine gate_callee (f := 95) rfl ?_); refine goesL_ (some 21) rfl rfl Try.func95 (by kernel_rfl) rfl #[u3, .func (.func 56) #[] #[]] rfl (by (try simp only [List.map_toArray, List.map_cons, List.map_nil]); first | done | rfl) ?_; (with_reducible refine (compact_rows (fun _ => True) u3 ys w _ HB2.out HS2.out HN2.out HM2.out).mono ?_); rintro e w3 ⟨v', rfl, ho, hb⟩; refine ⟨_, rfl, ?_⟩; have HS4 := Aside0.mk ho; have HB4 := Aside0.mk hb; clear HB2 HS2 ho hb))
    go_ret
    exact ⟨_, rfl, by rw [← HY.out]; exact HS4.out, HB4.out⟩
 ·rw [if_neg hb0] at h
  cases h

end Go.Proofs.Ytdgoeomelnlekaa.MFnRiffles
