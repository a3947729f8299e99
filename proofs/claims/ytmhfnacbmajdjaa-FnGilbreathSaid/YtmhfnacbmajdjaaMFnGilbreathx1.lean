-- Written by this session's own program (wip/tools/myprint.py), over the kit's printer.
import Derived.Test.YtmhfnacbmajdjaaMFnGilbreathx0
namespace Go.Proofs.Ytmhfnacbmajdjaa.MFnGilbreath
open Go.RowKit Go.Proofs.YtmhfnacbmajdjaaW.PrintWords Go.Proofs.YtmhfnacbmajdjaaW.PrintLast Go.Proofs.YtmhfnacbmajdjaaW.PrintMore
attribute [local go_sem] max2_int min2_int max_two min_two max_three min_three max_four min_four   -- for this text's walks alone
set_option linter.unusedVariables false
set_option linter.unusedSimpArgs false

/-! ### slices_Clone_int_int: function 29, by hand -/
/-- slices.Clone: the same list, in memory of its own (nil where it was nil). -/
def slices_Clone_int_int.f (l0 : List Int) : Option (List Int) := if l0.length < 17592186044416 then some l0 else none
set_option maxHeartbeats 4000000 in
set_option maxRecDepth 100000 in
theorem slices_Clone_int_int.calls (A0 : Option Addr) (c0 : Nat) (l0 : List Int) (r : List Int) (w : World) (hr0 : Kd.C (Kd.int .i64) w A0 l0.length l0) (hc0 : l0.length ≤ c0) (h : slices_Clone_int_int.f l0 = some r) :
    Calls Try.prog 29 #[.slice A0 l0.length c0] w fun e w' => ∃ v0_ : Value, e = .returned v0_ ∧ Kd.R (Kd.int .i64) 3 w' w.heap.size (fun _ => True) v0_ r ∧ Below w.heap.size w w' := by
  unfold slices_Clone_int_int.f at h
  by_cases hl : l0.length < 17592186044416
  · rw [if_pos hl] at h
    obtain rfl := Option.some.inj h
    clear h
    have LM := Aside0.mk hl
    clear hl
    cases A0 with
    | none =>
      have e0 : l0 = [] := by
        apply List.eq_nil_of_length_eq_zero
        apply Decidable.byContradiction
        intro hne
        obtain ⟨ad, he, _⟩ := hr0.2.2 (by omega)
        cases he
      subst e0
      clear hr0 hc0 LM
      have hnil := fun (w : World) => Lib.run_eql_slice_nil (P := Try.prog) w 28 3 none 0 c0 0 0 Try.underlying28
      go_enter Try.func29, Try.ntmps29
      go_wp2
      go_ret
      exact ⟨_, rfl, Kd.R_nil _ _ _ _ _, Below.refl _ _⟩
    | some ad =>
      have HR0 := Aside0.mk hr0
      have HC0 := Aside0.mk hc0
      clear hr0 hc0
      have hnil := fun (w : World) => Lib.run_eql_slice_nil (P := Try.prog) w 28 3 (some ad) l0.length c0 0 0 Try.underlying28
      go_enter Try.func29, Try.ntmps29
      go_wp2_with (first | ((with_reducible refine gate_dst (N := 5) rfl ?_); refine Kd.R_lit (Kd.int .i64) w.heap.size 3 ?hg (N := 5) ?hd (xs := ([] : List Int)) (inner := []) (ok := fun _ => True) (okp := fun _ => True) ?hr ?hp (fun _ hk => hk) trivial (Below.refl _ _) (Nat.le_refl _) (by simp) ?_; (case hd => rfl); (case hg => rfl); (case hr => first | (go_simp; done) | (go_simp; rfl)); (case hp => exact (Reps.none _ _)); intro v1 w1 ho1 hb1 hg1 hn1; clear hg1 hn1; have HO1 := Aside0.mk ho1; have HB1 := Aside0.mk hb1; clear ho1 hb1) | ((with_reducible refine gate_builtin (b := .append) (xs := #[.tmp 5, .tmp 6]) rfl ?_); at_builtin; refine Kd.R_append_rows (Kd.int .i64) (w0 := w) w.heap.size rfl (.tmp 5) (.tmp 6) 28 3 (.int .i64 0) 8 rfl Try.underlying28 info3 rfl (by decide) (by omega) v1 [] l0 _ _ _ (fun _ => True) (fun _ => False) rfl rfl ?aO ?aR (fun _ _ h => h) (fun _ h => h.elim) ?aF ?aB ?aS ?aL ?_; (case aR => exact (Kd.C_below HR0.out HB1.out)); (case aB => exact HB1.out); (case aF => exact fun _ _ => trivial); (case aO => exact HO1.out); (case aS => exact below_size HB1.out); (case aL => have := LM.out; simp only [List.length_nil]; omega); intro v2 w2 ho2 hb2 hg2 hat2; clear hg2 hat2; have HO2 := Aside0.mk ho2; have HB2 := Aside0.mk hb2; clear ho2 hb2))
      go_ret
      exact ⟨_, rfl, HO2.out, HB2.out⟩
  · rw [if_neg hl] at h
    exact absurd h (by simp)

/-! ### impl_gilbreaths: function 18, by hand -/
/-! #### a row as plain cells -/
/-- A slice's value, by its parts. -/
structure CV where
  A : Option Addr
  n : Nat
  c : Nat
def cv0 : CV := ⟨none, 0, 0⟩
def kV : Kd CV := Kd.scalar (fun x => Value.slice x.A x.n x.c) (fun _ => rfl)
/-- What a value's parts are; of no slice's value: nothing. -/
def cvOf : Value → CV
  | .slice A n c => ⟨A, n, c⟩
  | _ => cv0
/-- A list as its elements' cells, and the blocks that each leads to. -/
structure Cells {α : Type} (d : Kd α) (w : World) (base : Nat) (ok : Nat → Prop) (own : Option Nat) (xs : List α) (cs : List CV) (okj : Nat → Nat → Prop) : Prop where
  len : cs.length = xs.length
  apart : ∀ i j k, okj i k → okj j k → i = j
  inn : ∀ j k, okj j k → ok k ∧ some k ≠ own
  rep : ∀ (j : Nat) (x : α) (c : CV), xs[j]? = some x → cs[j]? = some c → d.M w base (okj j) x [Value.slice c.A c.n c.c]
theorem seg_one {inner : List Value} {j : Nat} (h : j < inner.length) : (inner.drop (j * 1)).take 1 = [inner[j]] := by
  rw [Nat.mul_one, List.drop_eq_getElem_cons h]
  rfl
theorem S_cells {α : Type} {d' : Kd α} {e e' : Nat} {w : World} {base : Nat} {ok : Nat → Prop} {v : Value} {xs : List (List α)} (h : Kd.S (Kd.slice e' d') e w base ok v xs) :
    ∃ cs okj, kV.R e w base (fun k => some k = v.ownBlock) v cs ∧ (∀ k, v.ownBlock = some k → ok k) ∧ Cells (Kd.slice e' d') w base ok v.ownBlock xs cs okj := by
  obtain ⟨f, h0, inner, ho, hr⟩ := h
  have hs : (Kd.tag f (Kd.slice e' d')).sz = 1 := rfl
  rw [hs] at ho hr
  have hl : inner.length = xs.length := by have := hr.1; rw [List.length_zipIdx, Nat.mul_one] at this; exact this
  have hM : ∀ (j : Nat) (x : List α), xs[j]? = some x → ∀ hj : j < inner.length, (Kd.slice e' d').M w base (fun k => (ok k ∧ some k ≠ v.ownBlock) ∧ f k = j) x [inner[j]] := fun j x hx hj => by
    have := hr.2 j (x, j) (Kd.zip_at hx)
    rw [seg_one hj] at this
    exact this
  have hcv : ∀ (j : Nat) (hj : j < inner.length), inner[j] = Value.slice (cvOf inner[j]).A (cvOf inner[j]).n (cvOf inner[j]).c := fun j hj => by
    obtain ⟨u, hu, hR⟩ := hM j (xs[j]'(by omega)) (List.getElem?_eq_getElem (by omega)) hj
    obtain ⟨A, c, rfl⟩ := Kd.R_slice hR
    injection hu with hu
    rw [hu]
    rfl
  refine ⟨inner.map cvOf, fun j k => (ok k ∧ some k ≠ v.ownBlock) ∧ f k = j, ⟨fun k hk => hk.symm, inner, ?_, ?_, ?_⟩, h0, ?_, ?_, ?_, ?_⟩
  · rw [List.length_map, hl]; rw [List.length_zipIdx] at ho; exact ho
  · rw [List.length_map]; exact (Nat.mul_one _).symm
  · intro j p hp
    obtain ⟨hj, e⟩ := List.getElem?_eq_some_iff.1 hp
    rw [List.length_map] at hj
    show (inner.drop (j * 1)).take 1 = [Value.slice p.A p.n p.c]
    rw [seg_one hj, ← e, List.getElem_map, ← hcv j hj]
  · rw [List.length_map, hl]
  · rintro i j k ⟨_, rfl⟩ ⟨_, h⟩; exact h
  · intro j k hk; exact hk.1
  · intro j x c hx hc
    obtain ⟨hj, e⟩ := List.getElem?_eq_some_iff.1 hc
    rw [List.length_map] at hj
    rw [← e, List.getElem_map, ← hcv j hj]
    exact hM j x hx hj
theorem S_of_cells {α : Type} {d : Kd α} {e : Nat} {w : World} {base : Nat} {ok ok1 : Nat → Prop} {v : Value} {xs : List α} {cs : List CV} {okj : Nat → Nat → Prop} (hd : d.sz = 1) (hR : kV.R e w base ok1 v cs) (h0 : ∀ k, v.ownBlock = some k → ok k) (hc : Cells d w base ok v.ownBlock xs cs okj) : Kd.S d e w base ok v xs := by
  obtain ⟨_, inner, ho, hr⟩ := hR
  have hl : inner.length = cs.length := by have := hr.1; rw [show kV.sz = 1 from rfl, Nat.mul_one] at this; exact this
  have hv : ∀ (j : Nat) (hj : j < inner.length), inner[j] = Value.slice (cs[j]'(by omega)).A (cs[j]'(by omega)).n (cs[j]'(by omega)).c := fun j hj => by
    have := hr.2 j _ (List.getElem?_eq_getElem (by omega : j < cs.length))
    have e : (inner.drop (j * 1)).take 1 = [Value.slice (cs[j]'(by omega)).A (cs[j]'(by omega)).n (cs[j]'(by omega)).c] := this
    rw [seg_one hj] at e
    injection e
  obtain ⟨f, hf⟩ := Kd.reps_tag (d := d) (w := w) (base := base) (ok := fun k => ok k ∧ some k ≠ v.ownBlock) (xs := xs) (inner := inner) okj hc.apart hc.inn (by rw [hd, Nat.mul_one, hl, hc.len]) (fun j x hx => by
    have hj : j < inner.length := by rw [hl, hc.len]; exact (List.getElem?_eq_some_iff.1 hx).1
    rw [hd, seg_one hj, hv j hj]
    exact hc.rep j x _ hx (List.getElem?_eq_getElem (by omega)))
  refine ⟨f, h0, inner, ?_, hf⟩
  have hs : (Kd.tag f d).sz = 1 := hd
  rw [hs, List.length_zipIdx, ← hc.len]
  exact ho
/-- The elements may be told anew in another world, in another order. -/
theorem Cells.told {α : Type} {d : Kd α} {w w1 : World} {base : Nat} {ok : Nat → Prop} {own : Option Nat} {xs xs' : List α} {cs cs' : List CV} {okj : Nat → Nat → Prop} (h : Cells d w base ok own xs cs okj) (p : Nat → Nat) (hl : cs'.length = xs'.length) (hp : ∀ i j, i < xs'.length → j < xs'.length → p i = p j → i = j) (hx : ∀ j, j < xs'.length → xs'[j]? = xs[p j]?) (hc : ∀ j, j < xs'.length → cs'[j]? = cs[p j]?)
    (hm : ∀ k, ok k → some k ≠ own → k < w.heap.size → w1.heap[k]? = w.heap[k]?) : Cells d w1 base ok own xs' cs' (fun j k => j < xs'.length ∧ okj (p j) k) where
  len := hl
  apart := fun i j k h1 h2 => hp i j h1.1 h2.1 (h.apart _ _ k h1.2 h2.2)
  inn := fun j k hk => h.inn _ k hk.2
  rep := fun j x c h1 h2 => by
    have hj := (List.getElem?_eq_some_iff.1 h1).1
    rw [hx j hj] at h1
    rw [hc j hj] at h2
    exact d.M_mono (fun k hk => ⟨hj, hk⟩) (Kd.M_step (h.rep (p j) x c h1 h2) (fun k hk hlt => hm k (h.inn _ k hk).1 (h.inn _ k hk).2 hlt))
/-! #### a list of lists read at an index -/
def rdRows (xs : List (List Int)) (i : Int) : List Int := xs.getD i.toNat ([] : List Int)
theorem at_rows {e : Nat} {w : World} {A : Option Addr} {n : Nat} {xs : List (List Int)} (h : Kd.C (Kd.slice e (Kd.int .i64)) w A n xs) (i : Int) (h0 : 0 ≤ i) (h1 : i < n) : ∃ ad A0 c0, A = some ad ∧ w.cell? (ad.add i.toNat) = some (.slice A0 (rdRows xs i).length c0) ∧ (rdRows xs i).length ≤ c0 ∧ (Kd.int .i64).C w A0 (rdRows xs i).length (rdRows xs i) := by
  obtain ⟨ad, c, e, _, hK, hc0⟩ := Kd.C_get h ([] : List Int) i h0 h1
  have hc : ∀ j u, c[j]? = some u → w.cell? (ad.add (i.toNat * 1 + j)) = some u := hc0
  obtain ⟨A0, c0, rfl, l0, g0⟩ := hK
  exact ⟨ad, A0, c0, e, by have hq := hc 0 _ rfl; rwa [Nat.mul_one, Nat.add_zero] at hq, l0, g0⟩
/-- Rows of its own, put behind rows of its own: the row's cells are put behind the row's cells. -/
theorem S_append_cells {α : Type} {d' : Kd α} {e e' : Nat} {W w1 : World} {base : Nat} {ok1 ok2 ok3 : Nat → Prop} {v v2 v1 : Value} {xs ys : List (List α)} {cs1 cs2 : List CV} {okj1 okj2 : Nat → Nat → Prop}
    (hC1 : Cells (Kd.slice e' d') W base ok1 v.ownBlock xs cs1 okj1) (hC2 : Cells (Kd.slice e' d') W base ok2 v2.ownBlock ys cs2 okj2) (h1 : ∀ k, v.ownBlock = some k → ok1 k) (hd : ∀ k, ok1 k → ok2 k → False)
    (hR : kV.R e w1 base ok3 v1 (cs1 ++ cs2)) (hg : W.grownBy w1 v.ownBlock) (hat : v1.ownBlock = v.ownBlock ∨ ∃ b, v1.ownBlock = some b ∧ W.heap.size ≤ b) : Kd.S (Kd.slice e' d') e w1 base (fun k => ok1 k ∨ ok2 k ∨ W.heap.size ≤ k) v1 (xs ++ ys) := by
  have hne : ∀ k, k < W.heap.size → (some k = v.ownBlock → False) → some k ≠ v1.ownBlock := fun k hk hv e => by
    rcases hat with h | ⟨b, h, hb⟩
    · exact hv (e.trans h)
    · rw [h] at e; injection e with e; omega
  refine S_of_cells rfl (Kd.R_tight rfl hR) (fun k hk => ?_) (cs := cs1 ++ cs2) (okj := fun j k => k < W.heap.size ∧ ((j < xs.length ∧ okj1 j k) ∨ (xs.length ≤ j ∧ okj2 (j - xs.length) k))) ⟨?_, ?_, ?_, ?_⟩
  · rcases hat with h | ⟨b, h, hb⟩
    · exact .inl (h1 k (h ▸ hk))
    · rw [h] at hk; injection hk with hk; exact .inr (.inr (by omega))
  · rw [List.length_append, List.length_append, hC1.len, hC2.len]
  · rintro i j k ⟨_, hi⟩ ⟨_, hj⟩
    rcases hi with ⟨a, hi⟩ | ⟨a, hi⟩ <;> rcases hj with ⟨b, hj⟩ | ⟨b, hj⟩
    · exact hC1.apart i j k hi hj
    · exact (hd k (hC1.inn i k hi).1 (hC2.inn _ k hj).1).elim
    · exact (hd k (hC1.inn j k hj).1 (hC2.inn _ k hi).1).elim
    · have := hC2.apart _ _ k hi hj; omega
  · rintro j k ⟨hk, hj⟩
    rcases hj with ⟨_, hj⟩ | ⟨_, hj⟩
    · obtain ⟨q1, q2⟩ := hC1.inn j k hj
      exact ⟨.inl q1, hne k hk (fun e => q2 e)⟩
    · obtain ⟨q1, q2⟩ := hC2.inn _ k hj
      exact ⟨.inr (.inl q1), hne k hk (fun e => hd k (h1 k e.symm) q1)⟩
  · intro j x c hx hc
    by_cases c1 : j < xs.length
    · rw [List.getElem?_append_left c1] at hx
      rw [List.getElem?_append_left (by rw [hC1.len]; exact c1)] at hc
      exact (Kd.slice e' d').M_mono (fun k hk => ⟨hk.2.2.1, .inl ⟨c1, hk.1⟩⟩) (Kd.M_step ((Kd.slice e' d').M_bound (hC1.rep j x c hx hc)) (fun k hk hlt => hg.block k hlt (hC1.inn j k hk.1).2))
    · rw [List.getElem?_append_right (by omega)] at hx
      rw [List.getElem?_append_right (by rw [hC1.len]; omega), hC1.len] at hc
      exact (Kd.slice e' d').M_mono (fun k hk => ⟨hk.2.2.1, .inr ⟨by omega, hk.1⟩⟩) (Kd.M_step ((Kd.slice e' d').M_bound (hC2.rep _ x c hx hc)) (fun k hk hlt => hg.block k hlt (fun e => hd k (h1 k e.symm) (hC2.inn _ k hk.1).1)))
def impl_gilbreaths.f : Nat → Int → List Int → Int → Int → Option (List (List Int))
  | 0, _, _, _, _ => none
  | k + 1, a0, l1, a2, a3 => if (l1.length : Int) = a0 then some [l1] else (if l1.length < 17592186044415 then ((if a2 > 0 then impl_gilbreaths.f k a0 (l1 ++ [wrap64 (a2 - 1)]) (wrap64 (a2 - 1)) a3 else some []).bind fun o1 => (if a3 < wrap64 (a0 - 1) then impl_gilbreaths.f k a0 (l1 ++ [wrap64 (a3 + 1)]) a2 (wrap64 (a3 + 1)) else some []).bind fun o2 => if o1.length + o2.length < 5864062014805 then some (o1 ++ o2) else none) else none)
theorem impl_gilbreaths.mono : ∀ a0 a1 a2 a3 k, LeO (impl_gilbreaths.f k a0 a1 a2 a3) (impl_gilbreaths.f (k + 1) a0 a1 a2 a3) := by
  intro a0 a1 a2 a3 k
  induction k generalizing a0 a1 a2 a3 with
  | zero => intro r h; simp [impl_gilbreaths.f] at h
  | succ k ih =>
    rw [impl_gilbreaths.f, impl_gilbreaths.f]
    repeat' first
      | (with_reducible exact ih _ _ _ _)
      | (with_reducible exact LeO.refl _)
      | (with_reducible exact LeO.none _)
      | (with_reducible refine LeO.ite ?_ ?_)
      | (with_reducible refine LeO.bind ?_ (fun _ => ?_))
set_option maxHeartbeats 8000000 in
set_option maxRecDepth 100000 in
theorem impl_gilbreaths.calls (k : Nat) : ∀ (w0 w : World) (A1 : Option Addr) (c1 : Nat) (l1 : List Int) (a0 a2 a3 : Int) (r : List (List Int)) (hB : Below w0.heap.size w0 w) (hR : Kd.R (Kd.int .i64) 3 w w0.heap.size (fun k_ => some k_ = (Value.slice A1 l1.length c1).ownBlock) (.slice A1 l1.length c1) l1) (h : impl_gilbreaths.f k a0 l1 a2 a3 = some r),
    Calls Try.prog 18 #[.int .i64 a0, .slice A1 l1.length c1, .int .i64 a2, .int .i64 a3] w fun e w' => ∃ v0_ : Value, e = .returned (v0_) ∧ Kd.S (Kd.slice 3 (Kd.int .i64)) 28 w' w0.heap.size (fun k_ => some k_ = (Value.slice A1 l1.length c1).ownBlock ∨ w.heap.size ≤ k_) v0_ r ∧ Below w.heap.size w w' := by
  induction k with
  | zero => intro w0 w A1 c1 l1 a0 a2 a3 r hB hR h; exact absurd h (by simp [impl_gilbreaths.f])
  | succ k IH =>
  intro w0 w A1 c1 l1 a0 a2 a3 r hB hR h
  rw [impl_gilbreaths.f] at h
  have HB0 := Aside0.mk hB
  have HRow := Aside0.mk hR
  clear hB hR
  by_cases c1_ : (l1.length : Int) = a0
  · rw [if_pos c1_] at h
    have g1 : ((l1.length : Int) == a0) = true := beq_iff_eq.mpr c1_
    clear c1_
    obtain rfl := Option.some.inj h
    clear h
    go_enter Try.func18, Try.ntmps18
    go_wp2_with (first | ((with_reducible refine gate_dst (N := 15) rfl ?_); refine Kd.S_lits (Kd.slice 3 (Kd.int .i64)) (w0 := w0) w0.heap.size 28 ?hg (N := 15) ?hd (xs := [l1]) (inner := [.slice A1 l1.length c1]) (ok := fun k_ => some k_ = (Value.slice A1 l1.length c1).ownBlock ∨ w.heap.size ≤ k_) (fun j k_ => j = 0 ∧ some k_ = (Value.slice A1 l1.length c1).ownBlock) ?hr rfl ?hp ?ha (fun _ _ h_ => .inl h_.2) (.inr (Nat.le_refl _)) HB0.out HB0.out.size (by simp) ?_; (case hd => rfl); (case hg => rfl); (case hr => first | (go_simp; done) | (go_simp; rfl)); (case hp => exact fun j x hx => by (match j, hx with | 0, hx => (simp at hx; subst hx; exact ⟨_, rfl, Kd.R_mono HRow.out (fun k_ hk => ⟨rfl, hk⟩)⟩) | j + 1, hx => simp at hx)); (case ha => exact fun i j k_ h1_ h2_ => h1_.1.trans h2_.1.symm); intro v15 w15 ho hb hg_ hnew_; have HS9 := Aside0.mk ho; have HB9 := Aside0.mk ((Below.refl w.heap.size w).grown hg_ (Nat.le_refl _) (fun k_ hk => by cases hk)); clear ho hb hg_ hnew_))
    go_ret
    exact ⟨_, rfl, HS9.out, HB9.out⟩
  · rw [if_neg c1_] at h
    have g1 : ((l1.length : Int) == a0) = false := beq_eq_false_iff_ne.mpr c1_
    clear c1_
    by_cases c3_ : l1.length < 17592186044415
    · rw [if_pos c3_] at h
      have HL := Aside0.mk c3_
      have HCL := Aside0.mk (show slices_Clone_int_int.f l1 = some l1 by unfold slices_Clone_int_int.f; rw [if_pos (by omega)])
      clear c3_
      obtain ⟨o1, E1_, h⟩ := Option.bind_eq_some_iff.mp h
      obtain ⟨o2, E2_, h⟩ := Option.bind_eq_some_iff.mp h
      by_cases c2_ : o1.length + o2.length < 5864062014805
      · rw [if_pos c2_] at h
        obtain rfl := Option.some.inj h
        have HL2 := Aside0.mk c2_
        have HL1 := Aside0.mk (show o1.length < 5864062014805 by omega)
        have HL0 := Aside0.mk (show o2.length < 5864062014805 by omega)
        clear h c2_
        have HR1 := Aside0.mk (Kd.R_reads' HRow.out).2.2
        have HC1 := Aside0.mk (Kd.R_reads' HRow.out).2.1
        have HB := Aside0.mk (Below.refl w.heap.size w)
        have HBW := Aside0.mk (Below.refl w.heap.size w)
        have HSO := Aside0.mk (Kd.S_nil (Kd.slice 3 (Kd.int .i64)) 28 w w.heap.size (fun k_ => w.heap.size ≤ k_ ∧ k_ < w.heap.size))
        obtain ⟨y1, hy1⟩ : ∃ y_ : List Int, y_ = l1 ++ [wrap64 (a2 - 1)] := ⟨_, rfl⟩
        obtain ⟨y2, hy2⟩ : ∃ y_ : List Int, y_ = l1 ++ [wrap64 (a3 + 1)] := ⟨_, rfl⟩
        rw [← hy1] at E1_
        rw [← hy2] at E2_
        have NY1 := Aside0.mk hy1
        have NY2 := Aside0.mk hy2
        clear hy1 hy2
        by_cases c4_ : a2 > 0
        · rw [if_pos c4_] at E1_
          have E1 := Aside0.mk E1_
          have g4 : decide (0 < a2) = true := decide_eq_true c4_
          clear E1_ c4_
          by_cases c5_ : a3 < wrap64 (a0 - 1)
          · rw [if_pos c5_] at E2_
            have E2 := Aside0.mk E2_
            have g5 : decide (a3 < wrap64 (a0 - 1)) = true := decide_eq_true c5_
            clear E2_ c5_
            go_enter Try.func18, Try.ntmps18
            go_wp2_with (first | ((with_reducible refine gate_callee (f := 29) rfl ?_); refine goesL_ (some 21) rfl rfl Try.func29 (by kernel_rfl) rfl #[.slice A1 l1.length c1] rfl (by (try simp only [List.map_toArray, List.map_cons, List.map_nil]); first | done | rfl) ?_; (with_reducible refine (slices_Clone_int_int.calls _ _ l1 l1 _ ?side1 ?side2 HCL.out).mono ?_); (case side1 => exact Kd.C_below HR1.out HB.out); (case side2 => exact HC1.out); rintro e wab ⟨vab, rfl, ho, hb⟩; refine ⟨_, rfl, ?_⟩; have HA := Aside0.mk (Kd.R_lower ho HB.out.size); have n1_ := Aside0.mk (below_step HB.out hb); clear HB; have HB := n1_; clear n1_ hb ho; obtain ⟨Acb, ccb, ec_⟩ := Kd.R_slice HA.out; subst ec_) | ((with_reducible refine gate_builtin (b := .append) (xs := #[.tmp 21, .tmp 24]) rfl ?_); at_builtin; refine Kd.R_append (Kd.int .i64) (w0 := w) w.heap.size rfl (.tmp 21) (.tmp 24) 28 3 (.int .i64 0) 8 rfl Try.underlying28 info3 rfl (by decide) (by omega) (.slice Acb l1.length ccb) l1 (wrap64 (a2 - 1)) [.int .i64 (wrap64 (a2 - 1))] (fun _ => True) (fun _ => False) rfl rfl ?aP (fun _ hk => hk.elim) ?aF ?aO ?aB ?aS ?aL ?_; (case aP => exact rfl); (case aB => exact (by repeat (first | (with_reducible first | exact HB.out | apply below_alloc | apply pw_below_drewN | apply below_drew1) | exact HB.out))); (case aF => exact (fun _ _ => trivial)); (case aO => exact (by (with_reducible repeat (first | apply Kd.R_alloc | apply Kd.R_drewN | apply Kd.R_drew)); exact HA.out)); (case aS => exact (below_size (by repeat (first | (with_reducible first | exact HB.out | apply below_alloc | apply pw_below_drewN | apply below_drew1) | exact HB.out)))); (case aL => have := HL.out; omega); intro vcb wcb ho hb hg hat; rw [← NY1.out] at ho; have n0_ := Aside0.mk hb; clear HB HA; have HB := n0_; have HA := Aside0.mk ho; clear n0_ ho hb hg hat; obtain ⟨Aqb, cqb, eq_⟩ := Kd.R_slice HA.out; subst eq_) | ((with_reducible refine gate_callee (f := 18) rfl ?_); refine goesL_ (some 29) rfl rfl Try.func18 (by kernel_rfl) rfl #[.int .i64 a0, .slice Aqb y1.length cqb, .int .i64 (wrap64 (a2 - 1)), .int .i64 a3] rfl (by (try simp only [List.map_toArray, List.map_cons, List.map_nil]); first | done | rfl) ?_; (with_reducible refine (IH w _ Aqb cqb y1 _ _ _ o1 HB.out (Kd.R_tight rfl HA.out) E1.out).mono ?_); rintro e wtb ⟨vtb, rfl, hS_, hb_⟩; refine ⟨_, rfl, ?_⟩; have HT := Aside0.mk (Kd.S_lower (Kd.S_mono (ok' := fun k_ => w.heap.size ≤ k_) hS_ (fun k_ hk => hk.elim (fun e_ => Kd.R_base HA.out k_ e_.symm) (fun h_ => Nat.le_trans HB.out.size h_))) HBW.out.size); have n1_ := Aside0.mk (below_step HB.out hb_); clear HB HA hS_ hb_; have HB := n1_; clear n1_; have n2_ := Aside0.mk (Kd.S_below HSO.out HB.out); clear HSO; have HSO := n2_; clear n2_; obtain ⟨Atb, ctb, et_⟩ := Kd.S_slice HT.out; subst et_) | ((with_reducible refine gate_builtin (b := .append) (xs := #[.tmp 18, .tmp 29]) rfl ?_); at_builtin; obtain ⟨cs1_, okj1_, hR1_, h01_, hC1_⟩ := S_cells HSO.out; obtain ⟨cs2_, okj2_, hR2_, h02_, hC2_⟩ := S_cells HT.out; refine Kd.R_append_rows kV (w0 := w) w.heap.size rfl (.tmp 18) (.tmp 29) 22 28 (.slice none 0 0) 24 rfl Try.underlying22 info28 rfl (by decide) (by omega) (.slice none 0 0) cs1_ cs2_ _ _ _ (fun _ => True) (fun _ => False) rfl rfl ?aO ?aR (fun _ _ h => h) (fun _ h => h.elim) ?aF ?aB ?aS ?aL ?_; (case aO => exact Kd.R_mono hR1_ (fun _ _ => trivial)); (case aR => exact (by have h_ := (Kd.R_reads' hR2_).2.2; rw [hC2_.len] at h_; exact h_)); (case aF => exact fun _ _ => trivial); (case aB => exact below_step HBW.out HB.out); (case aS => exact (below_step HBW.out HB.out).size); (case aL => have h1_ := HL1.out; have h2_ := hC1_.len; (try simp only [List.length_nil] at h2_); omega); intro vob wob ho hb hg hat; have HSN := Aside0.mk (Kd.S_mono (ok' := fun k_ => w.heap.size ≤ k_) (S_append_cells hC1_ hC2_ h01_ (fun k_ h1_ h2_ => by have := h1_.2; omega) ho hg hat) (fun k_ hk => hk.elim (fun h_ => h_.1) (fun h_ => h_.elim (fun h2_ => Nat.le_trans HBW.out.size h2_) (fun h2_ => Nat.le_trans (below_step HBW.out HB.out).size h2_)))); have HBN := Aside0.mk hb; clear hR1_ hR2_ h01_ h02_ hC1_ hC2_ ho hb hg hat HB HBW HSO HT; (try simp only [List.nil_append] at HSN); have HSO := Aside0.mk (Kd.S_mono (Kd.S_bound HSN.out) (fun k_ hk => (⟨hk.1, hk.2.2.1⟩ : w.heap.size ≤ k_ ∧ k_ < wob.heap.size))); have HBW := HBN; have HB := Aside0.mk (Below.refl wob.heap.size wob); have n3_ := Aside0.mk (Kd.C_below HR1.out HBN.out); clear HR1 HSN HBN; have HR1 := n3_; clear n3_) | ((with_reducible refine gate_callee (f := 29) rfl ?_); refine goesL_ (some 38) rfl rfl Try.func29 (by kernel_rfl) rfl #[.slice A1 l1.length c1] rfl (by (try simp only [List.map_toArray, List.map_cons, List.map_nil]); first | done | rfl) ?_; (with_reducible refine (slices_Clone_int_int.calls _ _ l1 l1 _ ?side1 ?side2 HCL.out).mono ?_); (case side1 => exact Kd.C_below HR1.out HB.out); (case side2 => exact HC1.out); rintro e wae ⟨vae, rfl, ho, hb⟩; refine ⟨_, rfl, ?_⟩; have HA := Aside0.mk (Kd.R_lower ho HB.out.size); have n1_ := Aside0.mk (below_step HB.out hb); clear HB; have HB := n1_; clear n1_ hb ho; obtain ⟨Ace, cce, ec_⟩ := Kd.R_slice HA.out; subst ec_) | ((with_reducible refine gate_builtin (b := .append) (xs := #[.tmp 38, .tmp 41]) rfl ?_); at_builtin; refine Kd.R_append (Kd.int .i64) (w0 := wob) wob.heap.size rfl (.tmp 38) (.tmp 41) 28 3 (.int .i64 0) 8 rfl Try.underlying28 info3 rfl (by decide) (by omega) (.slice Ace l1.length cce) l1 (wrap64 (a3 + 1)) [.int .i64 (wrap64 (a3 + 1))] (fun _ => True) (fun _ => False) rfl rfl ?aP (fun _ hk => hk.elim) ?aF ?aO ?aB ?aS ?aL ?_; (case aP => exact rfl); (case aB => exact (by repeat (first | (with_reducible first | exact HB.out | apply below_alloc | apply pw_below_drewN | apply below_drew1) | exact HB.out))); (case aF => exact (fun _ _ => trivial)); (case aO => exact (by (with_reducible repeat (first | apply Kd.R_alloc | apply Kd.R_drewN | apply Kd.R_drew)); exact HA.out)); (case aS => exact (below_size (by repeat (first | (with_reducible first | exact HB.out | apply below_alloc | apply pw_below_drewN | apply below_drew1) | exact HB.out)))); (case aL => have := HL.out; omega); intro vce wce ho hb hg hat; rw [← NY2.out] at ho; have n0_ := Aside0.mk hb; clear HB HA; have HB := n0_; have HA := Aside0.mk ho; clear n0_ ho hb hg hat; obtain ⟨Aqe, cqe, eq_⟩ := Kd.R_slice HA.out; subst eq_) | ((with_reducible refine gate_callee (f := 18) rfl ?_); refine goesL_ (some 46) rfl rfl Try.func18 (by kernel_rfl) rfl #[.int .i64 a0, .slice Aqe y2.length cqe, .int .i64 a2, .int .i64 (wrap64 (a3 + 1))] rfl (by (try simp only [List.map_toArray, List.map_cons, List.map_nil]); first | done | rfl) ?_; (with_reducible refine (IH wob _ Aqe cqe y2 _ _ _ o2 HB.out (Kd.R_tight rfl HA.out) E2.out).mono ?_); rintro e wte ⟨vte, rfl, hS_, hb_⟩; refine ⟨_, rfl, ?_⟩; have HT := Aside0.mk (Kd.S_lower (Kd.S_mono (ok' := fun k_ => wob.heap.size ≤ k_) hS_ (fun k_ hk => hk.elim (fun e_ => Kd.R_base HA.out k_ e_.symm) (fun h_ => Nat.le_trans HB.out.size h_))) HBW.out.size); have n1_ := Aside0.mk (below_step HB.out hb_); clear HB HA hS_ hb_; have HB := n1_; clear n1_; have n2_ := Aside0.mk (Kd.S_below HSO.out HB.out); clear HSO; have HSO := n2_; clear n2_; obtain ⟨Ate, cte, et_⟩ := Kd.S_slice HT.out; subst et_) | ((with_reducible refine gate_builtin (b := .append) (xs := #[.tmp 35, .tmp 46]) rfl ?_); at_builtin; obtain ⟨cs1_, okj1_, hR1_, h01_, hC1_⟩ := S_cells HSO.out; obtain ⟨cs2_, okj2_, hR2_, h02_, hC2_⟩ := S_cells HT.out; refine Kd.R_append_rows kV (w0 := w) w.heap.size rfl (.tmp 35) (.tmp 46) 22 28 (.slice none 0 0) 24 rfl Try.underlying22 info28 rfl (by decide) (by omega) vob cs1_ cs2_ _ _ _ (fun _ => True) (fun _ => False) rfl rfl ?aO ?aR (fun _ _ h => h) (fun _ h => h.elim) ?aF ?aB ?aS ?aL ?_; (case aO => exact Kd.R_mono hR1_ (fun _ _ => trivial)); (case aR => exact (by have h_ := (Kd.R_reads' hR2_).2.2; rw [hC2_.len] at h_; exact h_)); (case aF => exact fun _ _ => trivial); (case aB => exact below_step HBW.out HB.out); (case aS => exact (below_step HBW.out HB.out).size); (case aL => have h1_ := HL2.out; have h2_ := hC1_.len; (try simp only [List.length_nil] at h2_); omega); intro voe woe ho hb hg hat; have HSN := Aside0.mk (Kd.S_mono (ok' := fun k_ => w.heap.size ≤ k_) (S_append_cells hC1_ hC2_ h01_ (fun k_ h1_ h2_ => by have := h1_.2; omega) ho hg hat) (fun k_ hk => hk.elim (fun h_ => h_.1) (fun h_ => h_.elim (fun h2_ => Nat.le_trans HBW.out.size h2_) (fun h2_ => Nat.le_trans (below_step HBW.out HB.out).size h2_)))); have HBN := Aside0.mk hb; clear hR1_ hR2_ h01_ h02_ hC1_ hC2_ ho hb hg hat HB HBW HSO HT))
            go_ret
            exact ⟨_, rfl, Kd.S_mono (Kd.S_lower HSN.out HB0.out.size) (fun _ hk => .inr hk), HBN.out⟩
          · rw [if_neg c5_] at E2_
            obtain rfl := Option.some.inj E2_
            have g5 : decide (a3 < wrap64 (a0 - 1)) = false := decide_eq_false c5_
            clear E2_ c5_
            go_enter Try.func18, Try.ntmps18
            go_wp2_with (first | ((with_reducible refine gate_callee (f := 29) rfl ?_); refine goesL_ (some 21) rfl rfl Try.func29 (by kernel_rfl) rfl #[.slice A1 l1.length c1] rfl (by (try simp only [List.map_toArray, List.map_cons, List.map_nil]); first | done | rfl) ?_; (with_reducible refine (slices_Clone_int_int.calls _ _ l1 l1 _ ?side1 ?side2 HCL.out).mono ?_); (case side1 => exact Kd.C_below HR1.out HB.out); (case side2 => exact HC1.out); rintro e wac ⟨vac, rfl, ho, hb⟩; refine ⟨_, rfl, ?_⟩; have HA := Aside0.mk (Kd.R_lower ho HB.out.size); have n1_ := Aside0.mk (below_step HB.out hb); clear HB; have HB := n1_; clear n1_ hb ho; obtain ⟨Acc, ccc, ec_⟩ := Kd.R_slice HA.out; subst ec_) | ((with_reducible refine gate_builtin (b := .append) (xs := #[.tmp 21, .tmp 24]) rfl ?_); at_builtin; refine Kd.R_append (Kd.int .i64) (w0 := w) w.heap.size rfl (.tmp 21) (.tmp 24) 28 3 (.int .i64 0) 8 rfl Try.underlying28 info3 rfl (by decide) (by omega) (.slice Acc l1.length ccc) l1 (wrap64 (a2 - 1)) [.int .i64 (wrap64 (a2 - 1))] (fun _ => True) (fun _ => False) rfl rfl ?aP (fun _ hk => hk.elim) ?aF ?aO ?aB ?aS ?aL ?_; (case aP => exact rfl); (case aB => exact (by repeat (first | (with_reducible first | exact HB.out | apply below_alloc | apply pw_below_drewN | apply below_drew1) | exact HB.out))); (case aF => exact (fun _ _ => trivial)); (case aO => exact (by (with_reducible repeat (first | apply Kd.R_alloc | apply Kd.R_drewN | apply Kd.R_drew)); exact HA.out)); (case aS => exact (below_size (by repeat (first | (with_reducible first | exact HB.out | apply below_alloc | apply pw_below_drewN | apply below_drew1) | exact HB.out)))); (case aL => have := HL.out; omega); intro vcc wcc ho hb hg hat; rw [← NY1.out] at ho; have n0_ := Aside0.mk hb; clear HB HA; have HB := n0_; have HA := Aside0.mk ho; clear n0_ ho hb hg hat; obtain ⟨Aqc, cqc, eq_⟩ := Kd.R_slice HA.out; subst eq_) | ((with_reducible refine gate_callee (f := 18) rfl ?_); refine goesL_ (some 29) rfl rfl Try.func18 (by kernel_rfl) rfl #[.int .i64 a0, .slice Aqc y1.length cqc, .int .i64 (wrap64 (a2 - 1)), .int .i64 a3] rfl (by (try simp only [List.map_toArray, List.map_cons, List.map_nil]); first | done | rfl) ?_; (with_reducible refine (IH w _ Aqc cqc y1 _ _ _ o1 HB.out (Kd.R_tight rfl HA.out) E1.out).mono ?_); rintro e wtc ⟨vtc, rfl, hS_, hb_⟩; refine ⟨_, rfl, ?_⟩; have HT := Aside0.mk (Kd.S_lower (Kd.S_mono (ok' := fun k_ => w.heap.size ≤ k_) hS_ (fun k_ hk => hk.elim (fun e_ => Kd.R_base HA.out k_ e_.symm) (fun h_ => Nat.le_trans HB.out.size h_))) HBW.out.size); have n1_ := Aside0.mk (below_step HB.out hb_); clear HB HA hS_ hb_; have HB := n1_; clear n1_; have n2_ := Aside0.mk (Kd.S_below HSO.out HB.out); clear HSO; have HSO := n2_; clear n2_; obtain ⟨Atc, ctc, et_⟩ := Kd.S_slice HT.out; subst et_) | ((with_reducible refine gate_builtin (b := .append) (xs := #[.tmp 18, .tmp 29]) rfl ?_); at_builtin; obtain ⟨cs1_, okj1_, hR1_, h01_, hC1_⟩ := S_cells HSO.out; obtain ⟨cs2_, okj2_, hR2_, h02_, hC2_⟩ := S_cells HT.out; refine Kd.R_append_rows kV (w0 := w) w.heap.size rfl (.tmp 18) (.tmp 29) 22 28 (.slice none 0 0) 24 rfl Try.underlying22 info28 rfl (by decide) (by omega) (.slice none 0 0) cs1_ cs2_ _ _ _ (fun _ => True) (fun _ => False) rfl rfl ?aO ?aR (fun _ _ h => h) (fun _ h => h.elim) ?aF ?aB ?aS ?aL ?_; (case aO => exact Kd.R_mono hR1_ (fun _ _ => trivial)); (case aR => exact (by have h_ := (Kd.R_reads' hR2_).2.2; rw [hC2_.len] at h_; exact h_)); (case aF => exact fun _ _ => trivial); (case aB => exact below_step HBW.out HB.out); (case aS => exact (below_step HBW.out HB.out).size); (case aL => have h1_ := HL1.out; have h2_ := hC1_.len; (try simp only [List.length_nil] at h2_); omega); intro voc woc ho hb hg hat; have HSN := Aside0.mk (Kd.S_mono (ok' := fun k_ => w.heap.size ≤ k_) (S_append_cells hC1_ hC2_ h01_ (fun k_ h1_ h2_ => by have := h1_.2; omega) ho hg hat) (fun k_ hk => hk.elim (fun h_ => h_.1) (fun h_ => h_.elim (fun h2_ => Nat.le_trans HBW.out.size h2_) (fun h2_ => Nat.le_trans (below_step HBW.out HB.out).size h2_)))); have HBN := Aside0.mk hb; clear hR1_ hR2_ h01_ h02_ hC1_ hC2_ ho hb hg hat HB HBW HSO HT))
            go_ret
            exact ⟨_, rfl, (List.append_nil o1).symm ▸ Kd.S_mono (Kd.S_lower HSN.out HB0.out.size) (fun _ hk => .inr hk), HBN.out⟩
        · rw [if_neg c4_] at E1_
          obtain rfl := Option.some.inj E1_
          have g4 : decide (0 < a2) = false := decide_eq_false c4_
          clear E1_ c4_
          by_cases c5_ : a3 < wrap64 (a0 - 1)
          · rw [if_pos c5_] at E2_
            have E2 := Aside0.mk E2_
            have g5 : decide (a3 < wrap64 (a0 - 1)) = true := decide_eq_true c5_
            clear E2_ c5_
            go_enter Try.func18, Try.ntmps18
            go_wp2_with (first | ((with_reducible refine gate_callee (f := 29) rfl ?_); refine goesL_ (some 38) rfl rfl Try.func29 (by kernel_rfl) rfl #[.slice A1 l1.length c1] rfl (by (try simp only [List.map_toArray, List.map_cons, List.map_nil]); first | done | rfl) ?_; (with_reducible refine (slices_Clone_int_int.calls _ _ l1 l1 _ ?side1 ?side2 HCL.out).mono ?_); (case side1 => exact Kd.C_below HR1.out HB.out); (case side2 => exact HC1.out); rintro e waf ⟨vaf, rfl, ho, hb⟩; refine ⟨_, rfl, ?_⟩; have HA := Aside0.mk (Kd.R_lower ho HB.out.size); have n1_ := Aside0.mk (below_step HB.out hb); clear HB; have HB := n1_; clear n1_ hb ho; obtain ⟨Acf, ccf, ec_⟩ := Kd.R_slice HA.out; subst ec_) | ((with_reducible refine gate_builtin (b := .append) (xs := #[.tmp 38, .tmp 41]) rfl ?_); at_builtin; refine Kd.R_append (Kd.int .i64) (w0 := w) w.heap.size rfl (.tmp 38) (.tmp 41) 28 3 (.int .i64 0) 8 rfl Try.underlying28 info3 rfl (by decide) (by omega) (.slice Acf l1.length ccf) l1 (wrap64 (a3 + 1)) [.int .i64 (wrap64 (a3 + 1))] (fun _ => True) (fun _ => False) rfl rfl ?aP (fun _ hk => hk.elim) ?aF ?aO ?aB ?aS ?aL ?_; (case aP => exact rfl); (case aB => exact (by repeat (first | (with_reducible first | exact HB.out | apply below_alloc | apply pw_below_drewN | apply below_drew1) | exact HB.out))); (case aF => exact (fun _ _ => trivial)); (case aO => exact (by (with_reducible repeat (first | apply Kd.R_alloc | apply Kd.R_drewN | apply Kd.R_drew)); exact HA.out)); (case aS => exact (below_size (by repeat (first | (with_reducible first | exact HB.out | apply below_alloc | apply pw_below_drewN | apply below_drew1) | exact HB.out)))); (case aL => have := HL.out; omega); intro vcf wcf ho hb hg hat; rw [← NY2.out] at ho; have n0_ := Aside0.mk hb; clear HB HA; have HB := n0_; have HA := Aside0.mk ho; clear n0_ ho hb hg hat; obtain ⟨Aqf, cqf, eq_⟩ := Kd.R_slice HA.out; subst eq_) | ((with_reducible refine gate_callee (f := 18) rfl ?_); refine goesL_ (some 46) rfl rfl Try.func18 (by kernel_rfl) rfl #[.int .i64 a0, .slice Aqf y2.length cqf, .int .i64 a2, .int .i64 (wrap64 (a3 + 1))] rfl (by (try simp only [List.map_toArray, List.map_cons, List.map_nil]); first | done | rfl) ?_; (with_reducible refine (IH w _ Aqf cqf y2 _ _ _ o2 HB.out (Kd.R_tight rfl HA.out) E2.out).mono ?_); rintro e wtf ⟨vtf, rfl, hS_, hb_⟩; refine ⟨_, rfl, ?_⟩; have HT := Aside0.mk (Kd.S_lower (Kd.S_mono (ok' := fun k_ => w.heap.size ≤ k_) hS_ (fun k_ hk => hk.elim (fun e_ => Kd.R_base HA.out k_ e_.symm) (fun h_ => Nat.le_trans HB.out.size h_))) HBW.out.size); have n1_ := Aside0.mk (below_step HB.out hb_); clear HB HA hS_ hb_; have HB := n1_; clear n1_; have n2_ := Aside0.mk (Kd.S_below HSO.out HB.out); clear HSO; have HSO := n2_; clear n2_; obtain ⟨Atf, ctf, et_⟩ := Kd.S_slice HT.out; subst et_) | ((with_reducible refine gate_builtin (b := .append) (xs := #[.tmp 35, .tmp 46]) rfl ?_); at_builtin; obtain ⟨cs1_, okj1_, hR1_, h01_, hC1_⟩ := S_cells HSO.out; obtain ⟨cs2_, okj2_, hR2_, h02_, hC2_⟩ := S_cells HT.out; refine Kd.R_append_rows kV (w0 := w) w.heap.size rfl (.tmp 35) (.tmp 46) 22 28 (.slice none 0 0) 24 rfl Try.underlying22 info28 rfl (by decide) (by omega) (.slice none 0 0) cs1_ cs2_ _ _ _ (fun _ => True) (fun _ => False) rfl rfl ?aO ?aR (fun _ _ h => h) (fun _ h => h.elim) ?aF ?aB ?aS ?aL ?_; (case aO => exact Kd.R_mono hR1_ (fun _ _ => trivial)); (case aR => exact (by have h_ := (Kd.R_reads' hR2_).2.2; rw [hC2_.len] at h_; exact h_)); (case aF => exact fun _ _ => trivial); (case aB => exact below_step HBW.out HB.out); (case aS => exact (below_step HBW.out HB.out).size); (case aL => have h1_ := HL0.out; have h2_ := hC1_.len; (try simp only [List.length_nil] at h2_); omega); intro vof wof ho hb hg hat; have HSN := Aside0.mk (Kd.S_mono (ok' := fun k_ => w.heap.size ≤ k_) (S_append_cells hC1_ hC2_ h01_ (fun k_ h1_ h2_ => by have := h1_.2; omega) ho hg hat) (fun k_ hk => hk.elim (fun h_ => h_.1) (fun h_ => h_.elim (fun h2_ => Nat.le_trans HBW.out.size h2_) (fun h2_ => Nat.le_trans (below_step HBW.out HB.out).size h2_)))); have HBN := Aside0.mk hb; clear hR1_ hR2_ h01_ h02_ hC1_ hC2_ ho hb hg hat HB HBW HSO HT))
            go_ret
            exact ⟨_, rfl, Kd.S_mono (Kd.S_lower HSN.out HB0.out.size) (fun _ hk => .inr hk), HBN.out⟩
          · rw [if_neg c5_] at E2_
            obtain rfl := Option.some.inj E2_
            have g5 : decide (a3 < wrap64 (a0 - 1)) = false := decide_eq_false c5_
            clear E2_ c5_
            go_enter Try.func18, Try.ntmps18
            go_wp2
            go_ret
            exact ⟨_, rfl, Kd.S_nil _ _ _ _ _, Below.refl _ _⟩
      · rw [if_neg c2_] at h
        cases h
    · rw [if_neg c3_] at h
      cases h

/-! ### impl_GilbreathsOf: function 6, by hand -/
def impl_GilbreathsOf.l0 : Nat → Int → List (List Int) → Int → Option (List (List Int))
  | 0, _, _, _ => none
  | k + 1, a0, x3, x4 => if x4 < a0 then ((impl_gilbreaths.f k a0 [x4] x4 x4).bind fun t => if x3.length + t.length < 5864062014805 then impl_GilbreathsOf.l0 k a0 (x3 ++ t) (wrap64 (x4 + 1)) else none) else some x3
def impl_GilbreathsOf.f (k : Nat) (a0 : Int) : Option (List (List Int)) := if a0 < 1 then some [] else if a0 > 12 then some [] else impl_GilbreathsOf.l0 k a0 [] 0
theorem impl_GilbreathsOf.mono_l : ∀ k, ∀ y0 y1 y2, LeO (impl_GilbreathsOf.l0 k y0 y1 y2) (impl_GilbreathsOf.l0 (k + 1) y0 y1 y2)
  | 0 => fun _ _ _ r h => by simp [impl_GilbreathsOf.l0] at h
  | k + 1 => by
    have ih0 := impl_GilbreathsOf.mono_l k
    intro y0 y1 y2
    unfold impl_GilbreathsOf.l0
    repeat' first
      | (with_reducible exact ih0 _ _ _)
      | (with_reducible exact impl_gilbreaths.mono _ _ _ _ _)
      | (with_reducible exact LeO.refl _)
      | (with_reducible exact LeO.none _)
      | (with_reducible refine LeO.ite ?_ ?_)
      | (with_reducible refine LeO.bind ?_ (fun _ => ?_))
theorem impl_GilbreathsOf.mono : ∀ a0 k, LeO (impl_GilbreathsOf.f k a0) (impl_GilbreathsOf.f (k + 1) a0) := by
  intro a0 k
  have ih0 := impl_GilbreathsOf.mono_l k
  unfold impl_GilbreathsOf.f
  repeat' first
      | (with_reducible exact ih0 _ _ _)
      | (with_reducible exact LeO.refl _)
      | (with_reducible refine LeO.ite ?_ ?_)
set_option maxHeartbeats 8000000 in
set_option maxRecDepth 100000 in
theorem impl_GilbreathsOf.calls (k : Nat) (a0 : Int) (r : List (List Int)) (w : World) (h : impl_GilbreathsOf.f k a0 = some r) :
    Calls Try.prog 6 #[.int .i64 a0] w fun e w' => ∃ v0_ : Value, e = .returned (v0_) ∧ Kd.S (Kd.slice 3 (Kd.int .i64)) 28 w' w.heap.size (fun _ => True) v0_ r ∧ Below w.heap.size w w' := by
  unfold impl_GilbreathsOf.f at h
  by_cases c1 : a0 < 1
  · rw [if_pos c1] at h
    obtain rfl := Option.some.inj h
    have g1 : decide (a0 < 1) = true := decide_eq_true c1
    clear h c1
    go_enter Try.func6, Try.ntmps6
    go_wp2
    go_ret
    exact ⟨_, rfl, Kd.S_nil _ _ _ _ _, Below.refl _ _⟩
  rw [if_neg c1] at h
  have g1 : decide (a0 < 1) = false := decide_eq_false c1
  clear c1
  by_cases c2 : a0 > 12
  · rw [if_pos c2] at h
    obtain rfl := Option.some.inj h
    have g2 : decide (12 < a0) = true := decide_eq_true c2
    clear h c2
    go_enter Try.func6, Try.ntmps6
    go_wp2
    go_ret
    exact ⟨_, rfl, Kd.S_nil _ _ _ _ _, Below.refl _ _⟩
  rw [if_neg c2] at h
  have g2 : decide (12 < a0) = false := decide_eq_false c2
  have H' := Aside0.mk h
  clear h c2
  go_enter Try.func6, Try.ntmps6
  go_wp2
  go_loopg [3, 4] k (fun kq v3 v4 w' => ∃ (x3 : List (List Int)) (x4 : Int), v4 = .int .i64 x4 ∧ Aside0 (impl_GilbreathsOf.l0 kq a0 x3 x4 = some r) ∧ Aside0 (kq ≤ k) ∧ Aside0 (Kd.S (Kd.slice 3 (Kd.int .i64)) 28 w' w.heap.size (fun k_ => w.heap.size ≤ k_) v3 x3) ∧ Aside0 (Below w.heap.size w w'))
  case atStart => exact ⟨[], 0, rfl, H', ⟨Nat.le_refl _⟩, ⟨Kd.S_nil _ _ _ _ _⟩, ⟨Below.refl _ _⟩⟩
  case round =>
    clear H'
    obtain ⟨x3, x4, rfl, HA0, HK1, HS3, HBW⟩ := hrel
    cases gk with
    | zero => exact absurd HA0.out (by simp [impl_GilbreathsOf.l0])
    | succ k1 =>
      have H := HA0.out
      clear HA0
      simp only [impl_GilbreathsOf.l0] at H
      by_cases c3 : x4 < a0
      · rw [if_pos c3] at H
        have g3 : decide (x4 < a0) = true := decide_eq_true c3
        clear c3
        obtain ⟨o1, E1_, H⟩ := Option.bind_eq_some_iff.mp H
        by_cases c4 : x3.length + o1.length < 5864062014805
        · rw [if_pos c4] at H
          have H' := Aside0.mk H
          have HLN := Aside0.mk c4
          clear H c4
          obtain ⟨y1, hy1⟩ : ∃ y_ : List Int, y_ = [x4] := ⟨_, rfl⟩
          rw [← hy1] at E1_
          have E1 := Aside0.mk E1_
          have NY1 := Aside0.mk hy1
          clear hy1 E1_
          have HSO := Aside0.mk (Kd.S_mono (Kd.S_bound HS3.out) (fun k_ hk => (⟨hk.1, hk.2.2.1⟩ : w.heap.size ≤ k_ ∧ k_ < wr.heap.size)))
          have HB := Aside0.mk (Below.refl wr.heap.size wr)
          clear HS3
          go_wp2_with (first | ((with_reducible refine gate_dst (N := 19) rfl ?_); refine Kd.R_lit (Kd.int .i64) _ 3 ?hg (N := 19) ?hd (xs := ([x4] : List Int)) (inner := [.int .i64 x4]) (ok := fun _ => True) (okp := fun _ => True) ?hr ?hp (fun _ hk => hk) trivial (Below.refl _ _) (Nat.le_refl _) (by simp) ?_; (case hd => rfl); (case hg => rfl); (case hr => first | (go_simp; done) | (go_simp; rfl)); (case hp => exact (Reps.one (show Kd.M (Kd.int .i64) _ _ _ x4 [.int .i64 x4] from rfl) (Reps.none _ _))); intro va wa ho hb hg_ hnew_; clear hg_ hnew_; rw [← NY1.out] at ho; have HA := Aside0.mk (Kd.R_lower ho HB.out.size); have n1_ := Aside0.mk (below_step HB.out hb); clear HB; have HB := n1_; clear n1_ hb ho; obtain ⟨Aqb, cqb, eq_⟩ := Kd.R_slice HA.out; subst eq_) | ((with_reducible refine gate_callee (f := 18) rfl ?_); refine goesL_ (some 22) rfl rfl Try.func18 (by kernel_rfl) rfl #[.int .i64 a0, .slice Aqb y1.length cqb, .int .i64 x4, .int .i64 x4] rfl (by (try simp only [List.map_toArray, List.map_cons, List.map_nil]); first | done | rfl) ?_; (with_reducible refine (impl_gilbreaths.calls k1 wr _ Aqb cqb y1 _ _ _ o1 HB.out (Kd.R_tight rfl HA.out) E1.out).mono ?_); rintro e wtb ⟨vtb, rfl, hS_, hb_⟩; refine ⟨_, rfl, ?_⟩; have HT := Aside0.mk (Kd.S_lower (Kd.S_mono (ok' := fun k_ => wr.heap.size ≤ k_) hS_ (fun k_ hk => hk.elim (fun e_ => Kd.R_base HA.out k_ e_.symm) (fun h_ => Nat.le_trans HB.out.size h_))) HBW.out.size); have n1_ := Aside0.mk (below_step HB.out hb_); clear HB HA hS_ hb_; have HB := n1_; clear n1_; have n2_ := Aside0.mk (Kd.S_below HSO.out HB.out); clear HSO; have HSO := n2_; clear n2_; obtain ⟨Atb, ctb, et_⟩ := Kd.S_slice HT.out; subst et_) | ((with_reducible refine gate_builtin (b := .append) (xs := #[.tmp 16, .tmp 22]) rfl ?_); at_builtin; obtain ⟨cs1_, okj1_, hR1_, h01_, hC1_⟩ := S_cells HSO.out; obtain ⟨cs2_, okj2_, hR2_, h02_, hC2_⟩ := S_cells HT.out; refine Kd.R_append_rows kV (w0 := w) w.heap.size rfl (.tmp 16) (.tmp 22) 22 28 (.slice none 0 0) 24 rfl Try.underlying22 info28 rfl (by decide) (by omega) u3 cs1_ cs2_ _ _ _ (fun _ => True) (fun _ => False) rfl rfl ?aO ?aR (fun _ _ h => h) (fun _ h => h.elim) ?aF ?aB ?aS ?aL ?_; (case aO => exact Kd.R_mono hR1_ (fun _ _ => trivial)); (case aR => exact (by have h_ := (Kd.R_reads' hR2_).2.2; rw [hC2_.len] at h_; exact h_)); (case aF => exact fun _ _ => trivial); (case aB => exact below_step HBW.out HB.out); (case aS => exact (below_step HBW.out HB.out).size); (case aL => have h1_ := HLN.out; have h2_ := hC1_.len; (try simp only [List.length_nil] at h2_); omega); intro vob wob ho hb hg hat; have HSN := Aside0.mk (Kd.S_mono (ok' := fun k_ => w.heap.size ≤ k_) (S_append_cells hC1_ hC2_ h01_ (fun k_ h1_ h2_ => by have := h1_.2; omega) ho hg hat) (fun k_ hk => hk.elim (fun h_ => h_.1) (fun h_ => h_.elim (fun h2_ => Nat.le_trans HBW.out.size h2_) (fun h2_ => Nat.le_trans (below_step HBW.out HB.out).size h2_)))); have HBN := Aside0.mk hb; clear hR1_ hR2_ h01_ h02_ hC1_ hC2_ ho hb hg hat HB HBW HSO HT))
          go_roundg k1
          case measure => have := HK1.out; omega
          case rel => exact ⟨x3 ++ o1, wrap64 (x4 + 1), (by first | rfl | (simp; done) | (simp [*]; done)), H', ⟨by have := HK1.out; omega⟩, HSN, HBN⟩
        · rw [if_neg c4] at H
          cases H
      · rw [if_neg c3] at H
        have g3 : decide (x4 < a0) = false := decide_eq_false c3
        clear c3
        obtain rfl := Option.some.inj H
        go_wp2
        go_ret
        exact ⟨_, rfl, Kd.S_mono HS3.out (fun _ _ => trivial), HBW.out⟩

/-! ### spec_l01In: function 16 -/
def spec_l01In.f (a0 : Int) (a1 : Int) (a2 : Int) : Option (Bool) := if a0 ≥ a1 then (some (decide (a0 ≤ a2))) else (some false)
set_option maxHeartbeats 8000000 in
set_option maxRecDepth 100000 in
theorem spec_l01In.calls (a0 : Int) (a1 : Int) (a2 : Int) (r : Bool) (w : World) (h : spec_l01In.f a0 a1 a2 = some r) :
    Calls Try.prog 16 #[.int .i64 a0, .int .i64 a1, .int .i64 a2] w fun e w' => e = .returned (.bool r) ∧ Drawn0 w w' := by
  have H : (if a0 ≥ a1 then (some (decide (a0 ≤ a2))) else (some false)) = some r := h
  clear h
  by_cases c4 : a0 ≥ a1
  · rw [if_pos c4] at H
    have c4b0 : decide (a1 ≤ a0) = true := decide_eq_true c4
    clear c4
    obtain rfl := Option.some.inj H
    go_enter Try.func16, Try.ntmps16
    go_wp2
    go_ret
    exact ⟨by first | rfl | (simp; done) | (simp [*]; done), by repeat (first | exact Drawn0.refl _ | apply Drawn0.step)⟩
  · rw [if_neg c4] at H
    have c4b0 : decide (a1 ≤ a0) = false := decide_eq_false c4
    clear c4
    obtain rfl := Option.some.inj H
    go_enter Try.func16, Try.ntmps16
    go_wp2
    go_ret
    exact ⟨by first | rfl | (simp; done) | (simp [*]; done), by repeat (first | exact Drawn0.refl _ | apply Drawn0.step)⟩

/-! ### spec_l07Grow: function 17, by hand -/
def spec_l07Grow.f : Nat → List (List Int) → List Int → Int → Int → Int → Option (List (List Int))
  | 0, _, _, _, _, _ => none
  | k + 1, l0, l1, a2, a3, a4 => if (l1.length : Int) = a4 then (if l0.length < 5864062014805 then some (l0 ++ [l1]) else none) else (if l1.length < 17592186044415 then ((if a2 > 0 then spec_l07Grow.f k l0 (l1 ++ [wrap64 (a2 - 1)]) (wrap64 (a2 - 1)) a3 a4 else some l0).bind fun o => (if a3 < wrap64 (a4 - 1) then spec_l07Grow.f k o (l1 ++ [wrap64 (a3 + 1)]) a2 (wrap64 (a3 + 1)) a4 else some o)) else none)
theorem spec_l07Grow.mono : ∀ a0 a1 a2 a3 a4 k, LeO (spec_l07Grow.f k a0 a1 a2 a3 a4) (spec_l07Grow.f (k + 1) a0 a1 a2 a3 a4) := by
  intro a0 a1 a2 a3 a4 k
  induction k generalizing a0 a1 a2 a3 a4 with
  | zero => intro r h; simp [spec_l07Grow.f] at h
  | succ k ih =>
    rw [spec_l07Grow.f, spec_l07Grow.f]
    repeat' first
      | (with_reducible exact ih _ _ _ _ _)
      | (with_reducible exact LeO.refl _)
      | (with_reducible exact LeO.none _)
      | (with_reducible refine LeO.ite ?_ ?_)
      | (with_reducible refine LeO.bind ?_ (fun _ => ?_))
/-- What a call that goes on from v leaves: all old blocks but v's own are as they were; v' has v's block or a new one. -/
structure spec_l07Grow.Gr (w w' : World) (v v' : Value) : Prop where
  g : w.grownBy w' v.ownBlock
  a : v'.ownBlock = v.ownBlock ∨ ∃ b, v'.ownBlock = some b ∧ w.heap.size ≤ b
theorem spec_l07Grow.Gr.of_below {w w' : World} {v : Value} (h : Below w.heap.size w w') : spec_l07Grow.Gr w w' v v := ⟨⟨h.os, h.tape, h.output, h.size, fun i hi _ => h.block i hi⟩, .inl rfl⟩
theorem spec_l07Grow.Gr.trans {w w1 w2 : World} {v v1 v2 : Value} (h : spec_l07Grow.Gr w w1 v v1) (k : spec_l07Grow.Gr w1 w2 v1 v2) : spec_l07Grow.Gr w w2 v v2 := by
  refine ⟨h.g.andThen k.g (fun j hj => ?_), ?_⟩
  · rcases h.a with e | ⟨b, e, hb⟩
    · exact .inr (e ▸ hj)
    · rw [e] at hj
      injection hj with hj
      exact .inl (by omega)
  · rcases k.a with e | ⟨b, e, hb⟩
    · rcases h.a with e1 | ⟨b, e1, hb⟩
      · exact .inl (e.trans e1)
      · exact .inr ⟨b, e.trans e1, hb⟩
    · exact .inr ⟨b, e, Nat.le_trans h.g.size hb⟩
theorem spec_l07Grow.own_ok {P : Nat → Prop} {w : World} {b : Nat} {v : Value} {l : List (List Int)} (h : Kd.S (Kd.slice 3 (Kd.int .i64)) 28 w b P v l) : ∀ k, v.ownBlock = some k → P k := by
  obtain ⟨_, h0, _⟩ := h
  exact h0
set_option maxHeartbeats 8000000 in
set_option maxRecDepth 100000 in
theorem spec_l07Grow.calls (k : Nat) : ∀ (P : Nat → Prop) (w0 w : World) (u0_ : Value) (l0 : List (List Int)) (A1 : Option Addr) (c1 : Nat) (l1 : List Int) (a2 a3 a4 : Int) (r : List (List Int)) (hB : Below w0.heap.size w0 w) (hS : Kd.S (Kd.slice 3 (Kd.int .i64)) 28 w w0.heap.size P u0_ l0) (hP : ∀ k_, P k_ → some k_ ≠ (Value.slice A1 l1.length c1).ownBlock) (hR : Kd.R (Kd.int .i64) 3 w w0.heap.size (fun k_ => some k_ = (Value.slice A1 l1.length c1).ownBlock) (.slice A1 l1.length c1) l1) (h : spec_l07Grow.f k l0 l1 a2 a3 a4 = some r),
    Calls Try.prog 17 #[u0_, .slice A1 l1.length c1, .int .i64 a2, .int .i64 a3, .int .i64 a4] w fun e w' => ∃ v0_ : Value, e = .returned (v0_) ∧ Kd.S (Kd.slice 3 (Kd.int .i64)) 28 w' w0.heap.size (fun k_ => P k_ ∨ some k_ = (Value.slice A1 l1.length c1).ownBlock ∨ w.heap.size ≤ k_) v0_ r ∧ Below w0.heap.size w0 w' ∧ spec_l07Grow.Gr w w' u0_ v0_ := by
  induction k with
  | zero => intro P w0 w u0_ l0 A1 c1 l1 a2 a3 a4 r hB hS hP hR h; exact absurd h (by simp [spec_l07Grow.f])
  | succ k ih =>
  intro P w0 w u0_ l0 A1 c1 l1 a2 a3 a4 r hB hS hP hR h
  rw [spec_l07Grow.f] at h
  have HB0 := Aside0.mk hB
  have HS0 := Aside0.mk hS
  have HP0 := Aside0.mk hP
  have HRow := Aside0.mk hR
  clear hB hS hP hR
  by_cases c1_ : (l1.length : Int) = a4
  · rw [if_pos c1_] at h
    have g1 : ((l1.length : Int) == a4) = true := beq_iff_eq.mpr c1_
    clear c1_
    by_cases c2_ : l0.length < 5864062014805
    · rw [if_pos c2_] at h
      obtain rfl := Option.some.inj h
      clear h
      go_enter Try.func17, Try.ntmps17
      go_wp2_with (first | ((with_reducible refine gate_builtin (b := .append) (xs := #[.tmp 15, .tmp 17]) rfl ?_); at_builtin; refine Kd.S_append (Kd.slice 3 (Kd.int .i64)) (w0 := w0) w0.heap.size rfl (.tmp 15) (.tmp 17) 22 28 (.slice none 0 0) 24 rfl Try.underlying22 info28 rfl (by decide) (by omega) u0_ l0 l1 [.slice A1 l1.length c1] (fun k_ => P k_ ∨ some k_ = (Value.slice A1 l1.length c1).ownBlock ∨ w.heap.size ≤ k_) (fun k_ => some k_ = (Value.slice A1 l1.length c1).ownBlock) rfl rfl ?aP ?aK ?aF ?aO ?aB ?aS ?aL ?_; (case aP => exact Kd.M_row HRow.out); (case aK => exact fun k_ e_ => ⟨.inr (.inl e_), fun e2_ => HP0.out k_ (spec_l07Grow.own_ok HS0.out k_ e2_.symm) e_⟩); (case aF => exact fun k_ hk => .inr (.inr hk)); (case aO => exact Kd.S_mono HS0.out (fun k_ hk => ⟨.inl hk, HP0.out k_ hk⟩)); (case aB => exact HB0.out); (case aS => exact HB0.out.size); (case aL => omega); intro v9 w9 ho hb hg hat; have HS9 := Aside0.mk ho; have HB9 := Aside0.mk hb; have HG9 := Aside0.mk (show spec_l07Grow.Gr w w9 u0_ v9 from ⟨hg, hat⟩); clear ho hb hg hat))
      go_ret
      exact ⟨_, rfl, HS9.out, HB9.out, HG9.out⟩
    · rw [if_neg c2_] at h
      cases h
  · rw [if_neg c1_] at h
    have g1 : ((l1.length : Int) == a4) = false := beq_eq_false_iff_ne.mpr c1_
    clear c1_
    by_cases c3_ : l1.length < 17592186044415
    · rw [if_pos c3_] at h
      have HL := Aside0.mk c3_
      clear c3_
      obtain ⟨o1, E1_, h⟩ := Option.bind_eq_some_iff.mp h
      have HR1 := Aside0.mk (Kd.R_reads' HRow.out).2.2
      have HB := Aside0.mk (Below.refl w.heap.size w)
      obtain ⟨y1, hy1⟩ : ∃ y_ : List Int, y_ = l1 ++ [wrap64 (a2 - 1)] := ⟨_, rfl⟩
      obtain ⟨y2, hy2⟩ : ∃ y_ : List Int, y_ = l1 ++ [wrap64 (a3 + 1)] := ⟨_, rfl⟩
      rw [← hy1] at E1_
      rw [← hy2] at h
      have NY1 := Aside0.mk hy1
      have NY2 := Aside0.mk hy2
      clear hy1 hy2
      by_cases c4_ : a2 > 0
      · rw [if_pos c4_] at E1_
        have E1 := Aside0.mk E1_
        have g4 : decide (0 < a2) = true := decide_eq_true c4_
        clear E1_ c4_
        by_cases c5_ : a3 < wrap64 (a4 - 1)
        · rw [if_pos c5_] at h
          have E2 := Aside0.mk h
          have g5 : decide (a3 < wrap64 (a4 - 1)) = true := decide_eq_true c5_
          clear h c5_
          go_enter Try.func17, Try.ntmps17
          go_wp2_with (first | ((with_reducible refine gate_dst (N := 22) rfl ?_); refine Kd.R_lit (Kd.int .i64) _ 3 ?hg (N := 22) ?hd (xs := ([] : List Int)) (inner := []) (ok := fun _ => True) (okp := fun _ => True) ?hr ?hp (fun _ hk => hk) trivial (Below.refl _ _) (Nat.le_refl _) (by simp) ?_; (case hd => rfl); (case hg => rfl); (case hr => first | (go_simp; done) | (go_simp; rfl)); (case hp => exact (Reps.none _ _)); intro vab wab ho hb hg_ hnew_; clear hg_ hnew_; have HA := Aside0.mk (Kd.R_lower ho (below_size (by repeat (first | (with_reducible first | exact HB.out | apply below_alloc | apply pw_below_drewN | apply below_drew1) | exact HB.out)))); have n1_ := Aside0.mk (below_step (by repeat (first | (with_reducible first | exact HB.out | apply below_alloc | apply pw_below_drewN | apply below_drew1) | exact HB.out)) hb); clear HB; have HB := n1_; clear n1_ hb ho) | ((with_reducible refine gate_builtin (b := .append) (xs := #[.tmp 22, .tmp 23]) rfl ?_); at_builtin; refine Kd.R_append_rows (Kd.int .i64) (w0 := w) w.heap.size rfl (.tmp 22) (.tmp 23) 28 3 (.int .i64 0) 8 rfl Try.underlying28 info3 rfl (by decide) (by omega) vab [] l1 _ _ _ (fun _ => True) (fun _ => False) rfl rfl ?aO ?aR (fun _ _ h => h) (fun _ h => h.elim) ?aF ?aB ?aS ?aL ?_; (case aR => repeat (first | exact (Kd.C_below HR1.out HB.out) | (with_reducible refine Kd.C_alloc ?_ _) | (with_reducible refine Kd.C_drewN ?_ _) | (with_reducible refine Kd.C_drew ?_))); (case aB => exact (by repeat (first | (with_reducible first | exact HB.out | apply below_alloc | apply pw_below_drewN | apply below_drew1) | exact HB.out))); (case aF => exact (fun _ _ => trivial)); (case aO => exact (by (with_reducible repeat (first | apply Kd.R_alloc | apply Kd.R_drewN | apply Kd.R_drew)); exact HA.out)); (case aS => exact (below_size (by repeat (first | (with_reducible first | exact HB.out | apply below_alloc | apply pw_below_drewN | apply below_drew1) | exact HB.out)))); (case aL => have := HL.out; simp; omega); intro vbb wbb ho hb hg hat; rw [List.nil_append] at ho; have n0_ := Aside0.mk hb; clear HB HA; have HB := n0_; have HA := Aside0.mk ho; clear n0_ ho hb hg hat) | ((with_reducible refine gate_builtin (b := .append) (xs := #[.tmp 24, .tmp 27]) rfl ?_); at_builtin; refine Kd.R_append (Kd.int .i64) (w0 := w) w.heap.size rfl (.tmp 24) (.tmp 27) 28 3 (.int .i64 0) 8 rfl Try.underlying28 info3 rfl (by decide) (by omega) vbb l1 (wrap64 (a2 - 1)) [.int .i64 (wrap64 (a2 - 1))] (fun _ => True) (fun _ => False) rfl rfl ?aP (fun _ hk => hk.elim) ?aF ?aO ?aB ?aS ?aL ?_; (case aP => exact rfl); (case aB => exact (by repeat (first | (with_reducible first | exact HB.out | apply below_alloc | apply pw_below_drewN | apply below_drew1) | exact HB.out))); (case aF => exact (fun _ _ => trivial)); (case aO => exact (by (with_reducible repeat (first | apply Kd.R_alloc | apply Kd.R_drewN | apply Kd.R_drew)); exact HA.out)); (case aS => exact (below_size (by repeat (first | (with_reducible first | exact HB.out | apply below_alloc | apply pw_below_drewN | apply below_drew1) | exact HB.out)))); (case aL => have := HL.out; omega); intro vcb wcb ho hb hg hat; rw [← NY1.out] at ho; have n0_ := Aside0.mk hb; clear HB HA; have HB := n0_; have HA := Aside0.mk ho; clear n0_ ho hb hg hat; obtain ⟨Aqb, cqb, eq_⟩ := Kd.R_slice HA.out; subst eq_) | ((with_reducible refine gate_callee (f := 17) rfl ?_); refine goesL_ (some 33) rfl rfl Try.func17 (by kernel_rfl) rfl #[u0_, .slice Aqb y1.length cqb, .int .i64 (wrap64 (a2 - 1)), .int .i64 a3, .int .i64 a4] rfl (by (try simp only [List.map_toArray, List.map_cons, List.map_nil]); first | done | rfl) ?_; (with_reducible refine (ih (fun k_ => (P k_) ∧ k_ < w.heap.size) w0 _ u0_ l0 Aqb cqb y1 _ _ _ o1 ?hB ?hS ?hP ?hR E1.out).mono ?_); (case hB => exact below_step HB0.out HB.out); (case hS => exact Kd.S_mono (Kd.S_below (Kd.S_bound HS0.out) HB.out) (fun k_ hk => ⟨hk.1, hk.2.2.1⟩)); (case hP => exact fun k_ hk e_ => by have := Kd.R_base HA.out k_ e_.symm; have := hk.2; omega); (case hR => exact Kd.R_tight rfl (Kd.R_lower HA.out (below_size HB0.out))); rintro e wd ⟨vwd, rfl, hS_, hb_, hg_⟩; refine ⟨_, rfl, ?_⟩; have HSwd := Aside0.mk (Kd.S_mono (ok' := fun k_ => P k_ ∨ w.heap.size ≤ k_) hS_ (fun k_ hk => hk.elim (fun h_ => .inl h_.1) (fun h_ => h_.elim (fun e_ => .inr (Kd.R_base HA.out k_ e_.symm)) (fun h2_ => .inr (Nat.le_trans HB.out.size h2_))))); have HBwd := Aside0.mk hb_; have HGwd := Aside0.mk ((spec_l07Grow.Gr.of_below HB.out).trans hg_); have n2_ := Aside0.mk (Kd.R_reads' (Kd.R_grown (Kd.R_below HRow.out HB.out) hg_.g (fun k_ hk e_ => HP0.out k_ (spec_l07Grow.own_ok HS0.out k_ e_.symm) hk))).2.2; clear hS_ hb_ hg_ HB HA HR1; have HR1 := n2_; have HB := Aside0.mk (Below.refl wd.heap.size wd); clear n2_) | ((with_reducible refine gate_dst (N := 39) rfl ?_); refine Kd.R_lit (Kd.int .i64) _ 3 ?hg (N := 39) ?hd (xs := ([] : List Int)) (inner := []) (ok := fun _ => True) (okp := fun _ => True) ?hr ?hp (fun _ hk => hk) trivial (Below.refl _ _) (Nat.le_refl _) (by simp) ?_; (case hd => rfl); (case hg => rfl); (case hr => first | (go_simp; done) | (go_simp; rfl)); (case hp => exact (Reps.none _ _)); intro vae wae ho hb hg_ hnew_; clear hg_ hnew_; have HA := Aside0.mk (Kd.R_lower ho (below_size (by repeat (first | (with_reducible first | exact HB.out | apply below_alloc | apply pw_below_drewN | apply below_drew1) | exact HB.out)))); have n1_ := Aside0.mk (below_step (by repeat (first | (with_reducible first | exact HB.out | apply below_alloc | apply pw_below_drewN | apply below_drew1) | exact HB.out)) hb); clear HB; have HB := n1_; clear n1_ hb ho) | ((with_reducible refine gate_builtin (b := .append) (xs := #[.tmp 39, .tmp 40]) rfl ?_); at_builtin; refine Kd.R_append_rows (Kd.int .i64) (w0 := wd) wd.heap.size rfl (.tmp 39) (.tmp 40) 28 3 (.int .i64 0) 8 rfl Try.underlying28 info3 rfl (by decide) (by omega) vae [] l1 _ _ _ (fun _ => True) (fun _ => False) rfl rfl ?aO ?aR (fun _ _ h => h) (fun _ h => h.elim) ?aF ?aB ?aS ?aL ?_; (case aR => repeat (first | exact (Kd.C_below HR1.out HB.out) | (with_reducible refine Kd.C_alloc ?_ _) | (with_reducible refine Kd.C_drewN ?_ _) | (with_reducible refine Kd.C_drew ?_))); (case aB => exact (by repeat (first | (with_reducible first | exact HB.out | apply below_alloc | apply pw_below_drewN | apply below_drew1) | exact HB.out))); (case aF => exact (fun _ _ => trivial)); (case aO => exact (by (with_reducible repeat (first | apply Kd.R_alloc | apply Kd.R_drewN | apply Kd.R_drew)); exact HA.out)); (case aS => exact (below_size (by repeat (first | (with_reducible first | exact HB.out | apply below_alloc | apply pw_below_drewN | apply below_drew1) | exact HB.out)))); (case aL => have := HL.out; simp; omega); intro vbe wbe ho hb hg hat; rw [List.nil_append] at ho; have n0_ := Aside0.mk hb; clear HB HA; have HB := n0_; have HA := Aside0.mk ho; clear n0_ ho hb hg hat) | ((with_reducible refine gate_builtin (b := .append) (xs := #[.tmp 41, .tmp 44]) rfl ?_); at_builtin; refine Kd.R_append (Kd.int .i64) (w0 := wd) wd.heap.size rfl (.tmp 41) (.tmp 44) 28 3 (.int .i64 0) 8 rfl Try.underlying28 info3 rfl (by decide) (by omega) vbe l1 (wrap64 (a3 + 1)) [.int .i64 (wrap64 (a3 + 1))] (fun _ => True) (fun _ => False) rfl rfl ?aP (fun _ hk => hk.elim) ?aF ?aO ?aB ?aS ?aL ?_; (case aP => exact rfl); (case aB => exact (by repeat (first | (with_reducible first | exact HB.out | apply below_alloc | apply pw_below_drewN | apply below_drew1) | exact HB.out))); (case aF => exact (fun _ _ => trivial)); (case aO => exact (by (with_reducible repeat (first | apply Kd.R_alloc | apply Kd.R_drewN | apply Kd.R_drew)); exact HA.out)); (case aS => exact (below_size (by repeat (first | (with_reducible first | exact HB.out | apply below_alloc | apply pw_below_drewN | apply below_drew1) | exact HB.out)))); (case aL => have := HL.out; omega); intro vce wce ho hb hg hat; rw [← NY2.out] at ho; have n0_ := Aside0.mk hb; clear HB HA; have HB := n0_; have HA := Aside0.mk ho; clear n0_ ho hb hg hat; obtain ⟨Aqe, cqe, eq_⟩ := Kd.R_slice HA.out; subst eq_) | ((with_reducible refine gate_callee (f := 17) rfl ?_); refine goesL_ (some 50) rfl rfl Try.func17 (by kernel_rfl) rfl #[vwd, .slice Aqe y2.length cqe, .int .i64 a2, .int .i64 (wrap64 (a3 + 1)), .int .i64 a4] rfl (by (try simp only [List.map_toArray, List.map_cons, List.map_nil]); first | done | rfl) ?_; (with_reducible refine (ih (fun k_ => (P k_ ∨ w.heap.size ≤ k_) ∧ k_ < wd.heap.size) w0 _ vwd o1 Aqe cqe y2 _ _ _ r ?hB ?hS ?hP ?hR E2.out).mono ?_); (case hB => exact below_step HBwd.out HB.out); (case hS => exact Kd.S_mono (Kd.S_below (Kd.S_bound HSwd.out) HB.out) (fun k_ hk => ⟨hk.1, hk.2.2.1⟩)); (case hP => exact fun k_ hk e_ => by have := Kd.R_base HA.out k_ e_.symm; have := hk.2; omega); (case hR => exact Kd.R_tight rfl (Kd.R_lower HA.out (below_size HBwd.out))); rintro e we ⟨vwe, rfl, hS_, hb_, hg_⟩; refine ⟨_, rfl, ?_⟩; have HSwe := Aside0.mk (Kd.S_mono (ok' := fun k_ => P k_ ∨ some k_ = (Value.slice A1 l1.length c1).ownBlock ∨ w.heap.size ≤ k_) hS_ (fun k_ hk => hk.elim (fun h_ => h_.1.elim .inl (fun h3_ => .inr (.inr h3_))) (fun h_ => h_.elim (fun e_ => .inr (.inr (Nat.le_trans HGwd.out.g.size (Kd.R_base HA.out k_ e_.symm)))) (fun h2_ => .inr (.inr (Nat.le_trans (Nat.le_trans HGwd.out.g.size HB.out.size) h2_)))))); have HBwe := Aside0.mk hb_; have HGwe := Aside0.mk ((HGwd.out.trans (spec_l07Grow.Gr.of_below HB.out)).trans hg_); clear hS_ hb_ hg_ HB HA))
          go_ret
          exact ⟨_, rfl, HSwe.out, HBwe.out, HGwe.out⟩
        · rw [if_neg c5_] at h
          obtain rfl := Option.some.inj h
          have g5 : decide (a3 < wrap64 (a4 - 1)) = false := decide_eq_false c5_
          clear h c5_
          go_enter Try.func17, Try.ntmps17
          go_wp2_with (first | ((with_reducible refine gate_dst (N := 22) rfl ?_); refine Kd.R_lit (Kd.int .i64) _ 3 ?hg (N := 22) ?hd (xs := ([] : List Int)) (inner := []) (ok := fun _ => True) (okp := fun _ => True) ?hr ?hp (fun _ hk => hk) trivial (Below.refl _ _) (Nat.le_refl _) (by simp) ?_; (case hd => rfl); (case hg => rfl); (case hr => first | (go_simp; done) | (go_simp; rfl)); (case hp => exact (Reps.none _ _)); intro vac wac ho hb hg_ hnew_; clear hg_ hnew_; have HA := Aside0.mk (Kd.R_lower ho (below_size (by repeat (first | (with_reducible first | exact HB.out | apply below_alloc | apply pw_below_drewN | apply below_drew1) | exact HB.out)))); have n1_ := Aside0.mk (below_step (by repeat (first | (with_reducible first | exact HB.out | apply below_alloc | apply pw_below_drewN | apply below_drew1) | exact HB.out)) hb); clear HB; have HB := n1_; clear n1_ hb ho) | ((with_reducible refine gate_builtin (b := .append) (xs := #[.tmp 22, .tmp 23]) rfl ?_); at_builtin; refine Kd.R_append_rows (Kd.int .i64) (w0 := w) w.heap.size rfl (.tmp 22) (.tmp 23) 28 3 (.int .i64 0) 8 rfl Try.underlying28 info3 rfl (by decide) (by omega) vac [] l1 _ _ _ (fun _ => True) (fun _ => False) rfl rfl ?aO ?aR (fun _ _ h => h) (fun _ h => h.elim) ?aF ?aB ?aS ?aL ?_; (case aR => repeat (first | exact (Kd.C_below HR1.out HB.out) | (with_reducible refine Kd.C_alloc ?_ _) | (with_reducible refine Kd.C_drewN ?_ _) | (with_reducible refine Kd.C_drew ?_))); (case aB => exact (by repeat (first | (with_reducible first | exact HB.out | apply below_alloc | apply pw_below_drewN | apply below_drew1) | exact HB.out))); (case aF => exact (fun _ _ => trivial)); (case aO => exact (by (with_reducible repeat (first | apply Kd.R_alloc | apply Kd.R_drewN | apply Kd.R_drew)); exact HA.out)); (case aS => exact (below_size (by repeat (first | (with_reducible first | exact HB.out | apply below_alloc | apply pw_below_drewN | apply below_drew1) | exact HB.out)))); (case aL => have := HL.out; simp; omega); intro vbc wbc ho hb hg hat; rw [List.nil_append] at ho; have n0_ := Aside0.mk hb; clear HB HA; have HB := n0_; have HA := Aside0.mk ho; clear n0_ ho hb hg hat) | ((with_reducible refine gate_builtin (b := .append) (xs := #[.tmp 24, .tmp 27]) rfl ?_); at_builtin; refine Kd.R_append (Kd.int .i64) (w0 := w) w.heap.size rfl (.tmp 24) (.tmp 27) 28 3 (.int .i64 0) 8 rfl Try.underlying28 info3 rfl (by decide) (by omega) vbc l1 (wrap64 (a2 - 1)) [.int .i64 (wrap64 (a2 - 1))] (fun _ => True) (fun _ => False) rfl rfl ?aP (fun _ hk => hk.elim) ?aF ?aO ?aB ?aS ?aL ?_; (case aP => exact rfl); (case aB => exact (by repeat (first | (with_reducible first | exact HB.out | apply below_alloc | apply pw_below_drewN | apply below_drew1) | exact HB.out))); (case aF => exact (fun _ _ => trivial)); (case aO => exact (by (with_reducible repeat (first | apply Kd.R_alloc | apply Kd.R_drewN | apply Kd.R_drew)); exact HA.out)); (case aS => exact (below_size (by repeat (first | (with_reducible first | exact HB.out | apply below_alloc | apply pw_below_drewN | apply below_drew1) | exact HB.out)))); (case aL => have := HL.out; omega); intro vcc wcc ho hb hg hat; rw [← NY1.out] at ho; have n0_ := Aside0.mk hb; clear HB HA; have HB := n0_; have HA := Aside0.mk ho; clear n0_ ho hb hg hat; obtain ⟨Aqc, cqc, eq_⟩ := Kd.R_slice HA.out; subst eq_) | ((with_reducible refine gate_callee (f := 17) rfl ?_); refine goesL_ (some 33) rfl rfl Try.func17 (by kernel_rfl) rfl #[u0_, .slice Aqc y1.length cqc, .int .i64 (wrap64 (a2 - 1)), .int .i64 a3, .int .i64 a4] rfl (by (try simp only [List.map_toArray, List.map_cons, List.map_nil]); first | done | rfl) ?_; (with_reducible refine (ih (fun k_ => (P k_) ∧ k_ < w.heap.size) w0 _ u0_ l0 Aqc cqc y1 _ _ _ o1 ?hB ?hS ?hP ?hR E1.out).mono ?_); (case hB => exact below_step HB0.out HB.out); (case hS => exact Kd.S_mono (Kd.S_below (Kd.S_bound HS0.out) HB.out) (fun k_ hk => ⟨hk.1, hk.2.2.1⟩)); (case hP => exact fun k_ hk e_ => by have := Kd.R_base HA.out k_ e_.symm; have := hk.2; omega); (case hR => exact Kd.R_tight rfl (Kd.R_lower HA.out (below_size HB0.out))); rintro e wd ⟨vwd, rfl, hS_, hb_, hg_⟩; refine ⟨_, rfl, ?_⟩; have HSwd := Aside0.mk (Kd.S_mono (ok' := fun k_ => P k_ ∨ w.heap.size ≤ k_) hS_ (fun k_ hk => hk.elim (fun h_ => .inl h_.1) (fun h_ => h_.elim (fun e_ => .inr (Kd.R_base HA.out k_ e_.symm)) (fun h2_ => .inr (Nat.le_trans HB.out.size h2_))))); have HBwd := Aside0.mk hb_; have HGwd := Aside0.mk ((spec_l07Grow.Gr.of_below HB.out).trans hg_); have n2_ := Aside0.mk (Kd.R_reads' (Kd.R_grown (Kd.R_below HRow.out HB.out) hg_.g (fun k_ hk e_ => HP0.out k_ (spec_l07Grow.own_ok HS0.out k_ e_.symm) hk))).2.2; clear hS_ hb_ hg_ HB HA HR1; have HR1 := n2_; have HB := Aside0.mk (Below.refl wd.heap.size wd); clear n2_))
          go_ret
          exact ⟨_, rfl, Kd.S_mono HSwd.out (fun k_ hk => hk.elim .inl (fun h_ => .inr (.inr h_))), HBwd.out, HGwd.out⟩
      · rw [if_neg c4_] at E1_
        obtain rfl := Option.some.inj E1_
        have g4 : decide (0 < a2) = false := decide_eq_false c4_
        clear E1_ c4_
        by_cases c5_ : a3 < wrap64 (a4 - 1)
        · rw [if_pos c5_] at h
          have E2 := Aside0.mk h
          have g5 : decide (a3 < wrap64 (a4 - 1)) = true := decide_eq_true c5_
          clear h c5_
          go_enter Try.func17, Try.ntmps17
          go_wp2_with (first | ((with_reducible refine gate_dst (N := 39) rfl ?_); refine Kd.R_lit (Kd.int .i64) _ 3 ?hg (N := 39) ?hd (xs := ([] : List Int)) (inner := []) (ok := fun _ => True) (okp := fun _ => True) ?hr ?hp (fun _ hk => hk) trivial (Below.refl _ _) (Nat.le_refl _) (by simp) ?_; (case hd => rfl); (case hg => rfl); (case hr => first | (go_simp; done) | (go_simp; rfl)); (case hp => exact (Reps.none _ _)); intro vaf waf ho hb hg_ hnew_; clear hg_ hnew_; have HA := Aside0.mk (Kd.R_lower ho (below_size (by repeat (first | (with_reducible first | exact HB.out | apply below_alloc | apply pw_below_drewN | apply below_drew1) | exact HB.out)))); have n1_ := Aside0.mk (below_step (by repeat (first | (with_reducible first | exact HB.out | apply below_alloc | apply pw_below_drewN | apply below_drew1) | exact HB.out)) hb); clear HB; have HB := n1_; clear n1_ hb ho) | ((with_reducible refine gate_builtin (b := .append) (xs := #[.tmp 39, .tmp 40]) rfl ?_); at_builtin; refine Kd.R_append_rows (Kd.int .i64) (w0 := w) w.heap.size rfl (.tmp 39) (.tmp 40) 28 3 (.int .i64 0) 8 rfl Try.underlying28 info3 rfl (by decide) (by omega) vaf [] l1 _ _ _ (fun _ => True) (fun _ => False) rfl rfl ?aO ?aR (fun _ _ h => h) (fun _ h => h.elim) ?aF ?aB ?aS ?aL ?_; (case aR => repeat (first | exact (Kd.C_below HR1.out HB.out) | (with_reducible refine Kd.C_alloc ?_ _) | (with_reducible refine Kd.C_drewN ?_ _) | (with_reducible refine Kd.C_drew ?_))); (case aB => exact (by repeat (first | (with_reducible first | exact HB.out | apply below_alloc | apply pw_below_drewN | apply below_drew1) | exact HB.out))); (case aF => exact (fun _ _ => trivial)); (case aO => exact (by (with_reducible repeat (first | apply Kd.R_alloc | apply Kd.R_drewN | apply Kd.R_drew)); exact HA.out)); (case aS => exact (below_size (by repeat (first | (with_reducible first | exact HB.out | apply below_alloc | apply pw_below_drewN | apply below_drew1) | exact HB.out)))); (case aL => have := HL.out; simp; omega); intro vbf wbf ho hb hg hat; rw [List.nil_append] at ho; have n0_ := Aside0.mk hb; clear HB HA; have HB := n0_; have HA := Aside0.mk ho; clear n0_ ho hb hg hat) | ((with_reducible refine gate_builtin (b := .append) (xs := #[.tmp 41, .tmp 44]) rfl ?_); at_builtin; refine Kd.R_append (Kd.int .i64) (w0 := w) w.heap.size rfl (.tmp 41) (.tmp 44) 28 3 (.int .i64 0) 8 rfl Try.underlying28 info3 rfl (by decide) (by omega) vbf l1 (wrap64 (a3 + 1)) [.int .i64 (wrap64 (a3 + 1))] (fun _ => True) (fun _ => False) rfl rfl ?aP (fun _ hk => hk.elim) ?aF ?aO ?aB ?aS ?aL ?_; (case aP => exact rfl); (case aB => exact (by repeat (first | (with_reducible first | exact HB.out | apply below_alloc | apply pw_below_drewN | apply below_drew1) | exact HB.out))); (case aF => exact (fun _ _ => trivial)); (case aO => exact (by (with_reducible repeat (first | apply Kd.R_alloc | apply Kd.R_drewN | apply Kd.R_drew)); exact HA.out)); (case aS => exact (below_size (by repeat (first | (with_reducible first | exact HB.out | apply below_alloc | apply pw_below_drewN | apply below_drew1) | exact HB.out)))); (case aL => have := HL.out; omega); intro vcf wcf ho hb hg hat; rw [← NY2.out] at ho; have n0_ := Aside0.mk hb; clear HB HA; have HB := n0_; have HA := Aside0.mk ho; clear n0_ ho hb hg hat; obtain ⟨Aqf, cqf, eq_⟩ := Kd.R_slice HA.out; subst eq_) | ((with_reducible refine gate_callee (f := 17) rfl ?_); refine goesL_ (some 50) rfl rfl Try.func17 (by kernel_rfl) rfl #[u0_, .slice Aqf y2.length cqf, .int .i64 a2, .int .i64 (wrap64 (a3 + 1)), .int .i64 a4] rfl (by (try simp only [List.map_toArray, List.map_cons, List.map_nil]); first | done | rfl) ?_; (with_reducible refine (ih (fun k_ => (P k_) ∧ k_ < w.heap.size) w0 _ u0_ l0 Aqf cqf y2 _ _ _ r ?hB ?hS ?hP ?hR E2.out).mono ?_); (case hB => exact below_step HB0.out HB.out); (case hS => exact Kd.S_mono (Kd.S_below (Kd.S_bound HS0.out) HB.out) (fun k_ hk => ⟨hk.1, hk.2.2.1⟩)); (case hP => exact fun k_ hk e_ => by have := Kd.R_base HA.out k_ e_.symm; have := hk.2; omega); (case hR => exact Kd.R_tight rfl (Kd.R_lower HA.out (below_size HB0.out))); rintro e we ⟨vwe, rfl, hS_, hb_, hg_⟩; refine ⟨_, rfl, ?_⟩; have HSwe := Aside0.mk (Kd.S_mono (ok' := fun k_ => P k_ ∨ some k_ = (Value.slice A1 l1.length c1).ownBlock ∨ w.heap.size ≤ k_) hS_ (fun k_ hk => hk.elim (fun h_ => .inl h_.1) (fun h_ => h_.elim (fun e_ => .inr (.inr (Kd.R_base HA.out k_ e_.symm))) (fun h2_ => .inr (.inr (Nat.le_trans HB.out.size h2_)))))); have HBwe := Aside0.mk hb_; have HGwe := Aside0.mk ((spec_l07Grow.Gr.of_below HB.out).trans hg_); clear hS_ hb_ hg_ HB HA))
          go_ret
          exact ⟨_, rfl, HSwe.out, HBwe.out, HGwe.out⟩
        · rw [if_neg c5_] at h
          obtain rfl := Option.some.inj h
          have g5 : decide (a3 < wrap64 (a4 - 1)) = false := decide_eq_false c5_
          clear h c5_
          go_enter Try.func17, Try.ntmps17
          go_wp2
          go_ret
          exact ⟨_, rfl, Kd.S_mono HS0.out (fun k_ hk => .inl hk), HB0.out, spec_l07Grow.Gr.of_below (Below.refl _ _)⟩
    · rw [if_neg c3_] at h
      cases h

/-! ### spec_GilbreathsOf: function 5 -/
def spec_GilbreathsOf.l0 : Nat → Int → List (List Int) → Int → Option ((List (List Int)))
  | 0, _, _, _ => none
  | k + 1, x0, x3, x4 => if x4 < x0 then ((spec_l07Grow.f k x3 [x4] x4 x4 x0).bind fun o_ => (spec_GilbreathsOf.l0 k x0 o_ (wrap64 (x4 + 1)))) else (some x3)
def spec_GilbreathsOf.f (k : Nat) (a0 : Int) : Option ((List (List Int))) := (spec_l01In.f a0 1 12).bind fun t101 => (if t101 = true then (spec_GilbreathsOf.l0 k a0 (([] : List (List Int))) 0) else (some ([] : List (List Int))))
theorem spec_GilbreathsOf.mono_l : ∀ k, (∀ y0 y1 y2, LeO (spec_GilbreathsOf.l0 k y0 y1 y2) (spec_GilbreathsOf.l0 (k + 1) y0 y1 y2))
  | 0 => fun _ _ _ r h => by simp [spec_GilbreathsOf.l0] at h
  | k + 1 => by
    have ih0 := spec_GilbreathsOf.mono_l k
    · intro y0 y1 y2
      unfold spec_GilbreathsOf.l0
      repeat' first
      | (with_reducible exact ih0 _ _ _)
      | (with_reducible exact spec_l07Grow.mono _ _ _ _ _ _)
      | (with_reducible exact LeO.refl _)
      | (with_reducible exact LeO.none _)
      | (with_reducible refine LeO.ite ?_ ?_)
      | (with_reducible refine LeO.bind ?_ (fun _ => ?_))
      | exact ih0 _ _ _
      | exact LeO.none _
      | refine LeO.ite ?_ ?_
      | refine LeO.bind ?_ (fun _ => ?_)
theorem spec_GilbreathsOf.mono : ∀ a0 k, LeO (spec_GilbreathsOf.f k a0) (spec_GilbreathsOf.f (k + 1) a0) := by
  intro a0 k
  have ih0 := spec_GilbreathsOf.mono_l k
  unfold spec_GilbreathsOf.f
  repeat' first
      | (with_reducible exact ih0 _ _ _)
      | (with_reducible exact spec_l07Grow.mono _ _ _ _ _ _)
      | (with_reducible exact LeO.refl _)
      | (with_reducible exact LeO.none _)
      | (with_reducible refine LeO.ite ?_ ?_)
      | (with_reducible refine LeO.bind ?_ (fun _ => ?_))
      | exact ih0 _ _ _
      | exact LeO.none _
      | refine LeO.ite ?_ ?_
      | refine LeO.bind ?_ (fun _ => ?_)
set_option maxHeartbeats 8000000 in
set_option maxRecDepth 100000 in
theorem spec_GilbreathsOf.calls (k : Nat) (a0 : Int) (r : List (List Int)) (w : World) (h : spec_GilbreathsOf.f k a0 = some r) :
    Calls Try.prog 5 #[.int .i64 a0] w fun e w' => ∃ v0_ : Value, e = .returned (v0_) ∧ Kd.S (Kd.slice 3 (Kd.int .i64)) 28 w' w.heap.size (fun _ => True) v0_ r ∧ Below w.heap.size w w' := by
  have HB := Aside0.mk (Below.refl w.heap.size w)
  have H : ((spec_l01In.f a0 1 12).bind fun t101 => (if t101 = true then (spec_GilbreathsOf.l0 k a0 (([] : List (List Int))) 0) else (some ([] : List (List Int))))) = some r := h
  clear h
  replace H := Option.bind_eq_some_iff.mp H
  obtain ⟨t101, A20, H⟩ := H
  replace H : (if t101 = true then (spec_GilbreathsOf.l0 k a0 (([] : List (List Int))) 0) else (some ([] : List (List Int)))) = some r := H
  have A2 := Aside0.mk A20
  clear A20
  by_cases c3 : t101 = true
  · subst c3
    rw [if_pos rfl] at H
    obtain ⟨y102, hy102⟩ : ∃ y_ : List (List Int), y_ = (([] : List (List Int))) := ⟨_, rfl⟩
    replace H : (spec_GilbreathsOf.l0 k a0 y102 0) = some r := by first | (rw [hy102]; with_reducible exact H) | (have H2_ := (Option.bind_some _ _).symm.trans H; rw [hy102]; with_reducible exact H2_) | (have H2_ := (Option.bind_some _ _).symm.trans H; with_reducible exact H2_) | with_reducible exact H | (rw [hy102]; exact H) | exact H
    have Ny102 := Aside0.mk hy102
    clear hy102
    have H' := Aside0.mk H
    clear H
    go_enter Try.func5, Try.ntmps5
    go_wp2_with (first | ((with_reducible refine gate_callee (f := 16) rfl ?_); refine goesL_ (some 6) rfl rfl Try.func16 (by kernel_rfl) rfl #[.int .i64 a0, .int .i64 1, .int .i64 12] rfl (by (try simp only [List.map_toArray, List.map_cons, List.map_nil]); first | done | rfl | (simp only [List.length_drop, List.length_take]; rfl)) ?_; (with_reducible refine (spec_l01In.calls a0 1 12 true _ A2.out).mono ?_); rintro e w' ⟨rfl, ⟨nd, rfl⟩⟩; refine ⟨_, rfl, ?_⟩) | ((with_reducible refine gate_dst (N := 8) rfl ?_); refine Kd.S_lit (Kd.slice 3 (Kd.int .i64)) _ 28 ?hg (N := 8) ?hd (xs := ([] : List (List Int))) (inner := []) (ok := fun _ => True) (okp := fun _ => True) ?hr ?hp (fun _ hk => hk) trivial (Below.refl _ _) (Nat.le_refl _) (by simp) ?_; (case hd => rfl); (case hg => rfl); (case hr => first | (go_simp; done) | (go_simp; rfl)); (case hp => exact (Reps.none _ _)); intro v103 w4 ho5 hb hg_ hnew_; clear hg_ hnew_; (first | rw [← Ny102.out] at ho5 | (simp only [Int.reduceToNat] at ho5; rw [← Ny102.out] at ho5)); have n0_ := Aside0.mk (Kd.S_lower ho5 (below_size (by repeat (first | (with_reducible first | exact HB.out | apply below_alloc | apply pw_below_drewN | apply below_drew1) | exact HB.out)))); have n1_ := Aside0.mk (below_step (by repeat (first | (with_reducible first | exact HB.out | apply below_alloc | apply pw_below_drewN | apply below_drew1) | exact HB.out)) hb); clear HB; have HO104 := n0_; have HB := n1_; clear n0_ n1_; clear hb ho5))
    go_loopg [3, 4] k (fun kq v3 v4 w' => ∃ (x3_1 : List (List Int)) (x4_1 : Int), v4 = .int .i64 x4_1 ∧ Aside0 (spec_GilbreathsOf.l0 kq a0 x3_1 x4_1 = some r) ∧ Aside0 (kq ≤ k) ∧ Aside0 (Kd.S (Kd.slice 3 (Kd.int .i64)) 28 w' w.heap.size (fun _ => True) v3 x3_1) ∧ Aside0 (Below w.heap.size w w'))
    case atStart => exact ⟨(y102), (0), (by first | rfl | (simp; done) | (simp [*]; done)), H', ⟨Nat.le_refl _⟩, ⟨by (with_reducible repeat (first | apply Kd.S_alloc | apply Kd.S_drewN | apply Kd.S_drew)); exact HO104.out⟩, ⟨by repeat (first | (with_reducible first | exact HB.out | apply below_alloc | apply pw_below_drewN | apply below_drew1) | exact HB.out)⟩⟩
    case round =>
      clear H'
      try clear c1
      try clear p2
      try clear c3
      try clear c5
      obtain ⟨x3_1, x4_1, rfl, HA, HK1, HO_3, HB⟩ := hrel
      cases gk with
      | zero => exact absurd HA.out (by simp [spec_GilbreathsOf.l0])
      | succ k1 =>
        have H := HA.out
        clear HA
        simp only [spec_GilbreathsOf.l0] at H
        by_cases c6 : x4_1 < a0
        · rw [if_pos c6] at H
          have c6b0 : decide (x4_1 < a0) = true := decide_eq_true c6
          clear c6
          obtain ⟨y105, hy105⟩ : ∃ y_ : List Int, y_ = (([x4_1] : List Int)) := ⟨_, rfl⟩
          replace H : ((spec_l07Grow.f k1 x3_1 [x4_1] x4_1 x4_1 a0).bind fun o_ => (spec_GilbreathsOf.l0 k1 a0 o_ (wrap64 (x4_1 + 1)))) = some r := by first | (rw [hy105]; with_reducible exact H) | (have H2_ := (Option.bind_some _ _).symm.trans H; rw [hy105]; with_reducible exact H2_) | (have H2_ := (Option.bind_some _ _).symm.trans H; with_reducible exact H2_) | with_reducible exact H | (rw [hy105]; exact H) | exact H
          have Ny105 := Aside0.mk hy105
          clear hy105
          obtain ⟨o3_, E3_, H⟩ := Option.bind_eq_some_iff.mp H
          have E3 := Aside0.mk E3_
          clear E3_
          have H' := Aside0.mk H
          clear H
          go_wp2_with (first | ((with_reducible refine gate_dst (N := 16) rfl ?_); refine Kd.R_lit (Kd.int .i64) _ 3 ?hg (N := 16) ?hd (xs := ([x4_1] : List Int)) (inner := [.int .i64 x4_1]) (ok := fun _ => True) (okp := fun _ => True) ?hr ?hp (fun _ hk => hk) trivial (Below.refl _ _) (Nat.le_refl _) (by simp) ?_; (case hd => rfl); (case hg => rfl); (case hr => first | (go_simp; done) | (go_simp; rfl)); (case hp => exact (Reps.one (show Kd.M (Kd.int .i64) _ _ _ x4_1 [.int .i64 x4_1] from rfl) (Reps.none _ _))); intro v106 w7 ho8 hb hg_ hnew_; clear hg_ hnew_; (first | rw [← Ny105.out] at ho8 | (simp only [Int.reduceToNat] at ho8; rw [← Ny105.out] at ho8)); have n0_ := Aside0.mk (Kd.S_elder' (by (with_reducible repeat (first | apply Kd.S_alloc | apply Kd.S_drewN | apply Kd.S_drew)); exact HO_3.out) (Kd.R_base ho8) hb); have n1_ := Aside0.mk (Kd.R_lower ho8 (below_size (by repeat (first | (with_reducible first | exact HB.out | apply below_alloc | apply pw_below_drewN | apply below_drew1) | exact HB.out)))); have n2_ := Aside0.mk (below_step (by repeat (first | (with_reducible first | exact HB.out | apply below_alloc | apply pw_below_drewN | apply below_drew1) | exact HB.out)) hb); clear HO_3; clear HB; have HO_3 := n0_; have HO107 := n1_; have HB := n2_; clear n0_ n1_ n2_; clear hb ho8; obtain ⟨Ad_, cd_, ed_⟩ := Kd.R_slice HO107.out; subst ed_) | ((with_reducible refine gate_callee (f := 17) rfl ?_); refine goesL_ (some 20) rfl rfl Try.func17 (by kernel_rfl) rfl #[u3, .slice Ad_ y105.length cd_, .int .i64 x4_1, .int .i64 x4_1, .int .i64 a0] rfl (by (try simp only [List.map_toArray, List.map_cons, List.map_nil]); first | done | rfl) ?_; (with_reducible refine (spec_l07Grow.calls k1 (fun k_ => some k_ ≠ (Value.slice Ad_ y105.length cd_).ownBlock) w _ u3 x3_1 Ad_ cd_ y105 x4_1 x4_1 a0 o3_ HB.out (Kd.S_mono HO_3.out (fun _ hk => hk.2)) (fun _ hk => hk) (Kd.R_tight rfl HO107.out) (by rw [Ny105.out]; exact E3.out)).mono ?_); rintro e w9 ⟨v9, rfl, hS_, hb_, hg_⟩; refine ⟨_, rfl, ?_⟩; have HS9 := Aside0.mk (Kd.S_mono (ok' := fun _ => True) hS_ (fun _ _ => trivial)); clear HO_3 HB HO107; have HO_3 := HS9; have HB := Aside0.mk hb_; clear HS9 hb_ hg_ hS_))
          go_roundg k1
          case measure => have := HK1.out; omega
          case rel => exact ⟨o3_, (wrap64 (x4_1 + 1)), (by first | rfl | (simp; done) | (simp [*]; done)), H', ⟨by have := HK1.out; omega⟩, ⟨by (with_reducible repeat (first | apply Kd.S_alloc | apply Kd.S_drewN | apply Kd.S_drew)); exact Kd.S_mono HO_3.out (fun _ hk => trivial)⟩, ⟨by repeat (first | (with_reducible first | exact HB.out | apply below_alloc | apply pw_below_drewN | apply below_drew1) | exact HB.out)⟩⟩
        · rw [if_neg c6] at H
          have c6b0 : decide (x4_1 < a0) = false := decide_eq_false c6
          clear c6
          obtain rfl := Option.some.inj H
          go_wp2
          go_ret
          exact ⟨_, by first | rfl | (simp [errW_none, errW_some] <;> rfl) | (simp [*, errW_none, errW_some] <;> rfl), by (with_reducible repeat (first | apply Kd.S_alloc | apply Kd.S_drewN | apply Kd.S_drew)); exact HO_3.out, by repeat (first | (with_reducible first | exact HB.out | apply below_alloc | apply pw_below_drewN | apply below_drew1) | exact HB.out)⟩
  · replace c3 := Bool.eq_false_iff.mpr c3
    subst c3
    rw [if_neg (show ¬ (false = true) by decide)] at H
    obtain rfl := Option.some.inj H
    go_enter Try.func5, Try.ntmps5
    go_wp2_with (first | ((with_reducible refine gate_callee (f := 16) rfl ?_); refine goesL_ (some 6) rfl rfl Try.func16 (by kernel_rfl) rfl #[.int .i64 a0, .int .i64 1, .int .i64 12] rfl (by (try simp only [List.map_toArray, List.map_cons, List.map_nil]); first | done | rfl | (simp only [List.length_drop, List.length_take]; rfl)) ?_; (with_reducible refine (spec_l01In.calls a0 1 12 false _ A2.out).mono ?_); rintro e w' ⟨rfl, ⟨nd, rfl⟩⟩; refine ⟨_, rfl, ?_⟩))
    go_ret
    exact ⟨_, by first | rfl | (simp [errW_none, errW_some] <;> rfl) | (simp [*, errW_none, errW_some] <;> rfl), by first | exact Kd.S_nil _ _ _ _ _ | exact Kd.N_nil _ _ _ _ _ | exact Kd.V_nil _ _ _ _ _ | exact Kd.Q_nil _ _ _ _ _ | exact Kd.R_nil _ _ _ _ _, by repeat (first | (with_reducible first | exact HB.out | apply below_alloc | apply pw_below_drewN | apply below_drew1) | exact HB.out)⟩

/-- A state of type 47 at block g of W; what its slices lead to came in by w0. -/
def IsS47 (w0 W : World) (g : Nat) (f0 : List Int) (f1 : Int) (f2 : Int) : Prop := ∃ A0 c0, W.heap[g]? = some (.cells #[.slice A0 f0.length c0, .int .i64 f1, .int .i64 f2] 47 (0, 0)) ∧ w0.heap.size ≤ g ∧ Kd.C (Kd.int .u8) w0 A0 f0.length f0
theorem IsS47.grown {w0 W : World} {g : Nat} {f0 : List Int} {f1 : Int} {f2 : Int} {W1 : World} {row : Option Nat} (h : IsS47 w0 W g f0 f1 f2) (hw : W.grownBy W1 row) (hne : some g ≠ row) : IsS47 w0 W1 g f0 f1 f2 := by
  obtain ⟨A0, c0, hb, hg, hr0⟩ := h
  exact ⟨A0, c0, blk_grown hb hw hne, hg, hr0⟩
theorem IsS47.own_neN {w0 W : World} {g : Nat} {f0 : List Int} {f1 : Int} {f2 : Int} {α : Type} {d : Kd α} {e : Nat} {base : Nat} {ok : Nat → Prop} {v : Value} {xs : List α} (h : IsS47 w0 W g f0 f1 f2) (ho : Kd.N d e W base ok v xs) (ht : e ≠ 47) : some g ≠ v.ownBlock := by
  obtain ⟨A0, c0, hb, hg, hr0⟩ := h
  exact Kd.N_ne ho hb ht
theorem IsS47.fresh {w0 W : World} {g : Nat} {f0 : List Int} {f1 : Int} {f2 : Int} (h : IsS47 w0 W g f0 f1 f2) : ∀ k, W.heap.size ≤ k → k ≠ g := by
  obtain ⟨A0, c0, hb, hg, hr0⟩ := h
  exact Kd.freshB hb
theorem IsS47.kept {w0 W : World} {g : Nat} {f0 : List Int} {f1 : Int} {f2 : Int} {W1 : World} {S : Nat → Prop} (h : IsS47 w0 W g f0 f1 f2) (hk : Kept W W1 S) (hne : ¬ S g) : IsS47 w0 W1 g f0 f1 f2 := by
  obtain ⟨A0, c0, hb, hg, hr0⟩ := h
  exact ⟨A0, c0, blk_kept hb hk hne, hg, hr0⟩
theorem IsS47.below {w0 W : World} {g : Nat} {f0 : List Int} {f1 : Int} {f2 : Int} {W1 : World} (h : IsS47 w0 W g f0 f1 f2) (hw : Below W.heap.size W W1) : IsS47 w0 W1 g f0 f1 f2 := h.grown (grown_of_below hw none) (by simp)
theorem IsS47.alloc {w0 W : World} {g : Nat} {f0 : List Int} {f1 : Int} {f2 : Int} (h : IsS47 w0 W g f0 f1 f2) (o : Obj) : IsS47 w0 (W.alloc o) g f0 f1 f2 := h.below (below_alloc (Below.refl _ _) o)
theorem IsS47.drewN {w0 W : World} {g : Nat} {f0 : List Int} {f1 : Int} {f2 : Int} (h : IsS47 w0 W g f0 f1 f2) (m : Nat) : IsS47 w0 (W.drewN m) g f0 f1 f2 := h
theorem IsS47.drew {w0 W : World} {g : Nat} {f0 : List Int} {f1 : Int} {f2 : Int} (h : IsS47 w0 W g f0 f1 f2) : IsS47 w0 W.drew g f0 f1 f2 := h
theorem IsS47.at_ {w0 W : World} {g : Nat} {f0 : List Int} {f1 : Int} {f2 : Int} {w' : World} {m : Nat} (hq : W.drewN m = w') (h : IsS47 w0 W g f0 f1 f2) : IsS47 w0 w' g f0 f1 f2 := by subst hq; exact IsS47.drewN h m
theorem IsS47.apart {w0 W : World} {g : Nat} {f0 : List Int} {f1 : Int} {f2 : Int} {α : Type} {d : Kd α} {e : Nat} {base : Nat} {ok : Nat → Prop} {v : Value} {xs : List α} (h : IsS47 w0 W g f0 f1 f2) (ho : d.R e W base ok v xs) (ht : ∀ q, q ∈ e :: d.E → q ≠ 47) : d.R e W base (fun k => ok k ∧ k ≠ g) v xs := by
  obtain ⟨A0, c0, hb, hg, hr0⟩ := h
  exact Kd.R_types ho hb ht
theorem IsS47.own_ne {w0 W : World} {g : Nat} {f0 : List Int} {f1 : Int} {f2 : Int} {α : Type} {d : Kd α} {e : Nat} {base : Nat} {ok : Nat → Prop} {v : Value} {xs : List α} (h : IsS47 w0 W g f0 f1 f2) (ho : d.R e W base ok v xs) (ht : e ≠ 47) : some g ≠ v.ownBlock := by
  obtain ⟨A0, c0, hb, hg, hr0⟩ := h
  exact Kd.R_ne ho hb ht
theorem IsS47.apartQ {w0 W : World} {g : Nat} {f0 : List Int} {f1 : Int} {f2 : Int} {α : Type} {d : Kd α} {e : Nat} {base : Nat} {ok : Nat → Prop} {v : Value} {xs : List α} (h : IsS47 w0 W g f0 f1 f2) (ho : d.Q e W base ok v xs) (ht : ∀ q, q ∈ e :: d.E → q ≠ 47) : d.Q e W base (fun k => ok k ∧ k ≠ g) v xs := by
  obtain ⟨A0, c0, hb, hg, hr0⟩ := h
  exact Kd.Q_types ho hb ht
theorem IsS47.own_neQ {w0 W : World} {g : Nat} {f0 : List Int} {f1 : Int} {f2 : Int} {α : Type} {d : Kd α} {e : Nat} {base : Nat} {ok : Nat → Prop} {v : Value} {xs : List α} (h : IsS47 w0 W g f0 f1 f2) (ho : d.Q e W base ok v xs) (ht : e ≠ 47) : some g ≠ v.ownBlock := by
  obtain ⟨A0, c0, hb, hg, hr0⟩ := h
  exact Kd.Q_ne ho hb ht
theorem IsS47.apartS {w0 W : World} {g : Nat} {f0 : List Int} {f1 : Int} {f2 : Int} {α : Type} {d : Kd α} {e : Nat} {base : Nat} {ok : Nat → Prop} {v : Value} {xs : List α} (h : IsS47 w0 W g f0 f1 f2) (ho : d.S e W base ok v xs) (ht : ∀ q, q ∈ e :: d.E → q ≠ 47) : d.S e W base (fun k => ok k ∧ k ≠ g) v xs := by
  obtain ⟨A0, c0, hb, hg, hr0⟩ := h
  exact Kd.S_types ho hb ht
theorem IsS47.own_neS {w0 W : World} {g : Nat} {f0 : List Int} {f1 : Int} {f2 : Int} {α : Type} {d : Kd α} {e : Nat} {base : Nat} {ok : Nat → Prop} {v : Value} {xs : List α} (h : IsS47 w0 W g f0 f1 f2) (ho : d.S e W base ok v xs) (ht : e ≠ 47) : some g ≠ v.ownBlock := by
  obtain ⟨A0, c0, hb, hg, hr0⟩ := h
  exact Kd.S_ne ho hb ht
theorem IsS47.lt {w0 W : World} {g : Nat} {f0 : List Int} {f1 : Int} {f2 : Int} (h : IsS47 w0 W g f0 f1 f2) : g < W.heap.size := by
  obtain ⟨A0, c0, hb, hg, hr0⟩ := h
  exact blk_lt hb
theorem IsS47.ge {w0 W : World} {g : Nat} {f0 : List Int} {f1 : Int} {f2 : Int} (h : IsS47 w0 W g f0 f1 f2) : w0.heap.size ≤ g := by
  obtain ⟨A0, c0, hb, hg, hr0⟩ := h
  exact hg
theorem IsS47.ne_blk {w0 W : World} {g : Nat} {f0 : List Int} {f1 : Int} {f2 : Int} {a : Nat} {cs : Array Value} {t : TypeId} {fr : Nat × Nat} (h : IsS47 w0 W g f0 f1 f2) (hb2 : W.heap[a]? = some (.cells cs t fr)) (ht : t ≠ 47) : g ≠ a := by
  obtain ⟨A0, c0, hb, hg, hr0⟩ := h
  rintro rfl
  rw [hb] at hb2
  injection hb2 with hb2
  injection hb2 with _ ht2
  exact ht ht2.symm
theorem IsS47.far {w0 W : World} {g : Nat} {f0 : List Int} {f1 : Int} {f2 : Int} {p : Addr} (h : IsS47 w0 W g f0 f1 f2) (hne : g ≠ p.block) (u : Value) : IsS47 w0 (W.setCell p u) g f0 f1 f2 := by
  obtain ⟨A0, c0, hb, hg, hr0⟩ := h
  exact ⟨A0, c0, blk_far hb hne u, hg, hr0⟩
theorem cellS47_0 {W : World} {g : Nat} {A0 : Option Addr} {c0 : Nat} {f0 : List Int} {f1 : Int} {f2 : Int} (h : W.heap[g]? = some (.cells #[.slice A0 f0.length c0, .int .i64 f1, .int .i64 f2] 47 (0, 0))) : W.cell? ⟨g, 0, none⟩ = some (.slice A0 f0.length c0) := (blk_cell h 0).trans rfl
theorem cellS47_1 {W : World} {g : Nat} {A0 : Option Addr} {c0 : Nat} {f0 : List Int} {f1 : Int} {f2 : Int} (h : W.heap[g]? = some (.cells #[.slice A0 f0.length c0, .int .i64 f1, .int .i64 f2] 47 (0, 0))) : W.cell? ⟨g, 1, none⟩ = some (.int .i64 f1) := (blk_cell h 1).trans rfl
theorem IsS47.set_1 {w0 W : World} {g : Nat} {f0 : List Int} {f1 : Int} {f2 : Int} (h : IsS47 w0 W g f0 f1 f2) (x : Int) : IsS47 w0 (W.setCell ⟨g, 1, none⟩ (.int .i64 x)) g f0 x f2 := by
  obtain ⟨A0, c0, hb, hg, hr0⟩ := h
  exact ⟨A0, c0, by simpa using blk_set hb 1 (.int .i64 x), hg, hr0⟩
theorem cellS47_2 {W : World} {g : Nat} {A0 : Option Addr} {c0 : Nat} {f0 : List Int} {f1 : Int} {f2 : Int} (h : W.heap[g]? = some (.cells #[.slice A0 f0.length c0, .int .i64 f1, .int .i64 f2] 47 (0, 0))) : W.cell? ⟨g, 2, none⟩ = some (.int .i64 f2) := (blk_cell h 2).trans rfl
theorem IsS47.set_2 {w0 W : World} {g : Nat} {f0 : List Int} {f1 : Int} {f2 : Int} (h : IsS47 w0 W g f0 f1 f2) (x : Int) : IsS47 w0 (W.setCell ⟨g, 2, none⟩ (.int .i64 x)) g f0 f1 x := by
  obtain ⟨A0, c0, hb, hg, hr0⟩ := h
  exact ⟨A0, c0, by simpa using blk_set hb 2 (.int .i64 x), hg, hr0⟩
theorem IsS47.new (w0 W : World) (A0 : Option Addr) (c0 : Nat) (f0 : List Int) (f1 : Int) (f2 : Int) (hB : Below w0.heap.size w0 W) (hr0 : Kd.C (Kd.int .u8) w0 A0 f0.length f0) : IsS47 w0 (W.alloc (.cells #[.slice A0 f0.length c0, .int .i64 f1, .int .i64 f2] 47)) W.heap.size f0 f1 f2 := ⟨A0, c0, by simpa using heap_alloc_new W _, hB.size, hr0⟩

/-! ### spec_l01New: function 22 -/
def spec_l01New.l0 : Nat → List Int → Int → Int → Option (List Int × Int × Int)
  | 0, _, _, _ => none
  | k + 1, x0, x3, x4 => if x4 < (x0.length : Int) then (if x4 < 4000 then (if 0 ≤ x4 then (spec_l01New.l0 k x0 (Go.bits .and .i64 (wrap64 ((wrap64 ((wrap64 (x3 * 101)) + (wrap64 (rd x0 x4)))) + 7)) 1073741823) (wrap64 (x4 + 1))) else (none)) else (some (x0, 0, x3))) else (some (x0, 0, x3))
def spec_l01New.f (k : Nat) (l0 : List Int) : Option (List Int × Int × Int) := spec_l01New.l0 k l0 (wrap64 (2070 + (l0.length : Int))) 0
theorem spec_l01New.mono_l : ∀ k, (∀ y0 y1 y2, LeO (spec_l01New.l0 k y0 y1 y2) (spec_l01New.l0 (k + 1) y0 y1 y2))
  | 0 => fun _ _ _ r h => by simp [spec_l01New.l0] at h
  | k + 1 => by
    have ih0 := spec_l01New.mono_l k
    · intro y0 y1 y2
      unfold spec_l01New.l0
      repeat' first
      | (with_reducible exact ih0 _ _ _)
      | (with_reducible exact LeO.refl _)
      | (with_reducible exact LeO.none _)
      | (with_reducible refine LeO.ite ?_ ?_)
      | (with_reducible refine LeO.bind ?_ (fun _ => ?_))
      | exact ih0 _ _ _
      | exact LeO.none _
      | refine LeO.ite ?_ ?_
      | refine LeO.bind ?_ (fun _ => ?_)
theorem spec_l01New.mono : ∀ a0 k, LeO (spec_l01New.f k a0) (spec_l01New.f (k + 1) a0) := by
  intro a0 k
  have ih0 := spec_l01New.mono_l k
  unfold spec_l01New.f
  repeat' first
      | (with_reducible exact ih0 _ _ _)
      | (with_reducible exact LeO.refl _)
      | (with_reducible exact LeO.none _)
      | (with_reducible refine LeO.ite ?_ ?_)
      | (with_reducible refine LeO.bind ?_ (fun _ => ?_))
      | exact ih0 _ _ _
      | exact LeO.none _
      | refine LeO.ite ?_ ?_
      | refine LeO.bind ?_ (fun _ => ?_)
set_option maxHeartbeats 8000000 in
set_option maxRecDepth 100000 in
theorem spec_l01New.calls (k : Nat) (A0 : Option Addr) (c0 : Nat) (l0 : List Int) (r1 : List Int) (r2 : Int) (r3 : Int) (w0 w : World) (hB : Below w0.heap.size w0 w) (hr0 : Kd.C (Kd.int .u8) w0 A0 l0.length l0) (hc0 : l0.length ≤ c0) (h : spec_l01New.f k l0 = some (r1, r2, r3)) :
    Calls Try.prog 22 #[.slice A0 l0.length c0] w fun e w' => ∃ g_ : Nat, e = .returned (.pointer (some ⟨g_, 0, none⟩)) ∧ IsS47 w0 w' g_ r1 r2 r3 ∧ Below w0.heap.size w0 w' ∧ Below w.heap.size w w' := by
  have hu47 := Try.underlying47
  have HR0 := Aside0.mk hr0
  have HC0 := Aside0.mk hc0
  clear hr0 hc0
  have HBW := Aside0.mk (Below.refl w.heap.size w)
  have HW0 := Aside0.mk hB.size
  have HB := Aside0.mk hB
  clear hB
  have H : (spec_l01New.l0 k l0 (wrap64 (2070 + (l0.length : Int))) 0) = some (r1, r2, r3) := h
  clear h
  have H' := Aside0.mk H
  clear H
  go_enter Try.func22, Try.ntmps22
  go_wp2
  go_loopg [3, 4] k (fun kq v3 v4 w' => ∃ (x3_1 : Int) (x4_1 : Int), v3 = .int .i64 x3_1 ∧ v4 = .int .i64 x4_1 ∧ Aside0 (spec_l01New.l0 kq l0 x3_1 x4_1 = some (r1, r2, r3)) ∧ Aside0 (kq ≤ k) ∧ Aside0 (Below w0.heap.size w0 w') ∧ Aside0 (Below w.heap.size w w'))
  case atStart => exact ⟨(wrap64 (2070 + (l0.length : Int))), (0), (by first | rfl | (simp; done) | (simp [*]; done)), (by first | rfl | (simp; done) | (simp [*]; done)), H', ⟨Nat.le_refl _⟩, ⟨by repeat (first | (with_reducible first | exact HB.out | apply below_alloc | apply pw_below_drewN | apply below_drew1) | exact HB.out)⟩, ⟨by repeat (first | (with_reducible first | exact HBW.out | apply below_alloc | apply pw_below_drewN | apply below_drew1) | exact HBW.out)⟩⟩
  case round =>
    clear H'
    obtain ⟨x3_1, x4_1, rfl, rfl, HA, HK1, HB, HBW⟩ := hrel
    cases gk with
    | zero => exact absurd HA.out (by simp [spec_l01New.l0])
    | succ k1 =>
      have H := HA.out
      clear HA
      simp only [spec_l01New.l0] at H
      by_cases c2 : x4_1 < (l0.length : Int)
      · rw [if_pos c2] at H
        have c2b0 : decide (x4_1 < (l0.length : Int)) = true := decide_eq_true c2
        clear c2
        by_cases c3 : x4_1 < 4000
        · rw [if_pos c3] at H
          have c3b0 : decide (x4_1 < 4000) = true := decide_eq_true c3
          clear c3
          by_cases c4 : 0 ≤ x4_1
          · rw [if_pos c4] at H
            have c4b0 : decide (0 ≤ x4_1) = true := decide_eq_true c4
            clear c4
            have H' := Aside0.mk H
            clear H
            have p108 : 0 ≤ (x4_1 : Int) := of_decide_eq_true (by first | (with_reducible assumption) | assumption)
            have q108 : x4_1 < (l0.length : Int) := of_decide_eq_true (by first | (with_reducible assumption) | assumption)
            obtain ⟨ad108, e108, hx108_0⟩ := Kd.at_int HR0.out x4_1 p108 q108
            cases e108
            replace hx108_0 := pw_cell_below HB.out hx108_0
            replace p108 := eq_true p108
            replace q108 := eq_true q108
            go_wp2
            go_roundg k1
            case measure => have := HK1.out; omega
            case rel => exact ⟨(Go.bits .and .i64 (wrap64 ((wrap64 ((wrap64 (x3_1 * 101)) + (wrap64 (rd l0 x4_1)))) + 7)) 1073741823), (wrap64 (x4_1 + 1)), (by first | rfl | (simp; done) | (simp [*]; done)), (by first | rfl | (simp; done) | (simp [*]; done)), H', ⟨by have := HK1.out; omega⟩, ⟨by repeat (first | (with_reducible first | exact HB.out | apply below_alloc | apply pw_below_drewN | apply below_drew1) | exact HB.out)⟩, ⟨by repeat (first | (with_reducible first | exact HBW.out | apply below_alloc | apply pw_below_drewN | apply below_drew1) | exact HBW.out)⟩⟩
          · rw [if_neg c4] at H
            exact absurd H (by simp)
        · rw [if_neg c3] at H
          have c3b0 : decide (x4_1 < 4000) = false := decide_eq_false c3
          clear c3
          simp only [Option.some.injEq, Prod.mk.injEq] at H
          obtain ⟨rfl, rfl, rfl⟩ := H
          go_wp2_with (first | ((with_reducible refine gate_dst (N := 31) rfl ?_); refine box_event ?hg (N := 31) ?hd (cs := #[.slice A0 l0.length c0, .int .i64 0, .int .i64 x3_1]) (t := 47) ?hr ?_; (case hd => rfl); (case hg => rfl); (case hr => first | (go_simp; done) | (go_simp; rfl)); intro gb109 hg w5 hbox hb; have n0_ := Aside0.mk (below_step HBW.out hb); have n1_ := Aside0.mk (below_step (by repeat (first | (with_reducible first | exact HB.out | apply below_alloc | apply pw_below_drewN | apply below_drew1) | exact HB.out)) hb); have n2_ := Aside0.mk (hbox); have n3_ := Aside0.mk ((by rw [hg]; exact (below_size (by repeat (first | (with_reducible first | exact HBW.out | apply below_alloc | apply pw_below_drewN | apply below_drew1) | exact HBW.out))) : w.heap.size ≤ gb109)); have n4_ := Aside0.mk ((Nat.le_trans HW0.out (by rw [hg]; exact (below_size (by repeat (first | (with_reducible first | exact HBW.out | apply below_alloc | apply pw_below_drewN | apply below_drew1) | exact HBW.out))) : w.heap.size ≤ gb109) : w0.heap.size ≤ gb109)); clear HBW; clear HB; have HBW := n0_; have HB := n1_; have BK109 := n2_; have GW109 := n3_; have GE109 := n4_; clear n0_ n1_ n2_ n3_ n4_; clear hb hbox hg))
          go_ret
          exact ⟨_, rfl, (show IsS47 w0 _ gb109 l0 0 x3_1 from ⟨_, _, by (with_reducible repeat (first | refine blk_drewN ?_ _ | refine blk_drew ?_ | refine blk_alloc ?_ _)); exact BK109.out, GE109.out, HR0.out⟩), by repeat (first | (with_reducible first | exact HB.out | apply below_alloc | apply pw_below_drewN | apply below_drew1 | refine below_set ?_ GE109.out) | exact HB.out), by repeat (first | (with_reducible first | exact HBW.out | apply below_alloc | apply pw_below_drewN | apply below_drew1 | refine below_set ?_ GW109.out) | exact HBW.out)⟩
      · rw [if_neg c2] at H
        have c2b0 : decide (x4_1 < (l0.length : Int)) = false := decide_eq_false c2
        clear c2
        simp only [Option.some.injEq, Prod.mk.injEq] at H
        obtain ⟨rfl, rfl, rfl⟩ := H
        go_wp2_with (first | ((with_reducible refine gate_dst (N := 31) rfl ?_); refine box_event ?hg (N := 31) ?hd (cs := #[.slice A0 l0.length c0, .int .i64 0, .int .i64 x3_1]) (t := 47) ?hr ?_; (case hd => rfl); (case hg => rfl); (case hr => first | (go_simp; done) | (go_simp; rfl)); intro gb110 hg w6 hbox hb; have n0_ := Aside0.mk (below_step HBW.out hb); have n1_ := Aside0.mk (below_step (by repeat (first | (with_reducible first | exact HB.out | apply below_alloc | apply pw_below_drewN | apply below_drew1) | exact HB.out)) hb); have n2_ := Aside0.mk (hbox); have n3_ := Aside0.mk ((by rw [hg]; exact (below_size (by repeat (first | (with_reducible first | exact HBW.out | apply below_alloc | apply pw_below_drewN | apply below_drew1) | exact HBW.out))) : w.heap.size ≤ gb110)); have n4_ := Aside0.mk ((Nat.le_trans HW0.out (by rw [hg]; exact (below_size (by repeat (first | (with_reducible first | exact HBW.out | apply below_alloc | apply pw_below_drewN | apply below_drew1) | exact HBW.out))) : w.heap.size ≤ gb110) : w0.heap.size ≤ gb110)); clear HBW; clear HB; have HBW := n0_; have HB := n1_; have BK110 := n2_; have GW110 := n3_; have GE110 := n4_; clear n0_ n1_ n2_ n3_ n4_; clear hb hbox hg))
        go_ret
        exact ⟨_, rfl, (show IsS47 w0 _ gb110 l0 0 x3_1 from ⟨_, _, by (with_reducible repeat (first | refine blk_drewN ?_ _ | refine blk_drew ?_ | refine blk_alloc ?_ _)); exact BK110.out, GE110.out, HR0.out⟩), by repeat (first | (with_reducible first | exact HB.out | apply below_alloc | apply pw_below_drewN | apply below_drew1 | refine below_set ?_ GE110.out) | exact HB.out), by repeat (first | (with_reducible first | exact HBW.out | apply below_alloc | apply pw_below_drewN | apply below_drew1 | refine below_set ?_ GW110.out) | exact HBW.out)⟩

/-! ### spec_l01Byte: function 30 -/
def spec_l01Byte.f (s0_0 : List Int) (s0_1 : Int) (s0_2 : Int) : Option (Int × Int × Int) := if s0_1 < (s0_0.length : Int) then (if 0 ≤ s0_1 then (some (Go.bits .and .i64 (wrap64 ((Go.bits .and .i64 (Go.bits .xor .i64 ((wrap64 ((wrap64 (s0_2 * 6364136223846793005)) + 1442695040888963407)) / 8589934592) ((wrap64 ((wrap64 (s0_2 * 6364136223846793005)) + 1442695040888963407)) / 35184372088832)) 255) + (wrap64 (rd s0_0 s0_1)))) 255, wrap64 (s0_1 + 1), wrap64 ((wrap64 (s0_2 * 6364136223846793005)) + 1442695040888963407))) else (none)) else (some (Go.bits .and .i64 (Go.bits .xor .i64 ((wrap64 ((wrap64 (s0_2 * 6364136223846793005)) + 1442695040888963407)) / 8589934592) ((wrap64 ((wrap64 (s0_2 * 6364136223846793005)) + 1442695040888963407)) / 35184372088832)) 255, s0_1, wrap64 ((wrap64 (s0_2 * 6364136223846793005)) + 1442695040888963407)))
set_option maxHeartbeats 8000000 in
set_option maxRecDepth 100000 in
theorem spec_l01Byte.calls (g : Nat) (s0_0 : List Int) (s0_1 : Int) (s0_2 : Int) (r1 : Int) (r2 : Int) (r3 : Int) (w0 w : World) (hI : IsS47 w0 w g s0_0 s0_1 s0_2) (hB : Below w0.heap.size w0 w) (h : spec_l01Byte.f s0_0 s0_1 s0_2 = some (r1, r2, r3)) :
    Calls Try.prog 30 #[.pointer (some ⟨g, 0, none⟩)] w fun e w' => e = .returned (.int .i64 r1) ∧ IsS47 w0 w' g s0_0 r2 r3 ∧ Below w0.heap.size w0 w' ∧ KeepBut w w' g none := by
  have HI0 := Aside0.mk hI
  have HK := Aside0.mk (KeepBut.refl w g none)
  have HL := Aside0.mk hB.size
  clear hI
  have HW0 := Aside0.mk hB.size
  have HB := Aside0.mk hB
  clear hB
  have H : (if s0_1 < (s0_0.length : Int) then (if 0 ≤ s0_1 then (some (Go.bits .and .i64 (wrap64 ((Go.bits .and .i64 (Go.bits .xor .i64 ((wrap64 ((wrap64 (s0_2 * 6364136223846793005)) + 1442695040888963407)) / 8589934592) ((wrap64 ((wrap64 (s0_2 * 6364136223846793005)) + 1442695040888963407)) / 35184372088832)) 255) + (wrap64 (rd s0_0 s0_1)))) 255, wrap64 (s0_1 + 1), wrap64 ((wrap64 (s0_2 * 6364136223846793005)) + 1442695040888963407))) else (none)) else (some (Go.bits .and .i64 (Go.bits .xor .i64 ((wrap64 ((wrap64 (s0_2 * 6364136223846793005)) + 1442695040888963407)) / 8589934592) ((wrap64 ((wrap64 (s0_2 * 6364136223846793005)) + 1442695040888963407)) / 35184372088832)) 255, s0_1, wrap64 ((wrap64 (s0_2 * 6364136223846793005)) + 1442695040888963407)))) = some (r1, r2, r3) := h
  clear h
  by_cases c2 : s0_1 < (s0_0.length : Int)
  · rw [if_pos c2] at H
    have c2b0 : decide (s0_1 < (s0_0.length : Int)) = true := decide_eq_true c2
    clear c2
    by_cases c3 : 0 ≤ s0_1
    · rw [if_pos c3] at H
      have c3b0 : decide (0 ≤ s0_1) = true := decide_eq_true c3
      clear c3
      simp only [Option.some.injEq, Prod.mk.injEq] at H
      obtain ⟨rfl, rfl, rfl⟩ := H
      obtain ⟨ASz4_0, cSz4_0, HGz4, hgz4, HSz4_0⟩ := HI0.out
      have hcz4_0 := cellS47_0 HGz4
      have hcz4_1 := cellS47_1 HGz4
      have hcz4_2 := cellS47_2 HGz4
      have hfz4_1 := blk_frozen HGz4 1
      have hfz4_2 := blk_frozen HGz4 2
      clear HGz4 hgz4
      have p111 : 0 ≤ (s0_1 : Int) := of_decide_eq_true (by first | (with_reducible assumption) | assumption)
      have q111 : s0_1 < (s0_0.length : Int) := of_decide_eq_true (by first | (with_reducible assumption) | assumption)
      obtain ⟨ad111, e111, hx111_0⟩ := Kd.at_int HSz4_0 s0_1 p111 q111
      cases e111
      have hn111_0 : ad111.block ≠ g := Nat.ne_of_lt (Nat.lt_of_lt_of_le (by have := World.block_lt_of_cell? _ _ hx111_0; first | rwa [add_block] at this | exact this) (IsS47.ge HI0.out))
      replace hx111_0 := pw_cell_below HB.out hx111_0
      replace hx111_0 := (cell_far (p := ⟨g, 2, none⟩) (by first | (rw [add_block]; exact hn111_0) | (show (Addr.add _ _).block ≠ _; rw [add_block]; exact hn111_0) | exact hn111_0) (.int .i64 (wrap64 ((wrap64 (s0_2 * 6364136223846793005)) + 1442695040888963407)))).trans hx111_0
      (try have hy111_0 := fun (n_ : Nat) => (show (((w.drewN n_).setCell ⟨g, 2, none⟩ (.int .i64 (wrap64 ((wrap64 (s0_2 * 6364136223846793005)) + 1442695040888963407))))).cell? _ = some _ from hx111_0))
      clear hn111_0
      replace p111 := eq_true p111
      replace q111 := eq_true q111
      go_enter Try.func30, Try.ntmps30
      go_wp2
      repeat (go_quiet (fail); try go_wp2)
      go_ret
      exact ⟨by first | rfl | (simp [errW_none, errW_some] <;> rfl) | (simp [*, errW_none, errW_some] <;> rfl), by repeat (first | (with_reducible first | exact HI0.out | apply IsS47.alloc | apply IsS47.drewN | apply IsS47.drew | apply IsS47.set_1 | apply IsS47.set_2) | exact HI0.out), by repeat (first | (with_reducible first | exact HB.out | apply below_alloc | apply pw_below_drewN | apply below_drew1 | refine below_set ?_ (IsS47.ge HI0.out)) | exact HB.out), by repeat (first | (with_reducible first | exact HK.out | apply KeepBut.set_ | apply keep_drewN | apply keep_drew | apply keep_alloc) | exact HK.out)⟩
    · rw [if_neg c3] at H
      exact absurd H (by simp)
  · rw [if_neg c2] at H
    have c2b0 : decide (s0_1 < (s0_0.length : Int)) = false := decide_eq_false c2
    clear c2
    simp only [Option.some.injEq, Prod.mk.injEq] at H
    obtain ⟨rfl, rfl, rfl⟩ := H
    obtain ⟨ASz5_0, cSz5_0, HGz5, hgz5, HSz5_0⟩ := HI0.out
    have hcz5_0 := cellS47_0 HGz5
    have hcz5_1 := cellS47_1 HGz5
    have hcz5_2 := cellS47_2 HGz5
    have hfz5_1 := blk_frozen HGz5 1
    have hfz5_2 := blk_frozen HGz5 2
    clear HGz5 hgz5
    go_enter Try.func30, Try.ntmps30
    go_wp2
    repeat (go_quiet (fail); try go_wp2)
    go_ret
    exact ⟨by first | rfl | (simp [errW_none, errW_some] <;> rfl) | (simp [*, errW_none, errW_some] <;> rfl), by repeat (first | (with_reducible first | exact HI0.out | apply IsS47.alloc | apply IsS47.drewN | apply IsS47.drew | apply IsS47.set_1 | apply IsS47.set_2) | exact HI0.out), by repeat (first | (with_reducible first | exact HB.out | apply below_alloc | apply pw_below_drewN | apply below_drew1 | refine below_set ?_ (IsS47.ge HI0.out)) | exact HB.out), by repeat (first | (with_reducible first | exact HK.out | apply KeepBut.set_ | apply keep_drewN | apply keep_drew | apply keep_alloc) | exact HK.out)⟩

end Go.Proofs.Ytmhfnacbmajdjaa.MFnGilbreath
