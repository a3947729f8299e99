-- Written by this session's own program (wip/tools/myprint.py), over the kit's printer.
import Derived.Test.YtplacpfdmcnaiaaMFnUnshufflesx0
import Derived.Test.YtplacpfdmcnaiaaMFnUnshufflesx3
namespace Go.Proofs.Ytplacpfdmcnaiaa.MFnUnshuffles
open Go.RowKit Go.Proofs.YtplacpfdmcnaiaaW.PrintWords Go.Proofs.YtplacpfdmcnaiaaW.PrintLast Go.Proofs.YtplacpfdmcnaiaaW.PrintMore
attribute [local go_sem] max2_int min2_int max_two min_two max_three min_three max_four min_four   -- for this text's walks alone
set_option linter.unusedVariables false
set_option linter.unusedSimpArgs false

/-! ### slices_Reverse_int_int: function 51, by hand -/
/-! #### a row as plain cells -/
/-- A slice's value, by its parts. -/
structure CV where
  A : Option Addr
  n : Nat
  c : Nat
def cv0 : CV := ⟨none, 0, 0⟩
def kV : Kd CV := Kd.scalar (fun x => Value.slice x.A x.n x.c) (fun _ => rfl)
/-- What a value's parts are; of no slice's value: nothing. -/
def cvOf : Value → CV
  | .slice A n c => ⟨A, n, c⟩
  | _ => cv0
/-- A list as its elements' cells, and the blocks that each leads to. -/
structure Cells {α : Type} (d : Kd α) (w : World) (base : Nat) (ok : Nat → Prop) (own : Option Nat) (xs : List α) (cs : List CV) (okj : Nat → Nat → Prop) : Prop where
  len : cs.length = xs.length
  apart : ∀ i j k, okj i k → okj j k → i = j
  inn : ∀ j k, okj j k → ok k ∧ some k ≠ own
  rep : ∀ (j : Nat) (x : α) (c : CV), xs[j]? = some x → cs[j]? = some c → d.M w base (okj j) x [Value.slice c.A c.n c.c]
theorem seg_one {inner : List Value} {j : Nat} (h : j < inner.length) : (inner.drop (j * 1)).take 1 = [inner[j]] := by
  rw [Nat.mul_one, List.drop_eq_getElem_cons h]
  rfl
theorem S_cells {α : Type} {d' : Kd α} {e e' : Nat} {w : World} {base : Nat} {ok : Nat → Prop} {v : Value} {xs : List (List α)} (h : Kd.S (Kd.slice e' d') e w base ok v xs) :
    ∃ cs okj, kV.R e w base (fun k => some k = v.ownBlock) v cs ∧ (∀ k, v.ownBlock = some k → ok k) ∧ Cells (Kd.slice e' d') w base ok v.ownBlock xs cs okj := by
  obtain ⟨f, h0, inner, ho, hr⟩ := h
  have hs : (Kd.tag f (Kd.slice e' d')).sz = 1 := rfl
  rw [hs] at ho hr
  have hl : inner.length = xs.length := by have := hr.1; rw [List.length_zipIdx, Nat.mul_one] at this; exact this
  have hM : ∀ (j : Nat) (x : List α), xs[j]? = some x → ∀ hj : j < inner.length, (Kd.slice e' d').M w base (fun k => (ok k ∧ some k ≠ v.ownBlock) ∧ f k = j) x [inner[j]] := fun j x hx hj => by
    have := hr.2 j (x, j) (Kd.zip_at hx)
    rw [seg_one hj] at this
    exact this
  have hcv : ∀ (j : Nat) (hj : j < inner.length), inner[j] = Value.slice (cvOf inner[j]).A (cvOf inner[j]).n (cvOf inner[j]).c := fun j hj => by
    obtain ⟨u, hu, hR⟩ := hM j (xs[j]'(by omega)) (List.getElem?_eq_getElem (by omega)) hj
    obtain ⟨A, c, rfl⟩ := Kd.R_slice hR
    injection hu with hu
    rw [hu]
    rfl
  refine ⟨inner.map cvOf, fun j k => (ok k ∧ some k ≠ v.ownBlock) ∧ f k = j, ⟨fun k hk => hk.symm, inner, ?_, ?_, ?_⟩, h0, ?_, ?_, ?_, ?_⟩
  · rw [List.length_map, hl]; rw [List.length_zipIdx] at ho; exact ho
  · rw [List.length_map]; exact (Nat.mul_one _).symm
  · intro j p hp
    obtain ⟨hj, e⟩ := List.getElem?_eq_some_iff.1 hp
    rw [List.length_map] at hj
    show (inner.drop (j * 1)).take 1 = [Value.slice p.A p.n p.c]
    rw [seg_one hj, ← e, List.getElem_map, ← hcv j hj]
  · rw [List.length_map, hl]
  · rintro i j k ⟨_, rfl⟩ ⟨_, h⟩; exact h
  · intro j k hk; exact hk.1
  · intro j x c hx hc
    obtain ⟨hj, e⟩ := List.getElem?_eq_some_iff.1 hc
    rw [List.length_map] at hj
    rw [← e, List.getElem_map, ← hcv j hj]
    exact hM j x hx hj
theorem S_of_cells {α : Type} {d : Kd α} {e : Nat} {w : World} {base : Nat} {ok ok1 : Nat → Prop} {v : Value} {xs : List α} {cs : List CV} {okj : Nat → Nat → Prop} (hd : d.sz = 1) (hR : kV.R e w base ok1 v cs) (h0 : ∀ k, v.ownBlock = some k → ok k) (hc : Cells d w base ok v.ownBlock xs cs okj) : Kd.S d e w base ok v xs := by
  obtain ⟨_, inner, ho, hr⟩ := hR
  have hl : inner.length = cs.length := by have := hr.1; rw [show kV.sz = 1 from rfl, Nat.mul_one] at this; exact this
  have hv : ∀ (j : Nat) (hj : j < inner.length), inner[j] = Value.slice (cs[j]'(by omega)).A (cs[j]'(by omega)).n (cs[j]'(by omega)).c := fun j hj => by
    have := hr.2 j _ (List.getElem?_eq_getElem (by omega : j < cs.length))
    have e : (inner.drop (j * 1)).take 1 = [Value.slice (cs[j]'(by omega)).A (cs[j]'(by omega)).n (cs[j]'(by omega)).c] := this
    rw [seg_one hj] at e
    injection e
  obtain ⟨f, hf⟩ := Kd.reps_tag (d := d) (w := w) (base := base) (ok := fun k => ok k ∧ some k ≠ v.ownBlock) (xs := xs) (inner := inner) okj hc.apart hc.inn (by rw [hd, Nat.mul_one, hl, hc.len]) (fun j x hx => by
    have hj : j < inner.length := by rw [hl, hc.len]; exact (List.getElem?_eq_some_iff.1 hx).1
    rw [hd, seg_one hj, hv j hj]
    exact hc.rep j x _ hx (List.getElem?_eq_getElem (by omega)))
  refine ⟨f, h0, inner, ?_, hf⟩
  have hs : (Kd.tag f d).sz = 1 := hd
  rw [hs, List.length_zipIdx, ← hc.len]
  exact ho
/-- The elements may be told anew in another world, in another order. -/
theorem Cells.told {α : Type} {d : Kd α} {w w1 : World} {base : Nat} {ok : Nat → Prop} {own : Option Nat} {xs xs' : List α} {cs cs' : List CV} {okj : Nat → Nat → Prop} (h : Cells d w base ok own xs cs okj) (p : Nat → Nat) (hl : cs'.length = xs'.length) (hp : ∀ i j, i < xs'.length → j < xs'.length → p i = p j → i = j) (hx : ∀ j, j < xs'.length → xs'[j]? = xs[p j]?) (hc : ∀ j, j < xs'.length → cs'[j]? = cs[p j]?)
    (hm : ∀ k, ok k → some k ≠ own → k < w.heap.size → w1.heap[k]? = w.heap[k]?) : Cells d w1 base ok own xs' cs' (fun j k => j < xs'.length ∧ okj (p j) k) where
  len := hl
  apart := fun i j k h1 h2 => hp i j h1.1 h2.1 (h.apart _ _ k h1.2 h2.2)
  inn := fun j k hk => h.inn _ k hk.2
  rep := fun j x c h1 h2 => by
    have hj := (List.getElem?_eq_some_iff.1 h1).1
    rw [hx j hj] at h1
    rw [hc j hj] at h2
    exact d.M_mono (fun k hk => ⟨hj, hk⟩) (Kd.M_step (h.rep (p j) x c h1 h2) (fun k hk hlt => hm k (h.inn _ k hk).1 (h.inn _ k hk).2 hlt))
theorem at_cv {w : World} {A : Option Addr} {n : Nat} {xs : List CV} (h : kV.C w A n xs) (i : Int) (h0 : 0 ≤ i) (h1 : i < n) : ∃ ad, A = some ad ∧ w.cell? (ad.add i.toNat) = some (.slice (rdOf cv0 xs i).A (rdOf cv0 xs i).n (rdOf cv0 xs i).c) :=
  ReadsOf.at_ (Kd.reads_of_C (enc := fun x : CV => Value.slice x.A x.n x.c) (d := cv0) (h1 := fun _ => rfl) h) i h0 h1
def slices_Reverse_int_int.l0 : Nat → List CV → Int → Int → Option (List CV)
  | 0, _, _, _ => none
  | k + 1, x0, x2, x3 => if x2 < x3 then (if 0 ≤ x3 then (if x3 < (x0.length : Int) then (if 0 ≤ x2 then (if x2 < (x0.length : Int) then (slices_Reverse_int_int.l0 k ((x0.set (x2 : Int).toNat (rdOf cv0 x0 x3)).set (x3 : Int).toNat (rdOf cv0 x0 x2)) (wrap64 (x2 + 1)) (wrap64 (x3 - 1))) else (none)) else (none)) else (none)) else (none)) else (some x0)
def slices_Reverse_int_int.f (k : Nat) (l0 : List CV) : Option (List CV) := slices_Reverse_int_int.l0 k l0 0 (wrap64 ((l0.length : Int) - 1))
theorem slices_Reverse_int_int.mono_l : ∀ k, (∀ y0 y1 y2, LeO (slices_Reverse_int_int.l0 k y0 y1 y2) (slices_Reverse_int_int.l0 (k + 1) y0 y1 y2))
  | 0 => fun _ _ _ r h => by simp [slices_Reverse_int_int.l0] at h
  | k + 1 => by
    have ih0 := slices_Reverse_int_int.mono_l k
    · intro y0 y1 y2
      unfold slices_Reverse_int_int.l0
      repeat' first
      | (with_reducible exact ih0 _ _ _)
      | (with_reducible exact LeO.refl _)
      | (with_reducible exact LeO.none _)
      | (with_reducible refine LeO.ite ?_ ?_)
      | (with_reducible refine LeO.bind ?_ (fun _ => ?_))
      | exact ih0 _ _ _
      | exact LeO.none _
      | refine LeO.ite ?_ ?_
      | refine LeO.bind ?_ (fun _ => ?_)
theorem slices_Reverse_int_int.mono : ∀ a0 k, LeO (slices_Reverse_int_int.f k a0) (slices_Reverse_int_int.f (k + 1) a0) := by
  intro a0 k
  have ih0 := slices_Reverse_int_int.mono_l k
  unfold slices_Reverse_int_int.f
  repeat' first
      | (with_reducible exact ih0 _ _ _)
      | (with_reducible exact LeO.refl _)
      | (with_reducible exact LeO.none _)
      | (with_reducible refine LeO.ite ?_ ?_)
      | (with_reducible refine LeO.bind ?_ (fun _ => ?_))
      | exact ih0 _ _ _
      | exact LeO.none _
      | refine LeO.ite ?_ ?_
      | refine LeO.bind ?_ (fun _ => ?_)
def slices_Reverse_int_int.T3 : Bool × List (List Nat × List Nat) := (true, [([], []), ([], []), ([], []), ([], []), ([], []), ([], []), ([4, 5], [4, 5]), ([6], [6]), ([], []), ([], []), ([8, 9], [8, 9]), ([10], [10]), ([0, 1, 0, 1, 4, 5, 6, 7, 11], [0, 1]), ([12, 7, 0, 1, 4, 5, 6, 7, 11], [7, 12]), ([2, 3, 0, 1, 2, 3, 4, 5, 6, 7, 8, 9, 10, 11, 12, 13], [2, 3]), ([14, 11, 13, 0, 1, 2, 3, 4, 5, 6, 7, 8, 9, 10, 11, 12, 13], [11, 14])])
def slices_Reverse_int_int.B3 : List Nat := [0, 0, 0, 0, 0, 0, 48, 112, 0, 0, 768, 1792, 4083, 8179, 16383, 32767]
theorem slices_Reverse_int_int.tab3 : rtab .any (opsOf Try.f51 3) = slices_Reverse_int_int.T3 := by kernel_rfl
theorem slices_Reverse_int_int.bits3 : waitsOk slices_Reverse_int_int.T3.2 slices_Reverse_int_int.B3 = true := by kernel_rfl
set_option maxHeartbeats 8000000 in
set_option maxRecDepth 100000 in
theorem slices_Reverse_int_int.calls (k : Nat) (P0_ : Nat → Prop) (u9000_ : Value) (l0 : List CV) (r : List CV) (w0 w : World) (hB : Below w0.heap.size w0 w) (ho0 : Kd.R kV 29 w w0.heap.size P0_ u9000_ l0) (h : slices_Reverse_int_int.f k l0 = some r) :
    Calls Try.prog 51 #[u9000_] w fun e w' => e = .returned (.tuple #[]) ∧ Kd.R kV 29 w' w0.heap.size (fun k_ => (P0_ k_ ∨ w.heap.size ≤ k_)) u9000_ r ∧ Below w0.heap.size w0 w' ∧ Kept w w' (fun k_ => P0_ k_) := by
  have HO0 := Aside0.mk (show Kd.R kV 29 w w0.heap.size (fun k_ => (P0_ k_ ∨ w.heap.size ≤ k_)) u9000_ l0 from Kd.R_mono ho0 (fun k_ hk => (.inl hk)))
  have HK := Aside0.mk (Kept.refl w (fun k_ => P0_ k_))
  have HW0 := Aside0.mk hB.size
  have HB := Aside0.mk hB
  clear hB
  have H : (slices_Reverse_int_int.l0 k l0 0 (wrap64 ((l0.length : Int) - 1))) = some r := h
  clear h
  have H' := Aside0.mk H
  clear H
  obtain ⟨Ao2, co2, eo2⟩ := Kd.R_slice HO0.out
  subst eo2
  go_enter Try.func51, Try.ntmps51
  go_wp2
  go_loopg [2, 3] k (fun kq v2 v3 w' => ∃ (x0_1 : List CV) (x2_1 : Int) (x3_1 : Int), v2 = .int .i64 x2_1 ∧ v3 = .int .i64 x3_1 ∧ Aside0 (slices_Reverse_int_int.l0 kq x0_1 x2_1 x3_1 = some r) ∧ Aside0 (kq ≤ k) ∧ Aside0 (Kd.R kV 29 w' w0.heap.size (fun k_ => (P0_ k_ ∨ w.heap.size ≤ k_)) (.slice Ao2 l0.length co2) x0_1) ∧ Aside0 (Kept w w' (fun k_ => P0_ k_)) ∧ Aside0 (Below w0.heap.size w0 w'))
  case atStart => exact ⟨(l0), (0), (wrap64 ((l0.length : Int) - 1)), (by first | rfl | (simp; done) | (simp [*]; done)), (by first | rfl | (simp; done) | (simp [*]; done)), H', ⟨Nat.le_refl _⟩, ⟨by (with_reducible repeat (first | apply Kd.R_alloc | apply Kd.R_drewN | apply Kd.R_drew)); exact HO0.out⟩, ⟨by repeat (first | (with_reducible first | exact HK.out | apply Kept.alloc | apply Kept.drewN | apply Kept.drew) | exact HK.out)⟩, ⟨by repeat (first | (with_reducible first | exact HB.out | apply below_alloc | apply pw_below_drewN | apply below_drew1) | exact HB.out)⟩⟩
  case round =>
    clear H'
    try clear c1
    try clear p2
    obtain ⟨x0_1, x2_1, x3_1, rfl, rfl, HA, HK1, HO_0, HK, HB⟩ := hrel
    have hl0_1 := (Kd.R_reads' HO_0.out).1
    rw [hl0_1] at HO_0
    (try simp only [hl0_1])
    cases gk with
    | zero => exact absurd HA.out (by simp [slices_Reverse_int_int.l0])
    | succ k1 =>
      have H := HA.out
      clear HA
      simp only [slices_Reverse_int_int.l0] at H
      by_cases c3 : x2_1 < x3_1
      · rw [if_pos c3] at H
        have c3b0 : decide (x2_1 < x3_1) = true := decide_eq_true c3
        clear c3
        by_cases c4 : 0 ≤ x3_1
        · rw [if_pos c4] at H
          have c4b0 : decide (0 ≤ x3_1) = true := decide_eq_true c4
          clear c4
          by_cases c5 : x3_1 < (x0_1.length : Int)
          · rw [if_pos c5] at H
            have c5b0 : decide (x3_1 < (x0_1.length : Int)) = true := decide_eq_true c5
            clear c5
            by_cases c6 : 0 ≤ x2_1
            · rw [if_pos c6] at H
              have c6b0 : decide (0 ≤ x2_1) = true := decide_eq_true c6
              clear c6
              by_cases c7 : x2_1 < (x0_1.length : Int)
              · rw [if_pos c7] at H
                have c7b0 : decide (x2_1 < (x0_1.length : Int)) = true := decide_eq_true c7
                clear c7
                obtain ⟨y180, hy180⟩ : ∃ y_ : List CV, y_ = (x0_1.set (x2_1 : Int).toNat (rdOf cv0 x0_1 x3_1)) := ⟨_, rfl⟩
                replace H : (slices_Reverse_int_int.l0 k1 (y180.set (x3_1 : Int).toNat (rdOf cv0 x0_1 x2_1)) (wrap64 (x2_1 + 1)) (wrap64 (x3_1 - 1))) = some r := by first | (rw [hy180]; with_reducible exact H) | (have H2_ := (Option.bind_some _ _).symm.trans H; rw [hy180]; with_reducible exact H2_) | (have H2_ := (Option.bind_some _ _).symm.trans H; with_reducible exact H2_) | with_reducible exact H | (rw [hy180]; exact H) | exact H
                have Ny180 := Aside0.mk hy180
                clear hy180
                obtain ⟨y181, hy181⟩ : ∃ y_ : List CV, y_ = (y180.set (x3_1 : Int).toNat (rdOf cv0 x0_1 x2_1)) := ⟨_, rfl⟩
                replace H : (slices_Reverse_int_int.l0 k1 y181 (wrap64 (x2_1 + 1)) (wrap64 (x3_1 - 1))) = some r := by first | (rw [hy181]; with_reducible exact H) | (have H2_ := (Option.bind_some _ _).symm.trans H; rw [hy181]; with_reducible exact H2_) | (have H2_ := (Option.bind_some _ _).symm.trans H; with_reducible exact H2_) | with_reducible exact H | (rw [hy181]; exact H) | exact H
                have Ny181 := Aside0.mk hy181
                clear hy181
                have H' := Aside0.mk H
                clear H
                try go_wp2
                have n0_ := Aside0.mk (Kd.R_drew HO_0.out)
                have n1_ := Aside0.mk (Kept.drew HK.out)
                have n2_ := Aside0.mk (below_drew1 HB.out)
                clear HO_0
                clear HK
                clear HB
                have HO_0 := n0_
                have HK := n1_
                have HB := n2_
                clear n0_ n1_ n2_
                have p178 : 0 ≤ (x3_1 : Int) := of_decide_eq_true (by first | (with_reducible assumption) | assumption)
                have q178 : x3_1 < (x0_1.length : Int) := of_decide_eq_true (by first | (with_reducible assumption) | assumption)
                obtain ⟨ad178, e178, hx178_0⟩ := at_cv (Kd.R_reads' HO_0.out).2.2 x3_1 p178 q178
                cases e178
                replace p178 := eq_true p178
                replace q178 := eq_true q178
                have p179 : 0 ≤ (x2_1 : Int) := of_decide_eq_true (by first | (with_reducible assumption) | assumption)
                have q179 : x2_1 < (x0_1.length : Int) := of_decide_eq_true (by first | (with_reducible assumption) | assumption)
                obtain ⟨ad179, e179, hx179_0⟩ := at_cv (Kd.R_reads' HO_0.out).2.2 x2_1 p179 q179
                obtain rfl : ad178 = ad179 := (by injection e179)
                replace p179 := eq_true p179
                replace q179 := eq_true q179
                have p8 : 0 ≤ (x2_1 : Int) := of_decide_eq_true (by first | (with_reducible assumption) | assumption)
                have q8 : (x2_1 : Int) < ((x0_1.length : Int) : Int) := of_decide_eq_true (by first | (with_reducible assumption) | assumption)
                obtain ⟨go8, co8, eo8, gb8, gl8, cl8, HG8⟩ := Kd.R_form HO_0.out (by omega)
                (first | cases eo8 | (injection eo8 with ea_ en_ ec_; (first | subst ea_ | (injection ea_ with ea_; subst ea_)); subst ec_; clear en_))
                have GB8 := Aside0.mk gb8
                have GG8 := Aside0.mk HG8
                clear gb8 gl8 HG8
                have HMgo8 := Aside0.mk (show (P0_ go8 ∨ w.heap.size ≤ go8) from (HO_0.out.1 _ rfl))
                (first | simp only [add_plain] at hx178_0 | skip)
                (first | simp only [add_plain] at hx179_0 | skip)
                obtain ⟨hx8_0, hf8_0⟩ := Kd.R_celln cv0 HO_0.out (x2_1 : Int) p8 q8
                replace p8 := eq_true p8
                replace q8 := eq_true q8
                have HP11 := Kd.R_putn HO_0.out (x2_1 : Int) (rdOf cv0 x0_1 x3_1)
                rw [← Ny180.out] at HP11
                have HQ11 := Aside0.mk HP11
                clear HP11
                have p9 : 0 ≤ (x3_1 : Int) := of_decide_eq_true (by first | (with_reducible assumption) | assumption)
                have q9 : (x3_1 : Int) < ((x0_1.length : Int) : Int) := of_decide_eq_true (by first | (with_reducible assumption) | assumption)
                obtain ⟨hx9_0, hf9_0⟩ := Kd.R_celln cv0 HQ11.out (x3_1 : Int) p9 q9
                replace p9 := eq_true p9
                replace q9 := eq_true q9
                have HP12 := Kd.R_putn HQ11.out (x3_1 : Int) (rdOf cv0 x0_1 x2_1)
                rw [← Ny181.out] at HP12
                have HQ12 := Aside0.mk HP12
                clear HP12
                refine start_ (n := 16) (S := fun w' => w'.cell? ⟨go8, (x3_1).toNat, none⟩ = some ((.slice (rdOf cv0 x0_1 x3_1).A (rdOf cv0 x0_1 x3_1).n (rdOf cv0 x0_1 x3_1).c)) ∧ w'.cell? ⟨go8, (x2_1).toNat, none⟩ = some ((.slice (rdOf cv0 x0_1 x2_1).A (rdOf cv0 x0_1 x2_1).n (rdOf cv0 x0_1 x2_1).c))) (ds := [13, 15]) #[false, false, false, false, false, false, false, false, false, false, false, false, false, false, false, false] (by kernel_rfl) rfl rfl ⟨hx178_0, hx179_0⟩ (fun hHeld => ?_); refine with_tabW slices_Reverse_int_int.tab3 slices_Reverse_int_int.bits3 (fun HT_ HW_ => ?_)
                generalize wr.drew = w10 at HO_0 HK HB GG8 HQ11 HQ12 hf8_0 hf9_0 hx178_0 hx179_0 hx8_0 hx9_0 hHeld ⊢
                refine pure_ (i := 0) (N := some 14) (v := ?_) (a' := ?_) #[true, false, false, false, false, false, false, false, false, false, false, false, false, false, false, false] rfl rfl (any_of HT_.out (by kernel_rfl)) (fun _ _ _ h => h) (Or.inl ⟨by rfl, ?_⟩) ?_ ?_
                rotate_left
                · intro w'
                  go_simp
                  with_reducible rfl
                rotate_left
                · simp only [Act.put, List.setIfInBounds_toArray, List.set_cons_zero, List.set_cons_succ, i64_w, i32_w]
                  rfl
                refine pure_ (i := 1) (N := some 15) (v := ?_) (a' := ?_) #[true, true, false, false, false, false, false, false, false, false, false, false, false, false, false, false] rfl rfl (any_of HT_.out (by kernel_rfl)) (fun _ _ _ h => h) (Or.inl ⟨by rfl, ?_⟩) ?_ ?_
                rotate_left
                · intro w'
                  go_simp
                  with_reducible rfl
                rotate_left
                · simp only [Act.put, List.setIfInBounds_toArray, List.set_cons_zero, List.set_cons_succ, i64_w, i32_w]
                  rfl
                refine pure_ (i := 2) (N := some 16) (v := ?_) (a' := ?_) #[true, true, true, false, false, false, false, false, false, false, false, false, false, false, false, false] rfl rfl (any_of HT_.out (by kernel_rfl)) (fun _ _ _ h => h) (Or.inl ⟨by rfl, ?_⟩) ?_ ?_
                rotate_left
                · intro w'
                  go_simp
                  with_reducible rfl
                rotate_left
                · simp only [Act.put, List.setIfInBounds_toArray, List.set_cons_zero, List.set_cons_succ, i64_w, i32_w]
                  rfl
                refine pure_ (i := 3) (N := some 17) (v := ?_) (a' := ?_) #[true, true, true, true, false, false, false, false, false, false, false, false, false, false, false, false] rfl rfl (any_of HT_.out (by kernel_rfl)) (fun _ _ _ h => h) (Or.inl ⟨by rfl, ?_⟩) ?_ ?_
                rotate_left
                · intro w'
                  go_simp
                  with_reducible rfl
                rotate_left
                · simp only [Act.put, List.setIfInBounds_toArray, List.set_cons_zero, List.set_cons_succ, i64_w, i32_w]
                  rfl
                refine pure_ (i := 4) (N := some 18) (v := ?_) (a' := ?_) #[true, true, true, true, true, false, false, false, false, false, false, false, false, false, false, false] rfl rfl (any_of HT_.out (by kernel_rfl)) (fun _ _ _ h => h) (Or.inl ⟨by rfl, ?_⟩) ?_ ?_
                rotate_left
                · intro w'
                  go_simp
                  with_reducible rfl
                rotate_left
                · simp only [Act.put, List.setIfInBounds_toArray, List.set_cons_zero, List.set_cons_succ, i64_w, i32_w]
                  rfl
                refine pure_ (i := 5) (N := some 19) (v := ?_) (a' := ?_) #[true, true, true, true, true, true, false, false, false, false, false, false, false, false, false, false] rfl rfl (any_of HT_.out (by kernel_rfl)) (fun _ _ _ h => h) (Or.inl ⟨by rfl, ?_⟩) ?_ ?_
                rotate_left
                · intro w'
                  go_simp
                  with_reducible rfl
                rotate_left
                · simp only [Act.put, List.setIfInBounds_toArray, List.set_cons_zero, List.set_cons_succ, i64_w, i32_w]
                  rfl
                refine pure_ (i := 6) (N := some 20) (v := ?_) (a' := ?_) #[true, true, true, true, true, true, true, false, false, false, false, false, false, false, false, false] rfl rfl (any_of HT_.out (by kernel_rfl)) (fun _ _ _ h => h) (Or.inl ⟨by rfl, ?_⟩) ?_ ?_
                rotate_left
                · intro w'
                  go_simp
                  with_reducible rfl
                rotate_left
                · simp only [Act.put, List.setIfInBounds_toArray, List.set_cons_zero, List.set_cons_succ, i64_w, i32_w]
                  rfl
                refine pure_ (i := 8) (N := some 22) (v := ?_) (a' := ?_) #[true, true, true, true, true, true, true, false, true, false, false, false, false, false, false, false] rfl rfl (any_of HT_.out (by kernel_rfl)) (fun _ _ _ h => h) (Or.inl ⟨by rfl, ?_⟩) ?_ ?_
                rotate_left
                · intro w'
                  go_simp
                  with_reducible rfl
                rotate_left
                · simp only [Act.put, List.setIfInBounds_toArray, List.set_cons_zero, List.set_cons_succ, i64_w, i32_w]
                  rfl
                refine pure_ (i := 9) (N := some 23) (v := ?_) (a' := ?_) #[true, true, true, true, true, true, true, false, true, true, false, false, false, false, false, false] rfl rfl (any_of HT_.out (by kernel_rfl)) (fun _ _ _ h => h) (Or.inl ⟨by rfl, ?_⟩) ?_ ?_
                rotate_left
                · intro w'
                  go_simp
                  with_reducible rfl
                rotate_left
                · simp only [Act.put, List.setIfInBounds_toArray, List.set_cons_zero, List.set_cons_succ, i64_w, i32_w]
                  rfl
                refine pure_ (i := 10) (N := some 24) (v := ?_) (a' := ?_) #[true, true, true, true, true, true, true, false, true, true, true, false, false, false, false, false] rfl rfl (any_of HT_.out (by kernel_rfl)) (fun _ _ _ h => h) (Or.inl ⟨by rfl, ?_⟩) ?_ ?_
                rotate_left
                · intro w'
                  go_simp
                  with_reducible rfl
                rotate_left
                · simp only [Act.put, List.setIfInBounds_toArray, List.set_cons_zero, List.set_cons_succ, i64_w, i32_w]
                  rfl
                refine take_ (i := 7) (N := some 21) (v := ?_) (a' := ?_) #[true, true, true, true, true, true, true, true, true, true, true, false, false, false, false, false] rfl rfl (take_ofW HT_.out HW_.out (by kernel_rfl)) (fun _ _ _ h => h) (Or.inl ⟨by rfl, ?_⟩) hHeld ?_ ?_
                rotate_left
                · rintro w' ⟨s0, s1⟩
                  go_simp
                  with_reducible rfl
                rotate_left
                · simp only [Act.put, List.setIfInBounds_toArray, List.set_cons_zero, List.set_cons_succ, i64_w, i32_w]
                  rfl
                refine take_ (i := 11) (N := some 25) (v := ?_) (a' := ?_) #[true, true, true, true, true, true, true, true, true, true, true, true, false, false, false, false] rfl rfl (take_ofW HT_.out HW_.out (by kernel_rfl)) (fun _ _ _ h => h) (Or.inl ⟨by rfl, ?_⟩) hHeld ?_ ?_
                rotate_left
                · rintro w' ⟨s0, s1⟩
                  go_simp
                  with_reducible rfl
                rotate_left
                · simp only [Act.put, List.setIfInBounds_toArray, List.set_cons_zero, List.set_cons_succ, i64_w, i32_w]
                  rfl
                refine pure_ (i := 12) (N := some 26) (v := ?_) (a' := ?_) #[true, true, true, true, true, true, true, true, true, true, true, true, true, false, false, false] rfl rfl (any_of HT_.out (by kernel_rfl)) (fun _ _ _ h => h) (Or.inl ⟨by rfl, ?_⟩) ?_ ?_
                rotate_left
                · intro w'
                  go_simp
                  with_reducible rfl
                rotate_left
                · simp only [Act.put, List.setIfInBounds_toArray, List.set_cons_zero, List.set_cons_succ, i64_w, i32_w]
                  rfl
                refine last_ (i := 13) (N := none) #[true, true, true, true, true, true, true, true, true, true, true, true, true, true, false, false] rfl rfl (one_of HT_.out (by kernel_rfl)) (by decide) (fun K hK => ?_)
                refine skip_ (w1 := ?_) (by rfl) rfl ?_ ?_
                rotate_left
                · go_simp
                  rfl
                refine hK.out _ _ ?_
                clear hK K
                refine pure_ (i := 14) (N := some 27) (v := ?_) (a' := ?_) #[true, true, true, true, true, true, true, true, true, true, true, true, true, true, true, false] rfl rfl (any_of HT_.out (by kernel_rfl)) (fun _ _ _ h => h) (Or.inl ⟨by rfl, ?_⟩) ?_ ?_
                rotate_left
                · intro w'
                  go_simp
                  with_reducible rfl
                rotate_left
                · simp only [Act.put, List.setIfInBounds_toArray, List.set_cons_zero, List.set_cons_succ, i64_w, i32_w]
                  rfl
                refine last_ (i := 15) (N := none) #[true, true, true, true, true, true, true, true, true, true, true, true, true, true, true, true] rfl rfl (one_of HT_.out (by kernel_rfl)) (by decide) (fun K hK => ?_)
                refine skip_ (w1 := ?_) (by rfl) rfl ?_ ?_
                rotate_left
                · go_simp
                  rfl
                refine hK.out _ _ ?_
                clear hK K
                refine done_ (done_of HT_.out (by kernel_rfl)) ?_
                try go_wp2
                (try simp only [← hl0_1])
                go_roundg k1
                case measure => have := HK1.out; omega
                case rel => exact ⟨(y181), (wrap64 (x2_1 + 1)), (wrap64 (x3_1 - 1)), (by first | rfl | (simp; done) | (simp [*]; done)), (by first | rfl | (simp; done) | (simp [*]; done)), H', ⟨by have := HK1.out; omega⟩, ⟨by (try simp only [hl0_1]); (with_reducible repeat (first | apply Kd.R_alloc | apply Kd.R_drewN | apply Kd.R_drew)); exact HQ12.out⟩, ⟨by repeat (first | (with_reducible first | exact HK.out | apply Kept.alloc | apply Kept.drewN | apply Kept.drew | refine Kept.setCell ?_ HMgo8.out _ | refine Kept.setCell ?_ HMgo8.out _) | exact HK.out)⟩, ⟨by repeat (first | (with_reducible first | exact HB.out | apply below_alloc | apply pw_below_drewN | apply below_drew1 | refine below_set ?_ GB8.out | refine below_set ?_ GB8.out) | exact HB.out)⟩⟩
              · rw [if_neg c7] at H
                exact absurd H (by simp)
            · rw [if_neg c6] at H
              exact absurd H (by simp)
          · rw [if_neg c5] at H
            exact absurd H (by simp)
        · rw [if_neg c4] at H
          exact absurd H (by simp)
      · rw [if_neg c3] at H
        have c3b0 : decide (x2_1 < x3_1) = false := decide_eq_false c3
        clear c3
        obtain rfl := Option.some.inj H
        go_wp2
        first | go_end0 | ((try simp only [Exit.inBlock, Exit.then]); refine bodyPost_ret (results_none rfl _ _ _) rfl ?_)
        exact ⟨by first | rfl | (simp [errW_none, errW_some] <;> rfl) | (simp [*, errW_none, errW_some] <;> rfl), (by first | exact (by (with_reducible repeat (first | apply Kd.R_alloc | apply Kd.R_drewN | apply Kd.R_drew)); exact HO_0.out) | (simp only [hl0_1]; exact (by (with_reducible repeat (first | apply Kd.R_alloc | apply Kd.R_drewN | apply Kd.R_drew)); exact HO_0.out))), by repeat (first | (with_reducible first | exact HB.out | apply below_alloc | apply pw_below_drewN | apply below_drew1) | exact HB.out), by repeat (first | (with_reducible first | exact HK.out | apply Kept.alloc | apply Kept.drewN | apply Kept.drew) | exact HK.out)⟩

theorem slices_Reverse_int_int.mid (p : List CV) (x : CV) (r : List CV) : rdOf cv0 (p ++ x :: r) (p.length : Int) = x := by simp [rdOf]
theorem slices_Reverse_int_int.setm (p : List CV) (x y : CV) (r : List CV) : (p ++ y :: r).set p.length x = (p ++ [x]) ++ r := by simp
theorem slices_Reverse_int_int.w64_ {a : Int} (h0 : -9223372036854775808 ≤ a) (h1 : a ≤ 9223372036854775807) : wrap64 a = a := by
  unfold wrap64
  omega
theorem slices_Reverse_int_int.loop : ∀ (d : Nat) (m p q : List CV), m.length ≤ d → p.length = q.length → p.length + m.length + q.length ≤ 100 →
    Ev (fun k => slices_Reverse_int_int.l0 k (p ++ m ++ q) (p.length : Int) ((p.length : Int) + m.length - 1)) (p ++ m.reverse ++ q) := by
  intro d
  induction d with
  | zero =>
    intro m p q h hp hl
    have hm : m = [] := List.length_eq_zero_iff.mp (by omega)
    subst hm
    refine Ev.step (f := fun _ => some _) (fun k => ?_) (Ev.now _)
    simp only [slices_Reverse_int_int.l0]
    rw [if_neg (by simp <;> omega)]
    rfl
  | succ d ih =>
    intro m p q h hp hl
    match m with
    | [] =>
      refine Ev.step (f := fun _ => some _) (fun k => ?_) (Ev.now _)
      simp only [slices_Reverse_int_int.l0]
      rw [if_neg (by simp <;> omega)]
      rfl
    | [x] =>
      refine Ev.step (f := fun _ => some _) (fun k => ?_) (Ev.now _)
      simp only [slices_Reverse_int_int.l0]
      rw [if_neg (by simp)]
      rfl
    | x :: y :: r =>
      obtain ⟨m', z, e⟩ : ∃ m' z, y :: r = m' ++ [z] := ⟨(y :: r).dropLast, (y :: r).getLast (by simp), (List.dropLast_concat_getLast (by simp)).symm⟩
      rw [e] at h hl ⊢
      simp only [List.length_cons, List.length_append, List.length_singleton] at h hl
      have hi := ih m' (p ++ [z]) (x :: q) (by omega) (by simp [hp]) (by simp <;> omega)
      have e1 : p ++ (x :: (m' ++ [z])).reverse ++ q = p ++ [z] ++ m'.reverse ++ (x :: q) := by simp
      rw [e1]
      refine Ev.step (fun k => ?_) hi
      have hj : ((p.length : Int) + ((x :: (m' ++ [z])).length : Int) - 1) = ((p.length + 1 + m'.length : Nat) : Int) := by simp <;> omega
      have ei : wrap64 ((p.length : Int) + 1) = ((p ++ [z]).length : Int) := by rw [slices_Reverse_int_int.w64_ (by omega) (by omega)]; simp
      have ej : wrap64 (((p.length + 1 + m'.length : Nat) : Int) - 1) = ((p ++ [z]).length : Int) + (m'.length : Int) - 1 := by rw [slices_Reverse_int_int.w64_ (by omega) (by omega), List.length_append, List.length_singleton]; omega
      have ex : rdOf cv0 (p ++ (x :: (m' ++ [z])) ++ q) (p.length : Int) = x := by simp [rdOf]
      have ez : rdOf cv0 (p ++ (x :: (m' ++ [z])) ++ q) ((p.length + 1 + m'.length : Nat) : Int) = z := by
        have : p ++ (x :: (m' ++ [z])) ++ q = (p ++ x :: m') ++ (z :: q) := by simp
        rw [this, show p.length + 1 + m'.length = (p ++ x :: m').length by simp <;> omega]
        exact slices_Reverse_int_int.mid _ _ _
      have es : ((p ++ (x :: (m' ++ [z])) ++ q).set p.length z).set (p.length + 1 + m'.length) x = p ++ [z] ++ m' ++ (x :: q) := by
        have e2 : p ++ (x :: (m' ++ [z])) ++ q = p ++ x :: (m' ++ z :: q) := by simp
        rw [e2, slices_Reverse_int_int.setm, show (p ++ [z] ++ (m' ++ z :: q)) = (p ++ [z] ++ m') ++ z :: q by simp, show p.length + 1 + m'.length = (p ++ [z] ++ m').length by simp <;> omega, slices_Reverse_int_int.setm]
        simp
      simp only [slices_Reverse_int_int.l0]
      rw [hj, if_pos (by omega), if_pos (by omega), if_pos (by simp <;> omega), if_pos (by omega), if_pos (by simp <;> omega), ex, ez, ei, ej, Int.toNat_natCast, Int.toNat_natCast, es]
theorem slices_Reverse_int_int.ev (l : List CV) (hl : l.length ≤ 100) : Ev (fun k => slices_Reverse_int_int.f k l) l.reverse := by
  unfold slices_Reverse_int_int.f
  have h := slices_Reverse_int_int.loop l.length l [] [] (by omega) rfl (by simp <;> omega)
  simp only [List.nil_append, List.append_nil, List.length_nil] at h
  rw [slices_Reverse_int_int.w64_ (by omega) (by omega)]
  have e : (((0 : Nat) : Int) + (l.length : Int) - 1) = (l.length : Int) - 1 := by omega
  rw [e] at h
  exact h
/-- slices.Reverse of a list of lists of the call's own: at most 100 of them. -/
theorem slices_Reverse_int_int.rows (P0_ : Nat → Prop) (u : Value) (l0 : List (List Int)) (w0 w : World) (hB : Below w0.heap.size w0 w) (ho0 : Kd.S (Kd.slice 3 (Kd.int .i64)) 29 w w0.heap.size P0_ u l0) (hl : l0.length ≤ 100) :
    Calls Try.prog 51 #[u] w fun e w' => e = .returned (.tuple #[]) ∧ Kd.S (Kd.slice 3 (Kd.int .i64)) 29 w' w0.heap.size P0_ u l0.reverse ∧ Below w0.heap.size w0 w' ∧ Kept w w' P0_ := by
  obtain ⟨cs, okj, hR, h0, hc⟩ := S_cells ho0
  have hcl := hc.len
  obtain ⟨K, hK⟩ := slices_Reverse_int_int.ev cs (by omega)
  refine (slices_Reverse_int_int.calls K _ u cs cs.reverse w0 w hB hR (hK K (Nat.le_refl _))).mono fun e w' ⟨he, hR', hb, hk⟩ => ⟨he, ?_, hb, Kept.mono hk (fun k hk => h0 k hk.symm)⟩
  refine S_of_cells rfl hR' h0 (Cells.told hc (fun j => l0.length - 1 - j) (by simp [hcl]) (fun i j hi hj e => by simp at hi hj; omega) (fun j hj => ?_) (fun j hj => ?_) (fun k h1 h2 hlt => hk.2 k hlt h2))
  · rw [List.length_reverse] at hj
    rw [List.getElem?_reverse (by omega)]
  · rw [List.length_reverse] at hj
    rw [List.getElem?_reverse (by omega), hcl]

/-! ### impl_UnshuffleTo: function 29, by hand -/
def impl_UnshuffleTo.l0 : Nat → List Int → List (List Int) → Int → Option (List (List Int) × Bool)
  | 0, _, _, _ => none
  | k + 1, x0, x5, x4 => if x4 > 0 then (if x5.length < 100 then ((impl_before.f k x0).bind fun t => impl_UnshuffleTo.l0 k t (x5 ++ [t]) (wrap64 (x4 - 1))) else none) else some (x5.reverse, true)
def impl_UnshuffleTo.f (k : Nat) (l0 : List Int) : Option (List (List Int) × Bool) := (impl_LeastRiffles.f k l0).bind fun t => if t < 0 then some ([], false) else (if l0.length < 17592186044416 then impl_UnshuffleTo.l0 k l0 [l0] t else none)
theorem impl_UnshuffleTo.mono_l : ∀ k, ∀ y0 y1 y2, LeO (impl_UnshuffleTo.l0 k y0 y1 y2) (impl_UnshuffleTo.l0 (k + 1) y0 y1 y2)
  | 0 => fun _ _ _ r h => by simp [impl_UnshuffleTo.l0] at h
  | k + 1 => by
    have ih0 := impl_UnshuffleTo.mono_l k
    intro y0 y1 y2
    unfold impl_UnshuffleTo.l0
    repeat' first
      | (with_reducible exact ih0 _ _ _)
      | (with_reducible exact impl_before.mono _ _)
      | (with_reducible exact LeO.refl _)
      | (with_reducible exact LeO.none _)
      | (with_reducible refine LeO.ite ?_ ?_)
      | (with_reducible refine LeO.bind ?_ (fun _ => ?_))
theorem impl_UnshuffleTo.mono : ∀ a0 k, LeO (impl_UnshuffleTo.f k a0) (impl_UnshuffleTo.f (k + 1) a0) := by
  intro a0 k
  have ih0 := impl_UnshuffleTo.mono_l k
  unfold impl_UnshuffleTo.f
  repeat' first
      | (with_reducible exact ih0 _ _ _)
      | (with_reducible exact impl_LeastRiffles.mono _ _)
      | (with_reducible exact LeO.refl _)
      | (with_reducible exact LeO.none _)
      | (with_reducible refine LeO.ite ?_ ?_)
      | (with_reducible refine LeO.bind ?_ (fun _ => ?_))
set_option maxHeartbeats 8000000 in
set_option maxRecDepth 100000 in
theorem impl_UnshuffleTo.calls (k : Nat) (A0 : Option Addr) (c0 : Nat) (l0 : List Int) (r1 : List (List Int)) (r2 : Bool) (w : World) (hr0 : Kd.C (Kd.int .i64) w A0 l0.length l0) (hc0 : l0.length ≤ c0) (h : impl_UnshuffleTo.f k l0 = some (r1, r2)) :
    Calls Try.prog 29 #[.slice A0 l0.length c0] w fun e w' => ∃ v0_ : Value, e = .returned (.tuple #[v0_, .bool r2]) ∧ Kd.S (Kd.slice 3 (Kd.int .i64)) 29 w' w.heap.size (fun _ => True) v0_ r1 ∧ Below w.heap.size w w' := by
  have HR0 := Aside0.mk hr0
  have HC0 := Aside0.mk hc0
  clear hr0 hc0
  have HB := Aside0.mk (Below.refl w.heap.size w)
  obtain ⟨t, A1_, H⟩ := Option.bind_eq_some_iff.mp h
  have A1 := Aside0.mk A1_
  clear h A1_
  by_cases c1 : t < 0
  · rw [if_pos c1] at H
    have c1b : decide (t < 0) = true := decide_eq_true c1
    clear c1
    simp only [Option.some.injEq, Prod.mk.injEq] at H
    obtain ⟨rfl, rfl⟩ := H
    go_enter Try.func29, Try.ntmps29
    go_wp2_with (first | ((with_reducible refine gate_callee (f := 30) rfl ?_); refine goesL_ (some 7) rfl rfl Try.func30 (by kernel_rfl) rfl #[.slice A0 l0.length c0] rfl (by (try simp only [List.map_toArray, List.map_cons, List.map_nil]); first | done | rfl) ?_; (with_reducible refine (impl_LeastRiffles.calls k _ _ l0 t _ ?side1 ?side2 A1.out).mono ?_); (case side1 => exact HR0.out); (case side2 => exact HC0.out); rintro e w1 ⟨rfl, hb⟩; refine ⟨_, rfl, ?_⟩; have HB1 := Aside0.mk (below_step HB.out hb); clear HB hb))
    go_ret2
    exact ⟨_, rfl, Kd.S_nil _ _ _ _ _, HB1.out⟩
  · rw [if_neg c1] at H
    have c1b : decide (t < 0) = false := decide_eq_false c1
    clear c1
    by_cases c2 : l0.length < 17592186044416
    · rw [if_pos c2] at H
      have HCL := Aside0.mk (show slices_Clone_int_int.f l0 = some l0 by unfold slices_Clone_int_int.f; rw [if_pos c2])
      have H' := Aside0.mk H
      clear H c2
      go_enter Try.func29, Try.ntmps29
      go_wp2_with (first | ((with_reducible refine gate_callee (f := 30) rfl ?_); refine goesL_ (some 7) rfl rfl Try.func30 (by kernel_rfl) rfl #[.slice A0 l0.length c0] rfl (by (try simp only [List.map_toArray, List.map_cons, List.map_nil]); first | done | rfl) ?_; (with_reducible refine (impl_LeastRiffles.calls k _ _ l0 t _ ?side1 ?side2 A1.out).mono ?_); (case side1 => exact HR0.out); (case side2 => exact HC0.out); rintro e w1 ⟨rfl, hb⟩; refine ⟨_, rfl, ?_⟩; have HB1 := Aside0.mk (below_step HB.out hb); clear HB hb) | ((with_reducible refine gate_callee (f := 49) rfl ?_); refine goesL_ (some 11) rfl rfl Try.func49 (by kernel_rfl) rfl #[.slice A0 l0.length c0] rfl (by (try simp only [List.map_toArray, List.map_cons, List.map_nil]); first | done | rfl) ?_; (with_reducible refine (slices_Clone_int_int.calls _ _ l0 l0 _ ?side1 ?side2 HCL.out).mono ?_); (case side1 => exact Kd.C_below HR0.out HB1.out); (case side2 => exact HC0.out); rintro e w2 ⟨v11, rfl, ho, hb⟩; refine ⟨_, rfl, ?_⟩; have HB2 := Aside0.mk (below_step HB1.out hb); have HO := Aside0.mk (Kd.R_lower ho HB1.out.size); clear HB1 hb ho; obtain ⟨A1_, c1_, e1_⟩ := Kd.R_slice HO.out; subst e1_) | ((with_reducible refine gate_dst (N := 12) rfl ?_); refine Kd.S_lits (Kd.slice 3 (Kd.int .i64)) w.heap.size 29 ?hg (N := 12) ?hd (xs := [l0]) (inner := [.slice A1_ l0.length c1_]) (ok := fun _ => True) (fun j k => j = 0 ∧ some k = (Value.slice A1_ l0.length c1_).ownBlock) ?hr rfl ?hp ?ha (fun _ _ _ => trivial) trivial HB2.out HB2.out.size (by simp) ?_; (case hd => rfl); (case hg => rfl); (case hr => first | (go_simp; done) | (go_simp; rfl)); (case hp => exact fun j x hx => by (match j, hx with | 0, hx => (simp at hx; subst hx; exact ⟨_, rfl, Kd.R_mono (Kd.R_tight rfl HO.out) (fun k hk => ⟨rfl, hk⟩)⟩) | j + 1, hx => simp at hx)); (case ha => exact fun i j k h1 h2 => h1.1.trans h2.1.symm); intro v12 w3 ho5 hb hg_ hnew_; clear hg_ hnew_ HO; have HB3 := Aside0.mk hb; have HS := Aside0.mk ho5; clear HB2 hb ho5))
      go_loopg [0, 4, 5] k (fun kq v0 v4 v5 w' => ∃ (x0 : List Int) (A : Option Addr) (c : Nat) (x4 : Int) (x5 : List (List Int)), v0 = .slice A x0.length c ∧ v4 = .int .i64 x4 ∧ Aside0 (impl_UnshuffleTo.l0 kq x0 x5 x4 = some (r1, r2)) ∧ Aside0 (kq ≤ k) ∧ Aside0 (Kd.S (Kd.slice 3 (Kd.int .i64)) 29 w' w.heap.size (fun _ => True) v5 x5) ∧ Aside0 (Kd.C (Kd.int .i64) w' A x0.length x0) ∧ Aside0 (x0.length ≤ c) ∧ Aside0 (x5.length ≤ 100) ∧ Aside0 (Below w.heap.size w w'))
      case atStart => exact ⟨l0, A0, c0, t, [l0], rfl, rfl, H', ⟨Nat.le_refl _⟩, HS, ⟨Kd.C_below HR0.out HB3.out⟩, HC0, ⟨by simp⟩, HB3⟩
      case round =>
        clear H' HS HB3 c1b A1 HCL HR0 HC0
        obtain ⟨x0, A, c, x4, x5, rfl, rfl, HA, HK1, HS, HC, HL, HN, HB⟩ := hrel
        cases gk with
        | zero => exact absurd HA.out (by simp [impl_UnshuffleTo.l0])
        | succ k1 =>
          have H := HA.out
          clear HA
          simp only [impl_UnshuffleTo.l0] at H
          by_cases c3 : x4 > 0
          · rw [if_pos c3] at H
            have c3b : decide (0 < x4) = true := decide_eq_true c3
            clear c3
            by_cases c4 : x5.length < 100
            · rw [if_pos c4] at H
              have HN5 := Aside0.mk c4
              clear c4 HN
              obtain ⟨t1, A5_, H⟩ := Option.bind_eq_some_iff.mp H
              have A5 := Aside0.mk A5_
              clear A5_
              have H' := Aside0.mk H
              clear H
              go_wp2_with (first | ((with_reducible refine gate_callee (f := 50) rfl ?_); refine goesL_ (some 18) rfl rfl Try.func50 (by kernel_rfl) rfl #[.slice A x0.length c] rfl (by (try simp only [List.map_toArray, List.map_cons, List.map_nil]); first | done | rfl) ?_; (with_reducible refine (impl_before.calls k1 _ _ x0 t1 _ ?side1 ?side2 A5.out).mono ?_); (case side1 => exact HC.out); (case side2 => exact HL.out); rintro e w2 ⟨v18, rfl, ho, hb⟩; refine ⟨_, rfl, ?_⟩; have HX := Aside0.mk (Kd.S_mono (ok' := fun k_ => True ∧ ¬ (some k_ = v18.ownBlock)) (Kd.S_below (Kd.S_bound HS.out) hb) (fun k hk => ⟨trivial, fun e_ => by have := Kd.R_base ho k e_.symm; have := hk.2.2.1; omega⟩)); have HNE := Aside0.mk (show ∀ k, some k = v18.ownBlock → some k ≠ u5.ownBlock from fun k e_ e2_ => by have := Kd.R_base ho k e_.symm; have := Kd.S_lt HS.out k e2_.symm; omega); have HO := Aside0.mk (Kd.R_tight rfl (Kd.R_lower ho HB.out.size)); have HB2 := Aside0.mk (below_step HB.out hb); clear HB HS HC HL ho hb; obtain ⟨A2_, c2_, e2_⟩ := Kd.R_slice HO.out; subst e2_) | ((with_reducible refine gate_builtin (b := .append) (xs := #[.tmp 19, .tmp 21]) rfl ?_); at_builtin; refine Kd.S_append (Kd.slice 3 (Kd.int .i64)) (w0 := w) w.heap.size rfl (.tmp 19) (.tmp 21) 31 29 (.slice none 0 0) 24 rfl Try.underlying31 info29 rfl (by decide) (by omega) u5 x5 t1 [.slice A2_ t1.length c2_] (fun _ => True) (fun k_ => some k_ = (.slice A2_ t1.length c2_ : Value).ownBlock) rfl rfl ?aP (fun k_ hk_ => ⟨trivial, HNE.out k_ hk_⟩) (fun _ _ => trivial) HX.out HB2.out HB2.out.size ?aL ?_; (case aP => exact Kd.M_row HO.out); (case aL => have := HN5.out; omega); intro v22 w3 ho hb hg hat; have HS3 := Aside0.mk ho; have HB3 := Aside0.mk hb; have HO3 := Aside0.mk (Kd.R_grown HO.out hg (fun k hk => HNE.out k hk)); clear HB2 HX HO ho hb hg hat))
              go_roundg k1
              case measure => have := HK1.out; omega
              case rel => exact ⟨t1, A2_, c2_, wrap64 (x4 - 1), x5 ++ [t1], rfl, (by first | rfl | (simp; done) | (simp [*]; done)), H', ⟨by have := HK1.out; omega⟩, HS3, ⟨(Kd.R_reads' HO3.out).2.2⟩, ⟨(Kd.R_reads' HO3.out).2.1⟩, ⟨by have := HN5.out; simp; omega⟩, HB3⟩
            · rw [if_neg c4] at H
              exact absurd H (by simp)
          · rw [if_neg c3] at H
            have c3b : decide (0 < x4) = false := decide_eq_false c3
            clear c3
            simp only [Option.some.injEq, Prod.mk.injEq] at H
            obtain ⟨rfl, rfl⟩ := H
            go_wp2_with (first | ((with_reducible refine gate_callee (f := 51) rfl ?_); refine goesL_ (some 24) rfl rfl Try.func51 (by kernel_rfl) rfl #[u5] rfl (by (try simp only [List.map_toArray, List.map_cons, List.map_nil]); first | done | rfl) ?_; (with_reducible refine (slices_Reverse_int_int.rows (fun _ => True) u5 x5 w _ HB.out HS.out HN.out).mono ?_); rintro e w2 ⟨rfl, ho, hb, hk⟩; refine ⟨_, rfl, ?_⟩; have HS2 := Aside0.mk ho; have HB2 := Aside0.mk hb; clear HB HS ho hb hk))
            go_ret2
            exact ⟨_, rfl, HS2.out, HB2.out⟩
    · rw [if_neg c2] at H
      exact absurd H (by simp)

/-! ### laws_same: function 32 -/
def laws_same.l0 : Nat → List Int → List Int → Int → Int → Option (Bool)
  | 0, _, _, _, _ => none
  | k + 1, x1, x12, x13, x14 => if x14 < x13 then (if 0 ≤ x14 then (if x14 < (x12.length : Int) then (if x14 < (x1.length : Int) then (if (rd x12 x14) = (rd x1 x14) then (laws_same.l0 k x1 x12 x13 (wrap64 (x14 + 1))) else (some false)) else (none)) else (none)) else (none)) else (some true)
def laws_same.f (k : Nat) (l0 : List Int) (l1 : List Int) : Option (Bool) := if (l0.length : Int) = (l1.length : Int) then (laws_same.l0 k l1 l0 (l0.length : Int) 0) else (some false)
theorem laws_same.mono_l : ∀ k, (∀ y0 y1 y2 y3, LeO (laws_same.l0 k y0 y1 y2 y3) (laws_same.l0 (k + 1) y0 y1 y2 y3))
  | 0 => fun _ _ _ _ r h => by simp [laws_same.l0] at h
  | k + 1 => by
    have ih0 := laws_same.mono_l k
    · intro y0 y1 y2 y3
      unfold laws_same.l0
      repeat' first
      | (with_reducible exact ih0 _ _ _ _)
      | (with_reducible exact LeO.refl _)
      | (with_reducible exact LeO.none _)
      | (with_reducible refine LeO.ite ?_ ?_)
      | (with_reducible refine LeO.bind ?_ (fun _ => ?_))
      | exact ih0 _ _ _ _
      | exact LeO.none _
      | refine LeO.ite ?_ ?_
      | refine LeO.bind ?_ (fun _ => ?_)
theorem laws_same.mono : ∀ a0 a1 k, LeO (laws_same.f k a0 a1) (laws_same.f (k + 1) a0 a1) := by
  intro a0 a1 k
  have ih0 := laws_same.mono_l k
  unfold laws_same.f
  repeat' first
      | (with_reducible exact ih0 _ _ _ _)
      | (with_reducible exact LeO.refl _)
      | (with_reducible exact LeO.none _)
      | (with_reducible refine LeO.ite ?_ ?_)
      | (with_reducible refine LeO.bind ?_ (fun _ => ?_))
      | exact ih0 _ _ _ _
      | exact LeO.none _
      | refine LeO.ite ?_ ?_
      | refine LeO.bind ?_ (fun _ => ?_)
set_option maxHeartbeats 8000000 in
set_option maxRecDepth 100000 in
theorem laws_same.calls (k : Nat) (A0 : Option Addr) (c0 : Nat) (l0 : List Int) (A1 : Option Addr) (c1 : Nat) (l1 : List Int) (r : Bool) (w : World) (hr0 : Kd.C (Kd.int .i64) w A0 l0.length l0) (hc0 : l0.length ≤ c0) (hr1 : Kd.C (Kd.int .i64) w A1 l1.length l1) (hc1 : l1.length ≤ c1) (h : laws_same.f k l0 l1 = some r) :
    Calls Try.prog 32 #[.slice A0 l0.length c0, .slice A1 l1.length c1] w fun e w' => e = .returned (.bool r) ∧ Drawn0 w w' := by
  have HR0 := Aside0.mk hr0
  have HC0 := Aside0.mk hc0
  clear hr0 hc0
  have HR1 := Aside0.mk hr1
  have HC1 := Aside0.mk hc1
  clear hr1 hc1
  have H : (if (l0.length : Int) = (l1.length : Int) then (laws_same.l0 k l1 l0 (l0.length : Int) 0) else (some false)) = some r := h
  clear h
  by_cases c3 : (l0.length : Int) = (l1.length : Int)
  · rw [if_pos c3] at H
    have c3b0 : ((l0.length : Int) == (l1.length : Int)) = true := beq_iff_eq.mpr c3
    have c3b1 : ((l0.length : Int) != (l1.length : Int)) = false := bne_eq_false_iff_eq.mpr c3
    have c3b2 : (l0.length == l1.length) = true := by first | simpa using c3 | (simp at c3 ⊢; omega)
    clear c3
    have H' := Aside0.mk H
    clear H
    go_enter Try.func32, Try.ntmps32
    go_wp2
    go_loopg [14] k (fun kq v14 w' => ∃ (x14_1 : Int), v14 = .int .i64 x14_1 ∧ Aside0 (laws_same.l0 kq l1 l0 (l0.length : Int) x14_1 = some r) ∧ Aside0 (kq ≤ k) ∧ Drawn0 w w')
    case atStart => exact ⟨(0), (by first | rfl | (simp; done) | (simp [*]; done)), H', ⟨Nat.le_refl _⟩, by repeat (first | exact Drawn0.refl _ | apply Drawn0.step)⟩
    case round =>
      clear H'
      try clear c1
      try clear p2
      try clear c3
      try clear c3b0
      try clear c3b1
      try clear c3b2
      obtain ⟨x14_1, rfl, HA, HK1, ⟨m1, rfl⟩⟩ := hrel
      cases gk with
      | zero => exact absurd HA.out (by simp [laws_same.l0])
      | succ k1 =>
        have H := HA.out
        clear HA
        simp only [laws_same.l0] at H
        by_cases c4 : x14_1 < (l0.length : Int)
        · rw [if_pos c4] at H
          have c4b0 : decide (x14_1 < (l0.length : Int)) = true := decide_eq_true c4
          clear c4
          by_cases c5 : 0 ≤ x14_1
          · rw [if_pos c5] at H
            have c5b0 : decide (0 ≤ x14_1) = true := decide_eq_true c5
            clear c5
            by_cases c6 : x14_1 < (l0.length : Int)
            · rw [if_pos c6] at H
              have c6b0 : decide (x14_1 < (l0.length : Int)) = true := decide_eq_true c6
              clear c6
              by_cases c7 : x14_1 < (l1.length : Int)
              · rw [if_pos c7] at H
                have c7b0 : decide (x14_1 < (l1.length : Int)) = true := decide_eq_true c7
                clear c7
                by_cases c8 : (rd l0 x14_1) = (rd l1 x14_1)
                · rw [if_pos c8] at H
                  have c8b0 : ((rd l0 x14_1) == (rd l1 x14_1)) = true := beq_iff_eq.mpr c8
                  have c8b1 : ((rd l0 x14_1) != (rd l1 x14_1)) = false := bne_eq_false_iff_eq.mpr c8
                  clear c8
                  have H' := Aside0.mk H
                  clear H
                  have p215 : 0 ≤ (x14_1 : Int) := of_decide_eq_true (by first | (with_reducible assumption) | assumption)
                  have q215 : x14_1 < (l0.length : Int) := of_decide_eq_true (by first | (with_reducible assumption) | assumption)
                  obtain ⟨ad215, e215, hx215_0⟩ := Kd.at_int HR0.out x14_1 p215 q215
                  cases e215
                  replace p215 := eq_true p215
                  replace q215 := eq_true q215
                  have p216 : 0 ≤ (x14_1 : Int) := of_decide_eq_true (by first | (with_reducible assumption) | assumption)
                  have q216 : x14_1 < (l1.length : Int) := of_decide_eq_true (by first | (with_reducible assumption) | assumption)
                  obtain ⟨ad216, e216, hx216_0⟩ := Kd.at_int HR1.out x14_1 p216 q216
                  cases e216
                  replace p216 := eq_true p216
                  replace q216 := eq_true q216
                  go_wp2
                  go_roundg k1
                  case measure => have := HK1.out; omega
                  case rel => exact ⟨(wrap64 (x14_1 + 1)), (by first | rfl | (simp; done) | (simp [*]; done)), H', ⟨by have := HK1.out; omega⟩, by repeat (first | exact Drawn0.refl _ | apply Drawn0.step)⟩
                · rw [if_neg c8] at H
                  have c8b0 : ((rd l0 x14_1) == (rd l1 x14_1)) = false := beq_eq_false_iff_ne.mpr c8
                  have c8b1 : ((rd l0 x14_1) != (rd l1 x14_1)) = true := bne_iff_ne.mpr c8
                  obtain rfl := Option.some.inj H
                  have p215 : 0 ≤ (x14_1 : Int) := of_decide_eq_true (by first | (with_reducible assumption) | assumption)
                  have q215 : x14_1 < (l0.length : Int) := of_decide_eq_true (by first | (with_reducible assumption) | assumption)
                  obtain ⟨ad215, e215, hx215_0⟩ := Kd.at_int HR0.out x14_1 p215 q215
                  cases e215
                  replace p215 := eq_true p215
                  replace q215 := eq_true q215
                  have p216 : 0 ≤ (x14_1 : Int) := of_decide_eq_true (by first | (with_reducible assumption) | assumption)
                  have q216 : x14_1 < (l1.length : Int) := of_decide_eq_true (by first | (with_reducible assumption) | assumption)
                  obtain ⟨ad216, e216, hx216_0⟩ := Kd.at_int HR1.out x14_1 p216 q216
                  cases e216
                  replace p216 := eq_true p216
                  replace q216 := eq_true q216
                  go_wp2
                  go_ret
                  exact ⟨by first | rfl | (simp; done) | (simp [*]; done), by repeat (first | exact Drawn0.refl _ | apply Drawn0.step)⟩
              · rw [if_neg c7] at H
                exact absurd H (by simp)
            · rw [if_neg c6] at H
              exact absurd H (by simp)
          · rw [if_neg c5] at H
            exact absurd H (by simp)
        · rw [if_neg c4] at H
          have c4b0 : decide (x14_1 < (l0.length : Int)) = false := decide_eq_false c4
          clear c4
          obtain rfl := Option.some.inj H
          go_wp2
          go_ret
          exact ⟨by first | rfl | (simp; done) | (simp [*]; done), by repeat (first | exact Drawn0.refl _ | apply Drawn0.step)⟩
  · rw [if_neg c3] at H
    have c3b0 : ((l0.length : Int) == (l1.length : Int)) = false := beq_eq_false_iff_ne.mpr c3
    have c3b1 : ((l0.length : Int) != (l1.length : Int)) = true := bne_iff_ne.mpr c3
    have c3b2 : (l0.length == l1.length) = false := by first | simpa using c3 | (simp at c3 ⊢; omega)
    obtain rfl := Option.some.inj H
    go_enter Try.func32, Try.ntmps32
    go_wp2
    go_ret
    exact ⟨by first | rfl | (simp; done) | (simp [*]; done), by repeat (first | exact Drawn0.refl _ | apply Drawn0.step)⟩

/-! ### impl_upTo: function 63 -/
def impl_upTo.l0 : Nat → Int → List Int → Int → Option (List Int)
  | 0, _, _, _ => none
  | k + 1, x0, x3, x4 => if x4 < x0 then (if x3.length < 17592186044416 then (impl_upTo.l0 k x0 (x3 ++ [x4]) (wrap64 (x4 + 1))) else (none)) else (some x3)
def impl_upTo.f (k : Nat) (a0 : Int) : Option (List Int) := impl_upTo.l0 k a0 ([] : List Int) 0
theorem impl_upTo.mono_l : ∀ k, (∀ y0 y1 y2, LeO (impl_upTo.l0 k y0 y1 y2) (impl_upTo.l0 (k + 1) y0 y1 y2))
  | 0 => fun _ _ _ r h => by simp [impl_upTo.l0] at h
  | k + 1 => by
    have ih0 := impl_upTo.mono_l k
    · intro y0 y1 y2
      unfold impl_upTo.l0
      repeat' first
      | (with_reducible exact ih0 _ _ _)
      | (with_reducible exact LeO.refl _)
      | (with_reducible exact LeO.none _)
      | (with_reducible refine LeO.ite ?_ ?_)
      | (with_reducible refine LeO.bind ?_ (fun _ => ?_))
      | exact ih0 _ _ _
      | exact LeO.none _
      | refine LeO.ite ?_ ?_
      | refine LeO.bind ?_ (fun _ => ?_)
theorem impl_upTo.mono : ∀ a0 k, LeO (impl_upTo.f k a0) (impl_upTo.f (k + 1) a0) := by
  intro a0 k
  have ih0 := impl_upTo.mono_l k
  unfold impl_upTo.f
  repeat' first
      | (with_reducible exact ih0 _ _ _)
      | (with_reducible exact LeO.refl _)
      | (with_reducible exact LeO.none _)
      | (with_reducible refine LeO.ite ?_ ?_)
      | (with_reducible refine LeO.bind ?_ (fun _ => ?_))
      | exact ih0 _ _ _
      | exact LeO.none _
      | refine LeO.ite ?_ ?_
      | refine LeO.bind ?_ (fun _ => ?_)
set_option maxHeartbeats 8000000 in
set_option maxRecDepth 100000 in
theorem impl_upTo.calls (k : Nat) (a0 : Int) (r : List Int) (w : World) (h : impl_upTo.f k a0 = some r) :
    Calls Try.prog 63 #[.int .i64 a0] w fun e w' => ∃ v0_ : Value, e = .returned (v0_) ∧ Kd.R (Kd.int .i64) 3 w' w.heap.size (fun _ => True) v0_ r ∧ Below w.heap.size w w' := by
  have HB := Aside0.mk (Below.refl w.heap.size w)
  have H : (impl_upTo.l0 k a0 ([] : List Int) 0) = some r := h
  clear h
  have H' := Aside0.mk H
  clear H
  go_enter Try.func63, Try.ntmps63
  go_wp2
  go_loopg [3, 4] k (fun kq v3 v4 w' => ∃ (x3_1 : List Int) (x4_1 : Int), v4 = .int .i64 x4_1 ∧ Aside0 (impl_upTo.l0 kq a0 x3_1 x4_1 = some r) ∧ Aside0 (kq ≤ k) ∧ Aside0 (Kd.R (Kd.int .i64) 3 w' w.heap.size (fun _ => True) v3 x3_1) ∧ Aside0 (Below w.heap.size w w'))
  case atStart => exact ⟨(([] : List Int)), (0), (by first | rfl | (simp; done) | (simp [*]; done)), H', ⟨Nat.le_refl _⟩, ⟨by first | exact Kd.R_nil _ _ _ _ _ | exact Kd.N_nil _ _ _ _ _ | exact Kd.V_nil _ _ _ _ _ | exact Kd.Q_nil _ _ _ _ _ | exact Kd.S_nil _ _ _ _ _⟩, ⟨by repeat (first | (with_reducible first | exact HB.out | apply below_alloc | apply pw_below_drewN | apply below_drew1) | exact HB.out)⟩⟩
  case round =>
    clear H'
    obtain ⟨x3_1, x4_1, rfl, HA, HK1, HO_3, HB⟩ := hrel
    cases gk with
    | zero => exact absurd HA.out (by simp [impl_upTo.l0])
    | succ k1 =>
      have H := HA.out
      clear HA
      simp only [impl_upTo.l0] at H
      by_cases c2 : x4_1 < a0
      · rw [if_pos c2] at H
        have c2b0 : decide (x4_1 < a0) = true := decide_eq_true c2
        clear c2
        by_cases c3 : x3_1.length < 17592186044416
        · rw [if_pos c3] at H
          have LMc3 := Aside0.mk c3
          clear c3
          obtain ⟨y217, hy217⟩ : ∃ y_ : List Int, y_ = (x3_1 ++ [x4_1]) := ⟨_, rfl⟩
          replace H : (impl_upTo.l0 k1 a0 y217 (wrap64 (x4_1 + 1))) = some r := by first | (rw [hy217]; with_reducible exact H) | (have H2_ := (Option.bind_some _ _).symm.trans H; rw [hy217]; with_reducible exact H2_) | (have H2_ := (Option.bind_some _ _).symm.trans H; with_reducible exact H2_) | with_reducible exact H | (rw [hy217]; exact H) | exact H
          have Ny217 := Aside0.mk hy217
          clear hy217
          have H' := Aside0.mk H
          clear H
          go_wp2_with (first | ((with_reducible refine gate_builtin (b := .append) (xs := #[.tmp 10, .tmp 12]) rfl ?_); at_builtin; refine Kd.R_append (Kd.int .i64) (w0 := w) w.heap.size rfl (.tmp 10) (.tmp 12) 29 3 (.int .i64 0) 8 rfl Try.underlying29 info3 rfl (by decide) (by omega) u3 x3_1 x4_1 [.int .i64 x4_1] (fun _ => True) (fun _ => False) rfl rfl ?aP (fun _ hk => hk.elim) ?aF ?aO ?aB ?aS ?aL ?_; (case aP => exact rfl); (case aB => exact (by repeat (first | (with_reducible first | exact HB.out | apply below_alloc | apply pw_below_drewN | apply below_drew1) | exact HB.out))); (case aF => exact (fun _ _ => trivial)); (case aO => exact (by (with_reducible repeat (first | apply Kd.R_alloc | apply Kd.R_drewN | apply Kd.R_drew)); exact HO_3.out)); (case aS => exact (below_size (by repeat (first | (with_reducible first | exact HB.out | apply below_alloc | apply pw_below_drewN | apply below_drew1) | exact HB.out)))); (case aL => have := LMc3.out; omega); intro v218 w4 ho hb hg hat; rw [← Ny217.out] at ho; have n0_ := Aside0.mk (hb); have n1_ := Aside0.mk (ho); clear HB; clear HO_3; have HB := n0_; have HO219 := n1_; clear n0_ n1_; clear ho hb hg hat))
          go_roundg k1
          case measure => have := HK1.out; omega
          case rel => exact ⟨(y217), (wrap64 (x4_1 + 1)), (by first | rfl | (simp; done) | (simp [*]; done)), H', ⟨by have := HK1.out; omega⟩, ⟨by (with_reducible repeat (first | apply Kd.R_alloc | apply Kd.R_drewN | apply Kd.R_drew)); exact HO219.out⟩, ⟨by repeat (first | (with_reducible first | exact HB.out | apply below_alloc | apply pw_below_drewN | apply below_drew1) | exact HB.out)⟩⟩
        · rw [if_neg c3] at H
          exact absurd H (by simp)
      · rw [if_neg c2] at H
        have c2b0 : decide (x4_1 < a0) = false := decide_eq_false c2
        clear c2
        obtain rfl := Option.some.inj H
        go_wp2
        go_ret
        exact ⟨_, by first | rfl | (simp [errW_none, errW_some] <;> rfl) | (simp [*, errW_none, errW_some] <;> rfl), by (with_reducible repeat (first | apply Kd.R_alloc | apply Kd.R_drewN | apply Kd.R_drew)); exact HO_3.out, by repeat (first | (with_reducible first | exact HB.out | apply below_alloc | apply pw_below_drewN | apply below_drew1) | exact HB.out)⟩

/-! ### impl_NewPacket: function 54 -/
def impl_NewPacket.f (k : Nat) (a0 : Int) : Option (List Int) := if a0 < 0 then (some ([] : List Int)) else (if a0 > 12 then (some ([] : List Int)) else ((impl_upTo.f k a0).bind fun t220 => (some t220)))
theorem impl_NewPacket.mono : ∀ a0 k, LeO (impl_NewPacket.f k a0) (impl_NewPacket.f (k + 1) a0) := by
  intro a0 k
  unfold impl_NewPacket.f
  repeat' first
      | (with_reducible exact impl_upTo.mono _ _)
      | (with_reducible exact LeO.refl _)
      | (with_reducible exact LeO.none _)
      | (with_reducible refine LeO.ite ?_ ?_)
      | (with_reducible refine LeO.bind ?_ (fun _ => ?_))
      | exact impl_upTo.mono _ _
      | exact LeO.none _
      | refine LeO.ite ?_ ?_
      | refine LeO.bind ?_ (fun _ => ?_)
set_option maxHeartbeats 8000000 in
set_option maxRecDepth 100000 in
theorem impl_NewPacket.calls (k : Nat) (a0 : Int) (r : List Int) (w : World) (h : impl_NewPacket.f k a0 = some r) :
    Calls Try.prog 54 #[.int .i64 a0] w fun e w' => ∃ v0_ : Value, e = .returned (v0_) ∧ Kd.R (Kd.int .i64) 3 w' w.heap.size (fun _ => True) v0_ r ∧ Below w.heap.size w w' := by
  have HB := Aside0.mk (Below.refl w.heap.size w)
  have H : (if a0 < 0 then (some ([] : List Int)) else (if a0 > 12 then (some ([] : List Int)) else ((impl_upTo.f k a0).bind fun t220 => (some t220)))) = some r := h
  clear h
  by_cases c2 : a0 < 0
  · rw [if_pos c2] at H
    have c2b0 : decide (a0 < 0) = true := decide_eq_true c2
    clear c2
    obtain rfl := Option.some.inj H
    go_enter Try.func54, Try.ntmps54
    go_wp2
    go_ret
    exact ⟨_, by first | rfl | (simp [errW_none, errW_some] <;> rfl) | (simp [*, errW_none, errW_some] <;> rfl), by first | exact Kd.R_nil _ _ _ _ _ | exact Kd.N_nil _ _ _ _ _ | exact Kd.V_nil _ _ _ _ _ | exact Kd.Q_nil _ _ _ _ _ | exact Kd.S_nil _ _ _ _ _, by repeat (first | (with_reducible first | exact HB.out | apply below_alloc | apply pw_below_drewN | apply below_drew1) | exact HB.out)⟩
  · rw [if_neg c2] at H
    have c2b0 : decide (a0 < 0) = false := decide_eq_false c2
    clear c2
    by_cases c3 : a0 > 12
    · rw [if_pos c3] at H
      have c3b0 : decide (12 < a0) = true := decide_eq_true c3
      clear c3
      obtain rfl := Option.some.inj H
      go_enter Try.func54, Try.ntmps54
      go_wp2
      go_ret
      exact ⟨_, by first | rfl | (simp [errW_none, errW_some] <;> rfl) | (simp [*, errW_none, errW_some] <;> rfl), by first | exact Kd.R_nil _ _ _ _ _ | exact Kd.N_nil _ _ _ _ _ | exact Kd.V_nil _ _ _ _ _ | exact Kd.Q_nil _ _ _ _ _ | exact Kd.S_nil _ _ _ _ _, by repeat (first | (with_reducible first | exact HB.out | apply below_alloc | apply pw_below_drewN | apply below_drew1) | exact HB.out)⟩
    · rw [if_neg c3] at H
      have c3b0 : decide (12 < a0) = false := decide_eq_false c3
      clear c3
      replace H := Option.bind_eq_some_iff.mp H
      obtain ⟨t220, A40, H⟩ := H
      replace H : (some t220) = some r := H
      have A4 := Aside0.mk A40
      clear A40
      obtain rfl := Option.some.inj H
      go_enter Try.func54, Try.ntmps54
      go_wp2_with (first | ((with_reducible refine gate_callee (f := 63) rfl ?_); refine goesL_ (some 10) rfl rfl Try.func63 (by kernel_rfl) rfl #[.int .i64 a0] rfl (by (try simp only [List.map_toArray, List.map_cons, List.map_nil]); first | done | rfl | (simp only [List.length_drop, List.length_take]; rfl)) ?_; (with_reducible refine (impl_upTo.calls k a0 t220 _ A4.out).mono ?_); rintro e w5 ⟨v221, rfl, ho0, hb⟩; refine ⟨_, rfl, ?_⟩; have n0_ := Aside0.mk (Kd.R_lower ho0 (below_size (by repeat (first | (with_reducible first | exact HB.out | apply below_alloc | apply pw_below_drewN | apply below_drew1) | exact HB.out)))); have n1_ := Aside0.mk (below_step (by repeat (first | (with_reducible first | exact HB.out | apply below_alloc | apply pw_below_drewN | apply below_drew1) | exact HB.out)) hb); clear HB; have HO222 := n0_; have HB := n1_; clear n0_ n1_; (try clear hb); (try clear hb2); (try clear hk); (try clear hi); (try clear ho0)))
      go_ret
      exact ⟨_, by first | rfl | (simp [errW_none, errW_some] <;> rfl) | (simp [*, errW_none, errW_some] <;> rfl), by (with_reducible repeat (first | apply Kd.R_alloc | apply Kd.R_drewN | apply Kd.R_drew)); exact HO222.out, by repeat (first | (with_reducible first | exact HB.out | apply below_alloc | apply pw_below_drewN | apply below_drew1) | exact HB.out)⟩

/-! ### impl_IdentityPerm: function 33 -/
def impl_IdentityPerm.f (k : Nat) (a0 : Int) : Option (List Int) := (impl_NewPacket.f k a0).bind fun t223 => (some t223)
theorem impl_IdentityPerm.mono : ∀ a0 k, LeO (impl_IdentityPerm.f k a0) (impl_IdentityPerm.f (k + 1) a0) := by
  intro a0 k
  unfold impl_IdentityPerm.f
  repeat' first
      | (with_reducible exact impl_NewPacket.mono _ _)
      | (with_reducible exact LeO.refl _)
      | (with_reducible exact LeO.none _)
      | (with_reducible refine LeO.ite ?_ ?_)
      | (with_reducible refine LeO.bind ?_ (fun _ => ?_))
      | exact impl_NewPacket.mono _ _
      | exact LeO.none _
      | refine LeO.ite ?_ ?_
      | refine LeO.bind ?_ (fun _ => ?_)
set_option maxHeartbeats 8000000 in
set_option maxRecDepth 100000 in
theorem impl_IdentityPerm.calls (k : Nat) (a0 : Int) (r : List Int) (w : World) (h : impl_IdentityPerm.f k a0 = some r) :
    Calls Try.prog 33 #[.int .i64 a0] w fun e w' => ∃ v0_ : Value, e = .returned (v0_) ∧ Kd.R (Kd.int .i64) 3 w' w.heap.size (fun _ => True) v0_ r ∧ Below w.heap.size w w' := by
  have HB := Aside0.mk (Below.refl w.heap.size w)
  have H : ((impl_NewPacket.f k a0).bind fun t223 => (some t223)) = some r := h
  clear h
  replace H := Option.bind_eq_some_iff.mp H
  obtain ⟨t223, A20, H⟩ := H
  replace H : (some t223) = some r := H
  have A2 := Aside0.mk A20
  clear A20
  obtain rfl := Option.some.inj H
  go_enter Try.func33, Try.ntmps33
  go_wp2_with (first | ((with_reducible refine gate_callee (f := 54) rfl ?_); refine goesL_ (some 4) rfl rfl Try.func54 (by kernel_rfl) rfl #[.int .i64 a0] rfl (by (try simp only [List.map_toArray, List.map_cons, List.map_nil]); first | done | rfl | (simp only [List.length_drop, List.length_take]; rfl)) ?_; (with_reducible refine (impl_NewPacket.calls k a0 t223 _ A2.out).mono ?_); rintro e w3 ⟨v224, rfl, ho0, hb⟩; refine ⟨_, rfl, ?_⟩; have n0_ := Aside0.mk (Kd.R_lower ho0 (below_size (by repeat (first | (with_reducible first | exact HB.out | apply below_alloc | apply pw_below_drewN | apply below_drew1) | exact HB.out)))); have n1_ := Aside0.mk (below_step (by repeat (first | (with_reducible first | exact HB.out | apply below_alloc | apply pw_below_drewN | apply below_drew1) | exact HB.out)) hb); clear HB; have HO225 := n0_; have HB := n1_; clear n0_ n1_; (try clear hb); (try clear hb2); (try clear hk); (try clear hi); (try clear ho0)))
  go_ret
  exact ⟨_, by first | rfl | (simp [errW_none, errW_some] <;> rfl) | (simp [*, errW_none, errW_some] <;> rfl), by (with_reducible repeat (first | apply Kd.R_alloc | apply Kd.R_drewN | apply Kd.R_drew)); exact HO225.out, by repeat (first | (with_reducible first | exact HB.out | apply below_alloc | apply pw_below_drewN | apply below_drew1) | exact HB.out)⟩

end Go.Proofs.Ytplacpfdmcnaiaa.MFnUnshuffles
