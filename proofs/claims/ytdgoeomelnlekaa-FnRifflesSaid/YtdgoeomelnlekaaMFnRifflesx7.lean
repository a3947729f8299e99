-- Written by this session's own program (wip/tools/myprint.py), over the kit's printer.
import Derived.Test.YtdgoeomelnlekaaMFnRifflesx0
import Derived.Test.YtdgoeomelnlekaaMFnRifflesx4
import Derived.Test.YtdgoeomelnlekaaMFnRifflesx5
import Derived.Test.YtdgoeomelnlekaaMFnRifflesx6
namespace Go.Proofs.Ytdgoeomelnlekaa.MFnRiffles
open Go.RowKit Go.Proofs.YtdgoeomelnlekaaW.PrintWords Go.Proofs.YtdgoeomelnlekaaW.PrintLast Go.Proofs.YtdgoeomelnlekaaW.PrintMore
attribute [local go_sem] max2_int min2_int max_two min_two max_three min_three max_four min_four   -- for this text's walks alone
set_option linter.unusedVariables false
set_option linter.unusedSimpArgs false

/-! ### spec_l05Of: function 64 -/
mutual
def spec_l05Of.l0 : Nat → List Int → List (List Int) → Int → Option ((List (List Int)))
 | 0, _, _, _ => none
 | k + 1, x0, x5, x6 => if x6 ≤ (x0.length : Int) then (if 0 ≤ x6 then ((spec_l05Weave.f k x5 [] (x0.take (x6 : Int).toNat) (x0.drop (x6 : Int).toNat)).bind fun o_ => (spec_l05Of.l0 k x0 o_ (wrap64 (x6 + 1)))) else (none)) else (some x5)
def spec_l05Of.l1 : Nat → List Int → List (List Int) → List Int → Int → Int → Option ((List (List Int)))
 | 0, _, _, _, _, _ => none
 | k + 1, x0, x5, x40, x41, x42 => if x42 < x41 then (if 0 ≤ x42 then (if x42 < (x40.length : Int) then ((some (([rd x40 x42] : List Int) : List Int)).bind fun y294 => ((some (([] : List Int) : List Int)).bind fun y297 => (if x42 ≤ (x0.length : Int) then ((some (x0.take (x42 : Int).toNat : List Int)).bind fun y300 => (if y297.length + y300.length < 17592186044416 then ((some (y297 ++ y300 : List Int)).bind fun y305 => (if 0 ≤ (wrap64 (x42 + 1)) then (if (wrap64 (x42 + 1)) ≤ (x0.length : Int) then ((some (x0.drop ((wrap64 (x42 + 1)) : Int).toNat : List Int)).bind fun y308 => (if y305.length + y308.length < 17592186044416 then ((some (y305 ++ y308 : List Int)).bind fun y313 => (if y294.length + y313.length < 17592186044416 then (if x5.length < 5864062014805 then (spec_l05Of.l1 k x0 (x5 ++ [(y294 ++ y313)]) x40 x41 (wrap64 (x42 + 1))) else (none)) else (none))) else (none))) else (none)) else (none))) else (none))) else (none)))) else (none)) else (none)) else (some x5)
end
def spec_l05Of.f (k : Nat) (l0 : List Int) (a1 : Int) : Option ((List (List Int))) := (some (([] : List (List Int)) : List (List Int))).bind fun y268 => (if a1 = 1 then ((spec_l05Cuts.f k l0).bind fun t271 => (some t271)) else (if a1 = 2 then (spec_l05Of.l0 k l0 y268 0) else (if a1 = 3 then ((spec_l04Back.f k l0 2 true).bind fun t287 => ((spec_l05Cuts.f k t287).bind fun t290 => (some t290))) else (if a1 = 4 then (spec_l05Of.l1 k l0 y268 l0 (l0.length : Int) 0) else (if y268.length < 5864062014805 then (some (y268 ++ [l0])) else (none))))))
theorem spec_l05Of.mono_l : ∀ k, (∀ y0 y1 y2, LeO (spec_l05Of.l0 k y0 y1 y2) (spec_l05Of.l0 (k + 1) y0 y1 y2)) ∧ (∀ y0 y1 y2 y3 y4, LeO (spec_l05Of.l1 k y0 y1 y2 y3 y4) (spec_l05Of.l1 (k + 1) y0 y1 y2 y3 y4))
 | 0 => ⟨fun _ _ _ r h => by simp [spec_l05Of.l0] at h, fun _ _ _ _ _ r h => by simp [spec_l05Of.l1] at h⟩
 | k + 1 => by
  obtain ⟨ih0, ih1⟩ := spec_l05Of.mono_l k
  refine ⟨?_, ?_⟩
  ·intro y0 y1 y2
   unfold spec_l05Of.l0
   repeat' first
   | (with_reducible exact ih0 _ _ _)
   | (with_reducible exact ih1 _ _ _ _ _)
   | (with_reducible exact spec_l04Back.mono _ _ _ _)
   | (with_reducible exact spec_l05Cuts.mono _ _)
   | (with_reducible exact spec_l05Weave.mono _ _ _ _ _)
   | (with_reducible exact LeO.refl _)
   | (with_reducible exact LeO.none _)
   | (with_reducible refine LeO.ite ?_ ?_)
   | (with_reducible refine LeO.bind ?_ (fun _ => ?_))
  ·intro y0 y1 y2 y3 y4
   unfold spec_l05Of.l1
   repeat' first
   | (with_reducible exact ih0 _ _ _)
   | (with_reducible exact ih1 _ _ _ _ _)
   | (with_reducible exact spec_l04Back.mono _ _ _ _)
   | (with_reducible exact spec_l05Cuts.mono _ _)
   | (with_reducible exact spec_l05Weave.mono _ _ _ _ _)
   | (with_reducible exact LeO.refl _)
   | (with_reducible exact LeO.none _)
   | (with_reducible refine LeO.ite ?_ ?_)
   | (with_reducible refine LeO.bind ?_ (fun _ => ?_))
theorem spec_l05Of.mono : ∀ a0 a1 k, LeO (spec_l05Of.f k a0 a1) (spec_l05Of.f (k + 1) a0 a1) := by
 intro a0 a1 k
 obtain ⟨ih0, ih1⟩ := spec_l05Of.mono_l k
 unfold spec_l05Of.f
 repeat' first
   | (with_reducible exact ih0 _ _ _)
   | (with_reducible exact ih1 _ _ _ _ _)
   | (with_reducible exact spec_l04Back.mono _ _ _ _)
   | (with_reducible exact spec_l05Cuts.mono _ _)
   | (with_reducible exact spec_l05Weave.mono _ _ _ _ _)
   | (with_reducible exact LeO.refl _)
   | (with_reducible exact LeO.none _)
   | (with_reducible refine LeO.ite ?_ ?_)
   | (with_reducible refine LeO.bind ?_ (fun _ => ?_))
def spec_l05Of.T9 : Bool × List (List Nat × List Nat) := (true, [([], []), ([], []), ([], []), ([], []), ([2, 3], [2, 3]), ([], []), ([], []), ([5, 6], [5, 6]), ([0, 1, 4, 7], [0, 1, 4, 7]), ([8, 8, 0, 1, 2, 3, 4, 5, 6, 7, 8], [0, 8])])
def spec_l05Of.B9 : List Nat := [0, 0, 0, 0, 12, 0, 0, 96, 255, 511]
theorem spec_l05Of.tab9 : rtab .any (opsOf Try.f64 9) = spec_l05Of.T9 := by kernel_rfl
theorem spec_l05Of.bits9 : waitsOk spec_l05Of.T9.2 spec_l05Of.B9 = true := by kernel_rfl
def spec_l05Of.T17 : Bool × List (List Nat × List Nat) := (true, [([], []), ([], []), ([1], [1]), ([], []), ([], []), ([], []), ([4, 5], [4, 5]), ([3, 6], [3, 6]), ([], []), ([], []), ([9], [9]), ([8, 10], [8, 10]), ([7, 11, 7], [7, 11]), ([2, 12, 12], [2, 12]), ([13], [13]), ([0, 14, 13], [0, 14]), ([15, 15, 0, 1, 2, 3, 4, 5, 6, 7, 8, 9, 10, 11, 12, 13, 14, 15], [0, 15])])
def spec_l05Of.B17 : List Nat := [0, 0, 2, 0, 0, 0, 48, 120, 0, 0, 512, 1792, 4088, 8190, 16382, 32767, 65535]
theorem spec_l05Of.tab17 : rtab .any (opsOf Try.f64 17) = spec_l05Of.T17 := by kernel_rfl
theorem spec_l05Of.bits17 : waitsOk spec_l05Of.T17.2 spec_l05Of.B17 = true := by kernel_rfl
set_option maxHeartbeats 8000000 in
set_option maxRecDepth 100000 in
theorem spec_l05Of.calls (k : Nat) (P0_ : Nat → Prop) (A0 : Option Addr) (c0 : Nat) (l0 : List Int) (a1 : Int) (r : List (List Int)) (w : World) (hs0 : Kd.V (Kd.int .i64) 3 w w.heap.size (fun k_ => P0_ k_) (.slice A0 l0.length c0) l0) (h : spec_l05Of.f k l0 a1 = some r) :
  Calls Try.prog 64 #[.slice A0 l0.length c0, .int .i64 a1] w fun e w' => ∃ v0_ : Value, e = .returned (v0_) ∧ Kd.N (Kd.slice 3 (Kd.int .i64)) 22 w' w.heap.size (fun k_ => (P0_ k_ ∨ w.heap.size ≤ k_)) v0_ r ∧ Below w.heap.size w w' := by
 have HO0 := Aside0.mk (show Kd.V (Kd.int .i64) 3 w w.heap.size (fun k_ => (P0_ k_ ∨ w.heap.size ≤ k_)) (.slice A0 l0.length c0) l0 from Kd.V_mono hs0 (fun k_ hk => .inl hk))
 have HB := Aside0.mk (Below.refl w.heap.size w)
 have H : ((some (([] : List (List Int)) : List (List Int))).bind fun y268 => (if a1 = 1 then ((spec_l05Cuts.f k l0).bind fun t271 => (some t271)) else (if a1 = 2 then (spec_l05Of.l0 k l0 y268 0) else (if a1 = 3 then ((spec_l04Back.f k l0 2 true).bind fun t287 => ((spec_l05Cuts.f k t287).bind fun t290 => (some t290))) else (if a1 = 4 then (spec_l05Of.l1 k l0 y268 l0 (l0.length : Int) 0) else (if y268.length < 5864062014805 then (some (y268 ++ [l0])) else (none))))))) = some r := h
 clear h
 obtain ⟨y268, hy268⟩ : ∃ y_ : List (List Int), y_ = (([] : List (List Int))) := ⟨_, rfl⟩
 replace H : (if a1 = 1 then ((spec_l05Cuts.f k l0).bind fun t271 => (some t271)) else (if a1 = 2 then (spec_l05Of.l0 k l0 y268 0) else (if a1 = 3 then ((spec_l04Back.f k l0 2 true).bind fun t287 => ((spec_l05Cuts.f k t287).bind fun t290 => (some t290))) else (if a1 = 4 then (spec_l05Of.l1 k l0 y268 l0 (l0.length : Int) 0) else (if y268.length < 5864062014805 then (some (y268 ++ [l0])) else (none)))))) = some r := by first | (rw [hy268]; with_reducible exact H) | (have H2_ := (Option.bind_some _ _).symm.trans H; rw [hy268]; with_reducible exact H2_) | (have H2_ := (Option.bind_some _ _).symm.trans H; with_reducible exact H2_) | with_reducible exact H | (rw [hy268]; exact H) | exact H
 have Ny268 := Aside0.mk hy268
 clear hy268
 by_cases c3 : a1 = 1
 ·rw [if_pos c3] at H
  have c3b0 : (a1 == 1) = true := beq_iff_eq.mpr c3
  have c3b1 : (a1 != 1) = false := bne_eq_false_iff_eq.mpr c3
  clear c3
  replace H := Option.bind_eq_some_iff.mp H
  obtain ⟨t271, A40, H⟩ := H
  replace H : (some t271) = some r := H
  have A4 := Aside0.mk A40
  clear A40
  obtain rfl := Option.some.inj H
  go_enter Try.func64, Try.ntmps64
  go_wp2_with (first | ((with_reducible refine gate_dst (N := 9) rfl ?_); refine Kd.N_lit (Kd.slice 3 (Kd.int .i64)) _ 22 ?hg (N' := 9) ?hd (xs := ([] : List (List Int))) (inner := []) (ok := (fun k_ => (P0_ k_ ∨ w.heap.size ≤ k_))) (okp := (fun k_ => (P0_ k_ ∨ w.heap.size ≤ k_))) ?hr ?hp (fun _ hk => hk) ((show ∀ k_, w.heap.size ≤ k_ → (fun k_ => (P0_ k_ ∨ w.heap.size ≤ k_)) k_ from fun k_ hk => (.inr (Nat.le_trans (below_size bl_) hk))) _ (Nat.le_refl _)) (Below.refl _ _) (Nat.le_refl _) (by simp) ?_; (case hd => rfl); (case hg => rfl); (case hr => first | (go_simp; done) | (go_simp; rfl)); (case hp => exact (Reps.none _ _)); intro v269 w5 ho6 hb hg_ hnew_; clear hg_ hnew_; (first | rw [← Ny268.out] at ho6 | (simp only [Int.reduceToNat] at ho6; rw [← Ny268.out] at ho6)); have n0_ := Aside0.mk (Kd.V_elder' (vx_ HO0) (by first | exact Kd.N_base ho6 | exact Kd.S_base ho6) hb); have n1_ := Aside0.mk (Kd.N_lower ho6 (below_size bl_)); have n2_ := Aside0.mk (below_step bl_ hb); clear HO0; clear HB; have HO0 := n0_; have HO270 := n1_; have HB := n2_; clear n0_ n1_ n2_; clear hb ho6) | ((with_reducible refine gate_callee (f := 84) rfl ?_); refine goesL_ (some 14) rfl rfl Try.func84 (by kernel_rfl) rfl #[.slice A0 l0.length c0] rfl (by (try simp only [List.map_toArray, List.map_cons, List.map_nil]); first | done | rfl | (simp only [List.length_drop, List.length_take]; rfl)) ?_; (with_reducible refine (spec_l05Cuts.calls k _ _ l0 t271 _ ?side1 ?side2 A4.out).mono ?_); (case side1 => repeat (first | exact (Kd.V_reads' HO0.out).2.2 | (with_reducible first | refine Kd.C_alloc ?_ _ | refine Kd.C_drewN ?_ _ | refine Kd.C_drew ?_))); (case side2 => exact (Kd.V_reads' HO0.out).2.1); rintro e w7 ⟨v272, rfl, ho0, hb⟩; refine ⟨_, rfl, ?_⟩; have n0_ := Aside0.mk (Kd.V_elder' (vx_ HO0) (by first | exact Kd.N_base ho0 | exact Kd.S_base ho0) hb); have n1_ := Aside0.mk (Kd.N_elder' (by (with_reducible repeat (first | apply Kd.N_alloc | apply Kd.N_drewN | apply Kd.N_drew)); exact HO270.out) (by first | exact Kd.N_base ho0 | exact Kd.S_base ho0) hb); have n2_ := Aside0.mk (Kd.N_lower (Kd.N_mono (ok' := fun k_ => (P0_ k_ ∨ w.heap.size ≤ k_) ∧ some k_ ≠ (v269 : Value).ownBlock) (Kd.S_N (Kd.S_bound ho0)) (fun k_ hk_ => ⟨(.inr (Nat.le_trans (below_size bl_) hk_.2.1)), (Kd.fresh' (Kd.N_lt (by (with_reducible repeat (first | apply Kd.N_alloc | apply Kd.N_drewN | apply Kd.N_drew)); exact HO270.out)) k_ hk_.2.1)⟩)) (below_size bl_)); have n3_ := Aside0.mk (below_step bl_ hb); clear HO0; clear HO270; clear HB; have HO0 := n0_; have HO270 := n1_; have HO273 := n2_; have HB := n3_; clear n0_ n1_ n2_ n3_; (try clear hb); (try clear ho0)))
  go_ret
  exact ⟨_, by first | rfl | (simp [errW_none, errW_some] <;> rfl) | (simp [*, errW_none, errW_some] <;> rfl), by (with_reducible repeat (first | apply Kd.N_alloc | apply Kd.N_drewN | apply Kd.N_drew)); exact Kd.N_mono HO273.out (fun _ hk => hk.1), by repeat (first | (with_reducible first | exact HB.out | apply below_alloc | apply pw_below_drewN | apply below_drew1) | exact HB.out)⟩
 ·rw [if_neg c3] at H
  have c3b0 : (a1 == 1) = false := beq_eq_false_iff_ne.mpr c3
  have c3b1 : (a1 != 1) = true := bne_iff_ne.mpr c3
  by_cases c8 : a1 = 2
  ·rw [if_pos c8] at H
   have c8b0 : (a1 == 2) = true := beq_iff_eq.mpr c8
   have c8b1 : (a1 != 2) = false := bne_eq_false_iff_eq.mpr c8
   clear c8
   have H' := Aside0.mk H
   clear H
   go_enter Try.func64, Try.ntmps64
   go_wp2_with (first | ((with_reducible refine gate_dst (N := 9) rfl ?_); refine Kd.N_lit (Kd.slice 3 (Kd.int .i64)) _ 22 ?hg (N' := 9) ?hd (xs := ([] : List (List Int))) (inner := []) (ok := (fun k_ => (P0_ k_ ∨ w.heap.size ≤ k_))) (okp := (fun k_ => (P0_ k_ ∨ w.heap.size ≤ k_))) ?hr ?hp (fun _ hk => hk) ((show ∀ k_, w.heap.size ≤ k_ → (fun k_ => (P0_ k_ ∨ w.heap.size ≤ k_)) k_ from fun k_ hk => (.inr (Nat.le_trans (below_size bl_) hk))) _ (Nat.le_refl _)) (Below.refl _ _) (Nat.le_refl _) (by simp) ?_; (case hd => rfl); (case hg => rfl); (case hr => first | (go_simp; done) | (go_simp; rfl)); (case hp => exact (Reps.none _ _)); intro v269 w9 ho10 hb hg_ hnew_; clear hg_ hnew_; (first | rw [← Ny268.out] at ho10 | (simp only [Int.reduceToNat] at ho10; rw [← Ny268.out] at ho10)); have n0_ := Aside0.mk (Kd.V_elder' (vx_ HO0) (by first | exact Kd.N_base ho10 | exact Kd.S_base ho10) hb); have n1_ := Aside0.mk (Kd.N_lower ho10 (below_size bl_)); have n2_ := Aside0.mk (below_step bl_ hb); clear HO0; clear HB; have HO0 := n0_; have HO270 := n1_; have HB := n2_; clear n0_ n1_ n2_; clear hb ho10))
   go_loopg [5, 6] k (fun kq v5 v6 w' => ∃ (x5_1 : List (List Int)) (x6_1 : Int), v6 = .int .i64 x6_1 ∧ Aside0 (spec_l05Of.l0 kq l0 x5_1 x6_1 = some r) ∧ Aside0 (kq ≤ k) ∧ Aside0 (Kd.V (Kd.int .i64) 3 w' w.heap.size (fun k_ => (P0_ k_ ∨ w.heap.size ≤ k_) ∧ some k_ ≠ (v5 : Value).ownBlock) (.slice A0 l0.length c0) l0) ∧ Aside0 (Kd.N (Kd.slice 3 (Kd.int .i64)) 22 w' w.heap.size (fun k_ => (P0_ k_ ∨ w.heap.size ≤ k_)) v5 x5_1) ∧ Aside0 (Below w.heap.size w w'))
   case atStart => exact ⟨(y268), (0), (by first | rfl | (simp; done) | (simp [*]; done)), H', ⟨Nat.le_refl _⟩, ⟨by (with_reducible repeat (first | apply Kd.V_alloc | apply Kd.V_drewN | apply Kd.V_drew)); exact HO0.out⟩, ⟨by (with_reducible repeat (first | apply Kd.N_alloc | apply Kd.N_drewN | apply Kd.N_drew)); exact HO270.out⟩, ⟨by repeat (first | (with_reducible first | exact HB.out | apply below_alloc | apply pw_below_drewN | apply below_drew1) | exact HB.out)⟩⟩
   case round =>
    clear H'
    try clear p2
    try clear c3
    try clear c3b0
    try clear c3b1
    try clear c6
    try clear c8
    try clear c8b0
    try clear c8b1
    obtain ⟨x5_1, x6_1, rfl, HA, HK1, HO_0, HO_5, HB⟩ := hrel
    cases gk with
    | zero => exact absurd HA.out (by simp [spec_l05Of.l0])
    | succ k1 =>
     have H := HA.out
     clear HA
     simp only [spec_l05Of.l0] at H
     by_cases c11 : x6_1 ≤ (l0.length : Int)
     ·rw [if_pos c11] at H
      have c11b0 : decide (x6_1 ≤ (l0.length : Int)) = true := decide_eq_true c11
      clear c11
      obtain ⟨y274, hy274⟩ : ∃ y_ : List Int, y_ = (([] : List Int)) := ⟨_, rfl⟩
      replace H : (if 0 ≤ x6_1 then ((spec_l05Weave.f k1 x5_1 [] (l0.take (x6_1 : Int).toNat) (l0.drop (x6_1 : Int).toNat)).bind fun o_ => (spec_l05Of.l0 k1 l0 o_ (wrap64 (x6_1 + 1)))) else (none)) = some r := by first | (rw [hy274]; with_reducible exact H) | (have H2_ := (Option.bind_some _ _).symm.trans H; rw [hy274]; with_reducible exact H2_) | (have H2_ := (Option.bind_some _ _).symm.trans H; with_reducible exact H2_) | with_reducible exact H | (rw [hy274]; exact H) | exact H
      have Ny274 := Aside0.mk hy274
      clear hy274
      by_cases c12 : 0 ≤ x6_1
      ·rw [if_pos c12] at H
       have c12b0 := eq_true c12
       have c12b1 : decide (0 ≤ x6_1) = true := decide_eq_true c12
       clear c12
       have c13b0 := eq_true (of_decide_eq_true (by first | (with_reducible assumption) | assumption) : x6_1 ≤ (l0.length : Int))
       obtain ⟨y277, hy277⟩ : ∃ y_ : List Int, y_ = (l0.take (x6_1 : Int).toNat) := ⟨_, rfl⟩
       replace H : ((spec_l05Weave.f k1 x5_1 [] (l0.take (x6_1 : Int).toNat) (l0.drop (x6_1 : Int).toNat)).bind fun o_ => (spec_l05Of.l0 k1 l0 o_ (wrap64 (x6_1 + 1)))) = some r := by first | (rw [hy277]; with_reducible exact H) | (have H2_ := (Option.bind_some _ _).symm.trans H; rw [hy277]; with_reducible exact H2_) | (have H2_ := (Option.bind_some _ _).symm.trans H; with_reducible exact H2_) | with_reducible exact H | (rw [hy277]; exact H) | exact H
       have Ny277 := Aside0.mk hy277
       clear hy277
       have c14b0 := eq_true (of_decide_eq_true (by first | (with_reducible assumption) | assumption) : 0 ≤ x6_1)
       have c15b0 := eq_true (of_decide_eq_true (by first | (with_reducible assumption) | assumption) : x6_1 ≤ (l0.length : Int))
       obtain ⟨y282, hy282⟩ : ∃ y_ : List Int, y_ = (l0.drop (x6_1 : Int).toNat) := ⟨_, rfl⟩
       replace H : ((spec_l05Weave.f k1 x5_1 [] (l0.take (x6_1 : Int).toNat) (l0.drop (x6_1 : Int).toNat)).bind fun o_ => (spec_l05Of.l0 k1 l0 o_ (wrap64 (x6_1 + 1)))) = some r := by first | (rw [hy282]; with_reducible exact H) | (have H2_ := (Option.bind_some _ _).symm.trans H; rw [hy282]; with_reducible exact H2_) | (have H2_ := (Option.bind_some _ _).symm.trans H; with_reducible exact H2_) | with_reducible exact H | (rw [hy282]; exact H) | exact H
       have Ny282 := Aside0.mk hy282
       clear hy282
       obtain ⟨o5_, E5_, H⟩ := Option.bind_eq_some_iff.mp H
       have E5 := Aside0.mk E5_
       clear E5_
       have H' := Aside0.mk H
       clear H
       try go_wp2
       have n0_ := Aside0.mk (Kd.V_drew HO_0.out)
       have n1_ := Aside0.mk (Kd.N_drew HO_5.out)
       have n2_ := Aside0.mk (below_drew1 HB.out)
       clear HO_0
       clear HO_5
       clear HB
       have HO_0 := n0_
       have HO_5 := n1_
       have HB := n2_
       clear n0_ n1_ n2_
       have q17 : (x6_1 : Int) ≤ ((l0.length : Int) : Int) := of_decide_eq_true (by first | (with_reducible assumption) | assumption)
       obtain ⟨i017, hi017, _, hsz17, _⟩ := info_parts info3
       have hroom17 : l0.length ≤ c0 := (Kd.V_reads' HO_0.out).2.1
       have hC17 : Kd.F (Kd.int .i64) _ _ A0 l0.length l0 := (Kd.V_at (base := w.heap.size) HO_0.out).2.2
       have hcut17 := cut_to (P := Try.prog) 22 3 .i64 Try.underlying22 hi017 A0 l0.length c0 x6_1 (of_decide_eq_true (by first | (with_reducible assumption) | assumption)) q17 hroom17
       have hr17 := Kd.F_take (m := (x6_1 : Int).toNat) hC17 (by omega)
       have hy17 : y277.length = (x6_1 : Int).toNat := (by rw [Ny277.out, List.length_take]; omega)
       rw [← Ny277.out] at hr17
       rw [← hy17] at hcut17
       have HO281 := Aside0.mk (show Kd.V (Kd.int .i64) 3 _ w.heap.size _ (.slice A0 y277.length c0) y277 from Kd.V_mk (by omega) hr17)
       have HC281 := Aside0.mk (show y277.length ≤ c0 from by omega)
       clear hr17 hC17 hroom17 hi017 hsz17
       have KY17 := Aside0.mk hy17
       clear hy17
       replace q17 := eq_true q17
       have q18 : (x6_1 : Int) ≤ ((l0.length : Int) : Int) := of_decide_eq_true (by first | (with_reducible assumption) | assumption)
       obtain ⟨i018, hi018, _, hsz18, _⟩ := info_parts info3
       have hroom18 : l0.length ≤ c0 := (Kd.V_reads' HO_0.out).2.1
       have hC18 : Kd.F (Kd.int .i64) _ _ A0 l0.length l0 := (Kd.V_at (base := w.heap.size) HO_0.out).2.2
       have q018 : (0 : Int) ≤ (x6_1 : Int) := of_decide_eq_true (by first | (with_reducible assumption) | assumption)
       have hcut18 := cut_from (P := Try.prog) 22 3 .i64 Try.underlying22 hi018 1 hsz18 A0 l0.length c0 x6_1 q018 q18
       have hr18 := Kd.F_cut (m := (x6_1 : Int).toNat) (c := c0) hC18 (by omega) hroom18
       obtain ⟨A18, hA18⟩ : ∃ A1, A1 = (if c0 = (x6_1 : Int).toNat then A0 else (A0 : Option Addr).map (·.add ((x6_1 : Int).toNat * 1))) := ⟨_, rfl⟩
       obtain ⟨c18, hc18⟩ : ∃ c1, c1 = c0 - (x6_1 : Int).toNat := ⟨_, rfl⟩
       have hy18 : y282.length = l0.length - (x6_1 : Int).toNat := (by rw [Ny282.out, List.length_drop] <;> omega)
       rw [show (l0).drop (x6_1 : Int).toNat = y282 from Ny282.out.symm] at hr18
       replace hr18 : Kd.F (Kd.int .i64) _ _ A18 y282.length y282 := (by rw [hA18]; exact hr18)
       rw [← hy18, ← hA18, ← hc18] at hcut18
       have HO286 := Aside0.mk (show Kd.V (Kd.int .i64) 3 _ w.heap.size _ (.slice A18 y282.length c18) y282 from Kd.V_mk (by rw [hy18, hc18]; exact Nat.sub_le_sub_right hroom18 _) hr18)
       have HC286 := Aside0.mk (show y282.length ≤ c18 from by rw [hy18, hc18]; exact Nat.sub_le_sub_right hroom18 _)
       clear hr18 hC18 hroom18 hi018 hsz18 hc18
       have KY18 := Aside0.mk hy18
       have KA18 := Aside0.mk hA18
       clear hy18 hA18
       replace q18 := eq_true q18
       refine start_ (n := 10) (S := fun w' => True) (ds := []) #[false, false, false, false, false, false, false, false, false, false] (by kernel_rfl) rfl rfl trivial (fun hHeld => ?_); refine with_tabW spec_l05Of.tab9 spec_l05Of.bits9 (fun HT_ HW_ => ?_)
       generalize wr.drew = w16 at HO_0 HO_5 HB HO281 HO286 hHeld ⊢
       refine ps_ HT_ 0 23 ?_
       refine ps_ HT_ 2 25 ?_
       refine ps_ HT_ 3 26 ?_
       refine ps_ HT_ 4 27 ?_
       refine ps_ HT_ 5 28 ?_
       refine ps_ HT_ 6 29 ?_
       refine ps_ HT_ 7 30 ?_
       refine one_ (i := 1) (N := some 24) #[true, true, true, true, true, true, true, true, false, false] rfl rfl (one_of HT_.out (by kernel_rfl)) (by decide) (fun K hK => ?_)
       refine Kd.R_lit_step (Kd.int .i64) _ 3 ?hg (N := 24) ?hd (xs := ([] : List Int)) (inner := []) (ok := fun _ => True) (okp := fun _ => True) ?hr ?hp (fun _ hk => hk) trivial (Below.refl _ _) (Nat.le_refl _) (by simp) ?_; (case hd => rfl); (case hg => rfl); (case hr => first | (go_simp; done) | (go_simp; rfl)); (case hp => exact (Reps.none _ _))
       intro v275 w19 ho20 hb hg_ hnew_
       clear hg_ hnew_
       (first | rw [← Ny274.out] at ho20 | (simp only [Int.reduceToNat] at ho20; rw [← Ny274.out] at ho20))
       have n0_ := Aside0.mk (Kd.V_elder' (vx_ HO_0) (Kd.R_base ho20) hb)
       have n1_ := Aside0.mk (Kd.N_elder' (by (with_reducible repeat (first | apply Kd.N_alloc | apply Kd.N_drewN | apply Kd.N_drew)); exact HO_5.out) (Kd.R_base ho20) hb)
       have n2_ := Aside0.mk (Kd.V_elder' (vx_ HO281) (Kd.R_base ho20) hb)
       have n3_ := Aside0.mk (Kd.V_elder' (vx_ HO286) (Kd.R_base ho20) hb)
       have n4_ := Aside0.mk (Kd.R_lower (Kd.R_newM (M := fun k_ => (w.heap.size ≤ k_)) ho20 (below_size bl_) (fun k_ h_ => h_)) (below_size bl_))
       have n5_ := Aside0.mk (below_step bl_ hb)
       clear HO_0
       clear HO_5
       clear HO281
       clear HO286
       clear HB
       have HO_0 := n0_
       have HO_5 := n1_
       have HO281 := n2_
       have HO286 := n3_
       have HO276 := n4_
       have HB := n5_
       clear n0_ n1_ n2_ n3_ n4_ n5_
       clear hb ho20
       refine hK.out _ _ trivial (fun hHeld => ?_)
       clear hK K
       refine ns_ ?_
       obtain ⟨Ad_, cd_, ed_⟩ := Kd.R_slice HO276.out
       subst ed_
       have HV_ := Aside0.mk (show Kd.V (Kd.int .i64) 3 _ w.heap.size (fun k_ => (P0_ k_ ∨ w.heap.size ≤ k_) ∧ some k_ ≠ u5.ownBlock) (.slice Ad_ y274.length cd_) y274 from Kd.R_V (Kd.R_mono (Kd.R_apart' (HO276.out) (Kd.N_typed HO_5.out) (by decide)) (fun k_ hk => by first | exact ⟨.inr hk.1.1, hk.2⟩ | exact ⟨.inr hk.1, hk.2⟩)))
       refine one_ (i := 8) (N := some 31) #[true, true, true, true, true, true, true, true, true, false] rfl rfl (one_of HT_.out (by kernel_rfl)) (by decide) (fun K hK => ?_)
       refine goes_ Try.func85 (by kernel_rfl) rfl #[u5, .slice Ad_ y274.length cd_, .slice A0 y277.length c0, .slice A18 y282.length c18] (by rfl) rfl rfl (by (try simp only [List.map_toArray, List.map_cons, List.map_nil]); first | done | rfl | (simp only [List.length_drop, List.length_take]; rfl)) ?_
       with_reducible refine (spec_l05Weave.calls k1 (fun k_ => (P0_ k_ ∨ w.heap.size ≤ k_)) w _ u5 x5_1 _ _ _ _ _ _ _ _ _ o5_ ?wi (by rw [Ny274.out, Ny277.out, Ny282.out]; exact E5.out)).mono ?_
       (case wi => exact ⟨fun k_ hk => .inr hk, HB.out, Kd.N_mono HO_5.out (fun _ hk => hk.1), HV_.out, Kd.V_mono HO281.out (fun _ hk => hk.1), Kd.V_mono HO286.out (fun _ hk => hk.1)⟩)
       rintro e w31 ⟨v31, rfl, hN_, hb_, hg_⟩
       refine ⟨_, rfl, ?_⟩
       have n0_ := Aside0.mk (Kd.V_afterv (Kd.V_mono HO_0.out (fun _ hk => hk.1)) hg_.g hg_.a)
       clear HO_0 HO_5 HB HV_ HO276 HO281 HO286
       have HO_0 := n0_
       have HO_5 := Aside0.mk hN_
       have HB := Aside0.mk hb_
       clear n0_ hN_ hb_ hg_
       refine hK.out _ _ trivial (fun hHeld => ?_)
       clear hK K
       refine ns_ ?_
       refine ps_ HT_ 9 5 ?_
       refine done_ (done_of HT_.out (by kernel_rfl)) ?_
       try go_wp2
       go_roundg k1
       case measure => have := HK1.out; omega
       case rel => exact ⟨o5_, (wrap64 (x6_1 + 1)), (by first | rfl | (simp; done) | (simp [*]; done)), H', ⟨by have := HK1.out; omega⟩, ⟨by (with_reducible repeat (first | apply Kd.V_alloc | apply Kd.V_drewN | apply Kd.V_drew)); exact HO_0.out⟩, ⟨by (with_reducible repeat (first | apply Kd.N_alloc | apply Kd.N_drewN | apply Kd.N_drew)); exact HO_5.out⟩, ⟨by repeat (first | (with_reducible first | exact HB.out | apply below_alloc | apply pw_below_drewN | apply below_drew1) | exact HB.out)⟩⟩
      ·rw [if_neg c12] at H
       exact absurd H (by simp)
     ·rw [if_neg c11] at H
      have c11b0 : decide (x6_1 ≤ (l0.length : Int)) = false := decide_eq_false c11
      clear c11
      obtain rfl := Option.some.inj H
      go_wp2
      go_ret
      exact ⟨_, by first | rfl | (simp [errW_none, errW_some] <;> rfl) | (simp [*, errW_none, errW_some] <;> rfl), by (with_reducible repeat (first | apply Kd.N_alloc | apply Kd.N_drewN | apply Kd.N_drew)); exact HO_5.out, by repeat (first | (with_reducible first | exact HB.out | apply below_alloc | apply pw_below_drewN | apply below_drew1) | exact HB.out)⟩
  ·rw [if_neg c8] at H
   have c8b0 : (a1 == 2) = false := beq_eq_false_iff_ne.mpr c8
   have c8b1 : (a1 != 2) = true := bne_iff_ne.mpr c8
   by_cases c21 : a1 = 3
   ·rw [if_pos c21] at H
    have c21b0 : (a1 == 3) = true := beq_iff_eq.mpr c21
    have c21b1 : (a1 != 3) = false := bne_eq_false_iff_eq.mpr c21
    clear c21
    replace H := Option.bind_eq_some_iff.mp H
    obtain ⟨t287, A220, H⟩ := H
    replace H : ((spec_l05Cuts.f k t287).bind fun t290 => (some t290)) = some r := H
    have A22 := Aside0.mk A220
    clear A220
    replace H := Option.bind_eq_some_iff.mp H
    obtain ⟨t290, A230, H⟩ := H
    replace H : (some t290) = some r := H
    have A23 := Aside0.mk A230
    clear A230
    obtain rfl := Option.some.inj H
    go_enter Try.func64, Try.ntmps64
    go_wp2_with (first | ((with_reducible refine gate_dst (N := 9) rfl ?_); refine Kd.N_lit (Kd.slice 3 (Kd.int .i64)) _ 22 ?hg (N' := 9) ?hd (xs := ([] : List (List Int))) (inner := []) (ok := (fun k_ => (P0_ k_ ∨ w.heap.size ≤ k_))) (okp := (fun k_ => (P0_ k_ ∨ w.heap.size ≤ k_))) ?hr ?hp (fun _ hk => hk) ((show ∀ k_, w.heap.size ≤ k_ → (fun k_ => (P0_ k_ ∨ w.heap.size ≤ k_)) k_ from fun k_ hk => (.inr (Nat.le_trans (below_size bl_) hk))) _ (Nat.le_refl _)) (Below.refl _ _) (Nat.le_refl _) (by simp) ?_; (case hd => rfl); (case hg => rfl); (case hr => first | (go_simp; done) | (go_simp; rfl)); (case hp => exact (Reps.none _ _)); intro v269 w24 ho25 hb hg_ hnew_; clear hg_ hnew_; (first | rw [← Ny268.out] at ho25 | (simp only [Int.reduceToNat] at ho25; rw [← Ny268.out] at ho25)); have n0_ := Aside0.mk (Kd.V_elder' (vx_ HO0) (by first | exact Kd.N_base ho25 | exact Kd.S_base ho25) hb); have n1_ := Aside0.mk (Kd.N_lower ho25 (below_size bl_)); have n2_ := Aside0.mk (below_step bl_ hb); clear HO0; clear HB; have HO0 := n0_; have HO270 := n1_; have HB := n2_; clear n0_ n1_ n2_; clear hb ho25) | ((with_reducible refine gate_callee (f := 86) rfl ?_); refine goesL_ (some 36) rfl rfl Try.func86 (by kernel_rfl) rfl #[.slice A0 l0.length c0, .int .i64 2, .bool true] rfl (by (try simp only [List.map_toArray, List.map_cons, List.map_nil]); first | done | rfl | (simp only [List.length_drop, List.length_take]; rfl)) ?_; (with_reducible refine (spec_l04Back.calls k _ _ l0 2 true t287 _ ?side1 ?side2 A22.out).mono ?_); (case side1 => repeat (first | exact (Kd.V_reads' HO0.out).2.2 | (with_reducible first | refine Kd.C_alloc ?_ _ | refine Kd.C_drewN ?_ _ | refine Kd.C_drew ?_))); (case side2 => exact (Kd.V_reads' HO0.out).2.1); rintro e w26 ⟨v288, rfl, ho0, hb⟩; refine ⟨_, rfl, ?_⟩; have n0_ := Aside0.mk (Kd.V_elder' (vx_ HO0) (Kd.R_base ho0) hb); have n1_ := Aside0.mk (Kd.N_elder' (by (with_reducible repeat (first | apply Kd.N_alloc | apply Kd.N_drewN | apply Kd.N_drew)); exact HO270.out) (Kd.R_base ho0) hb); have n2_ := Aside0.mk (Kd.R_lower (Kd.R_newM (M := fun k_ => (w.heap.size ≤ k_)) ho0 (below_size bl_) (fun k_ h_ => h_)) (below_size bl_)); have n3_ := Aside0.mk (below_step bl_ hb); clear HO0; clear HO270; clear HB; have HO0 := n0_; have HO270 := n1_; have HO289 := n2_; have HB := n3_; clear n0_ n1_ n2_ n3_; (try clear hb); (try clear ho0); obtain ⟨Ao27, co27, eo27⟩ := Kd.R_slice HO289.out; subst eo27) | ((with_reducible refine gate_callee (f := 84) rfl ?_); refine goesL_ (some 37) rfl rfl Try.func84 (by kernel_rfl) rfl #[.slice Ao27 t287.length co27] rfl (by (try simp only [List.map_toArray, List.map_cons, List.map_nil]); first | done | rfl | (simp only [List.length_drop, List.length_take]; rfl)) ?_; (with_reducible refine (spec_l05Cuts.calls k _ _ t287 t290 _ ?side1 ?side2 A23.out).mono ?_); (case side1 => repeat (first | exact (Kd.R_reads' HO289.out).2.2 | (with_reducible first | refine Kd.C_alloc ?_ _ | refine Kd.C_drewN ?_ _ | refine Kd.C_drew ?_))); (case side2 => exact (Kd.R_reads' HO289.out).2.1); rintro e w28 ⟨v291, rfl, ho0, hb⟩; refine ⟨_, rfl, ?_⟩; have n0_ := Aside0.mk (Kd.V_elder' (vx_ HO0) (by first | exact Kd.N_base ho0 | exact Kd.S_base ho0) hb); have n1_ := Aside0.mk (Kd.N_elder' (by (with_reducible repeat (first | apply Kd.N_alloc | apply Kd.N_drewN | apply Kd.N_drew)); exact HO270.out) (by first | exact Kd.N_base ho0 | exact Kd.S_base ho0) hb); have n2_ := Aside0.mk (Kd.R_below (rx_ HO289) hb); have n3_ := Aside0.mk (Kd.N_lower (Kd.N_mono (ok' := fun k_ => (P0_ k_ ∨ w.heap.size ≤ k_) ∧ some k_ ≠ (v269 : Value).ownBlock ∧ some k_ ≠ (.slice Ao27 t287.length co27 : Value).ownBlock) (Kd.S_N (Kd.S_bound ho0)) (fun k_ hk_ => ⟨(.inr (Nat.le_trans (below_size bl_) hk_.2.1)), (Kd.fresh' (Kd.N_lt (by (with_reducible repeat (first | apply Kd.N_alloc | apply Kd.N_drewN | apply Kd.N_drew)); exact HO270.out)) k_ hk_.2.1), (Kd.fresh' (Kd.R_lt (rx_ HO289)) k_ hk_.2.1)⟩)) (below_size bl_)); have n4_ := Aside0.mk (below_step bl_ hb); clear HO0; clear HO270; clear HO289; clear HB; have HO0 := n0_; have HO270 := n1_; have HO289 := n2_; have HO292 := n3_; have HB := n4_; clear n0_ n1_ n2_ n3_ n4_; (try clear hb); (try clear ho0)))
    go_ret
    exact ⟨_, by first | rfl | (simp [errW_none, errW_some] <;> rfl) | (simp [*, errW_none, errW_some] <;> rfl), by (with_reducible repeat (first | apply Kd.N_alloc | apply Kd.N_drewN | apply Kd.N_drew)); exact Kd.N_mono HO292.out (fun _ hk => hk.1), by repeat (first | (with_reducible first | exact HB.out | apply below_alloc | apply pw_below_drewN | apply below_drew1) | exact HB.out)⟩
   ·rw [if_neg c21] at H
    have c21b0 : (a1 == 3) = false := beq_eq_false_iff_ne.mpr c21
    have c21b1 : (a1 != 3) = true := bne_iff_ne.mpr c21
    by_cases c29 : a1 = 4
    ·rw [if_pos c29] at H
     have c29b0 : (a1 == 4) = true := beq_iff_eq.mpr c29
     have c29b1 : (a1 != 4) = false := bne_eq_false_iff_eq.mpr c29
     clear c29
     have H' := Aside0.mk H
     clear H
     go_enter Try.func64, Try.ntmps64
     go_wp2_with (first | ((with_reducible refine gate_dst (N := 9) rfl ?_); refine Kd.N_lit (Kd.slice 3 (Kd.int .i64)) _ 22 ?hg (N' := 9) ?hd (xs := ([] : List (List Int))) (inner := []) (ok := (fun k_ => (P0_ k_ ∨ w.heap.size ≤ k_))) (okp := (fun k_ => (P0_ k_ ∨ w.heap.size ≤ k_))) ?hr ?hp (fun _ hk => hk) ((show ∀ k_, w.heap.size ≤ k_ → (fun k_ => (P0_ k_ ∨ w.heap.size ≤ k_)) k_ from fun k_ hk => (.inr (Nat.le_trans (below_size bl_) hk))) _ (Nat.le_refl _)) (Below.refl _ _) (Nat.le_refl _) (by simp) ?_; (case hd => rfl); (case hg => rfl); (case hr => first | (go_simp; done) | (go_simp; rfl)); (case hp => exact (Reps.none _ _)); intro v269 w30 ho31 hb hg_ hnew_; clear hg_ hnew_; (first | rw [← Ny268.out] at ho31 | (simp only [Int.reduceToNat] at ho31; rw [← Ny268.out] at ho31)); have n0_ := Aside0.mk (Kd.V_elder' (vx_ HO0) (by first | exact Kd.N_base ho31 | exact Kd.S_base ho31) hb); have n1_ := Aside0.mk (Kd.N_lower ho31 (below_size bl_)); have n2_ := Aside0.mk (below_step bl_ hb); clear HO0; clear HB; have HO0 := n0_; have HO270 := n1_; have HB := n2_; clear n0_ n1_ n2_; clear hb ho31))
     go_loopg [5, 42] k (fun kq v5 v42 w' => ∃ (x5_1 : List (List Int)) (x42_1 : Int), v42 = .int .i64 x42_1 ∧ Aside0 (spec_l05Of.l1 kq l0 x5_1 l0 (l0.length : Int) x42_1 = some r) ∧ Aside0 (kq ≤ k) ∧ Aside0 (Kd.V (Kd.int .i64) 3 w' w.heap.size (fun k_ => (P0_ k_ ∨ w.heap.size ≤ k_) ∧ some k_ ≠ (v5 : Value).ownBlock) (.slice A0 l0.length c0) l0) ∧ Aside0 (Kd.N (Kd.slice 3 (Kd.int .i64)) 22 w' w.heap.size (fun k_ => (P0_ k_ ∨ w.heap.size ≤ k_)) v5 x5_1) ∧ Aside0 (Kd.V (Kd.int .i64) 3 w' w.heap.size (fun k_ => (P0_ k_ ∨ w.heap.size ≤ k_) ∧ some k_ ≠ (v5 : Value).ownBlock) (.slice A0 l0.length c0) l0) ∧ Aside0 (Below w.heap.size w w'))
     case atStart => exact ⟨(y268), (0), (by first | rfl | (simp; done) | (simp [*]; done)), H', ⟨Nat.le_refl _⟩, ⟨by (with_reducible repeat (first | apply Kd.V_alloc | apply Kd.V_drewN | apply Kd.V_drew)); exact HO0.out⟩, ⟨by (with_reducible repeat (first | apply Kd.N_alloc | apply Kd.N_drewN | apply Kd.N_drew)); exact HO270.out⟩, ⟨by (with_reducible repeat (first | apply Kd.V_alloc | apply Kd.V_drewN | apply Kd.V_drew)); exact HO0.out⟩, ⟨by repeat (first | (with_reducible first | exact HB.out | apply below_alloc | apply pw_below_drewN | apply below_drew1) | exact HB.out)⟩⟩
     case round =>
      clear H'
      try clear c1
      try clear q1
      try clear c2
      try clear p2
      try clear c3
      try clear c3b0
      try clear c3b1
      try clear c6
      try clear p6
      try clear c8
      try clear c8b0
      try clear c8b1
      try clear c11
      try clear c11b0
      try clear c12
      try clear c12b0
      try clear c12b1
      try clear c13
      try clear c13b0
      try clear c14
      try clear c14b0
      try clear c15
      try clear c15b0
      try clear q17
      try clear c18
      try clear q18
      try clear c21
      try clear c21b0
      try clear c21b1
      try clear c29
      try clear c29b0
      try clear c29b1
      try clear p2
      try clear q018
      try clear q17
      try clear q18
      obtain ⟨x5_1, x42_1, rfl, HA, HK1, HO_0, HO_5, HO_40, HB⟩ := hrel
      cases gk with
      | zero => exact absurd HA.out (by simp [spec_l05Of.l1])
      | succ k1 =>
       have H := HA.out
       clear HA
       simp only [spec_l05Of.l1] at H
       by_cases c32 : x42_1 < (l0.length : Int)
       ·rw [if_pos c32] at H
        have c32b0 : decide (x42_1 < (l0.length : Int)) = true := decide_eq_true c32
        clear c32
        by_cases c33 : 0 ≤ x42_1
        ·rw [if_pos c33] at H
         have c33b0 : decide (0 ≤ x42_1) = true := decide_eq_true c33
         clear c33
         by_cases c34 : x42_1 < (l0.length : Int)
         ·rw [if_pos c34] at H
          have c34b0 : decide (x42_1 < (l0.length : Int)) = true := decide_eq_true c34
          clear c34
          obtain ⟨y294, hy294⟩ : ∃ y_ : List Int, y_ = (([rd l0 x42_1] : List Int)) := ⟨_, rfl⟩
          replace H : ((some (([] : List Int) : List Int)).bind fun y297 => (if x42_1 ≤ (l0.length : Int) then ((some (l0.take (x42_1 : Int).toNat : List Int)).bind fun y300 => (if y297.length + y300.length < 17592186044416 then ((some (y297 ++ y300 : List Int)).bind fun y305 => (if 0 ≤ (wrap64 (x42_1 + 1)) then (if (wrap64 (x42_1 + 1)) ≤ (l0.length : Int) then ((some (l0.drop ((wrap64 (x42_1 + 1)) : Int).toNat : List Int)).bind fun y308 => (if y305.length + y308.length < 17592186044416 then ((some (y305 ++ y308 : List Int)).bind fun y313 => (if y294.length + y313.length < 17592186044416 then (if x5_1.length < 5864062014805 then (spec_l05Of.l1 k1 l0 (x5_1 ++ [(y294 ++ y313)]) l0 (l0.length : Int) (wrap64 (x42_1 + 1))) else (none)) else (none))) else (none))) else (none)) else (none))) else (none))) else (none))) = some r := by first | (rw [hy294]; with_reducible exact H) | (have H2_ := (Option.bind_some _ _).symm.trans H; rw [hy294]; with_reducible exact H2_) | (have H2_ := (Option.bind_some _ _).symm.trans H; with_reducible exact H2_) | with_reducible exact H | (rw [hy294]; exact H) | exact H
          have Ny294 := Aside0.mk hy294
          clear hy294
          obtain ⟨y297, hy297⟩ : ∃ y_ : List Int, y_ = (([] : List Int)) := ⟨_, rfl⟩
          replace H : (if x42_1 ≤ (l0.length : Int) then ((some (l0.take (x42_1 : Int).toNat : List Int)).bind fun y300 => (if y297.length + y300.length < 17592186044416 then ((some (y297 ++ y300 : List Int)).bind fun y305 => (if 0 ≤ (wrap64 (x42_1 + 1)) then (if (wrap64 (x42_1 + 1)) ≤ (l0.length : Int) then ((some (l0.drop ((wrap64 (x42_1 + 1)) : Int).toNat : List Int)).bind fun y308 => (if y305.length + y308.length < 17592186044416 then ((some (y305 ++ y308 : List Int)).bind fun y313 => (if y294.length + y313.length < 17592186044416 then (if x5_1.length < 5864062014805 then (spec_l05Of.l1 k1 l0 (x5_1 ++ [(y294 ++ y313)]) l0 (l0.length : Int) (wrap64 (x42_1 + 1))) else (none)) else (none))) else (none))) else (none)) else (none))) else (none))) else (none)) = some r := by first | (rw [hy297]; with_reducible exact H) | (have H2_ := (Option.bind_some _ _).symm.trans H; rw [hy297]; with_reducible exact H2_) | (have H2_ := (Option.bind_some _ _).symm.trans H; with_reducible exact H2_) | with_reducible exact H | (rw [hy297]; exact H) | exact H
          have Ny297 := Aside0.mk hy297
          clear hy297
          have c35b0 := eq_true (of_decide_eq_true (by first | (with_reducible assumption) | assumption) : 0 ≤ x42_1)
          by_cases c36 : x42_1 ≤ (l0.length : Int)
          ·rw [if_pos c36] at H
           have c36b0 := eq_true c36
           have c36b1 : decide (x42_1 ≤ (l0.length : Int)) = true := decide_eq_true c36
           clear c36
           obtain ⟨y300, hy300⟩ : ∃ y_ : List Int, y_ = (l0.take (x42_1 : Int).toNat) := ⟨_, rfl⟩
           replace H : (if y297.length + y300.length < 17592186044416 then ((some (y297 ++ y300 : List Int)).bind fun y305 => (if 0 ≤ (wrap64 (x42_1 + 1)) then (if (wrap64 (x42_1 + 1)) ≤ (l0.length : Int) then ((some (l0.drop ((wrap64 (x42_1 + 1)) : Int).toNat : List Int)).bind fun y308 => (if y305.length + y308.length < 17592186044416 then ((some (y305 ++ y308 : List Int)).bind fun y313 => (if y294.length + y313.length < 17592186044416 then (if x5_1.length < 5864062014805 then (spec_l05Of.l1 k1 l0 (x5_1 ++ [(y294 ++ y313)]) l0 (l0.length : Int) (wrap64 (x42_1 + 1))) else (none)) else (none))) else (none))) else (none)) else (none))) else (none)) = some r := by first | (rw [hy300]; with_reducible exact H) | (have H2_ := (Option.bind_some _ _).symm.trans H; rw [hy300]; with_reducible exact H2_) | (have H2_ := (Option.bind_some _ _).symm.trans H; with_reducible exact H2_) | with_reducible exact H | (rw [hy300]; exact H) | exact H
           have Ny300 := Aside0.mk hy300
           clear hy300
           by_cases c37 : y297.length + y300.length < 17592186044416
           ·rw [if_pos c37] at H
            have LMc37 := Aside0.mk c37
            clear c37
            obtain ⟨y305, hy305⟩ : ∃ y_ : List Int, y_ = (y297 ++ y300) := ⟨_, rfl⟩
            replace H : (if 0 ≤ (wrap64 (x42_1 + 1)) then (if (wrap64 (x42_1 + 1)) ≤ (l0.length : Int) then ((some (l0.drop ((wrap64 (x42_1 + 1)) : Int).toNat : List Int)).bind fun y308 => (if y305.length + y308.length < 17592186044416 then ((some (y305 ++ y308 : List Int)).bind fun y313 => (if y294.length + y313.length < 17592186044416 then (if x5_1.length < 5864062014805 then (spec_l05Of.l1 k1 l0 (x5_1 ++ [(y294 ++ y313)]) l0 (l0.length : Int) (wrap64 (x42_1 + 1))) else (none)) else (none))) else (none))) else (none)) else (none)) = some r := by first | (rw [hy305]; with_reducible exact H) | (have H2_ := (Option.bind_some _ _).symm.trans H; rw [hy305]; with_reducible exact H2_) | (have H2_ := (Option.bind_some _ _).symm.trans H; with_reducible exact H2_) | with_reducible exact H | (rw [hy305]; exact H) | exact H
            have Ny305 := Aside0.mk hy305
            clear hy305
            obtain ⟨ji38, hji38⟩ : ∃ j_ : Int, (wrap64 (x42_1 + 1)) = j_ := ⟨_, rfl⟩
            replace H : (if 0 ≤ (ji38) then (if (ji38) ≤ (l0.length : Int) then ((some (l0.drop ((ji38) : Int).toNat : List Int)).bind fun y308 => (if y305.length + y308.length < 17592186044416 then ((some (y305 ++ y308 : List Int)).bind fun y313 => (if y294.length + y313.length < 17592186044416 then (if x5_1.length < 5864062014805 then (spec_l05Of.l1 k1 l0 (x5_1 ++ [(y294 ++ y313)]) l0 (l0.length : Int) ji38) else (none)) else (none))) else (none))) else (none)) else (none)) = some r := by first | (rw [hji38] at H; exact H) | (simp only [hji38] at H ⊢; exact H)
            have hji38w : (IntKind.i64.wrap (x42_1 + 1)) = ji38 := (i64_w _).trans hji38
            by_cases c39 : 0 ≤ (ji38)
            ·rw [if_pos c39] at H
             have c39b0 := eq_true c39
             have c39b1 : decide (0 ≤ (ji38)) = true := decide_eq_true c39
             clear c39
             by_cases c40 : (ji38) ≤ (l0.length : Int)
             ·rw [if_pos c40] at H
              have c40b0 := eq_true c40
              have c40b1 : decide ((ji38) ≤ (l0.length : Int)) = true := decide_eq_true c40
              clear c40
              obtain ⟨y308, hy308⟩ : ∃ y_ : List Int, y_ = (l0.drop ((ji38) : Int).toNat) := ⟨_, rfl⟩
              replace H : (if y305.length + y308.length < 17592186044416 then ((some (y305 ++ y308 : List Int)).bind fun y313 => (if y294.length + y313.length < 17592186044416 then (if x5_1.length < 5864062014805 then (spec_l05Of.l1 k1 l0 (x5_1 ++ [(y294 ++ y313)]) l0 (l0.length : Int) ji38) else (none)) else (none))) else (none)) = some r := by first | (rw [hy308]; with_reducible exact H) | (have H2_ := (Option.bind_some _ _).symm.trans H; rw [hy308]; with_reducible exact H2_) | (have H2_ := (Option.bind_some _ _).symm.trans H; with_reducible exact H2_) | with_reducible exact H | (rw [hy308]; exact H) | exact H
              have Ny308 := Aside0.mk hy308
              clear hy308
              by_cases c41 : y305.length + y308.length < 17592186044416
              ·rw [if_pos c41] at H
               have LMc41 := Aside0.mk c41
               clear c41
               obtain ⟨y313, hy313⟩ : ∃ y_ : List Int, y_ = (y305 ++ y308) := ⟨_, rfl⟩
               replace H : (if y294.length + y313.length < 17592186044416 then (if x5_1.length < 5864062014805 then (spec_l05Of.l1 k1 l0 (x5_1 ++ [(y294 ++ y313)]) l0 (l0.length : Int) ji38) else (none)) else (none)) = some r := by first | (rw [hy313]; with_reducible exact H) | (have H2_ := (Option.bind_some _ _).symm.trans H; rw [hy313]; with_reducible exact H2_) | (have H2_ := (Option.bind_some _ _).symm.trans H; with_reducible exact H2_) | with_reducible exact H | (rw [hy313]; exact H) | exact H
               have Ny313 := Aside0.mk hy313
               clear hy313
               by_cases c42 : y294.length + y313.length < 17592186044416
               ·rw [if_pos c42] at H
                have LMc42 := Aside0.mk c42
                clear c42
                obtain ⟨y316, hy316⟩ : ∃ y_ : List Int, y_ = (y294 ++ y313) := ⟨_, rfl⟩
                replace H : (if x5_1.length < 5864062014805 then (spec_l05Of.l1 k1 l0 (x5_1 ++ [y316]) l0 (l0.length : Int) ji38) else (none)) = some r := by first | (rw [hy316]; with_reducible exact H) | (have H2_ := (Option.bind_some _ _).symm.trans H; rw [hy316]; with_reducible exact H2_) | (have H2_ := (Option.bind_some _ _).symm.trans H; with_reducible exact H2_) | with_reducible exact H | (rw [hy316]; exact H) | exact H
                have Ny316 := Aside0.mk hy316
                clear hy316
                by_cases c43 : x5_1.length < 5864062014805
                ·rw [if_pos c43] at H
                 have LMc43 := Aside0.mk c43
                 clear c43
                 obtain ⟨y319, hy319⟩ : ∃ y_ : List (List Int), y_ = (x5_1 ++ [y316]) := ⟨_, rfl⟩
                 replace H : (spec_l05Of.l1 k1 l0 y319 l0 (l0.length : Int) ji38) = some r := by first | (rw [hy319]; with_reducible exact H) | (have H2_ := (Option.bind_some _ _).symm.trans H; rw [hy319]; with_reducible exact H2_) | (have H2_ := (Option.bind_some _ _).symm.trans H; with_reducible exact H2_) | with_reducible exact H | (rw [hy319]; exact H) | exact H
                 have Ny319 := Aside0.mk hy319
                 clear hy319
                 have H' := Aside0.mk H
                 clear H
                 have p293 : 0 ≤ (x42_1 : Int) := of_decide_eq_true (by first | (with_reducible assumption) | assumption)
                 have q293 : x42_1 < (l0.length : Int) := of_decide_eq_true (by first | (with_reducible assumption) | assumption)
                 obtain ⟨ad293, e293, hx293_0⟩ := Kd.at_int (Kd.V_reads' HO_40.out).2.2 x42_1 p293 q293
                 cases e293
                 replace p293 := eq_true p293
                 replace q293 := eq_true q293
                 obtain ⟨Ao44, co44, eo44⟩ := Kd.N_slice HO_5.out
                 subst eo44
                 try go_wp2
                 have n0_ := Aside0.mk (Kd.V_drew HO_0.out)
                 have n1_ := Aside0.mk (Kd.N_drew HO_5.out)
                 have n2_ := Aside0.mk (Kd.V_drew HO_40.out)
                 have n3_ := Aside0.mk (below_drew1 HB.out)
                 clear HO_0
                 clear HO_5
                 clear HO_40
                 clear HB
                 have HO_0 := n0_
                 have HO_5 := n1_
                 have HO_40 := n2_
                 have HB := n3_
                 clear n0_ n1_ n2_ n3_
                 have q46 : (x42_1 : Int) ≤ ((l0.length : Int) : Int) := of_decide_eq_true (by first | (with_reducible assumption) | assumption)
                 obtain ⟨i046, hi046, _, hsz46, _⟩ := info_parts info3
                 have hroom46 : l0.length ≤ c0 := (Kd.V_reads' HO_0.out).2.1
                 have hC46 : Kd.F (Kd.int .i64) _ _ (some ad293) l0.length l0 := (Kd.V_at (base := w.heap.size) HO_0.out).2.2
                 have hcut46 := cut_to (P := Try.prog) 22 3 .i64 Try.underlying22 hi046 (some ad293) l0.length c0 x42_1 (of_decide_eq_true (by first | (with_reducible assumption) | assumption)) q46 hroom46
                 have hr46 := Kd.F_take (m := (x42_1 : Int).toNat) hC46 (by omega)
                 have hy46 : y300.length = (x42_1 : Int).toNat := (by rw [Ny300.out, List.length_take]; omega)
                 rw [← Ny300.out] at hr46
                 rw [← hy46] at hcut46
                 have HO304 := Aside0.mk (show Kd.V (Kd.int .i64) 3 _ w.heap.size _ (.slice (some ad293) y300.length c0) y300 from Kd.V_mk (by omega) hr46)
                 have HC304 := Aside0.mk (show y300.length ≤ c0 from by omega)
                 clear hr46 hC46 hroom46 hi046 hsz46
                 have KY46 := Aside0.mk hy46
                 clear hy46
                 replace q46 := eq_true q46
                 have q47 : ((ji38) : Int) ≤ ((l0.length : Int) : Int) := of_decide_eq_true (by first | (with_reducible assumption) | assumption)
                 obtain ⟨i047, hi047, _, hsz47, _⟩ := info_parts info3
                 have hroom47 : l0.length ≤ c0 := (Kd.V_reads' HO_0.out).2.1
                 have hC47 : Kd.F (Kd.int .i64) _ _ (some ad293) l0.length l0 := (Kd.V_at (base := w.heap.size) HO_0.out).2.2
                 have q047 : (0 : Int) ≤ ((ji38) : Int) := of_decide_eq_true (by first | (with_reducible assumption) | assumption)
                 have hcut47 := cut_from (P := Try.prog) 22 3 .i64 Try.underlying22 hi047 1 hsz47 (some ad293) l0.length c0 (ji38) q047 q47
                 have hr47 := Kd.F_cut (m := ((ji38) : Int).toNat) (c := c0) hC47 (by omega) hroom47
                 obtain ⟨A47, hA47⟩ : ∃ A1, A1 = (if c0 = ((ji38) : Int).toNat then (some ad293) else ((some ad293) : Option Addr).map (·.add (((ji38) : Int).toNat * 1))) := ⟨_, rfl⟩
                 obtain ⟨c47, hc47⟩ : ∃ c1, c1 = c0 - ((ji38) : Int).toNat := ⟨_, rfl⟩
                 have hy47 : y308.length = l0.length - ((ji38) : Int).toNat := (by rw [Ny308.out, List.length_drop] <;> omega)
                 rw [show (l0).drop ((ji38) : Int).toNat = y308 from Ny308.out.symm] at hr47
                 replace hr47 : Kd.F (Kd.int .i64) _ _ A47 y308.length y308 := (by rw [hA47]; exact hr47)
                 rw [← hy47, ← hA47, ← hc47] at hcut47
                 have HO312 := Aside0.mk (show Kd.V (Kd.int .i64) 3 _ w.heap.size _ (.slice A47 y308.length c47) y308 from Kd.V_mk (by rw [hy47, hc47]; exact Nat.sub_le_sub_right hroom47 _) hr47)
                 have HC312 := Aside0.mk (show y308.length ≤ c47 from by rw [hy47, hc47]; exact Nat.sub_le_sub_right hroom47 _)
                 clear hr47 hC47 hroom47 hi047 hsz47 hc47
                 have KY47 := Aside0.mk hy47
                 have KA47 := Aside0.mk hA47
                 clear hy47 hA47
                 replace q47 := eq_true q47
                 refine start_ (n := 17) (S := fun w' => True) (ds := []) #[false, false, false, false, false, false, false, false, false, false, false, false, false, false, false, false, false] (by kernel_rfl) rfl rfl trivial (fun hHeld => ?_); refine with_tabW spec_l05Of.tab17 spec_l05Of.bits17 (fun HT_ HW_ => ?_)
                 generalize wr.drew = w45 at HO_0 HO_5 HO_40 HB HO304 HO312 hHeld ⊢
                 refine ps_ HT_ 0 47 ?_
                 refine ps_ HT_ 1 48 ?_
                 refine ps_ HT_ 4 51 ?_
                 refine ps_ HT_ 5 52 ?_
                 refine ps_ HT_ 6 53 ?_
                 refine ps_ HT_ 8 55 ?_
                 refine ps_ HT_ 9 56 ?_
                 refine ps_ HT_ 10 57 ?_
                 refine ps_ HT_ 11 58 ?_
                 refine join_ (σ := Value × Value × Value × Value) 4 #[true, true, true, true, true, true, true, true, true, true, true, true, true, false, false, false, false] (fun s_ => [(49, s_.1), (50, s_.2.1), (54, s_.2.2.1), (59, s_.2.2.2)]) (fun s_ w' => (Kd.R (Kd.int .i64) 3 w' w.heap.size (fun k_ => (w.heap.size ≤ k_) ∧ some k_ ≠ (s_.2.2.2 : Value).ownBlock) s_.1 y294) ∧ (Kd.V (Kd.int .i64) 3 w' w.heap.size (fun k_ => (P0_ k_ ∨ w.heap.size ≤ k_) ∧ some k_ ≠ (s_.1 : Value).ownBlock ∧ some k_ ≠ (s_.2.2.2 : Value).ownBlock ∧ some k_ ≠ (.slice Ao44 x5_1.length co44 : Value).ownBlock) (.slice (some ad293) y300.length c0) y300) ∧ (Kd.V (Kd.int .i64) 3 w' w.heap.size (fun k_ => (P0_ k_ ∨ w.heap.size ≤ k_) ∧ some k_ ≠ (s_.1 : Value).ownBlock ∧ some k_ ≠ (s_.2.2.2 : Value).ownBlock ∧ some k_ ≠ (.slice Ao44 x5_1.length co44 : Value).ownBlock) (.slice A47 y308.length c47) y308) ∧ (Kd.R (Kd.int .i64) 3 w' w.heap.size (fun k_ => (w.heap.size ≤ k_) ∧ some k_ ≠ (s_.1 : Value).ownBlock) s_.2.2.2 y313) ∧ (Kd.V (Kd.int .i64) 3 w' w.heap.size (fun k_ => (P0_ k_ ∨ w.heap.size ≤ k_) ∧ some k_ ≠ (s_.1 : Value).ownBlock ∧ some k_ ≠ (s_.2.2.2 : Value).ownBlock ∧ some k_ ≠ (.slice Ao44 x5_1.length co44 : Value).ownBlock) (.slice (some ad293) l0.length c0) l0) ∧ (Kd.V (Kd.int .i64) 3 w' w.heap.size (fun k_ => (P0_ k_ ∨ w.heap.size ≤ k_) ∧ some k_ ≠ (s_.1 : Value).ownBlock ∧ some k_ ≠ (s_.2.2.2 : Value).ownBlock ∧ some k_ ≠ (.slice Ao44 x5_1.length co44 : Value).ownBlock) (.slice (some ad293) l0.length c0) l0) ∧ (Kd.N (Kd.slice 3 (Kd.int .i64)) 22 w' w.heap.size (fun k_ => (P0_ k_ ∨ w.heap.size ≤ k_) ∧ some k_ ≠ (s_.1 : Value).ownBlock ∧ some k_ ≠ (s_.2.2.2 : Value).ownBlock) (.slice Ao44 x5_1.length co44) x5_1) ∧ (Below w.heap.size w w')) ?_ ?_
                 rotate_left
                 ·intro hCont
                  refine two_ (i := 2) (j := 3) (Ni := some 49) (Nj := some 50) #[true, true, true, false, true, true, true, false, true, true, true, true, false, false, false, false, false] #[true, true, false, true, true, true, true, false, true, true, true, true, false, false, false, false, false] rfl rfl rfl rfl (two_of HT_.out (by kernel_rfl)) (by decide) (by decide) (fun K hK => ?_) (fun K hK => ?_)
                  ·skip
                   refine Kd.R_lit_step (Kd.int .i64) _ 3 ?hg (N := 49) ?hd (xs := ([rd l0 x42_1] : List Int)) (inner := [.int .i64 (rd l0 x42_1)]) (ok := fun _ => True) (okp := fun _ => True) ?hr ?hp (fun _ hk => hk) trivial (Below.refl _ _) (Nat.le_refl _) (by simp) ?_; (case hd => rfl); (case hg => rfl); (case hr => first | (go_simp; done) | (go_simp; rfl)); (case hp => exact (Reps.one (show Kd.M (Kd.int .i64) _ _ _ (rd l0 x42_1) [.int .i64 (rd l0 x42_1)] from rfl) (Reps.none _ _)))
                   intro v295 w48 ho49 hb hg_ hnew_
                   clear hg_ hnew_
                   (first | rw [← Ny294.out] at ho49 | (simp only [Int.reduceToNat] at ho49; rw [← Ny294.out] at ho49))
                   have n0_ := Aside0.mk (Kd.V_elder' (vx_ HO_0) (Kd.R_base ho49) hb)
                   have n1_ := Aside0.mk (Kd.N_elder' (by (with_reducible repeat (first | apply Kd.N_alloc | apply Kd.N_drewN | apply Kd.N_drew)); exact HO_5.out) (Kd.R_base ho49) hb)
                   have n2_ := Aside0.mk (Kd.V_elder' (vx_ HO_40) (Kd.R_base ho49) hb)
                   have n3_ := Aside0.mk (Kd.V_elder' (vx_ HO304) (Kd.R_base ho49) hb)
                   have n4_ := Aside0.mk (Kd.V_elder' (vx_ HO312) (Kd.R_base ho49) hb)
                   have n5_ := Aside0.mk (Kd.R_lower (Kd.R_newM (M := fun k_ => (w.heap.size ≤ k_)) ho49 (below_size bl_) (fun k_ h_ => h_)) (below_size bl_))
                   have n6_ := Aside0.mk (below_step bl_ hb)
                   clear HO_0
                   clear HO_5
                   clear HO_40
                   clear HO304
                   clear HO312
                   clear HB
                   have HO_0 := n0_
                   have HO_5 := n1_
                   have HO_40 := n2_
                   have HO304 := n3_
                   have HO312 := n4_
                   have HO296 := n5_
                   have HB := n6_
                   clear n0_ n1_ n2_ n3_ n4_ n5_ n6_
                   clear hb ho49
                   refine hK.out _ _ trivial (fun hHeld => ?_)
                   clear hK K
                   refine ns_ ?_
                   refine one_ (i := 3) (N := some 50) #[true, true, true, true, true, true, true, false, true, true, true, true, false, false, false, false, false] rfl rfl (one_of HT_.out (by kernel_rfl)) (by decide) (fun K hK => ?_)
                   refine Kd.R_lit_step (Kd.int .i64) _ 3 ?hg (N := 50) ?hd (xs := ([] : List Int)) (inner := []) (ok := fun _ => True) (okp := fun _ => True) ?hr ?hp (fun _ hk => hk) trivial (Below.refl _ _) (Nat.le_refl _) (by simp) ?_; (case hd => rfl); (case hg => rfl); (case hr => first | (go_simp; done) | (go_simp; rfl)); (case hp => exact (Reps.none _ _))
                   intro v298 w50 ho51 hb hg_ hnew_
                   clear hg_ hnew_
                   (first | rw [← Ny297.out] at ho51 | (simp only [Int.reduceToNat] at ho51; rw [← Ny297.out] at ho51))
                   have n0_ := Aside0.mk (Kd.V_elder' (vx_ HO_0) (Kd.R_base ho51) hb)
                   have n1_ := Aside0.mk (Kd.N_elder' (by (with_reducible repeat (first | apply Kd.N_alloc | apply Kd.N_drewN | apply Kd.N_drew)); exact HO_5.out) (Kd.R_base ho51) hb)
                   have n2_ := Aside0.mk (Kd.V_elder' (vx_ HO_40) (Kd.R_base ho51) hb)
                   have n3_ := Aside0.mk (Kd.V_elder' (vx_ HO304) (Kd.R_base ho51) hb)
                   have n4_ := Aside0.mk (Kd.V_elder' (vx_ HO312) (Kd.R_base ho51) hb)
                   have n5_ := Aside0.mk (Kd.R_elder' (rx_ HO296) (Kd.R_base ho51) hb)
                   have n6_ := Aside0.mk (Kd.R_lower (Kd.R_new' (Kd.R_newM (M := fun k_ => (w.heap.size ≤ k_)) ho51 (below_size bl_) (fun k_ h_ => h_)) (Kd.R_lt (rx_ HO296))) (below_size bl_))
                   have n7_ := Aside0.mk (below_step bl_ hb)
                   clear HO_0
                   clear HO_5
                   clear HO_40
                   clear HO304
                   clear HO312
                   clear HO296
                   clear HB
                   have HO_0 := n0_
                   have HO_5 := n1_
                   have HO_40 := n2_
                   have HO304 := n3_
                   have HO312 := n4_
                   have HO296 := n5_
                   have HO299 := n6_
                   have HB := n7_
                   clear n0_ n1_ n2_ n3_ n4_ n5_ n6_ n7_
                   clear hb ho51
                   refine hK.out _ _ trivial (fun hHeld => ?_)
                   clear hK K
                   refine ns_ ?_
                   refine one_ (i := 7) (N := some 54) #[true, true, true, true, true, true, true, true, true, true, true, true, false, false, false, false, false] rfl rfl (one_of HT_.out (by kernel_rfl)) (by decide) (fun K hK => ?_)
                   refine Kd.R_append_rows_step (Kd.int .i64) (w0 := w) w.heap.size (by rfl) (.tmp 50) (.tmp 53) 22 3 (.int .i64 0) 8 rfl Try.underlying22 info3 rfl (by decide) (by omega) v298 y297 y300 _ _ _ (fun k_ => (w.heap.size ≤ k_) ∧ some k_ ≠ (v295 : Value).ownBlock) (fun _ => False) rfl rfl ?aO ?aR (fun _ _ h => h) (fun _ h => h.elim) ?aF ?aB ?aS ?aL ?_
                   (case aR => repeat (first | exact (Kd.V_reads' HO304.out).2.2 | (with_reducible first | refine Kd.C_alloc ?_ _ | refine Kd.C_drewN ?_ _ | refine Kd.C_drew ?_)))
                   (case aB => exact bl_)
                   (case aF => exact (fun k_ hk => ⟨(Nat.le_trans (below_size bl_) hk), Kd.fresh' (Kd.R_lt (rx_ HO296)) k_ hk⟩))
                   (case aO => exact (by (with_reducible repeat (first | apply Kd.R_alloc | apply Kd.R_drewN | apply Kd.R_drew)); exact Kd.R_mono HO299.out (fun _ hk => ⟨hk.1.1, hk.2⟩)))
                   (case aS => exact (below_size bl_))
                   (case aL => have := LMc37.out; omega)
                   intro v306 w52 ho hb hg hat
                   rw [← Ny305.out] at ho
                   have n0_ := Aside0.mk (Kd.V_afterv (ok := (fun k_ => (P0_ k_ ∨ w.heap.size ≤ k_) ∧ some k_ ≠ (.slice Ao44 x5_1.length co44 : Value).ownBlock ∧ some k_ ≠ (v295 : Value).ownBlock)) (by (with_reducible repeat (first | apply Kd.V_alloc | apply Kd.V_drewN | apply Kd.V_drew)); exact Kd.V_mono HO_0.out (fun _ hk => ⟨⟨hk.1.1.1, ⟨hk.1.1.2, hk.1.2⟩⟩, hk.2⟩)) hg hat)
                   have n1_ := Aside0.mk (Kd.N_afterv (ok := (fun k_ => (P0_ k_ ∨ w.heap.size ≤ k_) ∧ some k_ ≠ (v295 : Value).ownBlock)) (by (with_reducible repeat (first | apply Kd.N_alloc | apply Kd.N_drewN | apply Kd.N_drew)); exact HO_5.out) hg hat)
                   have n2_ := Aside0.mk (Kd.V_afterv (ok := (fun k_ => (P0_ k_ ∨ w.heap.size ≤ k_) ∧ some k_ ≠ (.slice Ao44 x5_1.length co44 : Value).ownBlock ∧ some k_ ≠ (v295 : Value).ownBlock)) (by (with_reducible repeat (first | apply Kd.V_alloc | apply Kd.V_drewN | apply Kd.V_drew)); exact Kd.V_mono HO_40.out (fun _ hk => ⟨⟨hk.1.1.1, ⟨hk.1.1.2, hk.1.2⟩⟩, hk.2⟩)) hg hat)
                   have n3_ := Aside0.mk (Kd.V_afterv (ok := (fun k_ => (P0_ k_ ∨ w.heap.size ≤ k_) ∧ some k_ ≠ (.slice Ao44 x5_1.length co44 : Value).ownBlock ∧ some k_ ≠ (v295 : Value).ownBlock)) (by (with_reducible repeat (first | apply Kd.V_alloc | apply Kd.V_drewN | apply Kd.V_drew)); exact Kd.V_mono HO304.out (fun _ hk => ⟨⟨hk.1.1.1, ⟨hk.1.1.2, hk.1.2⟩⟩, hk.2⟩)) hg hat)
                   have n4_ := Aside0.mk (Kd.V_afterv (ok := (fun k_ => (P0_ k_ ∨ w.heap.size ≤ k_) ∧ some k_ ≠ (.slice Ao44 x5_1.length co44 : Value).ownBlock ∧ some k_ ≠ (v295 : Value).ownBlock)) (by (with_reducible repeat (first | apply Kd.V_alloc | apply Kd.V_drewN | apply Kd.V_drew)); exact Kd.V_mono HO312.out (fun _ hk => ⟨⟨hk.1.1.1, ⟨hk.1.1.2, hk.1.2⟩⟩, hk.2⟩)) hg hat)
                   have n5_ := Aside0.mk (Kd.R_after (ok := (fun k_ => (w.heap.size ≤ k_))) (by (with_reducible repeat (first | apply Kd.R_alloc | apply Kd.R_drewN | apply Kd.R_drew)); exact Kd.R_mono HO296.out (fun _ hk => ⟨hk.1.1, hk.2⟩)) hg hat)
                   have n6_ := Aside0.mk (hb)
                   have n7_ := Aside0.mk (ho)
                   clear HO_0
                   clear HO_5
                   clear HO_40
                   clear HO304
                   clear HO312
                   clear HO296
                   clear HB
                   clear HO299
                   have HO_0 := n0_
                   have HO_5 := n1_
                   have HO_40 := n2_
                   have HO304 := n3_
                   have HO312 := n4_
                   have HO296 := n5_
                   have HB := n6_
                   have HO307 := n7_
                   clear n0_ n1_ n2_ n3_ n4_ n5_ n6_ n7_
                   clear ho hb hg hat
                   refine hK.out _ _ trivial (fun hHeld => ?_)
                   clear hK K
                   refine ns_ ?_
                   refine one_ (i := 12) (N := some 59) #[true, true, true, true, true, true, true, true, true, true, true, true, true, false, false, false, false] rfl rfl (one_of HT_.out (by kernel_rfl)) (by decide) (fun K hK => ?_)
                   refine Kd.R_append_rows_step (Kd.int .i64) (w0 := w) w.heap.size (by rfl) (.tmp 54) (.tmp 58) 22 3 (.int .i64 0) 8 rfl Try.underlying22 info3 rfl (by decide) (by omega) v306 y305 y308 _ _ _ (fun k_ => (w.heap.size ≤ k_) ∧ some k_ ≠ (v295 : Value).ownBlock) (fun _ => False) rfl rfl ?aO ?aR (fun _ _ h => h) (fun _ h => h.elim) ?aF ?aB ?aS ?aL ?_
                   (case aR => repeat (first | exact (Kd.V_reads' HO312.out).2.2 | (with_reducible first | refine Kd.C_alloc ?_ _ | refine Kd.C_drewN ?_ _ | refine Kd.C_drew ?_)))
                   (case aB => exact bl_)
                   (case aF => exact (fun k_ hk => ⟨(Nat.le_trans (below_size bl_) hk), Kd.fresh' (Kd.R_lt (rx_ HO296)) k_ hk⟩))
                   (case aO => exact (rx_ HO307))
                   (case aS => exact (below_size bl_))
                   (case aL => have := LMc41.out; omega)
                   intro v314 w53 ho hb hg hat
                   rw [← Ny313.out] at ho
                   have n0_ := Aside0.mk (Kd.V_afterv (ok := (fun k_ => (P0_ k_ ∨ w.heap.size ≤ k_) ∧ some k_ ≠ (.slice Ao44 x5_1.length co44 : Value).ownBlock ∧ some k_ ≠ (v295 : Value).ownBlock)) (vx_ HO_0) hg hat)
                   have n1_ := Aside0.mk (Kd.N_afterv (ok := (fun k_ => (P0_ k_ ∨ w.heap.size ≤ k_) ∧ some k_ ≠ (v295 : Value).ownBlock)) (by (with_reducible repeat (first | apply Kd.N_alloc | apply Kd.N_drewN | apply Kd.N_drew)); exact HO_5.out) hg hat)
                   have n2_ := Aside0.mk (Kd.V_afterv (ok := (fun k_ => (P0_ k_ ∨ w.heap.size ≤ k_) ∧ some k_ ≠ (.slice Ao44 x5_1.length co44 : Value).ownBlock ∧ some k_ ≠ (v295 : Value).ownBlock)) (vx_ HO_40) hg hat)
                   have n3_ := Aside0.mk (Kd.V_afterv (ok := (fun k_ => (P0_ k_ ∨ w.heap.size ≤ k_) ∧ some k_ ≠ (.slice Ao44 x5_1.length co44 : Value).ownBlock ∧ some k_ ≠ (v295 : Value).ownBlock)) (vx_ HO304) hg hat)
                   have n4_ := Aside0.mk (Kd.V_afterv (ok := (fun k_ => (P0_ k_ ∨ w.heap.size ≤ k_) ∧ some k_ ≠ (.slice Ao44 x5_1.length co44 : Value).ownBlock ∧ some k_ ≠ (v295 : Value).ownBlock)) (vx_ HO312) hg hat)
                   have n5_ := Aside0.mk (Kd.R_after (ok := (fun k_ => (w.heap.size ≤ k_))) (rx_ HO296) hg hat)
                   have n6_ := Aside0.mk (hb)
                   have n7_ := Aside0.mk (ho)
                   clear HO_0
                   clear HO_5
                   clear HO_40
                   clear HO304
                   clear HO312
                   clear HO296
                   clear HB
                   clear HO307
                   have HO_0 := n0_
                   have HO_5 := n1_
                   have HO_40 := n2_
                   have HO304 := n3_
                   have HO312 := n4_
                   have HO296 := n5_
                   have HB := n6_
                   have HO315 := n7_
                   clear n0_ n1_ n2_ n3_ n4_ n5_ n6_ n7_
                   clear ho hb hg hat
                   refine hK.out _ _ trivial (fun hHeld => ?_)
                   clear hK K
                   refine ns_ ?_
                   exact norm_ (by simp only [putAll, Act.put, List.setIfInBounds_toArray, List.set_cons_zero, List.set_cons_succ]) (hCont (v295, v298, v306, v314) _ ⟨(rx_ HO296), (by (with_reducible repeat (first | apply Kd.V_alloc | apply Kd.V_drewN | apply Kd.V_drew)); exact Kd.V_mono HO304.out (fun _ hk => ⟨hk.1.1, ⟨hk.1.2.2, ⟨hk.2, hk.1.2.1⟩⟩⟩)), (by (with_reducible repeat (first | apply Kd.V_alloc | apply Kd.V_drewN | apply Kd.V_drew)); exact Kd.V_mono HO312.out (fun _ hk => ⟨hk.1.1, ⟨hk.1.2.2, ⟨hk.2, hk.1.2.1⟩⟩⟩)), (rx_ HO315), (by (with_reducible repeat (first | apply Kd.V_alloc | apply Kd.V_drewN | apply Kd.V_drew)); exact Kd.V_mono HO_0.out (fun _ hk => ⟨hk.1.1, ⟨hk.1.2.2, ⟨hk.2, hk.1.2.1⟩⟩⟩)), (by (with_reducible repeat (first | apply Kd.V_alloc | apply Kd.V_drewN | apply Kd.V_drew)); exact Kd.V_mono HO_40.out (fun _ hk => ⟨hk.1.1, ⟨hk.1.2.2, ⟨hk.2, hk.1.2.1⟩⟩⟩)), (by (with_reducible repeat (first | apply Kd.N_alloc | apply Kd.N_drewN | apply Kd.N_drew)); exact Kd.N_mono HO_5.out (fun _ hk => ⟨hk.1.1, ⟨hk.1.2, hk.2⟩⟩)), bl_⟩)
                  ·skip
                   refine Kd.R_lit_step (Kd.int .i64) _ 3 ?hg (N := 50) ?hd (xs := ([] : List Int)) (inner := []) (ok := fun _ => True) (okp := fun _ => True) ?hr ?hp (fun _ hk => hk) trivial (Below.refl _ _) (Nat.le_refl _) (by simp) ?_; (case hd => rfl); (case hg => rfl); (case hr => first | (go_simp; done) | (go_simp; rfl)); (case hp => exact (Reps.none _ _))
                   intro v298 w48 ho49 hb hg_ hnew_
                   clear hg_ hnew_
                   (first | rw [← Ny297.out] at ho49 | (simp only [Int.reduceToNat] at ho49; rw [← Ny297.out] at ho49))
                   have n0_ := Aside0.mk (Kd.V_elder' (vx_ HO_0) (Kd.R_base ho49) hb)
                   have n1_ := Aside0.mk (Kd.N_elder' (by (with_reducible repeat (first | apply Kd.N_alloc | apply Kd.N_drewN | apply Kd.N_drew)); exact HO_5.out) (Kd.R_base ho49) hb)
                   have n2_ := Aside0.mk (Kd.V_elder' (vx_ HO_40) (Kd.R_base ho49) hb)
                   have n3_ := Aside0.mk (Kd.V_elder' (vx_ HO304) (Kd.R_base ho49) hb)
                   have n4_ := Aside0.mk (Kd.V_elder' (vx_ HO312) (Kd.R_base ho49) hb)
                   have n5_ := Aside0.mk (Kd.R_lower (Kd.R_newM (M := fun k_ => (w.heap.size ≤ k_)) ho49 (below_size bl_) (fun k_ h_ => h_)) (below_size bl_))
                   have n6_ := Aside0.mk (below_step bl_ hb)
                   clear HO_0
                   clear HO_5
                   clear HO_40
                   clear HO304
                   clear HO312
                   clear HB
                   have HO_0 := n0_
                   have HO_5 := n1_
                   have HO_40 := n2_
                   have HO304 := n3_
                   have HO312 := n4_
                   have HO299 := n5_
                   have HB := n6_
                   clear n0_ n1_ n2_ n3_ n4_ n5_ n6_
                   clear hb ho49
                   refine hK.out _ _ trivial (fun hHeld => ?_)
                   clear hK K
                   refine ns_ ?_
                   refine two_ (i := 2) (j := 7) (Ni := some 49) (Nj := some 54) #[true, true, true, true, true, true, true, false, true, true, true, true, false, false, false, false, false] #[true, true, false, true, true, true, true, true, true, true, true, true, false, false, false, false, false] rfl rfl rfl rfl (two_of HT_.out (by kernel_rfl)) (by decide) (by decide) (fun K hK => ?_) (fun K hK => ?_)
                   ·skip
                    refine Kd.R_lit_step (Kd.int .i64) _ 3 ?hg (N := 49) ?hd (xs := ([rd l0 x42_1] : List Int)) (inner := [.int .i64 (rd l0 x42_1)]) (ok := fun _ => True) (okp := fun _ => True) ?hr ?hp (fun _ hk => hk) trivial (Below.refl _ _) (Nat.le_refl _) (by simp) ?_; (case hd => rfl); (case hg => rfl); (case hr => first | (go_simp; done) | (go_simp; rfl)); (case hp => exact (Reps.one (show Kd.M (Kd.int .i64) _ _ _ (rd l0 x42_1) [.int .i64 (rd l0 x42_1)] from rfl) (Reps.none _ _)))
                    intro v295 w50 ho51 hb hg_ hnew_
                    clear hg_ hnew_
                    (first | rw [← Ny294.out] at ho51 | (simp only [Int.reduceToNat] at ho51; rw [← Ny294.out] at ho51))
                    have n0_ := Aside0.mk (Kd.V_elder' (vx_ HO_0) (Kd.R_base ho51) hb)
                    have n1_ := Aside0.mk (Kd.N_elder' (by (with_reducible repeat (first | apply Kd.N_alloc | apply Kd.N_drewN | apply Kd.N_drew)); exact HO_5.out) (Kd.R_base ho51) hb)
                    have n2_ := Aside0.mk (Kd.V_elder' (vx_ HO_40) (Kd.R_base ho51) hb)
                    have n3_ := Aside0.mk (Kd.V_elder' (vx_ HO304) (Kd.R_base ho51) hb)
                    have n4_ := Aside0.mk (Kd.V_elder' (vx_ HO312) (Kd.R_base ho51) hb)
                    have n5_ := Aside0.mk (Kd.R_elder' (rx_ HO299) (Kd.R_base ho51) hb)
                    have n6_ := Aside0.mk (Kd.R_lower (Kd.R_new' (Kd.R_newM (M := fun k_ => (w.heap.size ≤ k_)) ho51 (below_size bl_) (fun k_ h_ => h_)) (Kd.R_lt (rx_ HO299))) (below_size bl_))
                    have n7_ := Aside0.mk (below_step bl_ hb)
                    clear HO_0
                    clear HO_5
                    clear HO_40
                    clear HO304
                    clear HO312
                    clear HO299
                    clear HB
                    have HO_0 := n0_
                    have HO_5 := n1_
                    have HO_40 := n2_
                    have HO304 := n3_
                    have HO312 := n4_
                    have HO299 := n5_
                    have HO296 := n6_
                    have HB := n7_
                    clear n0_ n1_ n2_ n3_ n4_ n5_ n6_ n7_
                    clear hb ho51
                    refine hK.out _ _ trivial (fun hHeld => ?_)
                    clear hK K
                    refine ns_ ?_
                    refine one_ (i := 7) (N := some 54) #[true, true, true, true, true, true, true, true, true, true, true, true, false, false, false, false, false] rfl rfl (one_of HT_.out (by kernel_rfl)) (by decide) (fun K hK => ?_)
                    refine Kd.R_append_rows_step (Kd.int .i64) (w0 := w) w.heap.size (by rfl) (.tmp 50) (.tmp 53) 22 3 (.int .i64 0) 8 rfl Try.underlying22 info3 rfl (by decide) (by omega) v298 y297 y300 _ _ _ (fun k_ => (w.heap.size ≤ k_) ∧ some k_ ≠ (v295 : Value).ownBlock) (fun _ => False) rfl rfl ?aO ?aR (fun _ _ h => h) (fun _ h => h.elim) ?aF ?aB ?aS ?aL ?_
                    (case aR => repeat (first | exact (Kd.V_reads' HO304.out).2.2 | (with_reducible first | refine Kd.C_alloc ?_ _ | refine Kd.C_drewN ?_ _ | refine Kd.C_drew ?_)))
                    (case aB => exact bl_)
                    (case aF => exact (fun k_ hk => ⟨(Nat.le_trans (below_size bl_) hk), Kd.fresh' (Kd.R_lt (rx_ HO296)) k_ hk⟩))
                    (case aO => exact (by (with_reducible repeat (first | apply Kd.R_alloc | apply Kd.R_drewN | apply Kd.R_drew)); exact Kd.R_mono HO299.out (fun _ hk => ⟨hk.1.1, hk.2⟩)))
                    (case aS => exact (below_size bl_))
                    (case aL => have := LMc37.out; omega)
                    intro v306 w52 ho hb hg hat
                    rw [← Ny305.out] at ho
                    have n0_ := Aside0.mk (Kd.V_afterv (ok := (fun k_ => (P0_ k_ ∨ w.heap.size ≤ k_) ∧ some k_ ≠ (.slice Ao44 x5_1.length co44 : Value).ownBlock ∧ some k_ ≠ (v295 : Value).ownBlock)) (by (with_reducible repeat (first | apply Kd.V_alloc | apply Kd.V_drewN | apply Kd.V_drew)); exact Kd.V_mono HO_0.out (fun _ hk => ⟨⟨hk.1.1.1, ⟨hk.1.1.2, hk.2⟩⟩, hk.1.2⟩)) hg hat)
                    have n1_ := Aside0.mk (Kd.N_afterv (ok := (fun k_ => (P0_ k_ ∨ w.heap.size ≤ k_) ∧ some k_ ≠ (v295 : Value).ownBlock)) (by (with_reducible repeat (first | apply Kd.N_alloc | apply Kd.N_drewN | apply Kd.N_drew)); exact Kd.N_mono HO_5.out (fun _ hk => ⟨⟨hk.1.1, hk.2⟩, hk.1.2⟩)) hg hat)
                    have n2_ := Aside0.mk (Kd.V_afterv (ok := (fun k_ => (P0_ k_ ∨ w.heap.size ≤ k_) ∧ some k_ ≠ (.slice Ao44 x5_1.length co44 : Value).ownBlock ∧ some k_ ≠ (v295 : Value).ownBlock)) (by (with_reducible repeat (first | apply Kd.V_alloc | apply Kd.V_drewN | apply Kd.V_drew)); exact Kd.V_mono HO_40.out (fun _ hk => ⟨⟨hk.1.1.1, ⟨hk.1.1.2, hk.2⟩⟩, hk.1.2⟩)) hg hat)
                    have n3_ := Aside0.mk (Kd.V_afterv (ok := (fun k_ => (P0_ k_ ∨ w.heap.size ≤ k_) ∧ some k_ ≠ (.slice Ao44 x5_1.length co44 : Value).ownBlock ∧ some k_ ≠ (v295 : Value).ownBlock)) (by (with_reducible repeat (first | apply Kd.V_alloc | apply Kd.V_drewN | apply Kd.V_drew)); exact Kd.V_mono HO304.out (fun _ hk => ⟨⟨hk.1.1.1, ⟨hk.1.1.2, hk.2⟩⟩, hk.1.2⟩)) hg hat)
                    have n4_ := Aside0.mk (Kd.V_afterv (ok := (fun k_ => (P0_ k_ ∨ w.heap.size ≤ k_) ∧ some k_ ≠ (.slice Ao44 x5_1.length co44 : Value).ownBlock ∧ some k_ ≠ (v295 : Value).ownBlock)) (by (with_reducible repeat (first | apply Kd.V_alloc | apply Kd.V_drewN | apply Kd.V_drew)); exact Kd.V_mono HO312.out (fun _ hk => ⟨⟨hk.1.1.1, ⟨hk.1.1.2, hk.2⟩⟩, hk.1.2⟩)) hg hat)
                    have n5_ := Aside0.mk (Kd.R_after (ok := (fun k_ => (w.heap.size ≤ k_))) (by (with_reducible repeat (first | apply Kd.R_alloc | apply Kd.R_drewN | apply Kd.R_drew)); exact Kd.R_mono HO296.out (fun _ hk => ⟨hk.1.1, hk.2⟩)) hg hat)
                    have n6_ := Aside0.mk (hb)
                    have n7_ := Aside0.mk (ho)
                    clear HO_0
                    clear HO_5
                    clear HO_40
                    clear HO304
                    clear HO312
                    clear HO296
                    clear HB
                    clear HO299
                    have HO_0 := n0_
                    have HO_5 := n1_
                    have HO_40 := n2_
                    have HO304 := n3_
                    have HO312 := n4_
                    have HO296 := n5_
                    have HB := n6_
                    have HO307 := n7_
                    clear n0_ n1_ n2_ n3_ n4_ n5_ n6_ n7_
                    clear ho hb hg hat
                    refine hK.out _ _ trivial (fun hHeld => ?_)
                    clear hK K
                    refine ns_ ?_
                    refine one_ (i := 12) (N := some 59) #[true, true, true, true, true, true, true, true, true, true, true, true, true, false, false, false, false] rfl rfl (one_of HT_.out (by kernel_rfl)) (by decide) (fun K hK => ?_)
                    refine Kd.R_append_rows_step (Kd.int .i64) (w0 := w) w.heap.size (by rfl) (.tmp 54) (.tmp 58) 22 3 (.int .i64 0) 8 rfl Try.underlying22 info3 rfl (by decide) (by omega) v306 y305 y308 _ _ _ (fun k_ => (w.heap.size ≤ k_) ∧ some k_ ≠ (v295 : Value).ownBlock) (fun _ => False) rfl rfl ?aO ?aR (fun _ _ h => h) (fun _ h => h.elim) ?aF ?aB ?aS ?aL ?_
                    (case aR => repeat (first | exact (Kd.V_reads' HO312.out).2.2 | (with_reducible first | refine Kd.C_alloc ?_ _ | refine Kd.C_drewN ?_ _ | refine Kd.C_drew ?_)))
                    (case aB => exact bl_)
                    (case aF => exact (fun k_ hk => ⟨(Nat.le_trans (below_size bl_) hk), Kd.fresh' (Kd.R_lt (rx_ HO296)) k_ hk⟩))
                    (case aO => exact (rx_ HO307))
                    (case aS => exact (below_size bl_))
                    (case aL => have := LMc41.out; omega)
                    intro v314 w53 ho hb hg hat
                    rw [← Ny313.out] at ho
                    have n0_ := Aside0.mk (Kd.V_afterv (ok := (fun k_ => (P0_ k_ ∨ w.heap.size ≤ k_) ∧ some k_ ≠ (.slice Ao44 x5_1.length co44 : Value).ownBlock ∧ some k_ ≠ (v295 : Value).ownBlock)) (vx_ HO_0) hg hat)
                    have n1_ := Aside0.mk (Kd.N_afterv (ok := (fun k_ => (P0_ k_ ∨ w.heap.size ≤ k_) ∧ some k_ ≠ (v295 : Value).ownBlock)) (by (with_reducible repeat (first | apply Kd.N_alloc | apply Kd.N_drewN | apply Kd.N_drew)); exact HO_5.out) hg hat)
                    have n2_ := Aside0.mk (Kd.V_afterv (ok := (fun k_ => (P0_ k_ ∨ w.heap.size ≤ k_) ∧ some k_ ≠ (.slice Ao44 x5_1.length co44 : Value).ownBlock ∧ some k_ ≠ (v295 : Value).ownBlock)) (vx_ HO_40) hg hat)
                    have n3_ := Aside0.mk (Kd.V_afterv (ok := (fun k_ => (P0_ k_ ∨ w.heap.size ≤ k_) ∧ some k_ ≠ (.slice Ao44 x5_1.length co44 : Value).ownBlock ∧ some k_ ≠ (v295 : Value).ownBlock)) (vx_ HO304) hg hat)
                    have n4_ := Aside0.mk (Kd.V_afterv (ok := (fun k_ => (P0_ k_ ∨ w.heap.size ≤ k_) ∧ some k_ ≠ (.slice Ao44 x5_1.length co44 : Value).ownBlock ∧ some k_ ≠ (v295 : Value).ownBlock)) (vx_ HO312) hg hat)
                    have n5_ := Aside0.mk (Kd.R_after (ok := (fun k_ => (w.heap.size ≤ k_))) (rx_ HO296) hg hat)
                    have n6_ := Aside0.mk (hb)
                    have n7_ := Aside0.mk (ho)
                    clear HO_0
                    clear HO_5
                    clear HO_40
                    clear HO304
                    clear HO312
                    clear HO296
                    clear HB
                    clear HO307
                    have HO_0 := n0_
                    have HO_5 := n1_
                    have HO_40 := n2_
                    have HO304 := n3_
                    have HO312 := n4_
                    have HO296 := n5_
                    have HB := n6_
                    have HO315 := n7_
                    clear n0_ n1_ n2_ n3_ n4_ n5_ n6_ n7_
                    clear ho hb hg hat
                    refine hK.out _ _ trivial (fun hHeld => ?_)
                    clear hK K
                    refine ns_ ?_
                    exact norm_ (by simp only [putAll, Act.put, List.setIfInBounds_toArray, List.set_cons_zero, List.set_cons_succ]) (hCont (v295, v298, v306, v314) _ ⟨(rx_ HO296), (by (with_reducible repeat (first | apply Kd.V_alloc | apply Kd.V_drewN | apply Kd.V_drew)); exact Kd.V_mono HO304.out (fun _ hk => ⟨hk.1.1, ⟨hk.1.2.2, ⟨hk.2, hk.1.2.1⟩⟩⟩)), (by (with_reducible repeat (first | apply Kd.V_alloc | apply Kd.V_drewN | apply Kd.V_drew)); exact Kd.V_mono HO312.out (fun _ hk => ⟨hk.1.1, ⟨hk.1.2.2, ⟨hk.2, hk.1.2.1⟩⟩⟩)), (rx_ HO315), (by (with_reducible repeat (first | apply Kd.V_alloc | apply Kd.V_drewN | apply Kd.V_drew)); exact Kd.V_mono HO_0.out (fun _ hk => ⟨hk.1.1, ⟨hk.1.2.2, ⟨hk.2, hk.1.2.1⟩⟩⟩)), (by (with_reducible repeat (first | apply Kd.V_alloc | apply Kd.V_drewN | apply Kd.V_drew)); exact Kd.V_mono HO_40.out (fun _ hk => ⟨hk.1.1, ⟨hk.1.2.2, ⟨hk.2, hk.1.2.1⟩⟩⟩)), (by (with_reducible repeat (first | apply Kd.N_alloc | apply Kd.N_drewN | apply Kd.N_drew)); exact Kd.N_mono HO_5.out (fun _ hk => ⟨hk.1.1, ⟨hk.1.2, hk.2⟩⟩)), bl_⟩)
                   ·skip
                    refine Kd.R_append_rows_step (Kd.int .i64) (w0 := w) w.heap.size (by rfl) (.tmp 50) (.tmp 53) 22 3 (.int .i64 0) 8 rfl Try.underlying22 info3 rfl (by decide) (by omega) v298 y297 y300 _ _ _ (fun k_ => (w.heap.size ≤ k_)) (fun _ => False) rfl rfl ?aO ?aR (fun _ _ h => h) (fun _ h => h.elim) ?aF ?aB ?aS ?aL ?_
                    (case aR => repeat (first | exact (Kd.V_reads' HO304.out).2.2 | (with_reducible first | refine Kd.C_alloc ?_ _ | refine Kd.C_drewN ?_ _ | refine Kd.C_drew ?_)))
                    (case aB => exact bl_)
                    (case aF => exact (fun k_ hk => (Nat.le_trans (below_size bl_) hk)))
                    (case aO => exact (by (with_reducible repeat (first | apply Kd.R_alloc | apply Kd.R_drewN | apply Kd.R_drew)); exact Kd.R_mono HO299.out (fun _ hk => hk.1)))
                    (case aS => exact (below_size bl_))
                    (case aL => have := LMc37.out; omega)
                    intro v306 w50 ho hb hg hat
                    rw [← Ny305.out] at ho
                    have n0_ := Aside0.mk (Kd.V_afterv (ok := (fun k_ => (P0_ k_ ∨ w.heap.size ≤ k_) ∧ some k_ ≠ (.slice Ao44 x5_1.length co44 : Value).ownBlock)) (vx_ HO_0) hg hat)
                    have n1_ := Aside0.mk (Kd.N_afterv (ok := (fun k_ => (P0_ k_ ∨ w.heap.size ≤ k_))) (by (with_reducible repeat (first | apply Kd.N_alloc | apply Kd.N_drewN | apply Kd.N_drew)); exact HO_5.out) hg hat)
                    have n2_ := Aside0.mk (Kd.V_afterv (ok := (fun k_ => (P0_ k_ ∨ w.heap.size ≤ k_) ∧ some k_ ≠ (.slice Ao44 x5_1.length co44 : Value).ownBlock)) (vx_ HO_40) hg hat)
                    have n3_ := Aside0.mk (Kd.V_afterv (ok := (fun k_ => (P0_ k_ ∨ w.heap.size ≤ k_) ∧ some k_ ≠ (.slice Ao44 x5_1.length co44 : Value).ownBlock)) (vx_ HO304) hg hat)
                    have n4_ := Aside0.mk (Kd.V_afterv (ok := (fun k_ => (P0_ k_ ∨ w.heap.size ≤ k_) ∧ some k_ ≠ (.slice Ao44 x5_1.length co44 : Value).ownBlock)) (vx_ HO312) hg hat)
                    have n5_ := Aside0.mk (hb)
                    have n6_ := Aside0.mk (ho)
                    clear HO_0
                    clear HO_5
                    clear HO_40
                    clear HO304
                    clear HO312
                    clear HB
                    clear HO299
                    have HO_0 := n0_
                    have HO_5 := n1_
                    have HO_40 := n2_
                    have HO304 := n3_
                    have HO312 := n4_
                    have HB := n5_
                    have HO307 := n6_
                    clear n0_ n1_ n2_ n3_ n4_ n5_ n6_
                    clear ho hb hg hat
                    refine hK.out _ _ trivial (fun hHeld => ?_)
                    clear hK K
                    refine ns_ ?_
                    refine two_ (i := 2) (j := 12) (Ni := some 49) (Nj := some 59) #[true, true, true, true, true, true, true, true, true, true, true, true, false, false, false, false, false] #[true, true, false, true, true, true, true, true, true, true, true, true, true, false, false, false, false] rfl rfl rfl rfl (two_of HT_.out (by kernel_rfl)) (by decide) (by decide) (fun K hK => ?_) (fun K hK => ?_)
                    ·skip
                     refine Kd.R_lit_step (Kd.int .i64) _ 3 ?hg (N := 49) ?hd (xs := ([rd l0 x42_1] : List Int)) (inner := [.int .i64 (rd l0 x42_1)]) (ok := fun _ => True) (okp := fun _ => True) ?hr ?hp (fun _ hk => hk) trivial (Below.refl _ _) (Nat.le_refl _) (by simp) ?_; (case hd => rfl); (case hg => rfl); (case hr => first | (go_simp; done) | (go_simp; rfl)); (case hp => exact (Reps.one (show Kd.M (Kd.int .i64) _ _ _ (rd l0 x42_1) [.int .i64 (rd l0 x42_1)] from rfl) (Reps.none _ _)))
                     intro v295 w51 ho52 hb hg_ hnew_
                     clear hg_ hnew_
                     (first | rw [← Ny294.out] at ho52 | (simp only [Int.reduceToNat] at ho52; rw [← Ny294.out] at ho52))
                     have n0_ := Aside0.mk (Kd.V_elder' (vx_ HO_0) (Kd.R_base ho52) hb)
                     have n1_ := Aside0.mk (Kd.N_elder' (by (with_reducible repeat (first | apply Kd.N_alloc | apply Kd.N_drewN | apply Kd.N_drew)); exact HO_5.out) (Kd.R_base ho52) hb)
                     have n2_ := Aside0.mk (Kd.V_elder' (vx_ HO_40) (Kd.R_base ho52) hb)
                     have n3_ := Aside0.mk (Kd.V_elder' (vx_ HO304) (Kd.R_base ho52) hb)
                     have n4_ := Aside0.mk (Kd.V_elder' (vx_ HO312) (Kd.R_base ho52) hb)
                     have n5_ := Aside0.mk (Kd.R_elder' (rx_ HO307) (Kd.R_base ho52) hb)
                     have n6_ := Aside0.mk (Kd.R_lower (Kd.R_new' (Kd.R_newM (M := fun k_ => (w.heap.size ≤ k_)) ho52 (below_size bl_) (fun k_ h_ => h_)) (Kd.R_lt (rx_ HO307))) (below_size bl_))
                     have n7_ := Aside0.mk (below_step bl_ hb)
                     clear HO_0
                     clear HO_5
                     clear HO_40
                     clear HO304
                     clear HO312
                     clear HO307
                     clear HB
                     have HO_0 := n0_
                     have HO_5 := n1_
                     have HO_40 := n2_
                     have HO304 := n3_
                     have HO312 := n4_
                     have HO307 := n5_
                     have HO296 := n6_
                     have HB := n7_
                     clear n0_ n1_ n2_ n3_ n4_ n5_ n6_ n7_
                     clear hb ho52
                     refine hK.out _ _ trivial (fun hHeld => ?_)
                     clear hK K
                     refine ns_ ?_
                     refine one_ (i := 12) (N := some 59) #[true, true, true, true, true, true, true, true, true, true, true, true, true, false, false, false, false] rfl rfl (one_of HT_.out (by kernel_rfl)) (by decide) (fun K hK => ?_)
                     refine Kd.R_append_rows_step (Kd.int .i64) (w0 := w) w.heap.size (by rfl) (.tmp 54) (.tmp 58) 22 3 (.int .i64 0) 8 rfl Try.underlying22 info3 rfl (by decide) (by omega) v306 y305 y308 _ _ _ (fun k_ => (w.heap.size ≤ k_) ∧ some k_ ≠ (v295 : Value).ownBlock) (fun _ => False) rfl rfl ?aO ?aR (fun _ _ h => h) (fun _ h => h.elim) ?aF ?aB ?aS ?aL ?_
                     (case aR => repeat (first | exact (Kd.V_reads' HO312.out).2.2 | (with_reducible first | refine Kd.C_alloc ?_ _ | refine Kd.C_drewN ?_ _ | refine Kd.C_drew ?_)))
                     (case aB => exact bl_)
                     (case aF => exact (fun k_ hk => ⟨(Nat.le_trans (below_size bl_) hk), Kd.fresh' (Kd.R_lt (rx_ HO296)) k_ hk⟩))
                     (case aO => exact (rx_ HO307))
                     (case aS => exact (below_size bl_))
                     (case aL => have := LMc41.out; omega)
                     intro v314 w53 ho hb hg hat
                     rw [← Ny313.out] at ho
                     have n0_ := Aside0.mk (Kd.V_afterv (ok := (fun k_ => (P0_ k_ ∨ w.heap.size ≤ k_) ∧ some k_ ≠ (.slice Ao44 x5_1.length co44 : Value).ownBlock ∧ some k_ ≠ (v295 : Value).ownBlock)) (by (with_reducible repeat (first | apply Kd.V_alloc | apply Kd.V_drewN | apply Kd.V_drew)); exact Kd.V_mono HO_0.out (fun _ hk => ⟨⟨hk.1.1.1, ⟨hk.1.1.2, hk.2⟩⟩, hk.1.2⟩)) hg hat)
                     have n1_ := Aside0.mk (Kd.N_afterv (ok := (fun k_ => (P0_ k_ ∨ w.heap.size ≤ k_) ∧ some k_ ≠ (v295 : Value).ownBlock)) (by (with_reducible repeat (first | apply Kd.N_alloc | apply Kd.N_drewN | apply Kd.N_drew)); exact Kd.N_mono HO_5.out (fun _ hk => ⟨⟨hk.1.1, hk.2⟩, hk.1.2⟩)) hg hat)
                     have n2_ := Aside0.mk (Kd.V_afterv (ok := (fun k_ => (P0_ k_ ∨ w.heap.size ≤ k_) ∧ some k_ ≠ (.slice Ao44 x5_1.length co44 : Value).ownBlock ∧ some k_ ≠ (v295 : Value).ownBlock)) (by (with_reducible repeat (first | apply Kd.V_alloc | apply Kd.V_drewN | apply Kd.V_drew)); exact Kd.V_mono HO_40.out (fun _ hk => ⟨⟨hk.1.1.1, ⟨hk.1.1.2, hk.2⟩⟩, hk.1.2⟩)) hg hat)
                     have n3_ := Aside0.mk (Kd.V_afterv (ok := (fun k_ => (P0_ k_ ∨ w.heap.size ≤ k_) ∧ some k_ ≠ (.slice Ao44 x5_1.length co44 : Value).ownBlock ∧ some k_ ≠ (v295 : Value).ownBlock)) (by (with_reducible repeat (first | apply Kd.V_alloc | apply Kd.V_drewN | apply Kd.V_drew)); exact Kd.V_mono HO304.out (fun _ hk => ⟨⟨hk.1.1.1, ⟨hk.1.1.2, hk.2⟩⟩, hk.1.2⟩)) hg hat)
                     have n4_ := Aside0.mk (Kd.V_afterv (ok := (fun k_ => (P0_ k_ ∨ w.heap.size ≤ k_) ∧ some k_ ≠ (.slice Ao44 x5_1.length co44 : Value).ownBlock ∧ some k_ ≠ (v295 : Value).ownBlock)) (by (with_reducible repeat (first | apply Kd.V_alloc | apply Kd.V_drewN | apply Kd.V_drew)); exact Kd.V_mono HO312.out (fun _ hk => ⟨⟨hk.1.1.1, ⟨hk.1.1.2, hk.2⟩⟩, hk.1.2⟩)) hg hat)
                     have n5_ := Aside0.mk (Kd.R_after (ok := (fun k_ => (w.heap.size ≤ k_))) (by (with_reducible repeat (first | apply Kd.R_alloc | apply Kd.R_drewN | apply Kd.R_drew)); exact Kd.R_mono HO296.out (fun _ hk => ⟨hk.1.1, hk.2⟩)) hg hat)
                     have n6_ := Aside0.mk (hb)
                     have n7_ := Aside0.mk (ho)
                     clear HO_0
                     clear HO_5
                     clear HO_40
                     clear HO304
                     clear HO312
                     clear HO296
                     clear HB
                     clear HO307
                     have HO_0 := n0_
                     have HO_5 := n1_
                     have HO_40 := n2_
                     have HO304 := n3_
                     have HO312 := n4_
                     have HO296 := n5_
                     have HB := n6_
                     have HO315 := n7_
                     clear n0_ n1_ n2_ n3_ n4_ n5_ n6_ n7_
                     clear ho hb hg hat
                     refine hK.out _ _ trivial (fun hHeld => ?_)
                     clear hK K
                     refine ns_ ?_
                     exact norm_ (by simp only [putAll, Act.put, List.setIfInBounds_toArray, List.set_cons_zero, List.set_cons_succ]) (hCont (v295, v298, v306, v314) _ ⟨(rx_ HO296), (by (with_reducible repeat (first | apply Kd.V_alloc | apply Kd.V_drewN | apply Kd.V_drew)); exact Kd.V_mono HO304.out (fun _ hk => ⟨hk.1.1, ⟨hk.1.2.2, ⟨hk.2, hk.1.2.1⟩⟩⟩)), (by (with_reducible repeat (first | apply Kd.V_alloc | apply Kd.V_drewN | apply Kd.V_drew)); exact Kd.V_mono HO312.out (fun _ hk => ⟨hk.1.1, ⟨hk.1.2.2, ⟨hk.2, hk.1.2.1⟩⟩⟩)), (rx_ HO315), (by (with_reducible repeat (first | apply Kd.V_alloc | apply Kd.V_drewN | apply Kd.V_drew)); exact Kd.V_mono HO_0.out (fun _ hk => ⟨hk.1.1, ⟨hk.1.2.2, ⟨hk.2, hk.1.2.1⟩⟩⟩)), (by (with_reducible repeat (first | apply Kd.V_alloc | apply Kd.V_drewN | apply Kd.V_drew)); exact Kd.V_mono HO_40.out (fun _ hk => ⟨hk.1.1, ⟨hk.1.2.2, ⟨hk.2, hk.1.2.1⟩⟩⟩)), (by (with_reducible repeat (first | apply Kd.N_alloc | apply Kd.N_drewN | apply Kd.N_drew)); exact Kd.N_mono HO_5.out (fun _ hk => ⟨hk.1.1, ⟨hk.1.2, hk.2⟩⟩)), bl_⟩)
                    ·skip
                     refine Kd.R_append_rows_step (Kd.int .i64) (w0 := w) w.heap.size (by rfl) (.tmp 54) (.tmp 58) 22 3 (.int .i64 0) 8 rfl Try.underlying22 info3 rfl (by decide) (by omega) v306 y305 y308 _ _ _ (fun k_ => (w.heap.size ≤ k_)) (fun _ => False) rfl rfl ?aO ?aR (fun _ _ h => h) (fun _ h => h.elim) ?aF ?aB ?aS ?aL ?_
                     (case aR => repeat (first | exact (Kd.V_reads' HO312.out).2.2 | (with_reducible first | refine Kd.C_alloc ?_ _ | refine Kd.C_drewN ?_ _ | refine Kd.C_drew ?_)))
                     (case aB => exact bl_)
                     (case aF => exact (fun k_ hk => (Nat.le_trans (below_size bl_) hk)))
                     (case aO => exact (rx_ HO307))
                     (case aS => exact (below_size bl_))
                     (case aL => have := LMc41.out; omega)
                     intro v314 w51 ho hb hg hat
                     rw [← Ny313.out] at ho
                     have n0_ := Aside0.mk (Kd.V_afterv (ok := (fun k_ => (P0_ k_ ∨ w.heap.size ≤ k_) ∧ some k_ ≠ (.slice Ao44 x5_1.length co44 : Value).ownBlock)) (vx_ HO_0) hg hat)
                     have n1_ := Aside0.mk (Kd.N_afterv (ok := (fun k_ => (P0_ k_ ∨ w.heap.size ≤ k_))) (by (with_reducible repeat (first | apply Kd.N_alloc | apply Kd.N_drewN | apply Kd.N_drew)); exact HO_5.out) hg hat)
                     have n2_ := Aside0.mk (Kd.V_afterv (ok := (fun k_ => (P0_ k_ ∨ w.heap.size ≤ k_) ∧ some k_ ≠ (.slice Ao44 x5_1.length co44 : Value).ownBlock)) (vx_ HO_40) hg hat)
                     have n3_ := Aside0.mk (Kd.V_afterv (ok := (fun k_ => (P0_ k_ ∨ w.heap.size ≤ k_) ∧ some k_ ≠ (.slice Ao44 x5_1.length co44 : Value).ownBlock)) (vx_ HO304) hg hat)
                     have n4_ := Aside0.mk (Kd.V_afterv (ok := (fun k_ => (P0_ k_ ∨ w.heap.size ≤ k_) ∧ some k_ ≠ (.slice Ao44 x5_1.length co44 : Value).ownBlock)) (vx_ HO312) hg hat)
                     have n5_ := Aside0.mk (hb)
                     have n6_ := Aside0.mk (ho)
                     clear HO_0
                     clear HO_5
                     clear HO_40
                     clear HO304
                     clear HO312
                     clear HB
                     clear HO307
                     have HO_0 := n0_
                     have HO_5 := n1_
                     have HO_40 := n2_
                     have HO304 := n3_
                     have HO312 := n4_
                     have HB := n5_
                     have HO315 := n6_
                     clear n0_ n1_ n2_ n3_ n4_ n5_ n6_
                     clear ho hb hg hat
                     refine hK.out _ _ trivial (fun hHeld => ?_)
                     clear hK K
                     refine ns_ ?_
                     refine one_ (i := 2) (N := some 49) #[true, true, true, true, true, true, true, true, true, true, true, true, true, false, false, false, false] rfl rfl (one_of HT_.out (by kernel_rfl)) (by decide) (fun K hK => ?_)
                     refine Kd.R_lit_step (Kd.int .i64) _ 3 ?hg (N := 49) ?hd (xs := ([rd l0 x42_1] : List Int)) (inner := [.int .i64 (rd l0 x42_1)]) (ok := fun _ => True) (okp := fun _ => True) ?hr ?hp (fun _ hk => hk) trivial (Below.refl _ _) (Nat.le_refl _) (by simp) ?_; (case hd => rfl); (case hg => rfl); (case hr => first | (go_simp; done) | (go_simp; rfl)); (case hp => exact (Reps.one (show Kd.M (Kd.int .i64) _ _ _ (rd l0 x42_1) [.int .i64 (rd l0 x42_1)] from rfl) (Reps.none _ _)))
                     intro v295 w52 ho53 hb hg_ hnew_
                     clear hg_ hnew_
                     (first | rw [← Ny294.out] at ho53 | (simp only [Int.reduceToNat] at ho53; rw [← Ny294.out] at ho53))
                     have n0_ := Aside0.mk (Kd.V_elder' (vx_ HO_0) (Kd.R_base ho53) hb)
                     have n1_ := Aside0.mk (Kd.N_elder' (by (with_reducible repeat (first | apply Kd.N_alloc | apply Kd.N_drewN | apply Kd.N_drew)); exact HO_5.out) (Kd.R_base ho53) hb)
                     have n2_ := Aside0.mk (Kd.V_elder' (vx_ HO_40) (Kd.R_base ho53) hb)
                     have n3_ := Aside0.mk (Kd.V_elder' (vx_ HO304) (Kd.R_base ho53) hb)
                     have n4_ := Aside0.mk (Kd.V_elder' (vx_ HO312) (Kd.R_base ho53) hb)
                     have n5_ := Aside0.mk (Kd.R_elder' (rx_ HO315) (Kd.R_base ho53) hb)
                     have n6_ := Aside0.mk (Kd.R_lower (Kd.R_new' (Kd.R_newM (M := fun k_ => (w.heap.size ≤ k_)) ho53 (below_size bl_) (fun k_ h_ => h_)) (Kd.R_lt (rx_ HO315))) (below_size bl_))
                     have n7_ := Aside0.mk (below_step bl_ hb)
                     clear HO_0
                     clear HO_5
                     clear HO_40
                     clear HO304
                     clear HO312
                     clear HO315
                     clear HB
                     have HO_0 := n0_
                     have HO_5 := n1_
                     have HO_40 := n2_
                     have HO304 := n3_
                     have HO312 := n4_
                     have HO315 := n5_
                     have HO296 := n6_
                     have HB := n7_
                     clear n0_ n1_ n2_ n3_ n4_ n5_ n6_ n7_
                     clear hb ho53
                     refine hK.out _ _ trivial (fun hHeld => ?_)
                     clear hK K
                     refine ns_ ?_
                     exact norm_ (by simp only [putAll, Act.put, List.setIfInBounds_toArray, List.set_cons_zero, List.set_cons_succ]) (hCont (v295, v298, v306, v314) _ ⟨(by (with_reducible repeat (first | apply Kd.R_alloc | apply Kd.R_drewN | apply Kd.R_drew)); exact Kd.R_mono HO296.out (fun _ hk => ⟨hk.1.1, hk.2⟩)), (by (with_reducible repeat (first | apply Kd.V_alloc | apply Kd.V_drewN | apply Kd.V_drew)); exact Kd.V_mono HO304.out (fun _ hk => ⟨hk.1.1.1, ⟨hk.2, ⟨hk.1.2, hk.1.1.2⟩⟩⟩)), (by (with_reducible repeat (first | apply Kd.V_alloc | apply Kd.V_drewN | apply Kd.V_drew)); exact Kd.V_mono HO312.out (fun _ hk => ⟨hk.1.1.1, ⟨hk.2, ⟨hk.1.2, hk.1.1.2⟩⟩⟩)), (rx_ HO315), (by (with_reducible repeat (first | apply Kd.V_alloc | apply Kd.V_drewN | apply Kd.V_drew)); exact Kd.V_mono HO_0.out (fun _ hk => ⟨hk.1.1.1, ⟨hk.2, ⟨hk.1.2, hk.1.1.2⟩⟩⟩)), (by (with_reducible repeat (first | apply Kd.V_alloc | apply Kd.V_drewN | apply Kd.V_drew)); exact Kd.V_mono HO_40.out (fun _ hk => ⟨hk.1.1.1, ⟨hk.2, ⟨hk.1.2, hk.1.1.2⟩⟩⟩)), (by (with_reducible repeat (first | apply Kd.N_alloc | apply Kd.N_drewN | apply Kd.N_drew)); exact Kd.N_mono HO_5.out (fun _ hk => ⟨hk.1.1, ⟨hk.2, hk.1.2⟩⟩)), bl_⟩)
                 rintro ⟨v295, v298, v306, v314⟩ w54 ⟨h0_, h1_, h2_, h3_, h4_, h5_, h6_, h7_⟩
                 have n0_ : Aside0 (Kd.R (Kd.int .i64) 3 w54 w.heap.size (fun k_ => (w.heap.size ≤ k_) ∧ some k_ ≠ (v314 : Value).ownBlock) v295 y294) := ⟨h0_⟩
                 have n1_ : Aside0 (Kd.V (Kd.int .i64) 3 w54 w.heap.size (fun k_ => (P0_ k_ ∨ w.heap.size ≤ k_) ∧ some k_ ≠ (v295 : Value).ownBlock ∧ some k_ ≠ (v314 : Value).ownBlock ∧ some k_ ≠ (.slice Ao44 x5_1.length co44 : Value).ownBlock) (.slice (some ad293) y300.length c0) y300) := ⟨h1_⟩
                 have n2_ : Aside0 (Kd.V (Kd.int .i64) 3 w54 w.heap.size (fun k_ => (P0_ k_ ∨ w.heap.size ≤ k_) ∧ some k_ ≠ (v295 : Value).ownBlock ∧ some k_ ≠ (v314 : Value).ownBlock ∧ some k_ ≠ (.slice Ao44 x5_1.length co44 : Value).ownBlock) (.slice A47 y308.length c47) y308) := ⟨h2_⟩
                 have n3_ : Aside0 (Kd.R (Kd.int .i64) 3 w54 w.heap.size (fun k_ => (w.heap.size ≤ k_) ∧ some k_ ≠ (v295 : Value).ownBlock) v314 y313) := ⟨h3_⟩
                 have n4_ : Aside0 (Kd.V (Kd.int .i64) 3 w54 w.heap.size (fun k_ => (P0_ k_ ∨ w.heap.size ≤ k_) ∧ some k_ ≠ (v295 : Value).ownBlock ∧ some k_ ≠ (v314 : Value).ownBlock ∧ some k_ ≠ (.slice Ao44 x5_1.length co44 : Value).ownBlock) (.slice (some ad293) l0.length c0) l0) := ⟨h4_⟩
                 have n5_ : Aside0 (Kd.V (Kd.int .i64) 3 w54 w.heap.size (fun k_ => (P0_ k_ ∨ w.heap.size ≤ k_) ∧ some k_ ≠ (v295 : Value).ownBlock ∧ some k_ ≠ (v314 : Value).ownBlock ∧ some k_ ≠ (.slice Ao44 x5_1.length co44 : Value).ownBlock) (.slice (some ad293) l0.length c0) l0) := ⟨h5_⟩
                 have n6_ : Aside0 (Kd.N (Kd.slice 3 (Kd.int .i64)) 22 w54 w.heap.size (fun k_ => (P0_ k_ ∨ w.heap.size ≤ k_) ∧ some k_ ≠ (v295 : Value).ownBlock ∧ some k_ ≠ (v314 : Value).ownBlock) (.slice Ao44 x5_1.length co44) x5_1) := ⟨h6_⟩
                 have n7_ : Aside0 (Below w.heap.size w w54) := ⟨h7_⟩
                 clear HO_0
                 clear HO_5
                 clear HO_40
                 clear HB
                 clear h0_ h1_ h2_ h3_ h4_ h5_ h6_ h7_
                 have HO296 := n0_
                 have HO304 := n1_
                 have HO312 := n2_
                 have HO315 := n3_
                 have HO_0 := n4_
                 have HO_40 := n5_
                 have HO_5 := n6_
                 have HB := n7_
                 clear n0_ n1_ n2_ n3_ n4_ n5_ n6_ n7_
                 have hHeld := trivial
                 obtain ⟨Ao56, co56, eo56⟩ := Kd.R_slice HO315.out
                 (first | subst eo56 | (injection eo56 with f1_ f2_ f3_; have f4_ := f1_.symm; have f5_ := f3_.symm; clear f1_ f2_ f3_; subst f4_; subst f5_))
                 refine norm_ (a' := ?_) ?_ ?_
                 rotate_left
                 ·simp only [putAll, Act.put, List.setIfInBounds_toArray, List.set_cons_zero, List.set_cons_succ]
                  rfl
                 refine one_ (i := 13) (N := some 60) #[true, true, true, true, true, true, true, true, true, true, true, true, true, true, false, false, false] rfl rfl (one_of HT_.out (by kernel_rfl)) (by decide) (fun K hK => ?_)
                 refine Kd.R_append_rows_step (Kd.int .i64) (w0 := w) w.heap.size (by rfl) (.tmp 49) (.tmp 59) 22 3 (.int .i64 0) 8 rfl Try.underlying22 info3 rfl (by decide) (by omega) v295 y294 y313 _ _ _ (fun k_ => (w.heap.size ≤ k_) ∧ some k_ ≠ (.slice Ao56 y313.length co56 : Value).ownBlock) (fun _ => False) rfl rfl ?aO ?aR (fun _ _ h => h) (fun _ h => h.elim) ?aF ?aB ?aS ?aL ?_
                 (case aR => repeat (first | exact (Kd.R_reads' HO315.out).2.2 | (with_reducible first | refine Kd.C_alloc ?_ _ | refine Kd.C_drewN ?_ _ | refine Kd.C_drew ?_)))
                 (case aB => exact bl_)
                 (case aF => exact (fun k_ hk => ⟨(Nat.le_trans (below_size bl_) hk), Kd.fresh' (Kd.R_lt (rx_ HO315)) k_ hk⟩))
                 (case aO => exact (rx_ HO296))
                 (case aS => exact (below_size bl_))
                 (case aL => have := LMc42.out; omega)
                 intro v317 w55 ho hb hg hat
                 rw [← Ny316.out] at ho
                 have n0_ := Aside0.mk (Kd.V_afterv (ok := (fun k_ => (P0_ k_ ∨ w.heap.size ≤ k_) ∧ some k_ ≠ (.slice Ao44 x5_1.length co44 : Value).ownBlock ∧ some k_ ≠ (.slice Ao56 y313.length co56 : Value).ownBlock)) (by (with_reducible repeat (first | apply Kd.V_alloc | apply Kd.V_drewN | apply Kd.V_drew)); exact Kd.V_mono HO_0.out (fun _ hk => ⟨⟨hk.1, ⟨hk.2.2.2, hk.2.2.1⟩⟩, hk.2.1⟩)) hg hat)
                 have n1_ := Aside0.mk (Kd.N_afterv (ok := (fun k_ => (P0_ k_ ∨ w.heap.size ≤ k_) ∧ some k_ ≠ (.slice Ao56 y313.length co56 : Value).ownBlock)) (by (with_reducible repeat (first | apply Kd.N_alloc | apply Kd.N_drewN | apply Kd.N_drew)); exact Kd.N_mono HO_5.out (fun _ hk => ⟨⟨hk.1, hk.2.2⟩, hk.2.1⟩)) hg hat)
                 have n2_ := Aside0.mk (Kd.V_afterv (ok := (fun k_ => (P0_ k_ ∨ w.heap.size ≤ k_) ∧ some k_ ≠ (.slice Ao44 x5_1.length co44 : Value).ownBlock ∧ some k_ ≠ (.slice Ao56 y313.length co56 : Value).ownBlock)) (by (with_reducible repeat (first | apply Kd.V_alloc | apply Kd.V_drewN | apply Kd.V_drew)); exact Kd.V_mono HO_40.out (fun _ hk => ⟨⟨hk.1, ⟨hk.2.2.2, hk.2.2.1⟩⟩, hk.2.1⟩)) hg hat)
                 have n3_ := Aside0.mk (Kd.V_afterv (ok := (fun k_ => (P0_ k_ ∨ w.heap.size ≤ k_) ∧ some k_ ≠ (.slice Ao44 x5_1.length co44 : Value).ownBlock ∧ some k_ ≠ (.slice Ao56 y313.length co56 : Value).ownBlock)) (by (with_reducible repeat (first | apply Kd.V_alloc | apply Kd.V_drewN | apply Kd.V_drew)); exact Kd.V_mono HO304.out (fun _ hk => ⟨⟨hk.1, ⟨hk.2.2.2, hk.2.2.1⟩⟩, hk.2.1⟩)) hg hat)
                 have n4_ := Aside0.mk (Kd.V_afterv (ok := (fun k_ => (P0_ k_ ∨ w.heap.size ≤ k_) ∧ some k_ ≠ (.slice Ao44 x5_1.length co44 : Value).ownBlock ∧ some k_ ≠ (.slice Ao56 y313.length co56 : Value).ownBlock)) (by (with_reducible repeat (first | apply Kd.V_alloc | apply Kd.V_drewN | apply Kd.V_drew)); exact Kd.V_mono HO312.out (fun _ hk => ⟨⟨hk.1, ⟨hk.2.2.2, hk.2.2.1⟩⟩, hk.2.1⟩)) hg hat)
                 have n5_ := Aside0.mk (Kd.R_after (ok := (fun k_ => (w.heap.size ≤ k_))) (rx_ HO315) hg hat)
                 have n6_ := Aside0.mk (hb)
                 have n7_ := Aside0.mk (ho)
                 clear HO_0
                 clear HO_5
                 clear HO_40
                 clear HO304
                 clear HO312
                 clear HO315
                 clear HB
                 clear HO296
                 have HO_0 := n0_
                 have HO_5 := n1_
                 have HO_40 := n2_
                 have HO304 := n3_
                 have HO312 := n4_
                 have HO315 := n5_
                 have HB := n6_
                 have HO318 := n7_
                 clear n0_ n1_ n2_ n3_ n4_ n5_ n6_ n7_
                 clear ho hb hg hat
                 obtain ⟨Ao58, co58, eo58⟩ := Kd.R_slice HO318.out
                 (first | subst eo58 | (injection eo58 with f1_ f2_ f3_; have f4_ := f1_.symm; have f5_ := f3_.symm; clear f1_ f2_ f3_; subst f4_; subst f5_))
                 refine hK.out _ _ trivial (fun hHeld => ?_)
                 clear hK K
                 refine ns_ ?_
                 refine one_ (i := 14) (N := some 61) #[true, true, true, true, true, true, true, true, true, true, true, true, true, true, true, false, false] rfl rfl (one_of HT_.out (by kernel_rfl)) (by decide) (fun K hK => ?_)
                 refine value_ (w1 := ?_) (v := ?_) (by rfl) rfl ?_ ?_
                 rotate_left 2
                 ·go_simp
                  constructor
                  ·rfl
                  ·rfl
                 refine hK.out _ _ trivial (fun hHeld => ?_)
                 clear hK K
                 refine ns_ ?_
                 refine one_ (i := 15) (N := some 62) #[true, true, true, true, true, true, true, true, true, true, true, true, true, true, true, true, false] rfl rfl (one_of HT_.out (by kernel_rfl)) (by decide) (fun K hK => ?_)
                 refine Kd.N_append_step (Kd.slice 3 (Kd.int .i64)) (w0 := w) w.heap.size (by rfl) (.tmp 47) (.tmp 61) 33 22 (.slice none 0 0) 24 rfl Try.underlying33 info22 rfl (by decide) (by omega) (.slice Ao44 x5_1.length co44) x5_1 y316 [.slice Ao58 y316.length co58] (fun k_ => (P0_ k_ ∨ w.heap.size ≤ k_) ∧ some k_ ≠ (.slice Ao56 y313.length co56 : Value).ownBlock) (fun k_ => ((fun k_ => (P0_ k_ ∨ w.heap.size ≤ k_) ∧ some k_ ≠ (.slice Ao56 y313.length co56 : Value).ownBlock)) k_ ∧ some k_ ≠ (.slice Ao44 x5_1.length co44 : Value).ownBlock) rfl rfl ?aP (fun _ hk => hk) ?aF ?aO ?aB ?aS ?aL ?_
                 (case aP => exact (Kd.FK_slice_mk (Kd.R_reads' (Kd.R_mono (ok' := (fun k_ => ((fun k_ => (P0_ k_ ∨ w.heap.size ≤ k_) ∧ some k_ ≠ (.slice Ao56 y313.length co56 : Value).ownBlock)) k_ ∧ some k_ ≠ (.slice Ao44 x5_1.length co44 : Value).ownBlock)) (Kd.R_apart' (HO318.out) (Kd.N_typed HO_5.out) (by decide)) (fun k_ hk => ⟨⟨(.inr (hk.1.1)), hk.1.2⟩, hk.2⟩))).2.1 (Kd.R_F (Kd.R_mono (ok' := (fun k_ => ((fun k_ => (P0_ k_ ∨ w.heap.size ≤ k_) ∧ some k_ ≠ (.slice Ao56 y313.length co56 : Value).ownBlock)) k_ ∧ some k_ ≠ (.slice Ao44 x5_1.length co44 : Value).ownBlock)) (Kd.R_apart' (HO318.out) (Kd.N_typed HO_5.out) (by decide)) (fun k_ hk => ⟨⟨(.inr (hk.1.1)), hk.1.2⟩, hk.2⟩)))))
                 (case aB => exact bl_)
                 (case aF => exact (fun k_ hk => ⟨(.inr (Nat.le_trans (below_size bl_) hk)), Kd.fresh' (Kd.R_lt (rx_ HO315)) k_ hk⟩))
                 (case aO => exact (by (with_reducible repeat (first | apply Kd.N_alloc | apply Kd.N_drewN | apply Kd.N_drew)); exact Kd.N_mono HO_5.out (fun _ hk => ⟨hk.1.1, hk.1.2⟩)))
                 (case aS => exact (below_size bl_))
                 (case aL => have := LMc43.out; omega)
                 intro v320 w57 ho hb hg hat
                 rw [← Ny319.out] at ho
                 have n0_ := Aside0.mk (Kd.V_afterv (ok := (fun k_ => (P0_ k_ ∨ w.heap.size ≤ k_) ∧ some k_ ≠ (.slice Ao56 y313.length co56 : Value).ownBlock ∧ some k_ ≠ (.slice Ao58 y316.length co58 : Value).ownBlock)) (by (with_reducible repeat (first | apply Kd.V_alloc | apply Kd.V_drewN | apply Kd.V_drew)); exact Kd.V_mono HO_0.out (fun _ hk => ⟨⟨hk.1.1, ⟨hk.1.2.2, hk.2⟩⟩, hk.1.2.1⟩)) hg hat)
                 have n1_ := Aside0.mk (Kd.V_afterv (ok := (fun k_ => (P0_ k_ ∨ w.heap.size ≤ k_) ∧ some k_ ≠ (.slice Ao56 y313.length co56 : Value).ownBlock ∧ some k_ ≠ (.slice Ao58 y316.length co58 : Value).ownBlock)) (by (with_reducible repeat (first | apply Kd.V_alloc | apply Kd.V_drewN | apply Kd.V_drew)); exact Kd.V_mono HO_40.out (fun _ hk => ⟨⟨hk.1.1, ⟨hk.1.2.2, hk.2⟩⟩, hk.1.2.1⟩)) hg hat)
                 have n2_ := Aside0.mk (Kd.V_afterv (ok := (fun k_ => (P0_ k_ ∨ w.heap.size ≤ k_) ∧ some k_ ≠ (.slice Ao56 y313.length co56 : Value).ownBlock ∧ some k_ ≠ (.slice Ao58 y316.length co58 : Value).ownBlock)) (by (with_reducible repeat (first | apply Kd.V_alloc | apply Kd.V_drewN | apply Kd.V_drew)); exact Kd.V_mono HO304.out (fun _ hk => ⟨⟨hk.1.1, ⟨hk.1.2.2, hk.2⟩⟩, hk.1.2.1⟩)) hg hat)
                 have n3_ := Aside0.mk (Kd.V_afterv (ok := (fun k_ => (P0_ k_ ∨ w.heap.size ≤ k_) ∧ some k_ ≠ (.slice Ao56 y313.length co56 : Value).ownBlock ∧ some k_ ≠ (.slice Ao58 y316.length co58 : Value).ownBlock)) (by (with_reducible repeat (first | apply Kd.V_alloc | apply Kd.V_drewN | apply Kd.V_drew)); exact Kd.V_mono HO312.out (fun _ hk => ⟨⟨hk.1.1, ⟨hk.1.2.2, hk.2⟩⟩, hk.1.2.1⟩)) hg hat)
                 have n4_ := Aside0.mk (Kd.R_over' (rx_ HO315) (Kd.N_typed (by (with_reducible repeat (first | apply Kd.N_alloc | apply Kd.N_drewN | apply Kd.N_drew)); exact HO_5.out)) (by decide) hg)
                 have n5_ := Aside0.mk (hb)
                 have n6_ := Aside0.mk (ho)
                 clear HO_0
                 clear HO_40
                 clear HO304
                 clear HO312
                 clear HO315
                 clear HB
                 clear HO_5
                 clear HO318
                 have HO_0 := n0_
                 have HO_40 := n1_
                 have HO304 := n2_
                 have HO312 := n3_
                 have HO315 := n4_
                 have HB := n5_
                 have HO321 := n6_
                 clear n0_ n1_ n2_ n3_ n4_ n5_ n6_
                 clear ho hb hg hat
                 refine hK.out _ _ trivial (fun hHeld => ?_)
                 clear hK K
                 refine ns_ ?_
                 refine ps_ HT_ 16 5 ?_
                 refine done_ (done_of HT_.out (by kernel_rfl)) ?_
                 try go_wp2
                 go_roundg k1
                 case measure => have := HK1.out; omega
                 case rel => exact ⟨(y319), (ji38), (by first | rfl | (simp; done) | (simp only [← hji38] <;> (first | rfl | simp)) | (simp [*]; done)), H', ⟨by have := HK1.out; omega⟩, ⟨by (with_reducible repeat (first | apply Kd.V_alloc | apply Kd.V_drewN | apply Kd.V_drew)); exact Kd.V_mono HO_0.out (fun _ hk => ⟨hk.1.1, hk.2⟩)⟩, ⟨by (with_reducible repeat (first | apply Kd.N_alloc | apply Kd.N_drewN | apply Kd.N_drew)); exact Kd.N_mono HO321.out (fun _ hk => hk.1)⟩, ⟨by (with_reducible repeat (first | apply Kd.V_alloc | apply Kd.V_drewN | apply Kd.V_drew)); exact Kd.V_mono HO_40.out (fun _ hk => ⟨hk.1.1, hk.2⟩)⟩, ⟨by repeat (first | (with_reducible first | exact HB.out | apply below_alloc | apply pw_below_drewN | apply below_drew1) | exact HB.out)⟩⟩
                ·rw [if_neg c43] at H
                 exact absurd H (by simp)
               ·rw [if_neg c42] at H
                exact absurd H (by simp)
              ·rw [if_neg c41] at H
               exact absurd H (by simp)
             ·rw [if_neg c40] at H
              exact absurd H (by simp)
            ·rw [if_neg c39] at H
             exact absurd H (by simp)
           ·rw [if_neg c37] at H
            exact absurd H (by simp)
          ·rw [if_neg c36] at H
           exact absurd H (by simp)
         ·rw [if_neg c34] at H
          exact absurd H (by simp)
        ·rw [if_neg c33] at H
         exact absurd H (by simp)
       ·rw [if_neg c32] at H
        have c32b0 : decide (x42_1 < (l0.length : Int)) = false := decide_eq_false c32
        clear c32
        obtain rfl := Option.some.inj H
        go_wp2
        go_ret
        exact ⟨_, by first | rfl | (simp [errW_none, errW_some] <;> rfl) | (simp [*, errW_none, errW_some] <;> rfl), by (with_reducible repeat (first | apply Kd.N_alloc | apply Kd.N_drewN | apply Kd.N_drew)); exact HO_5.out, by repeat (first | (with_reducible first | exact HB.out | apply below_alloc | apply pw_below_drewN | apply below_drew1) | exact HB.out)⟩
    ·rw [if_neg c29] at H
     have c29b0 : (a1 == 4) = false := beq_eq_false_iff_ne.mpr c29
     have c29b1 : (a1 != 4) = true := bne_iff_ne.mpr c29
     by_cases c59 : y268.length < 5864062014805
     ·rw [if_pos c59] at H
      have LMc59 := Aside0.mk c59
      clear c59
      obtain ⟨y322, hy322⟩ : ∃ y_ : List (List Int), y_ = (y268 ++ [l0]) := ⟨_, rfl⟩
      replace H : (some y322) = some r := by first | (rw [hy322]; with_reducible exact H) | (have H2_ := (Option.bind_some _ _).symm.trans H; rw [hy322]; with_reducible exact H2_) | (have H2_ := (Option.bind_some _ _).symm.trans H; with_reducible exact H2_) | with_reducible exact H | (rw [hy322]; exact H) | exact H
      have Ny322 := Aside0.mk hy322
      clear hy322
      obtain rfl := Option.some.inj H
      go_enter Try.func64, Try.ntmps64
      go_wp2_with (first | ((with_reducible refine gate_dst (N := 9) rfl ?_); refine Kd.N_lit (Kd.slice 3 (Kd.int .i64)) _ 22 ?hg (N' := 9) ?hd (xs := ([] : List (List Int))) (inner := []) (ok := (fun k_ => (P0_ k_ ∨ w.heap.size ≤ k_))) (okp := (fun k_ => (P0_ k_ ∨ w.heap.size ≤ k_))) ?hr ?hp (fun _ hk => hk) ((show ∀ k_, w.heap.size ≤ k_ → (fun k_ => (P0_ k_ ∨ w.heap.size ≤ k_)) k_ from fun k_ hk => (.inr (Nat.le_trans (below_size bl_) hk))) _ (Nat.le_refl _)) (Below.refl _ _) (Nat.le_refl _) (by simp) ?_; (case hd => rfl); (case hg => rfl); (case hr => first | (go_simp; done) | (go_simp; rfl)); (case hp => exact (Reps.none _ _)); intro v269 w60 ho61 hb hg_ hnew_; clear hg_ hnew_; (first | rw [← Ny268.out] at ho61 | (simp only [Int.reduceToNat] at ho61; rw [← Ny268.out] at ho61)); have n0_ := Aside0.mk (Kd.V_elder' (vx_ HO0) (by first | exact Kd.N_base ho61 | exact Kd.S_base ho61) hb); have n1_ := Aside0.mk (Kd.N_lower ho61 (below_size bl_)); have n2_ := Aside0.mk (below_step bl_ hb); clear HO0; clear HB; have HO0 := n0_; have HO270 := n1_; have HB := n2_; clear n0_ n1_ n2_; clear hb ho61) | ((with_reducible refine gate_builtin (b := .append) (xs := #[.tmp 65, .tmp 67]) rfl ?_); at_builtin; refine Kd.N_append (Kd.slice 3 (Kd.int .i64)) (w0 := w) w.heap.size rfl (.tmp 65) (.tmp 67) 33 22 (.slice none 0 0) 24 rfl Try.underlying33 info22 rfl (by decide) (by omega) v269 y268 l0 [.slice A0 l0.length c0] (fun k_ => (P0_ k_ ∨ w.heap.size ≤ k_)) (fun k_ => ((fun k_ => (P0_ k_ ∨ w.heap.size ≤ k_))) k_ ∧ some k_ ≠ (v269 : Value).ownBlock) rfl rfl ?aP (fun _ hk => hk) ?aF ?aO ?aB ?aS ?aL ?_; (case aP => exact (Kd.FK_slice_mk (Kd.V_reads' (Kd.V_mono (ok' := (fun k_ => ((fun k_ => (P0_ k_ ∨ w.heap.size ≤ k_))) k_ ∧ some k_ ≠ (v269 : Value).ownBlock)) (HO0.out) (fun k_ hk => ⟨hk.1, hk.2⟩))).2.1 (Kd.V_F (Kd.V_mono (ok' := (fun k_ => ((fun k_ => (P0_ k_ ∨ w.heap.size ≤ k_))) k_ ∧ some k_ ≠ (v269 : Value).ownBlock)) (HO0.out) (fun k_ hk => ⟨hk.1, hk.2⟩))))); (case aB => exact bl_); (case aF => exact (fun k_ hk => (.inr (Nat.le_trans (below_size bl_) hk)))); (case aO => exact (by (with_reducible repeat (first | apply Kd.N_alloc | apply Kd.N_drewN | apply Kd.N_drew)); exact HO270.out)); (case aS => exact (below_size bl_)); (case aL => have := LMc59.out; omega); intro v323 w62 ho hb hg hat; rw [← Ny322.out] at ho; have n0_ := Aside0.mk (Kd.V_afterv (ok := (fun k_ => (P0_ k_ ∨ w.heap.size ≤ k_))) (vx_ HO0) hg hat); have n1_ := Aside0.mk (hb); have n2_ := Aside0.mk (ho); clear HO0; clear HB; clear HO270; have HO0 := n0_; have HB := n1_; have HO324 := n2_; clear n0_ n1_ n2_; clear ho hb hg hat))
      go_ret
      exact ⟨_, by first | rfl | (simp [errW_none, errW_some] <;> rfl) | (simp [*, errW_none, errW_some] <;> rfl), by (with_reducible repeat (first | apply Kd.N_alloc | apply Kd.N_drewN | apply Kd.N_drew)); exact HO324.out, by repeat (first | (with_reducible first | exact HB.out | apply below_alloc | apply pw_below_drewN | apply below_drew1) | exact HB.out)⟩
     ·rw [if_neg c59] at H
      exact absurd H (by simp)

end Go.Proofs.Ytdgoeomelnlekaa.MFnRiffles
