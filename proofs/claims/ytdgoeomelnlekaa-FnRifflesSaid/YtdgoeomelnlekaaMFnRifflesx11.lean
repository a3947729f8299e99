-- Written by this session's own program (wip/tools/myprint.py), over the kit's printer.
import Derived.Test.YtdgoeomelnlekaaMFnRifflesx0
import Derived.Test.YtdgoeomelnlekaaMFnRifflesx10
namespace Go.Proofs.Ytdgoeomelnlekaa.MFnRiffles
open Go.RowKit Go.Proofs.YtdgoeomelnlekaaW.PrintWords Go.Proofs.YtdgoeomelnlekaaW.PrintLast Go.Proofs.YtdgoeomelnlekaaW.PrintMore
attribute [local go_sem] max2_int min2_int max_two min_two max_three min_three max_four min_four   -- for this text's walks alone
set_option linter.unusedVariables false
set_option linter.unusedSimpArgs false

/-! ### impl_moved: function 91 -/
def impl_moved.l0 : Nat → Int → List Int → Int → Option (List Int)
 | 0, _, _, _ => none
 | k + 1, x5, x6, x7 => if x7 < x5 then (if 0 ≤ x7 then (if x7 < (x6.length : Int) then ((impl_TurnCard.f (rd x6 x7)).bind fun t469 => (impl_moved.l0 k x5 (x6.set (x7 : Int).toNat t469) (wrap64 (x7 + 1)))) else (none)) else (none)) else (some x6)
def impl_moved.f (k : Nat) (l0 : List Int) (a1_0 : Int) (a1_1 : Int) : Option (List Int) := if a1_0 = 1 then (if 0 ≤ a1_1 then (if a1_1 ≤ (l0.length : Int) then ((slices_Concat_int_int.f k (([(l0.drop (a1_1 : Int).toNat), (l0.take (a1_1 : Int).toNat)] : List (List Int)))).bind fun t441 => (some t441)) else (none)) else (none)) else (if a1_0 = 2 then (if 0 ≤ a1_1 then (if a1_1 ≤ (l0.length : Int) then (none) else (none)) else (none)) else (if a1_0 = 3 then (if 0 ≤ a1_1 then (if a1_1 ≤ (l0.length : Int) then ((impl_reversed.f k (l0.take (a1_1 : Int).toNat)).bind fun t454 => ((slices_Concat_int_int.f k (([t454, (l0.drop (a1_1 : Int).toNat)] : List (List Int)))).bind fun t465 => (impl_moved.l0 k a1_1 t465 0))) else (none)) else (none)) else (if a1_0 = 4 then (none) else (if a1_0 = 5 then (none) else (if a1_0 = 6 then (none) else (if a1_0 = 7 then (none) else (if a1_0 = 8 then (none) else (none))))))))
theorem impl_moved.mono_l : ∀ k, (∀ y0 y1 y2, LeO (impl_moved.l0 k y0 y1 y2) (impl_moved.l0 (k + 1) y0 y1 y2))
 | 0 => fun _ _ _ r h => by simp [impl_moved.l0] at h
 | k + 1 => by
  have ih0 := impl_moved.mono_l k
  ·intro y0 y1 y2
   unfold impl_moved.l0
   repeat' first
   | (with_reducible exact ih0 _ _ _)
   | (with_reducible exact impl_reversed.mono _ _)
   | (with_reducible exact slices_Concat_int_int.mono _ _)
   | (with_reducible exact LeO.refl _)
   | (with_reducible exact LeO.none _)
   | (with_reducible refine LeO.ite ?_ ?_)
   | (with_reducible refine LeO.bind ?_ (fun _ => ?_))
theorem impl_moved.mono : ∀ a0 a1 a2 k, LeO (impl_moved.f k a0 a1 a2) (impl_moved.f (k + 1) a0 a1 a2) := by
 intro a0 a1 a2 k
 have ih0 := impl_moved.mono_l k
 unfold impl_moved.f
 repeat' first
   | (with_reducible exact ih0 _ _ _)
   | (with_reducible exact impl_reversed.mono _ _)
   | (with_reducible exact slices_Concat_int_int.mono _ _)
   | (with_reducible exact LeO.refl _)
   | (with_reducible exact LeO.none _)
   | (with_reducible refine LeO.ite ?_ ?_)
   | (with_reducible refine LeO.bind ?_ (fun _ => ?_))
def impl_moved.T4 : Bool × List (List Nat × List Nat) := (true, [([], []), ([], []), ([0, 1], [0, 1]), ([], []), ([], []), ([3, 4], [3, 4]), ([2, 5], [2, 5]), ([6], [6]), ([7, 7, 0, 1, 2, 3, 4, 5, 6, 7], [7])])
def impl_moved.B4 : List Nat := [0, 0, 3, 0, 0, 24, 63, 127, 255]
theorem impl_moved.tab4 : rtab .any (opsOf Try.f91 4) = impl_moved.T4 := by kernel_rfl
theorem impl_moved.bits4 : waitsOk impl_moved.T4.2 impl_moved.B4 = true := by kernel_rfl
def impl_moved.T8 : Bool × List (List Nat × List Nat) := (true, [([], []), ([], []), ([0, 1], [0, 1]), ([2], [2]), ([], []), ([], []), ([4, 5], [4, 5]), ([3, 6], [3, 6]), ([7, 3], [7]), ([8, 8, 0, 1, 2, 3, 4, 5, 6, 7, 8], [8])])
def impl_moved.B8 : List Nat := [0, 0, 3, 7, 0, 0, 48, 127, 255, 511]
theorem impl_moved.tab8 : rtab .any (opsOf Try.f91 8) = impl_moved.T8 := by kernel_rfl
theorem impl_moved.bits8 : waitsOk impl_moved.T8.2 impl_moved.B8 = true := by kernel_rfl
set_option maxHeartbeats 8000000 in
set_option maxRecDepth 100000 in
theorem impl_moved.calls (k : Nat) (P0_ : Nat → Prop) (A0 : Option Addr) (c0 : Nat) (l0 : List Int) (a1_0 : Int) (a1_1 : Int) (r : List Int) (w : World) (hs0 : Kd.V (Kd.int .i64) 3 w w.heap.size (fun k_ => P0_ k_) (.slice A0 l0.length c0) l0) (h : impl_moved.f k l0 a1_0 a1_1 = some r) :
  Calls Try.prog 91 #[.slice A0 l0.length c0, .agg #[.int .i64 a1_0, .int .i64 a1_1]] w fun e w' => ∃ v0_ : Value, e = .returned (v0_) ∧ Kd.R (Kd.int .i64) 3 w' w.heap.size (fun k_ => (w.heap.size ≤ k_)) v0_ r ∧ Below w.heap.size w w' := by
 have hu71 := Try.underlying71
 have HO0 := Aside0.mk (show Kd.V (Kd.int .i64) 3 w w.heap.size (fun k_ => (P0_ k_ ∨ w.heap.size ≤ k_)) (.slice A0 l0.length c0) l0 from Kd.V_mono hs0 (fun k_ hk => .inl hk))
 have HB := Aside0.mk (Below.refl w.heap.size w)
 have H : (if a1_0 = 1 then (if 0 ≤ a1_1 then (if a1_1 ≤ (l0.length : Int) then ((slices_Concat_int_int.f k (([(l0.drop (a1_1 : Int).toNat), (l0.take (a1_1 : Int).toNat)] : List (List Int)))).bind fun t441 => (some t441)) else (none)) else (none)) else (if a1_0 = 2 then (if 0 ≤ a1_1 then (if a1_1 ≤ (l0.length : Int) then (none) else (none)) else (none)) else (if a1_0 = 3 then (if 0 ≤ a1_1 then (if a1_1 ≤ (l0.length : Int) then ((impl_reversed.f k (l0.take (a1_1 : Int).toNat)).bind fun t454 => ((slices_Concat_int_int.f k (([t454, (l0.drop (a1_1 : Int).toNat)] : List (List Int)))).bind fun t465 => (impl_moved.l0 k a1_1 t465 0))) else (none)) else (none)) else (if a1_0 = 4 then (none) else (if a1_0 = 5 then (none) else (if a1_0 = 6 then (none) else (if a1_0 = 7 then (none) else (if a1_0 = 8 then (none) else (none))))))))) = some r := h
 clear h
 by_cases c3 : a1_0 = 1
 ·rw [if_pos c3] at H
  have c3b0 : (a1_0 == 1) = true := beq_iff_eq.mpr c3
  have c3b1 : (a1_0 != 1) = false := bne_eq_false_iff_eq.mpr c3
  clear c3
  by_cases c4 : 0 ≤ a1_1
  ·rw [if_pos c4] at H
   have c4b0 := eq_true c4
   have c4b1 : decide (0 ≤ a1_1) = true := decide_eq_true c4
   clear c4
   by_cases c5 : a1_1 ≤ (l0.length : Int)
   ·rw [if_pos c5] at H
    have c5b0 := eq_true c5
    have c5b1 : decide (a1_1 ≤ (l0.length : Int)) = true := decide_eq_true c5
    clear c5
    obtain ⟨y428, hy428⟩ : ∃ y_ : List Int, y_ = (l0.drop (a1_1 : Int).toNat) := ⟨_, rfl⟩
    replace H : ((slices_Concat_int_int.f k (([y428, (l0.take (a1_1 : Int).toNat)] : List (List Int)))).bind fun t441 => (some t441)) = some r := by first | (rw [hy428]; with_reducible exact H) | (have H2_ := (Option.bind_some _ _).symm.trans H; rw [hy428]; with_reducible exact H2_) | (have H2_ := (Option.bind_some _ _).symm.trans H; with_reducible exact H2_) | with_reducible exact H | (rw [hy428]; exact H) | exact H
    have Ny428 := Aside0.mk hy428
    clear hy428
    have c6b0 := eq_true (of_decide_eq_true (by first | (with_reducible assumption) | assumption) : 0 ≤ a1_1)
    have c7b0 := eq_true (of_decide_eq_true (by first | (with_reducible assumption) | assumption) : a1_1 ≤ (l0.length : Int))
    obtain ⟨y433, hy433⟩ : ∃ y_ : List Int, y_ = (l0.take (a1_1 : Int).toNat) := ⟨_, rfl⟩
    replace H : ((slices_Concat_int_int.f k (([y428, y433] : List (List Int)))).bind fun t441 => (some t441)) = some r := by first | (rw [hy433]; with_reducible exact H) | (have H2_ := (Option.bind_some _ _).symm.trans H; rw [hy433]; with_reducible exact H2_) | (have H2_ := (Option.bind_some _ _).symm.trans H; with_reducible exact H2_) | with_reducible exact H | (rw [hy433]; exact H) | exact H
    have Ny433 := Aside0.mk hy433
    clear hy433
    obtain ⟨y438, hy438⟩ : ∃ y_ : List (List Int), y_ = (([y428, y433] : List (List Int))) := ⟨_, rfl⟩
    replace H : ((slices_Concat_int_int.f k y438).bind fun t441 => (some t441)) = some r := by first | (rw [hy438]; with_reducible exact H) | (have H2_ := (Option.bind_some _ _).symm.trans H; rw [hy438]; with_reducible exact H2_) | (have H2_ := (Option.bind_some _ _).symm.trans H; with_reducible exact H2_) | with_reducible exact H | (rw [hy438]; exact H) | exact H
    have Ny438 := Aside0.mk hy438
    clear hy438
    replace H := Option.bind_eq_some_iff.mp H
    obtain ⟨t441, A80, H⟩ := H
    replace H : (some t441) = some r := H
    have A8 := Aside0.mk A80
    clear A80
    obtain rfl := Option.some.inj H
    go_enter Try.func91, Try.ntmps91
    try go_wp2_with (first | ((with_reducible refine gate_dst (N := 3) rfl ?_); refine box_event ?hg (N := 3) ?hd (cs := #[.int .i64 a1_0, .int .i64 a1_1]) (t := 71) ?hr ?_; (case hd => rfl); (case hg => rfl); (case hr => first | (go_simp; done) | (go_simp; rfl)); intro gb427 hg w9 hbox hb; have n0_ := Aside0.mk (Kd.V_below (Kd.V_elderB (vx_ HO0) gb427 (Nat.le_of_eq hg.symm)) hb); have n1_ := Aside0.mk (below_step bl_ hb); have n2_ := Aside0.mk (hbox); have n3_ := Aside0.mk ((by rw [hg]; exact (below_size bl_) : w.heap.size ≤ gb427)); have n4_ := Aside0.mk ((by rw [hg]; exact (below_size bl_) : w.heap.size ≤ gb427)); clear HO0; clear HB; have HO0 := n0_; have HB := n1_; have BK427 := n2_; have GW427 := n3_; have GE427 := n4_; clear n0_ n1_ n2_ n3_ n4_; clear hb hbox hg; have hcz10_0 : w9.cell? ⟨gb427, 0, none⟩ = some (.int .i64 a1_0) := (blk_cell BK427.out 0).trans rfl; have hcz10_1 : w9.cell? ⟨gb427, 1, none⟩ = some (.int .i64 a1_1) := (blk_cell BK427.out 1).trans rfl; have hfz10_0 := blk_frozen BK427.out 0; have hfz10_1 := blk_frozen BK427.out 1))
    have n0_ := Aside0.mk (Kd.V_drew HO0.out)
    have n1_ := Aside0.mk (blk_drew BK427.out)
    have n2_ := Aside0.mk (below_drew1 HB.out)
    clear HO0
    clear BK427
    clear HB
    have HO0 := n0_
    have BK427 := n1_
    have HB := n2_
    clear n0_ n1_ n2_
    have q12 : (a1_1 : Int) ≤ ((l0.length : Int) : Int) := of_decide_eq_true (by first | (with_reducible assumption) | assumption)
    obtain ⟨i012, hi012, _, hsz12, _⟩ := info_parts info3
    have hroom12 : l0.length ≤ c0 := (Kd.V_reads' HO0.out).2.1
    have hC12 : Kd.F (Kd.int .i64) _ _ A0 l0.length l0 := (Kd.V_at (base := w.heap.size) HO0.out).2.2
    have q012 : (0 : Int) ≤ (a1_1 : Int) := of_decide_eq_true (by first | (with_reducible assumption) | assumption)
    have hcut12 := cut_from (P := Try.prog) 22 3 .i64 Try.underlying22 hi012 1 hsz12 A0 l0.length c0 a1_1 q012 q12
    have hr12 := Kd.F_cut (m := (a1_1 : Int).toNat) (c := c0) hC12 (by omega) hroom12
    obtain ⟨A12, hA12⟩ : ∃ A1, A1 = (if c0 = (a1_1 : Int).toNat then A0 else (A0 : Option Addr).map (·.add ((a1_1 : Int).toNat * 1))) := ⟨_, rfl⟩
    obtain ⟨c12, hc12⟩ : ∃ c1, c1 = c0 - (a1_1 : Int).toNat := ⟨_, rfl⟩
    have hy12 : y428.length = l0.length - (a1_1 : Int).toNat := (by rw [Ny428.out, List.length_drop] <;> omega)
    rw [show (l0).drop (a1_1 : Int).toNat = y428 from Ny428.out.symm] at hr12
    replace hr12 : Kd.F (Kd.int .i64) _ _ A12 y428.length y428 := (by rw [hA12]; exact hr12)
    rw [← hy12, ← hA12, ← hc12] at hcut12
    have HO432 := Aside0.mk (show Kd.V (Kd.int .i64) 3 _ w.heap.size _ (.slice A12 y428.length c12) y428 from Kd.V_mk (by rw [hy12, hc12]; exact Nat.sub_le_sub_right hroom12 _) hr12)
    have HC432 := Aside0.mk (show y428.length ≤ c12 from by rw [hy12, hc12]; exact Nat.sub_le_sub_right hroom12 _)
    clear hr12 hC12 hroom12 hi012 hsz12 hc12
    have KY12 := Aside0.mk hy12
    have KA12 := Aside0.mk hA12
    clear hy12 hA12
    replace q12 := eq_true q12
    have q13 : (a1_1 : Int) ≤ ((l0.length : Int) : Int) := of_decide_eq_true (by first | (with_reducible assumption) | assumption)
    obtain ⟨i013, hi013, _, hsz13, _⟩ := info_parts info3
    have hroom13 : l0.length ≤ c0 := (Kd.V_reads' HO0.out).2.1
    have hC13 : Kd.F (Kd.int .i64) _ _ A0 l0.length l0 := (Kd.V_at (base := w.heap.size) HO0.out).2.2
    have hcut13 := cut_to (P := Try.prog) 22 3 .i64 Try.underlying22 hi013 A0 l0.length c0 a1_1 (of_decide_eq_true (by first | (with_reducible assumption) | assumption)) q13 hroom13
    have hr13 := Kd.F_take (m := (a1_1 : Int).toNat) hC13 (by omega)
    have hy13 : y433.length = (a1_1 : Int).toNat := (by rw [Ny433.out, List.length_take]; omega)
    rw [← Ny433.out] at hr13
    rw [← hy13] at hcut13
    have HO437 := Aside0.mk (show Kd.V (Kd.int .i64) 3 _ w.heap.size _ (.slice A0 y433.length c0) y433 from Kd.V_mk (by omega) hr13)
    have HC437 := Aside0.mk (show y433.length ≤ c0 from by omega)
    clear hr13 hC13 hroom13 hi013 hsz13
    have KY13 := Aside0.mk hy13
    clear hy13
    replace q13 := eq_true q13
    refine start_ (n := 9) (S := fun w' => True) (ds := []) #[false, false, false, false, false, false, false, false, false] (by kernel_rfl) rfl rfl trivial (fun hHeld => ?_); refine with_tabW impl_moved.tab4 impl_moved.bits4 (fun HT_ HW_ => ?_)
    generalize w9.drew = w11 at HO0 BK427 HB HO432 HO437 hHeld ⊢
    refine ps_ HT_ 0 15 ?_
    refine ps_ HT_ 1 16 ?_
    refine ps_ HT_ 2 17 ?_
    refine ps_ HT_ 3 18 ?_
    refine ps_ HT_ 4 19 ?_
    refine ps_ HT_ 5 20 ?_
    refine one_ (i := 6) (N := some 21) #[true, true, true, true, true, true, true, false, false] rfl rfl (one_of HT_.out (by kernel_rfl)) (by decide) (fun K hK => ?_)
    refine Kd.N_lit_step (Kd.slice 3 (Kd.int .i64)) _ 22 ?hg (N' := 21) ?hd (xs := ([y428, y433] : List (List Int))) (inner := [.slice A12 y428.length c12, .slice A0 y433.length c0]) (ok := (fun k_ => (P0_ k_ ∨ w.heap.size ≤ k_) ∧ k_ ≠ gb427)) (okp := (fun k_ => (P0_ k_ ∨ w.heap.size ≤ k_) ∧ k_ ≠ gb427)) ?hr ?hp (fun _ hk => hk) ((show ∀ k_, w11.heap.size ≤ k_ → (fun k_ => (P0_ k_ ∨ w.heap.size ≤ k_) ∧ k_ ≠ gb427) k_ from fun k_ hk => ⟨(.inr (Nat.le_trans (below_size (by repeat (first | (with_reducible first | exact HB.out | apply below_alloc | apply pw_below_drewN | apply below_drew1 | refine below_set ?_ GE427.out) | exact HB.out))) hk)), Kd.freshB (g := gb427) (o := .cells #[.int .i64 a1_0, .int .i64 a1_1] 71 (0, 0)) (by (with_reducible repeat (first | refine blk_drewN ?_ _ | refine blk_drew ?_ | refine blk_alloc ?_ _)); exact BK427.out) k_ hk⟩) _ (Nat.le_refl _)) (Below.refl _ _) (Nat.le_refl _) (by simp) ?_; (case hd => rfl); (case hg => rfl); (case hr => first | (go_simp; done) | (go_simp; rfl)); (case hp => exact (Reps.one (show Kd.FK (Kd.slice 3 (Kd.int .i64)) _ _ y428 [.slice A12 y428.length c12] from (Kd.FK_slice_mk (Kd.V_reads' (Kd.V_mono (ok' := (fun k_ => (P0_ k_ ∨ w.heap.size ≤ k_) ∧ k_ ≠ gb427)) (HO432.out) (fun k_ hk => ⟨hk.1, hk.2⟩))).2.1 (Kd.V_F (Kd.V_mono (ok' := (fun k_ => (P0_ k_ ∨ w.heap.size ≤ k_) ∧ k_ ≠ gb427)) (HO432.out) (fun k_ hk => ⟨hk.1, hk.2⟩))))) (Reps.one (show Kd.FK (Kd.slice 3 (Kd.int .i64)) _ _ y433 [.slice A0 y433.length c0] from (Kd.FK_slice_mk (Kd.V_reads' (Kd.V_mono (ok' := (fun k_ => (P0_ k_ ∨ w.heap.size ≤ k_) ∧ k_ ≠ gb427)) (HO437.out) (fun k_ hk => ⟨hk.1, hk.2⟩))).2.1 (Kd.V_F (Kd.V_mono (ok' := (fun k_ => (P0_ k_ ∨ w.heap.size ≤ k_) ∧ k_ ≠ gb427)) (HO437.out) (fun k_ hk => ⟨hk.1, hk.2⟩))))) (Reps.none _ _))))
    intro v439 w14 ho15 hb hg_ hnew_
    clear hg_ hnew_
    (first | rw [← Ny438.out] at ho15 | (simp only [Int.reduceToNat] at ho15; rw [← Ny438.out] at ho15))
    have n0_ := Aside0.mk (Kd.V_elder' (vx_ HO0) (by first | exact Kd.N_base ho15 | exact Kd.S_base ho15) hb)
    have n1_ := Aside0.mk (Kd.V_elder' (vx_ HO432) (by first | exact Kd.N_base ho15 | exact Kd.S_base ho15) hb)
    have n2_ := Aside0.mk (Kd.V_elder' (vx_ HO437) (by first | exact Kd.N_base ho15 | exact Kd.S_base ho15) hb)
    have n3_ := Aside0.mk (Kd.N_lower ho15 (below_size (by repeat (first | (with_reducible first | exact HB.out | apply below_alloc | apply pw_below_drewN | apply below_drew1 | refine below_set ?_ GE427.out) | exact HB.out))))
    have n4_ := Aside0.mk (blk_below (g := gb427) (o := .cells #[.int .i64 a1_0, .int .i64 a1_1] 71 (0, 0)) (by (with_reducible repeat (first | refine blk_drewN ?_ _ | refine blk_drew ?_ | refine blk_alloc ?_ _)); exact BK427.out) hb)
    have n5_ := Aside0.mk (below_step (by repeat (first | (with_reducible first | exact HB.out | apply below_alloc | apply pw_below_drewN | apply below_drew1 | refine below_set ?_ GE427.out) | exact HB.out)) hb)
    clear HO0
    clear HO432
    clear HO437
    clear BK427
    clear HB
    have HO0 := n0_
    have HO432 := n1_
    have HO437 := n2_
    have HO440 := n3_
    have BK427 := n4_
    have HB := n5_
    clear n0_ n1_ n2_ n3_ n4_ n5_
    clear hb ho15
    obtain ⟨Ao16, co16, eo16⟩ := Kd.N_slice HO440.out
    (first | subst eo16 | (injection eo16 with f1_ f2_ f3_; have f4_ := f1_.symm; have f5_ := f3_.symm; clear f1_ f2_ f3_; subst f4_; subst f5_))
    refine hK.out _ _ trivial (fun hHeld => ?_)
    clear hK K
    refine ns_ ?_
    refine one_ (i := 7) (N := some 22) #[true, true, true, true, true, true, true, true, false] rfl rfl (one_of HT_.out (by kernel_rfl)) (by decide) (fun K hK => ?_)
    refine goes_ Try.func92 (by kernel_rfl) rfl #[.slice Ao16 y438.length co16] (by rfl) rfl rfl (by (try simp only [List.map_toArray, List.map_cons, List.map_nil]); first | done | rfl | (simp only [List.length_drop, List.length_take]; rfl)) ?_
    with_reducible refine (slices_Concat_int_int.calls k _ _ y438 t441 _ ?side1 ?side2 A8.out).mono ?_
    (case side1 => repeat (first | exact (Kd.N_reads' HO440.out).2.2 | (with_reducible first | refine Kd.C_alloc ?_ _ | refine Kd.C_drewN ?_ _ | refine Kd.C_drew ?_)))
    (case side2 => exact (Kd.N_reads' HO440.out).2.1)
    rintro e w17 ⟨v442, rfl, ho0, hb⟩
    refine ⟨_, rfl, ?_⟩
    have n0_ := Aside0.mk (Kd.V_elder' (vx_ HO0) (Kd.R_base ho0) hb)
    have n1_ := Aside0.mk (Kd.V_elder' (vx_ HO432) (Kd.R_base ho0) hb)
    have n2_ := Aside0.mk (Kd.V_elder' (vx_ HO437) (Kd.R_base ho0) hb)
    have n3_ := Aside0.mk (Kd.N_elder' (by (with_reducible repeat (first | apply Kd.N_alloc | apply Kd.N_drewN | apply Kd.N_drew)); exact HO440.out) (Kd.R_base ho0) hb)
    have n4_ := Aside0.mk (Kd.R_lower (Kd.R_newM (M := fun k_ => (w.heap.size ≤ k_)) ho0 (below_size (by repeat (first | (with_reducible first | exact HB.out | apply below_alloc | apply pw_below_drewN | apply below_drew1 | refine below_set ?_ GE427.out) | exact HB.out))) (fun k_ h_ => h_)) (below_size (by repeat (first | (with_reducible first | exact HB.out | apply below_alloc | apply pw_below_drewN | apply below_drew1 | refine below_set ?_ GE427.out) | exact HB.out))))
    have n5_ := Aside0.mk (blk_below (g := gb427) (o := .cells #[.int .i64 a1_0, .int .i64 a1_1] 71 (0, 0)) (by (with_reducible repeat (first | refine blk_drewN ?_ _ | refine blk_drew ?_ | refine blk_alloc ?_ _)); exact BK427.out) hb)
    have n6_ := Aside0.mk (below_step (by repeat (first | (with_reducible first | exact HB.out | apply below_alloc | apply pw_below_drewN | apply below_drew1 | refine below_set ?_ GE427.out) | exact HB.out)) hb)
    clear HO0
    clear HO432
    clear HO437
    clear HO440
    clear BK427
    clear HB
    have HO0 := n0_
    have HO432 := n1_
    have HO437 := n2_
    have HO440 := n3_
    have HO443 := n4_
    have BK427 := n5_
    have HB := n6_
    clear n0_ n1_ n2_ n3_ n4_ n5_ n6_
    (try clear hb)
    (try clear hb2)
    (try clear hk)
    (try clear hi)
    (try clear ho0)
    refine hK.out _ _ trivial (fun hHeld => ?_)
    clear hK K
    refine ns_ ?_
    refine ps_ HT_ 8 4 ?_
    refine done_ (done_of HT_.out (by kernel_rfl)) ?_
    try go_wp2
    go_ret
    exact ⟨_, by first | rfl | (simp [errW_none, errW_some] <;> rfl) | (simp [*, errW_none, errW_some] <;> rfl), by (with_reducible repeat (first | apply Kd.R_alloc | apply Kd.R_drewN | apply Kd.R_drew)); exact Kd.R_mono HO443.out (fun _ hk => hk.1), by repeat (first | (with_reducible first | exact HB.out | apply below_alloc | apply pw_below_drewN | apply below_drew1 | refine below_set ?_ GE427.out) | exact HB.out)⟩
   ·rw [if_neg c5] at H
    exact absurd H (by simp)
  ·rw [if_neg c4] at H
   exact absurd H (by simp)
 ·rw [if_neg c3] at H
  have c3b0 : (a1_0 == 1) = false := beq_eq_false_iff_ne.mpr c3
  have c3b1 : (a1_0 != 1) = true := bne_iff_ne.mpr c3
  by_cases c18 : a1_0 = 2
  ·rw [if_pos c18] at H
   have c18b0 : (a1_0 == 2) = true := beq_iff_eq.mpr c18
   have c18b1 : (a1_0 != 2) = false := bne_eq_false_iff_eq.mpr c18
   clear c18
   by_cases c19 : 0 ≤ a1_1
   ·rw [if_pos c19] at H
    have c19b0 := eq_true c19
    have c19b1 : decide (0 ≤ a1_1) = true := decide_eq_true c19
    clear c19
    by_cases c20 : a1_1 ≤ (l0.length : Int)
    ·rw [if_pos c20] at H
     have c20b0 := eq_true c20
     have c20b1 : decide (a1_1 ≤ (l0.length : Int)) = true := decide_eq_true c20
     clear c20
     obtain ⟨y444, hy444⟩ : ∃ y_ : List Int, y_ = (l0.take (a1_1 : Int).toNat) := ⟨_, rfl⟩
     replace H : (none) = some r := by first | (rw [hy444]; with_reducible exact H) | (have H2_ := (Option.bind_some _ _).symm.trans H; rw [hy444]; with_reducible exact H2_) | (have H2_ := (Option.bind_some _ _).symm.trans H; with_reducible exact H2_) | with_reducible exact H | (rw [hy444]; exact H) | exact H
     have Ny444 := Aside0.mk hy444
     clear hy444
     exact absurd H (by simp)
    ·rw [if_neg c20] at H
     exact absurd H (by simp)
   ·rw [if_neg c19] at H
    exact absurd H (by simp)
  ·rw [if_neg c18] at H
   have c18b0 : (a1_0 == 2) = false := beq_eq_false_iff_ne.mpr c18
   have c18b1 : (a1_0 != 2) = true := bne_iff_ne.mpr c18
   by_cases c21 : a1_0 = 3
   ·rw [if_pos c21] at H
    have c21b0 : (a1_0 == 3) = true := beq_iff_eq.mpr c21
    have c21b1 : (a1_0 != 3) = false := bne_eq_false_iff_eq.mpr c21
    clear c21
    by_cases c22 : 0 ≤ a1_1
    ·rw [if_pos c22] at H
     have c22b0 := eq_true c22
     have c22b1 : decide (0 ≤ a1_1) = true := decide_eq_true c22
     clear c22
     by_cases c23 : a1_1 ≤ (l0.length : Int)
     ·rw [if_pos c23] at H
      have c23b0 := eq_true c23
      have c23b1 : decide (a1_1 ≤ (l0.length : Int)) = true := decide_eq_true c23
      clear c23
      obtain ⟨y449, hy449⟩ : ∃ y_ : List Int, y_ = (l0.take (a1_1 : Int).toNat) := ⟨_, rfl⟩
      replace H : ((impl_reversed.f k y449).bind fun t454 => ((slices_Concat_int_int.f k (([t454, (l0.drop (a1_1 : Int).toNat)] : List (List Int)))).bind fun t465 => (impl_moved.l0 k a1_1 t465 0))) = some r := by first | (rw [hy449]; with_reducible exact H) | (have H2_ := (Option.bind_some _ _).symm.trans H; rw [hy449]; with_reducible exact H2_) | (have H2_ := (Option.bind_some _ _).symm.trans H; with_reducible exact H2_) | with_reducible exact H | (rw [hy449]; exact H) | exact H
      have Ny449 := Aside0.mk hy449
      clear hy449
      replace H := Option.bind_eq_some_iff.mp H
      obtain ⟨t454, A240, H⟩ := H
      replace H : ((slices_Concat_int_int.f k (([t454, (l0.drop (a1_1 : Int).toNat)] : List (List Int)))).bind fun t465 => (impl_moved.l0 k a1_1 t465 0)) = some r := H
      have A24 := Aside0.mk A240
      clear A240
      have c25b0 := eq_true (of_decide_eq_true (by first | (with_reducible assumption) | assumption) : 0 ≤ a1_1)
      have c26b0 := eq_true (of_decide_eq_true (by first | (with_reducible assumption) | assumption) : a1_1 ≤ (l0.length : Int))
      obtain ⟨y457, hy457⟩ : ∃ y_ : List Int, y_ = (l0.drop (a1_1 : Int).toNat) := ⟨_, rfl⟩
      replace H : ((slices_Concat_int_int.f k (([t454, y457] : List (List Int)))).bind fun t465 => (impl_moved.l0 k a1_1 t465 0)) = some r := by first | (rw [hy457]; with_reducible exact H) | (have H2_ := (Option.bind_some _ _).symm.trans H; rw [hy457]; with_reducible exact H2_) | (have H2_ := (Option.bind_some _ _).symm.trans H; with_reducible exact H2_) | with_reducible exact H | (rw [hy457]; exact H) | exact H
      have Ny457 := Aside0.mk hy457
      clear hy457
      obtain ⟨y462, hy462⟩ : ∃ y_ : List (List Int), y_ = (([t454, y457] : List (List Int))) := ⟨_, rfl⟩
      replace H : ((slices_Concat_int_int.f k y462).bind fun t465 => (impl_moved.l0 k a1_1 t465 0)) = some r := by first | (rw [hy462]; with_reducible exact H) | (have H2_ := (Option.bind_some _ _).symm.trans H; rw [hy462]; with_reducible exact H2_) | (have H2_ := (Option.bind_some _ _).symm.trans H; with_reducible exact H2_) | with_reducible exact H | (rw [hy462]; exact H) | exact H
      have Ny462 := Aside0.mk hy462
      clear hy462
      replace H := Option.bind_eq_some_iff.mp H
      obtain ⟨t465, A270, H⟩ := H
      replace H : (impl_moved.l0 k a1_1 t465 0) = some r := H
      have A27 := Aside0.mk A270
      clear A270
      have H' := Aside0.mk H
      clear H
      go_enter Try.func91, Try.ntmps91
      try go_wp2_with (first | ((with_reducible refine gate_dst (N := 3) rfl ?_); refine box_event ?hg (N := 3) ?hd (cs := #[.int .i64 a1_0, .int .i64 a1_1]) (t := 71) ?hr ?_; (case hd => rfl); (case hg => rfl); (case hr => first | (go_simp; done) | (go_simp; rfl)); intro gb427 hg w28 hbox hb; have n0_ := Aside0.mk (Kd.V_below (Kd.V_elderB (vx_ HO0) gb427 (Nat.le_of_eq hg.symm)) hb); have n1_ := Aside0.mk (below_step bl_ hb); have n2_ := Aside0.mk (hbox); have n3_ := Aside0.mk ((by rw [hg]; exact (below_size bl_) : w.heap.size ≤ gb427)); have n4_ := Aside0.mk ((by rw [hg]; exact (below_size bl_) : w.heap.size ≤ gb427)); clear HO0; clear HB; have HO0 := n0_; have HB := n1_; have BK427 := n2_; have GW427 := n3_; have GE427 := n4_; clear n0_ n1_ n2_ n3_ n4_; clear hb hbox hg; have hcz29_0 : w28.cell? ⟨gb427, 0, none⟩ = some (.int .i64 a1_0) := (blk_cell BK427.out 0).trans rfl; have hcz29_1 : w28.cell? ⟨gb427, 1, none⟩ = some (.int .i64 a1_1) := (blk_cell BK427.out 1).trans rfl; have hfz29_0 := blk_frozen BK427.out 0; have hfz29_1 := blk_frozen BK427.out 1))
      have n0_ := Aside0.mk (Kd.V_drew HO0.out)
      have n1_ := Aside0.mk (blk_drew BK427.out)
      have n2_ := Aside0.mk (below_drew1 HB.out)
      clear HO0
      clear BK427
      clear HB
      have HO0 := n0_
      have BK427 := n1_
      have HB := n2_
      clear n0_ n1_ n2_
      have q31 : (a1_1 : Int) ≤ ((l0.length : Int) : Int) := of_decide_eq_true (by first | (with_reducible assumption) | assumption)
      obtain ⟨i031, hi031, _, hsz31, _⟩ := info_parts info3
      have hroom31 : l0.length ≤ c0 := (Kd.V_reads' HO0.out).2.1
      have hC31 : Kd.F (Kd.int .i64) _ _ A0 l0.length l0 := (Kd.V_at (base := w.heap.size) HO0.out).2.2
      have hcut31 := cut_to (P := Try.prog) 22 3 .i64 Try.underlying22 hi031 A0 l0.length c0 a1_1 (of_decide_eq_true (by first | (with_reducible assumption) | assumption)) q31 hroom31
      have hr31 := Kd.F_take (m := (a1_1 : Int).toNat) hC31 (by omega)
      have hy31 : y449.length = (a1_1 : Int).toNat := (by rw [Ny449.out, List.length_take]; omega)
      rw [← Ny449.out] at hr31
      rw [← hy31] at hcut31
      have HO453 := Aside0.mk (show Kd.V (Kd.int .i64) 3 _ w.heap.size _ (.slice A0 y449.length c0) y449 from Kd.V_mk (by omega) hr31)
      have HC453 := Aside0.mk (show y449.length ≤ c0 from by omega)
      clear hr31 hC31 hroom31 hi031 hsz31
      have KY31 := Aside0.mk hy31
      clear hy31
      replace q31 := eq_true q31
      have q32 : (a1_1 : Int) ≤ ((l0.length : Int) : Int) := of_decide_eq_true (by first | (with_reducible assumption) | assumption)
      obtain ⟨i032, hi032, _, hsz32, _⟩ := info_parts info3
      have hroom32 : l0.length ≤ c0 := (Kd.V_reads' HO0.out).2.1
      have hC32 : Kd.F (Kd.int .i64) _ _ A0 l0.length l0 := (Kd.V_at (base := w.heap.size) HO0.out).2.2
      have q032 : (0 : Int) ≤ (a1_1 : Int) := of_decide_eq_true (by first | (with_reducible assumption) | assumption)
      have hcut32 := cut_from (P := Try.prog) 22 3 .i64 Try.underlying22 hi032 1 hsz32 A0 l0.length c0 a1_1 q032 q32
      have hr32 := Kd.F_cut (m := (a1_1 : Int).toNat) (c := c0) hC32 (by omega) hroom32
      obtain ⟨A32, hA32⟩ : ∃ A1, A1 = (if c0 = (a1_1 : Int).toNat then A0 else (A0 : Option Addr).map (·.add ((a1_1 : Int).toNat * 1))) := ⟨_, rfl⟩
      obtain ⟨c32, hc32⟩ : ∃ c1, c1 = c0 - (a1_1 : Int).toNat := ⟨_, rfl⟩
      have hy32 : y457.length = l0.length - (a1_1 : Int).toNat := (by rw [Ny457.out, List.length_drop] <;> omega)
      rw [show (l0).drop (a1_1 : Int).toNat = y457 from Ny457.out.symm] at hr32
      replace hr32 : Kd.F (Kd.int .i64) _ _ A32 y457.length y457 := (by rw [hA32]; exact hr32)
      rw [← hy32, ← hA32, ← hc32] at hcut32
      have HO461 := Aside0.mk (show Kd.V (Kd.int .i64) 3 _ w.heap.size _ (.slice A32 y457.length c32) y457 from Kd.V_mk (by rw [hy32, hc32]; exact Nat.sub_le_sub_right hroom32 _) hr32)
      have HC461 := Aside0.mk (show y457.length ≤ c32 from by rw [hy32, hc32]; exact Nat.sub_le_sub_right hroom32 _)
      clear hr32 hC32 hroom32 hi032 hsz32 hc32
      have KY32 := Aside0.mk hy32
      have KA32 := Aside0.mk hA32
      clear hy32 hA32
      replace q32 := eq_true q32
      refine start_ (n := 10) (S := fun w' => True) (ds := []) #[false, false, false, false, false, false, false, false, false, false] (by kernel_rfl) rfl rfl trivial (fun hHeld => ?_); refine with_tabW impl_moved.tab8 impl_moved.bits8 (fun HT_ HW_ => ?_)
      generalize w28.drew = w30 at HO0 BK427 HB HO453 HO461 hHeld ⊢
      refine ps_ HT_ 0 36 ?_
      refine ps_ HT_ 1 37 ?_
      refine ps_ HT_ 2 38 ?_
      refine ps_ HT_ 4 40 ?_
      refine ps_ HT_ 5 41 ?_
      refine ps_ HT_ 6 42 ?_
      refine one_ (i := 3) (N := some 39) #[true, true, true, true, true, true, true, false, false, false] rfl rfl (one_of HT_.out (by kernel_rfl)) (by decide) (fun K hK => ?_)
      refine goes_ Try.func103 (by kernel_rfl) rfl #[.slice A0 y449.length c0] (by rfl) rfl rfl (by (try simp only [List.map_toArray, List.map_cons, List.map_nil]); first | done | rfl | (simp only [List.length_drop, List.length_take]; rfl)) ?_
      with_reducible refine (impl_reversed.calls k _ _ y449 t454 _ ?side1 ?side2 A24.out).mono ?_
      (case side1 => repeat (first | exact (Kd.V_reads' HO453.out).2.2 | (with_reducible first | refine Kd.C_alloc ?_ _ | refine Kd.C_drewN ?_ _ | refine Kd.C_drew ?_)))
      (case side2 => exact (Kd.V_reads' HO453.out).2.1)
      rintro e w33 ⟨v455, rfl, ho0, hb⟩
      refine ⟨_, rfl, ?_⟩
      have n0_ := Aside0.mk (Kd.V_elder' (vx_ HO0) (Kd.R_base ho0) hb)
      have n1_ := Aside0.mk (Kd.V_elder' (vx_ HO453) (Kd.R_base ho0) hb)
      have n2_ := Aside0.mk (Kd.V_elder' (vx_ HO461) (Kd.R_base ho0) hb)
      have n3_ := Aside0.mk (Kd.R_lower (Kd.R_newM (M := fun k_ => (w.heap.size ≤ k_)) ho0 (below_size (by repeat (first | (with_reducible first | exact HB.out | apply below_alloc | apply pw_below_drewN | apply below_drew1 | refine below_set ?_ GE427.out) | exact HB.out))) (fun k_ h_ => h_)) (below_size (by repeat (first | (with_reducible first | exact HB.out | apply below_alloc | apply pw_below_drewN | apply below_drew1 | refine below_set ?_ GE427.out) | exact HB.out))))
      have n4_ := Aside0.mk (blk_below (g := gb427) (o := .cells #[.int .i64 a1_0, .int .i64 a1_1] 71 (0, 0)) (by (with_reducible repeat (first | refine blk_drewN ?_ _ | refine blk_drew ?_ | refine blk_alloc ?_ _)); exact BK427.out) hb)
      have n5_ := Aside0.mk (below_step (by repeat (first | (with_reducible first | exact HB.out | apply below_alloc | apply pw_below_drewN | apply below_drew1 | refine below_set ?_ GE427.out) | exact HB.out)) hb)
      clear HO0
      clear HO453
      clear HO461
      clear BK427
      clear HB
      have HO0 := n0_
      have HO453 := n1_
      have HO461 := n2_
      have HO456 := n3_
      have BK427 := n4_
      have HB := n5_
      clear n0_ n1_ n2_ n3_ n4_ n5_
      (try clear hb)
      (try clear hb2)
      (try clear hk)
      (try clear hi)
      (try clear ho0)
      obtain ⟨Ao34, co34, eo34⟩ := Kd.R_slice HO456.out
      (first | subst eo34 | (injection eo34 with f1_ f2_ f3_; have f4_ := f1_.symm; have f5_ := f3_.symm; clear f1_ f2_ f3_; subst f4_; subst f5_))
      refine hK.out _ _ trivial (fun hHeld => ?_)
      clear hK K
      refine ns_ ?_
      refine one_ (i := 7) (N := some 43) #[true, true, true, true, true, true, true, true, false, false] rfl rfl (one_of HT_.out (by kernel_rfl)) (by decide) (fun K hK => ?_)
      refine Kd.N_lit_step (Kd.slice 3 (Kd.int .i64)) _ 22 ?hg (N' := 43) ?hd (xs := ([t454, y457] : List (List Int))) (inner := [.slice Ao34 t454.length co34, .slice A32 y457.length c32]) (ok := (fun k_ => (P0_ k_ ∨ w.heap.size ≤ k_) ∧ k_ ≠ gb427)) (okp := (fun k_ => (P0_ k_ ∨ w.heap.size ≤ k_) ∧ k_ ≠ gb427)) ?hr ?hp (fun _ hk => hk) ((show ∀ k_, w33.heap.size ≤ k_ → (fun k_ => (P0_ k_ ∨ w.heap.size ≤ k_) ∧ k_ ≠ gb427) k_ from fun k_ hk => ⟨(.inr (Nat.le_trans (below_size (by repeat (first | (with_reducible first | exact HB.out | apply below_alloc | apply pw_below_drewN | apply below_drew1 | refine below_set ?_ GE427.out) | exact HB.out))) hk)), Kd.freshB (g := gb427) (o := .cells #[.int .i64 a1_0, .int .i64 a1_1] 71 (0, 0)) (by (with_reducible repeat (first | refine blk_drewN ?_ _ | refine blk_drew ?_ | refine blk_alloc ?_ _)); exact BK427.out) k_ hk⟩) _ (Nat.le_refl _)) (Below.refl _ _) (Nat.le_refl _) (by simp) ?_; (case hd => rfl); (case hg => rfl); (case hr => first | (go_simp; done) | (go_simp; rfl)); (case hp => exact (Reps.one (show Kd.FK (Kd.slice 3 (Kd.int .i64)) _ _ t454 [.slice Ao34 t454.length co34] from (Kd.FK_slice_mk (Kd.R_reads' (Kd.R_mono (ok' := (fun k_ => (P0_ k_ ∨ w.heap.size ≤ k_) ∧ k_ ≠ gb427)) (Kd.R_types (HO456.out) BK427.out (by decide)) (fun k_ hk => ⟨(.inr (hk.1.1)), hk.2⟩))).2.1 (Kd.R_F (Kd.R_mono (ok' := (fun k_ => (P0_ k_ ∨ w.heap.size ≤ k_) ∧ k_ ≠ gb427)) (Kd.R_types (HO456.out) BK427.out (by decide)) (fun k_ hk => ⟨(.inr (hk.1.1)), hk.2⟩))))) (Reps.one (show Kd.FK (Kd.slice 3 (Kd.int .i64)) _ _ y457 [.slice A32 y457.length c32] from (Kd.FK_slice_mk (Kd.V_reads' (Kd.V_mono (ok' := (fun k_ => (P0_ k_ ∨ w.heap.size ≤ k_) ∧ k_ ≠ gb427)) (HO461.out) (fun k_ hk => ⟨hk.1.1, hk.1.2⟩))).2.1 (Kd.V_F (Kd.V_mono (ok' := (fun k_ => (P0_ k_ ∨ w.heap.size ≤ k_) ∧ k_ ≠ gb427)) (HO461.out) (fun k_ hk => ⟨hk.1.1, hk.1.2⟩))))) (Reps.none _ _))))
      intro v463 w35 ho36 hb hg_ hnew_
      clear hg_ hnew_
      (first | rw [← Ny462.out] at ho36 | (simp only [Int.reduceToNat] at ho36; rw [← Ny462.out] at ho36))
      have n0_ := Aside0.mk (Kd.V_elder' (vx_ HO0) (by first | exact Kd.N_base ho36 | exact Kd.S_base ho36) hb)
      have n1_ := Aside0.mk (Kd.V_elder' (vx_ HO453) (by first | exact Kd.N_base ho36 | exact Kd.S_base ho36) hb)
      have n2_ := Aside0.mk (Kd.V_elder' (vx_ HO461) (by first | exact Kd.N_base ho36 | exact Kd.S_base ho36) hb)
      have n3_ := Aside0.mk (Kd.N_lower ho36 (below_size (by repeat (first | (with_reducible first | exact HB.out | apply below_alloc | apply pw_below_drewN | apply below_drew1 | refine below_set ?_ GE427.out) | exact HB.out))))
      have n4_ := Aside0.mk (blk_below (g := gb427) (o := .cells #[.int .i64 a1_0, .int .i64 a1_1] 71 (0, 0)) (by (with_reducible repeat (first | refine blk_drewN ?_ _ | refine blk_drew ?_ | refine blk_alloc ?_ _)); exact BK427.out) hb)
      have n5_ := Aside0.mk (below_step (by repeat (first | (with_reducible first | exact HB.out | apply below_alloc | apply pw_below_drewN | apply below_drew1 | refine below_set ?_ GE427.out) | exact HB.out)) hb)
      clear HO0
      clear HO453
      clear HO461
      clear BK427
      clear HB
      clear HO456
      have HO0 := n0_
      have HO453 := n1_
      have HO461 := n2_
      have HO464 := n3_
      have BK427 := n4_
      have HB := n5_
      clear n0_ n1_ n2_ n3_ n4_ n5_
      clear hb ho36
      obtain ⟨Ao37, co37, eo37⟩ := Kd.N_slice HO464.out
      (first | subst eo37 | (injection eo37 with f1_ f2_ f3_; have f4_ := f1_.symm; have f5_ := f3_.symm; clear f1_ f2_ f3_; subst f4_; subst f5_))
      refine hK.out _ _ trivial (fun hHeld => ?_)
      clear hK K
      refine ns_ ?_
      refine one_ (i := 8) (N := some 44) #[true, true, true, true, true, true, true, true, true, false] rfl rfl (one_of HT_.out (by kernel_rfl)) (by decide) (fun K hK => ?_)
      refine goes_ Try.func92 (by kernel_rfl) rfl #[.slice Ao37 y462.length co37] (by rfl) rfl rfl (by (try simp only [List.map_toArray, List.map_cons, List.map_nil]); first | done | rfl | (simp only [List.length_drop, List.length_take]; rfl)) ?_
      with_reducible refine (slices_Concat_int_int.calls k _ _ y462 t465 _ ?side1 ?side2 A27.out).mono ?_
      (case side1 => repeat (first | exact (Kd.N_reads' HO464.out).2.2 | (with_reducible first | refine Kd.C_alloc ?_ _ | refine Kd.C_drewN ?_ _ | refine Kd.C_drew ?_)))
      (case side2 => exact (Kd.N_reads' HO464.out).2.1)
      rintro e w38 ⟨v466, rfl, ho0, hb⟩
      refine ⟨_, rfl, ?_⟩
      have n0_ := Aside0.mk (Kd.V_elder' (vx_ HO0) (Kd.R_base ho0) hb)
      have n1_ := Aside0.mk (Kd.V_elder' (vx_ HO453) (Kd.R_base ho0) hb)
      have n2_ := Aside0.mk (Kd.V_elder' (vx_ HO461) (Kd.R_base ho0) hb)
      have n3_ := Aside0.mk (Kd.N_elder' (by (with_reducible repeat (first | apply Kd.N_alloc | apply Kd.N_drewN | apply Kd.N_drew)); exact HO464.out) (Kd.R_base ho0) hb)
      have n4_ := Aside0.mk (Kd.R_lower (Kd.R_newM (M := fun k_ => (w.heap.size ≤ k_)) ho0 (below_size (by repeat (first | (with_reducible first | exact HB.out | apply below_alloc | apply pw_below_drewN | apply below_drew1 | refine below_set ?_ GE427.out) | exact HB.out))) (fun k_ h_ => h_)) (below_size (by repeat (first | (with_reducible first | exact HB.out | apply below_alloc | apply pw_below_drewN | apply below_drew1 | refine below_set ?_ GE427.out) | exact HB.out))))
      have n5_ := Aside0.mk (blk_below (g := gb427) (o := .cells #[.int .i64 a1_0, .int .i64 a1_1] 71 (0, 0)) (by (with_reducible repeat (first | refine blk_drewN ?_ _ | refine blk_drew ?_ | refine blk_alloc ?_ _)); exact BK427.out) hb)
      have n6_ := Aside0.mk (below_step (by repeat (first | (with_reducible first | exact HB.out | apply below_alloc | apply pw_below_drewN | apply below_drew1 | refine below_set ?_ GE427.out) | exact HB.out)) hb)
      clear HO0
      clear HO453
      clear HO461
      clear HO464
      clear BK427
      clear HB
      have HO0 := n0_
      have HO453 := n1_
      have HO461 := n2_
      have HO464 := n3_
      have HO467 := n4_
      have BK427 := n5_
      have HB := n6_
      clear n0_ n1_ n2_ n3_ n4_ n5_ n6_
      (try clear hb)
      (try clear hb2)
      (try clear hk)
      (try clear hi)
      (try clear ho0)
      refine hK.out _ _ trivial (fun hHeld => ?_)
      clear hK K
      refine ns_ ?_
      refine ps_ HT_ 9 6 ?_
      refine done_ (done_of HT_.out (by kernel_rfl)) ?_
      try go_wp2
      go_loopg [7] k (fun kq v7 w' => ∃ (x6_1 : List Int) (x7_1 : Int), v7 = .int .i64 x7_1 ∧ Aside0 (impl_moved.l0 kq a1_1 x6_1 x7_1 = some r) ∧ Aside0 (kq ≤ k) ∧ Aside0 (Kd.R (Kd.int .i64) 3 w' w.heap.size (fun k_ => (w.heap.size ≤ k_)) v466 x6_1) ∧ Aside0 (w'.heap[gb427]? = some (.cells #[.int .i64 a1_0, .int .i64 a1_1] 71 (0, 0))) ∧ Aside0 (Below w.heap.size w w'))
      case atStart => exact ⟨(t465), (0), (by first | rfl | (simp; done) | (simp [*]; done)), H', ⟨Nat.le_refl _⟩, ⟨by (with_reducible repeat (first | apply Kd.R_alloc | apply Kd.R_drewN | apply Kd.R_drew)); exact Kd.R_mono HO467.out (fun _ hk => hk.1)⟩, ⟨by (with_reducible repeat (first | refine blk_drewN ?_ _ | refine blk_drew ?_ | refine blk_alloc ?_ _)); exact BK427.out⟩, ⟨by repeat (first | (with_reducible first | exact HB.out | apply below_alloc | apply pw_below_drewN | apply below_drew1 | refine below_set ?_ GE427.out) | exact HB.out)⟩⟩
      case round =>
       clear H'
       try clear c1
       try clear q1
       try clear c2
       try clear p2
       try clear c3
       try clear c3b0
       try clear c3b1
       try clear q3
       try clear c4
       try clear c4b0
       try clear c4b1
       try clear c5
       try clear c5b0
       try clear c5b1
       try clear c6
       try clear c6b0
       try clear c7
       try clear c7b0
       try clear c9
       try clear c10
       try clear c12
       try clear q12
       try clear q13
       try clear c18
       try clear c18b0
       try clear c18b1
       try clear c19
       try clear c19b0
       try clear c19b1
       try clear c20
       try clear c20b0
       try clear c20b1
       try clear c21
       try clear c21b0
       try clear c21b1
       try clear c22
       try clear c22b0
       try clear c22b1
       try clear c23
       try clear c23b0
       try clear c23b1
       try clear c25
       try clear c25b0
       try clear c26
       try clear c26b0
       try clear q31
       try clear c32
       try clear q32
       try clear hcz10_0
       try clear hcz10_1
       try clear hcz29_0
       try clear hcz29_1
       try clear hfz10_0
       try clear hfz10_1
       try clear hfz29_0
       try clear hfz29_1
       try clear q012
       try clear q032
       try clear q12
       try clear q13
       try clear q31
       try clear q32
       obtain ⟨x6_1, x7_1, rfl, HA, HK1, HO_6, BK427, HB⟩ := hrel
       cases gk with
       | zero => exact absurd HA.out (by simp [impl_moved.l0])
       | succ k1 =>
        have H := HA.out
        clear HA
        simp only [impl_moved.l0] at H
        by_cases c39 : x7_1 < a1_1
        ·rw [if_pos c39] at H
         have c39b0 : decide (x7_1 < a1_1) = true := decide_eq_true c39
         clear c39
         by_cases c40 : 0 ≤ x7_1
         ·rw [if_pos c40] at H
          have c40b0 : decide (0 ≤ x7_1) = true := decide_eq_true c40
          clear c40
          by_cases c41 : x7_1 < (x6_1.length : Int)
          ·rw [if_pos c41] at H
           have c41b0 : decide (x7_1 < (x6_1.length : Int)) = true := decide_eq_true c41
           clear c41
           replace H := Option.bind_eq_some_iff.mp H
           obtain ⟨t469, A420, H⟩ := H
           replace H : (impl_moved.l0 k1 a1_1 (x6_1.set (x7_1 : Int).toNat t469) (wrap64 (x7_1 + 1))) = some r := H
           have A42 := Aside0.mk A420
           clear A420
           obtain ⟨y470, hy470⟩ : ∃ y_ : List Int, y_ = (x6_1.set (x7_1 : Int).toNat t469) := ⟨_, rfl⟩
           replace H : (impl_moved.l0 k1 a1_1 y470 (wrap64 (x7_1 + 1))) = some r := by first | (rw [hy470]; with_reducible exact H) | (have H2_ := (Option.bind_some _ _).symm.trans H; rw [hy470]; with_reducible exact H2_) | (have H2_ := (Option.bind_some _ _).symm.trans H; with_reducible exact H2_) | with_reducible exact H | (rw [hy470]; exact H) | exact H
           have Ny470 := Aside0.mk hy470
           clear hy470
           have H' := Aside0.mk H
           clear H
           obtain ⟨Ao44, co44, eo44⟩ := Kd.R_slice HO_6.out
           subst eo44
           have p468 : 0 ≤ (x7_1 : Int) := of_decide_eq_true (by first | (with_reducible assumption) | assumption)
           have q468 : x7_1 < (x6_1.length : Int) := of_decide_eq_true (by first | (with_reducible assumption) | assumption)
           obtain ⟨ad468, e468, hx468_0⟩ := Kd.at_int (Kd.R_reads' HO_6.out).2.2 x7_1 p468 q468
           cases e468
           replace p468 := eq_true p468
           replace q468 := eq_true q468
           go_wp2_with (first | ((with_reducible refine gate_callee (f := 104) rfl ?_); refine goesL_ (some 56) rfl rfl Try.func104 (by kernel_rfl) rfl #[.int .i64 (rd x6_1 x7_1)] rfl (by (try simp only [List.map_toArray, List.map_cons, List.map_nil]); first | done | rfl | (simp only [List.length_drop, List.length_take]; rfl)) ?_; (with_reducible refine (impl_TurnCard.calls (rd x6_1 x7_1) t469 _ A42.out).mono ?_); rintro e w' ⟨rfl, ⟨nd, rfl⟩⟩; refine ⟨_, rfl, ?_⟩; (try (rw [drewN_self wr]; generalize hq_ : World.drewN wr _ = wr; have n0_ : Aside0 (Kd.R (Kd.int .i64) 3 wr w.heap.size (fun k_ => (w.heap.size ≤ k_)) (.slice (some ad468) x6_1.length co44) x6_1) := ⟨by rw [← hq_]; exact (rx_ HO_6)⟩; have n1_ : Aside0 (wr.heap[gb427]? = some (.cells #[.int .i64 a1_0, .int .i64 a1_1] 71 (0, 0))) := ⟨by rw [← hq_]; exact (by (with_reducible repeat (first | refine blk_drewN ?_ _ | refine blk_drew ?_ | refine blk_alloc ?_ _)); exact BK427.out)⟩; have n2_ : Aside0 (Below w.heap.size w wr) := ⟨by rw [← hq_]; exact (by repeat (first | (with_reducible first | exact HB.out | apply below_alloc | apply pw_below_drewN | apply below_drew1 | refine below_set ?_ GE427.out) | exact HB.out))⟩; clear HO_6 BK427 HB hq_; have HO_6 := n0_; have BK427 := n1_; have HB := n2_; clear n0_ n1_ n2_)); have p43 : 0 ≤ (x7_1 : Int) := of_decide_eq_true (by first | (with_reducible assumption) | assumption); have q43 : (x7_1 : Int) < ((x6_1.length : Int) : Int) := of_decide_eq_true (by first | (with_reducible assumption) | assumption); obtain ⟨go43, co43, eo43, gb43, gl43, cl43, HG43⟩ := Kd.R_form HO_6.out (by omega); (first | cases eo43 | (injection eo43 with ea_ en_ ec_; (first | subst ea_ | (injection ea_ with ea_; subst ea_)); subst ec_; clear en_)); have GB43 := Aside0.mk gb43; have GG43 := Aside0.mk HG43; clear gb43 gl43 HG43; (first | simp only [add_plain] at hx468_0 | skip); obtain ⟨hx43_0, hf43_0⟩ := Kd.R_celln 0 HO_6.out (x7_1 : Int) p43 q43; replace p43 := eq_true p43; replace q43 := eq_true q43; obtain ⟨hy45_, hz45_⟩ := Kd.R_celln 0 HO_6.out (x7_1 : Int) (of_decide_eq_true (by first | (with_reducible assumption) | assumption)) (of_decide_eq_true (by first | (with_reducible assumption) | assumption)); have HP45 := Kd.R_putg HO_6.out (x7_1 : Int) t469) | ((with_reducible refine gate_store (t := 3) (p := 57) rfl ?_); refine store_event (t := 3) (p := 57) (v := ?vo_w46) (w1 := (wr.setCell ⟨go43, (x7_1 : Int).toNat, none⟩ (.int .i64 t469))) ?hg ?ho ?hn ?hr ?_; (case ho => rfl); (case hg => rfl); (case hn => rfl); (case hr => first | (go_simp; done) | (go_simp; rfl)); intro w46 hw; have hg : wr.grownBy w46 (some go43) := (by rw [hw]; exact HP45.2); have hp_ : Kd.R (Kd.int .i64) 3 w46 w.heap.size (fun k_ => (w.heap.size ≤ k_)) (.slice (some ⟨go43, 0, none⟩) x6_1.length co44) y470 := (by rw [hw, Ny470.out]; exact HP45.1); clear HP45; have n0_ := Aside0.mk (hp_); have n1_ := Aside0.mk (blk_grown (g := gb427) (o := .cells #[.int .i64 a1_0, .int .i64 a1_1] 71 (0, 0)) (by (with_reducible repeat (first | refine blk_drewN ?_ _ | refine blk_drew ?_ | refine blk_alloc ?_ _)); exact BK427.out) hg (Kd.R_ne HO_6.out BK427.out (by decide))); have n2_ := Aside0.mk ((by rw [hw]; exact below_set (HB.out) GB43.out : Below w.heap.size w w46)); clear HO_6; clear BK427; clear HB; have HO_6 := n0_; have BK427 := n1_; have HB := n2_; clear n0_ n1_ n2_; clear hg hw hp_))
           go_roundg k1
           case measure => have := HK1.out; omega
           case rel => exact ⟨(y470), (wrap64 (x7_1 + 1)), (by first | rfl | (simp; done) | (simp [*]; done)), H', ⟨by have := HK1.out; omega⟩, ⟨by (with_reducible repeat (first | apply Kd.R_alloc | apply Kd.R_drewN | apply Kd.R_drew)); exact HO_6.out⟩, ⟨by (with_reducible repeat (first | refine blk_drewN ?_ _ | refine blk_drew ?_ | refine blk_alloc ?_ _)); exact BK427.out⟩, ⟨by repeat (first | (with_reducible first | exact HB.out | apply below_alloc | apply pw_below_drewN | apply below_drew1 | refine below_set ?_ GE427.out) | exact HB.out)⟩⟩
          ·rw [if_neg c41] at H
           exact absurd H (by simp)
         ·rw [if_neg c40] at H
          exact absurd H (by simp)
        ·rw [if_neg c39] at H
         have c39b0 : decide (x7_1 < a1_1) = false := decide_eq_false c39
         clear c39
         obtain rfl := Option.some.inj H
         go_wp2
         go_ret
         exact ⟨_, by first | rfl | (simp [errW_none, errW_some] <;> rfl) | (simp [*, errW_none, errW_some] <;> rfl), by (with_reducible repeat (first | apply Kd.R_alloc | apply Kd.R_drewN | apply Kd.R_drew)); exact HO_6.out, by repeat (first | (with_reducible first | exact HB.out | apply below_alloc | apply pw_below_drewN | apply below_drew1 | refine below_set ?_ GE427.out) | exact HB.out)⟩
     ·rw [if_neg c23] at H
      exact absurd H (by simp)
    ·rw [if_neg c22] at H
     exact absurd H (by simp)
   ·rw [if_neg c21] at H
    have c21b0 : (a1_0 == 3) = false := beq_eq_false_iff_ne.mpr c21
    have c21b1 : (a1_0 != 3) = true := bne_iff_ne.mpr c21
    by_cases c47 : a1_0 = 4
    ·rw [if_pos c47] at H
     exact absurd H (by simp)
    ·rw [if_neg c47] at H
     have c47b0 : (a1_0 == 4) = false := beq_eq_false_iff_ne.mpr c47
     have c47b1 : (a1_0 != 4) = true := bne_iff_ne.mpr c47
     by_cases c48 : a1_0 = 5
     ·rw [if_pos c48] at H
      exact absurd H (by simp)
     ·rw [if_neg c48] at H
      have c48b0 : (a1_0 == 5) = false := beq_eq_false_iff_ne.mpr c48
      have c48b1 : (a1_0 != 5) = true := bne_iff_ne.mpr c48
      by_cases c49 : a1_0 = 6
      ·rw [if_pos c49] at H
       exact absurd H (by simp)
      ·rw [if_neg c49] at H
       have c49b0 : (a1_0 == 6) = false := beq_eq_false_iff_ne.mpr c49
       have c49b1 : (a1_0 != 6) = true := bne_iff_ne.mpr c49
       by_cases c50 : a1_0 = 7
       ·rw [if_pos c50] at H
        exact absurd H (by simp)
       ·rw [if_neg c50] at H
        have c50b0 : (a1_0 == 7) = false := beq_eq_false_iff_ne.mpr c50
        have c50b1 : (a1_0 != 7) = true := bne_iff_ne.mpr c50
        by_cases c51 : a1_0 = 8
        ·rw [if_pos c51] at H
         exact absurd H (by simp)
        ·rw [if_neg c51] at H
         have c51b0 : (a1_0 == 8) = false := beq_eq_false_iff_ne.mpr c51
         have c51b1 : (a1_0 != 8) = true := bne_iff_ne.mpr c51
         exact absurd H (by simp)

/-! ### impl_cuts: function 89 -/
def impl_cuts.l0 : Nat → List Int → List (List Int) → Int → Int → Option ((List (List Int)))
 | 0, _, _, _, _ => none
 | k + 1, x0, x3, x6, x7 => if x7 < x6 then ((impl_moved.f k x0 1 x7).bind fun t471 => (if x3.length < 5864062014805 then (impl_cuts.l0 k x0 (x3 ++ [t471]) x6 (wrap64 (x7 + 1))) else (none))) else (some x3)
def impl_cuts.f (k : Nat) (l0 : List Int) : Option ((List (List Int))) := impl_cuts.l0 k l0 ([] : List (List Int)) (l0.length : Int) 0
theorem impl_cuts.mono_l : ∀ k, (∀ y0 y1 y2 y3, LeO (impl_cuts.l0 k y0 y1 y2 y3) (impl_cuts.l0 (k + 1) y0 y1 y2 y3))
 | 0 => fun _ _ _ _ r h => by simp [impl_cuts.l0] at h
 | k + 1 => by
  have ih0 := impl_cuts.mono_l k
  ·intro y0 y1 y2 y3
   unfold impl_cuts.l0
   repeat' first
   | (with_reducible exact ih0 _ _ _ _)
   | (with_reducible exact impl_moved.mono _ _ _ _)
   | (with_reducible exact LeO.refl _)
   | (with_reducible exact LeO.none _)
   | (with_reducible refine LeO.ite ?_ ?_)
   | (with_reducible refine LeO.bind ?_ (fun _ => ?_))
theorem impl_cuts.mono : ∀ a0 k, LeO (impl_cuts.f k a0) (impl_cuts.f (k + 1) a0) := by
 intro a0 k
 have ih0 := impl_cuts.mono_l k
 unfold impl_cuts.f
 repeat' first
   | (with_reducible exact ih0 _ _ _ _)
   | (with_reducible exact impl_moved.mono _ _ _ _)
   | (with_reducible exact LeO.refl _)
   | (with_reducible exact LeO.none _)
   | (with_reducible refine LeO.ite ?_ ?_)
   | (with_reducible refine LeO.bind ?_ (fun _ => ?_))
set_option maxHeartbeats 8000000 in
set_option maxRecDepth 100000 in
theorem impl_cuts.calls (k : Nat) (A0 : Option Addr) (c0 : Nat) (l0 : List Int) (r : List (List Int)) (w : World) (hr0 : Kd.C (Kd.int .i64) w A0 l0.length l0) (hc0 : l0.length ≤ c0) (h : impl_cuts.f k l0 = some r) :
  Calls Try.prog 89 #[.slice A0 l0.length c0] w fun e w' => ∃ v0_ : Value, e = .returned (v0_) ∧ Kd.S (Kd.slice 3 (Kd.int .i64)) 22 w' w.heap.size (fun _ => True) v0_ r ∧ Below w.heap.size w w' := by
 have hu71 := Try.underlying71
 have HR0 := Aside0.mk hr0
 have HC0 := Aside0.mk hc0
 clear hr0 hc0
 have HB := Aside0.mk (Below.refl w.heap.size w)
 have H : (impl_cuts.l0 k l0 ([] : List (List Int)) (l0.length : Int) 0) = some r := h
 clear h
 have H' := Aside0.mk H
 clear H
 go_enter Try.func89, Try.ntmps89
 go_wp2
 go_loopg [3, 7] k (fun kq v3 v7 w' => ∃ (x3_1 : List (List Int)) (x7_1 : Int), v7 = .int .i64 x7_1 ∧ Aside0 (impl_cuts.l0 kq l0 x3_1 (l0.length : Int) x7_1 = some r) ∧ Aside0 (kq ≤ k) ∧ Aside0 (Kd.S (Kd.slice 3 (Kd.int .i64)) 22 w' w.heap.size (fun _ => True) v3 x3_1) ∧ Aside0 (Below w.heap.size w w'))
 case atStart => exact ⟨(([] : List (List Int))), (0), (by first | rfl | (simp; done) | (simp [*]; done)), H', ⟨Nat.le_refl _⟩, ⟨by first | exact Kd.S_nil _ _ _ _ _ | exact Kd.N_nil _ _ _ _ _ | exact Kd.V_nil _ _ _ _ _ | exact Kd.Q_nil _ _ _ _ _ | exact Kd.R_nil _ _ _ _ _⟩, ⟨by repeat (first | (with_reducible first | exact HB.out | apply below_alloc | apply pw_below_drewN | apply below_drew1) | exact HB.out)⟩⟩
 case round =>
  clear H'
  obtain ⟨x3_1, x7_1, rfl, HA, HK1, HO_3, HB⟩ := hrel
  cases gk with
  | zero => exact absurd HA.out (by simp [impl_cuts.l0])
  | succ k1 =>
   have H := HA.out
   clear HA
   simp only [impl_cuts.l0] at H
   by_cases c2 : x7_1 < (l0.length : Int)
   ·rw [if_pos c2] at H
    have c2b0 : decide (x7_1 < (l0.length : Int)) = true := decide_eq_true c2
    clear c2
    replace H := Option.bind_eq_some_iff.mp H
    obtain ⟨t471, A30, H⟩ := H
    replace H : (if x3_1.length < 5864062014805 then (impl_cuts.l0 k1 l0 (x3_1 ++ [t471]) (l0.length : Int) (wrap64 (x7_1 + 1))) else (none)) = some r := H
    have A3 := Aside0.mk A30
    clear A30
    by_cases c4 : x3_1.length < 5864062014805
    ·rw [if_pos c4] at H
     have LMc4 := Aside0.mk c4
     clear c4
     obtain ⟨y474, hy474⟩ : ∃ y_ : List (List Int), y_ = (x3_1 ++ [t471]) := ⟨_, rfl⟩
     replace H : (impl_cuts.l0 k1 l0 y474 (l0.length : Int) (wrap64 (x7_1 + 1))) = some r := by first | (rw [hy474]; with_reducible exact H) | (have H2_ := (Option.bind_some _ _).symm.trans H; rw [hy474]; with_reducible exact H2_) | (have H2_ := (Option.bind_some _ _).symm.trans H; with_reducible exact H2_) | with_reducible exact H | (rw [hy474]; exact H) | exact H
     have Ny474 := Aside0.mk hy474
     clear hy474
     have H' := Aside0.mk H
     clear H
     go_wp2_with (first | ((with_reducible refine gate_callee (f := 91) rfl ?_); refine goesL_ (some 14) rfl rfl Try.func91 (by kernel_rfl) rfl #[.slice A0 l0.length c0, .agg #[.int .i64 1, .int .i64 x7_1]] rfl (by (try simp only [List.map_toArray, List.map_cons, List.map_nil]); first | done | rfl | (simp only [List.length_drop, List.length_take]; rfl)) ?_; (with_reducible refine (impl_moved.calls k1 (fun k_ => k_ < w.heap.size) _ _ l0 1 x7_1 t471 _ ?side1 A3.out).mono ?_); (case side1 => exact Kd.V_mk HC0.out (Kd.F_below (Kd.C_F (Kd.heap_int .i64) HR0.out) bl_)); rintro e w5 ⟨v472, rfl, ho0, hb⟩; refine ⟨_, rfl, ?_⟩; have n0_ := Aside0.mk (Kd.S_elder' (sx_ HO_3) (Kd.R_base ho0) hb); have n1_ := Aside0.mk (Kd.R_lower (Kd.R_mono (ok' := fun k_ => True) ho0 (fun _ hk_ => trivial)) (below_size bl_)); have n2_ := Aside0.mk (below_step bl_ hb); clear HO_3; clear HB; have HO_3 := n0_; have HO473 := n1_; have HB := n2_; clear n0_ n1_ n2_; (try clear hb); (try clear ho0); obtain ⟨Ao7, co7, eo7⟩ := Kd.R_slice HO473.out; subst eo7) | ((with_reducible refine gate_builtin (b := .append) (xs := #[.tmp 10, .tmp 15]) rfl ?_); at_builtin; refine Kd.S_append (Kd.slice 3 (Kd.int .i64)) (w0 := w) w.heap.size rfl (.tmp 10) (.tmp 15) 33 22 (.slice none 0 0) 24 rfl Try.underlying33 info22 rfl (by decide) (by omega) u3 x3_1 t471 [.slice Ao7 t471.length co7] (fun _ => True) (fun k_ => some k_ = (.slice Ao7 t471.length co7 : Value).ownBlock) rfl rfl ?aP (fun k_ hk_ => ((Kd.R_mono (ok' := fun k_ => ((fun _ => True)) k_ ∧ some k_ ≠ (u3 : Value).ownBlock) (Kd.R_apart' (HO473.out) (Kd.S_typed HO_3.out) (by decide)) (fun k_ hk => ⟨trivial, hk.2⟩))).1 k_ hk_.symm) ?aF ?aO ?aB ?aS ?aL ?_; (case aP => exact Kd.M_row (Kd.R_mono (Kd.R_tight rfl (Kd.R_mono (ok' := fun k_ => ((fun _ => True)) k_ ∧ some k_ ≠ (u3 : Value).ownBlock) (Kd.R_apart' (HO473.out) (Kd.S_typed HO_3.out) (by decide)) (fun k_ hk => ⟨trivial, hk.2⟩))) (fun _ h_ => h_))); (case aB => exact bl_); (case aF => exact (fun _ _ => trivial)); (case aO => exact (by (with_reducible repeat (first | apply Kd.S_alloc | apply Kd.S_drewN | apply Kd.S_drew)); exact Kd.S_mono HO_3.out (fun k_ hk => ⟨trivial, fun e_ => hk.2 e_⟩))); (case aS => exact (below_size bl_)); (case aL => have := LMc4.out; omega); intro v475 w6 ho hb hg hat; rw [← Ny474.out] at ho; have n0_ := Aside0.mk (hb); have n1_ := Aside0.mk (ho); clear HB; clear HO_3; clear HO473; have HB := n0_; have HO476 := n1_; clear n0_ n1_; clear ho hb hg hat))
     go_roundg k1
     case measure => have := HK1.out; omega
     case rel => exact ⟨(y474), (wrap64 (x7_1 + 1)), (by first | rfl | (simp; done) | (simp [*]; done)), H', ⟨by have := HK1.out; omega⟩, ⟨by (with_reducible repeat (first | apply Kd.S_alloc | apply Kd.S_drewN | apply Kd.S_drew)); exact HO476.out⟩, ⟨by repeat (first | (with_reducible first | exact HB.out | apply below_alloc | apply pw_below_drewN | apply below_drew1) | exact HB.out)⟩⟩
    ·rw [if_neg c4] at H
     exact absurd H (by simp)
   ·rw [if_neg c2] at H
    have c2b0 : decide (x7_1 < (l0.length : Int)) = false := decide_eq_false c2
    clear c2
    obtain rfl := Option.some.inj H
    go_wp2
    go_ret
    exact ⟨_, by first | rfl | (simp [errW_none, errW_some] <;> rfl) | (simp [*, errW_none, errW_some] <;> rfl), by (with_reducible repeat (first | apply Kd.S_alloc | apply Kd.S_drewN | apply Kd.S_drew)); exact HO_3.out, by repeat (first | (with_reducible first | exact HB.out | apply below_alloc | apply pw_below_drewN | apply below_drew1) | exact HB.out)⟩

end Go.Proofs.Ytdgoeomelnlekaa.MFnRiffles
