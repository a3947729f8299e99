-- Written by this session's own program (wip/tools/myprint.py), over the kit's printer.
import Derived.Test.YtbghkcgglhoopaaMFnExactResultsAfterx0
import Derived.Test.YtbghkcgglhoopaaMFnExactResultsAfterx1
import Derived.Test.YtbghkcgglhoopaaMFnExactResultsAfterx2
import Derived.Test.YtbghkcgglhoopaaMFnExactResultsAfterx8
import Derived.Test.YtbghkcgglhoopaaMFnExactResultsAfterx9
import Derived.Test.YtbghkcgglhoopaaMFnExactResultsAfterx13
namespace Go.Proofs.Ytbghkcgglhoopaa.MFnExactResultsAfter
open Go.RowKit Go.Proofs.YtbghkcgglhoopaaW.PrintWords Go.Proofs.YtbghkcgglhoopaaW.PrintLast Go.Proofs.YtbghkcgglhoopaaW.PrintMore
attribute [local go_sem] max2_int min2_int max_two min_two max_three min_three max_four min_four   -- for this text's walks alone
set_option linter.unusedVariables false
set_option linter.unusedSimpArgs false

/-! ### impl_ResultsAfter: function 45 -/
def impl_ResultsAfter.l0 : Nat → Int → List (List Int) → List (List Int) → Int → Int → Option ((List (List Int)) × Bool)
 | 0, _, _, _, _, _ => none
 | k + 1, x1, x6, x11, x12, x13 => if x13 < x12 then (if 0 ≤ x13 then (if x13 < (x11.length : Int) then ((impl_ResultsOf.f k (rd_L1 x11 x13) x1).bind fun bt474 => (if bt474.2 = true then (if x6.length + bt474.1.length < 5864062014805 then ((some (x6 ++ bt474.1 : List (List Int))).bind fun y478 => (if (y478.length : Int) > 12000 then ((impl_SortPackets.f y478).bind fun t481 => (impl_ResultsAfter.l0 k x1 t481 x11 x12 (wrap64 (x13 + 1)))) else (impl_ResultsAfter.l0 k x1 y478 x11 x12 (wrap64 (x13 + 1))))) else (none)) else (some (([] : List (List Int)), false)))) else (none)) else (none)) else ((impl_SortPackets.f x6).bind fun t470 => (if (t470.length : Int) > 3000 then (some (([] : List (List Int)), false)) else (some (t470, true))))
def impl_ResultsAfter.f (k : Nat) (l0 : List (List Int)) (a1 : Int) : Option ((List (List Int)) × Bool) := impl_ResultsAfter.l0 k a1 ([] : List (List Int)) l0 (l0.length : Int) 0
theorem impl_ResultsAfter.mono_l : ∀ k, (∀ y0 y1 y2 y3 y4, LeO (impl_ResultsAfter.l0 k y0 y1 y2 y3 y4) (impl_ResultsAfter.l0 (k + 1) y0 y1 y2 y3 y4))
 | 0 => fun _ _ _ _ _ r h => by simp [impl_ResultsAfter.l0] at h
 | k + 1 => by
  have ih0 := impl_ResultsAfter.mono_l k
  ·intro y0 y1 y2 y3 y4
   unfold impl_ResultsAfter.l0
   repeat' first
   | (with_reducible exact ih0 _ _ _ _ _)
   | (with_reducible exact impl_ResultsOf.mono _ _ _)
   | (with_reducible exact LeO.refl _)
   | (with_reducible exact LeO.none _)
   | (with_reducible refine LeO.ite ?_ ?_)
   | (with_reducible refine LeO.bind ?_ (fun _ => ?_))
theorem impl_ResultsAfter.mono : ∀ a0 a1 k, LeO (impl_ResultsAfter.f k a0 a1) (impl_ResultsAfter.f (k + 1) a0 a1) := by
 intro a0 a1 k
 have ih0 := impl_ResultsAfter.mono_l k
 unfold impl_ResultsAfter.f
 repeat' first
   | (with_reducible exact ih0 _ _ _ _ _)
   | (with_reducible exact impl_ResultsOf.mono _ _ _)
   | (with_reducible exact LeO.refl _)
   | (with_reducible exact LeO.none _)
   | (with_reducible refine LeO.ite ?_ ?_)
   | (with_reducible refine LeO.bind ?_ (fun _ => ?_))
set_option maxHeartbeats 8000000 in
set_option maxRecDepth 100000 in
theorem impl_ResultsAfter.calls (k : Nat) (A0 : Option Addr) (c0 : Nat) (l0 : List (List Int)) (a1 : Int) (r1 : List (List Int)) (r2 : Bool) (w : World) (hr0 : Kd.C (Kd.slice 3 (Kd.int .i64)) w A0 l0.length l0) (hc0 : l0.length ≤ c0) (h : impl_ResultsAfter.f k l0 a1 = some (r1, r2)) :
  Calls Try.prog 45 #[.slice A0 l0.length c0, .int .i64 a1] w fun e w' => ∃ v0_ : Value, e = .returned (.tuple #[v0_, .bool r2]) ∧ Kd.S (Kd.slice 3 (Kd.int .i64)) 22 w' w.heap.size (fun _ => True) v0_ r1 ∧ Below w.heap.size w w' := by
 have HR0 := Aside0.mk hr0
 have HC0 := Aside0.mk hc0
 clear hr0 hc0
 have HB := Aside0.mk (Below.refl w.heap.size w)
 have H : (impl_ResultsAfter.l0 k a1 ([] : List (List Int)) l0 (l0.length : Int) 0) = some (r1, r2) := h
 clear h
 have H' := Aside0.mk H
 clear H
 go_enter Try.func45, Try.ntmps45
 go_wp2
 go_loopg [6, 13] k (fun kq v6 v13 w' => ∃ (x6_1 : List (List Int)) (x13_1 : Int), v13 = .int .i64 x13_1 ∧ Aside0 (impl_ResultsAfter.l0 kq a1 x6_1 l0 (l0.length : Int) x13_1 = some (r1, r2)) ∧ Aside0 (kq ≤ k) ∧ Aside0 (Kd.N (Kd.slice 3 (Kd.int .i64)) 22 w' w.heap.size (fun k_ => (w.heap.size ≤ k_)) v6 x6_1) ∧ Aside0 (Below w.heap.size w w'))
 case atStart => exact ⟨(([] : List (List Int))), (0), (by first | rfl | (simp; done) | (simp [*]; done)), H', ⟨Nat.le_refl _⟩, ⟨by first | exact Kd.S_nil _ _ _ _ _ | exact Kd.N_nil _ _ _ _ _ | exact Kd.V_nil _ _ _ _ _ | exact Kd.Q_nil _ _ _ _ _ | exact Kd.R_nil _ _ _ _ _⟩, ⟨by repeat (first | (with_reducible first | exact HB.out | apply below_alloc | apply pw_below_drewN | apply below_drew1) | exact HB.out)⟩⟩
 case round =>
  clear H'
  try clear p2
  obtain ⟨x6_1, x13_1, rfl, HA, HK1, HO_6, HB⟩ := hrel
  cases gk with
  | zero => exact absurd HA.out (by simp [impl_ResultsAfter.l0])
  | succ k1 =>
   have H := HA.out
   clear HA
   simp only [impl_ResultsAfter.l0] at H
   by_cases c3 : x13_1 < (l0.length : Int)
   ·rw [if_pos c3] at H
    have c3b0 : decide (x13_1 < (l0.length : Int)) = true := decide_eq_true c3
    clear c3
    by_cases c4 : 0 ≤ x13_1
    ·rw [if_pos c4] at H
     have c4b0 : decide (0 ≤ x13_1) = true := decide_eq_true c4
     clear c4
     by_cases c5 : x13_1 < (l0.length : Int)
     ·rw [if_pos c5] at H
      have c5b0 : decide (x13_1 < (l0.length : Int)) = true := decide_eq_true c5
      clear c5
      replace H := Option.bind_eq_some_iff.mp H
      obtain ⟨⟨t474, t475⟩, A60, H⟩ := H
      replace H : (if t475 = true then (if x6_1.length + t474.length < 5864062014805 then ((some (x6_1 ++ t474 : List (List Int))).bind fun y478 => (if (y478.length : Int) > 12000 then ((impl_SortPackets.f y478).bind fun t481 => (impl_ResultsAfter.l0 k1 a1 t481 l0 (l0.length : Int) (wrap64 (x13_1 + 1)))) else (impl_ResultsAfter.l0 k1 a1 y478 l0 (l0.length : Int) (wrap64 (x13_1 + 1))))) else (none)) else (some (([] : List (List Int)), false))) = some (r1, r2) := H
      have A6 := Aside0.mk A60
      clear A60
      by_cases c7 : t475 = true
      ·subst c7
       rw [if_pos rfl] at H
       by_cases c8 : x6_1.length + t474.length < 5864062014805
       ·rw [if_pos c8] at H
        have LMc8 := Aside0.mk c8
        clear c8
        obtain ⟨y478, hy478⟩ : ∃ y_ : List (List Int), y_ = (x6_1 ++ t474) := ⟨_, rfl⟩
        replace H : (if (y478.length : Int) > 12000 then ((impl_SortPackets.f y478).bind fun t481 => (impl_ResultsAfter.l0 k1 a1 t481 l0 (l0.length : Int) (wrap64 (x13_1 + 1)))) else (impl_ResultsAfter.l0 k1 a1 y478 l0 (l0.length : Int) (wrap64 (x13_1 + 1)))) = some (r1, r2) := by first | (rw [hy478]; with_reducible exact H) | (have H2_ := (Option.bind_some _ _).symm.trans H; rw [hy478]; with_reducible exact H2_) | (have H2_ := (Option.bind_some _ _).symm.trans H; with_reducible exact H2_) | with_reducible exact H | (rw [hy478]; exact H) | exact H
        have Ny478 := Aside0.mk hy478
        clear hy478
        by_cases c9 : (y478.length : Int) > 12000
        ·rw [if_pos c9] at H
         have c9b0 : decide (12000 < (y478.length : Int)) = true := decide_eq_true c9
         have c9b1 : decide (12000 < y478.length) = true := decide_eq_true (by omega)
         clear c9
         replace H := Option.bind_eq_some_iff.mp H
         obtain ⟨t481, A100, H⟩ := H
         replace H : (impl_ResultsAfter.l0 k1 a1 t481 l0 (l0.length : Int) (wrap64 (x13_1 + 1))) = some (r1, r2) := H
         have A10 := Aside0.mk A100
         clear A100
         have H' := Aside0.mk H
         clear H
         have p473 : 0 ≤ (x13_1 : Int) := of_decide_eq_true (by first | (with_reducible assumption) | assumption)
         have q473 : x13_1 < (l0.length : Int) := of_decide_eq_true (by first | (with_reducible assumption) | assumption)
         obtain ⟨ad473, A473_0, c473_0, e473, hx473_0, hl473_0, hi473_0⟩ := at_L1 HR0.out x13_1 p473 q473
         cases e473
         replace hx473_0 := (HB.out.cell (World.block_lt_of_cell? w _ hx473_0)).trans hx473_0
         have HR473_0 := Aside0.mk hi473_0
         have HC473_0 := Aside0.mk hl473_0
         clear hi473_0 hl473_0
         replace p473 := eq_true p473
         replace q473 := eq_true q473
         go_wp2_with (first | ((with_reducible refine gate_callee (f := 35) rfl ?_); refine goesL_ (some 20) rfl rfl Try.func35 (by kernel_rfl) rfl #[.slice A473_0 (rd_L1 l0 x13_1).length c473_0, .int .i64 a1] rfl (by (try simp only [List.map_toArray, List.map_cons, List.map_nil]); first | done | rfl | (simp only [List.length_drop, List.length_take]; rfl)) ?_; (with_reducible refine (impl_ResultsOf.calls k1 _ _ (rd_L1 l0 x13_1) a1 t474 true _ ?side1 ?side2 A6.out).mono ?_); (case side1 => repeat (first | exact (Kd.C_below HR473_0.out HB.out) | (with_reducible first | refine Kd.C_alloc ?_ _ | refine Kd.C_drewN ?_ _ | refine Kd.C_drew ?_))); (case side2 => exact HC473_0.out); rintro e w11 ⟨v476, rfl, ho0, hb⟩; refine ⟨_, rfl, ?_⟩; have n0_ := Aside0.mk (Kd.N_elder' (by (with_reducible repeat (first | apply Kd.N_alloc | apply Kd.N_drewN | apply Kd.N_drew)); exact HO_6.out) (by first | exact Kd.N_base ho0 | exact Kd.S_base ho0) hb); have n1_ := Aside0.mk (Kd.N_lower (Kd.N_mono (ok' := fun k_ => (w.heap.size ≤ k_) ∧ some k_ ≠ (u6 : Value).ownBlock) (Kd.S_N (Kd.S_bound ho0)) (fun k_ hk_ => ⟨(Nat.le_trans (below_size (by repeat (first | exact HB.out | with_reducible first | apply below_alloc | apply pw_below_drewN | apply below_drew1))) hk_.2.1), (Kd.fresh' (Kd.N_lt (by (with_reducible repeat (first | apply Kd.N_alloc | apply Kd.N_drewN | apply Kd.N_drew)); exact HO_6.out)) k_ hk_.2.1)⟩)) (below_size (by repeat (first | exact HB.out | with_reducible first | apply below_alloc | apply pw_below_drewN | apply below_drew1)))); have n2_ := Aside0.mk (below_step (by repeat (first | exact HB.out | with_reducible first | apply below_alloc | apply pw_below_drewN | apply below_drew1)) hb); clear HO_6; clear HB; have HO_6 := n0_; have HO477 := n1_; have HB := n2_; clear n0_ n1_ n2_; (try clear hb); (try clear ho0); obtain ⟨Ao13, co13, eo13⟩ := Kd.N_slice HO477.out; subst eo13) | ((with_reducible refine gate_builtin (b := .append) (xs := #[.tmp 25, .tmp 26]) rfl ?_); at_builtin; refine Kd.N_append_rows (Kd.slice 3 (Kd.int .i64)) (w0 := w) w.heap.size rfl (.tmp 25) (.tmp 26) 43 22 (.slice none 0 0) 24 rfl Try.underlying43 info22 rfl (by decide) (by omega) u6 x6_1 t474 _ _ _ (fun k_ => (w.heap.size ≤ k_)) (fun k_ => ((fun k_ => (w.heap.size ≤ k_))) k_ ∧ some k_ ≠ (u6 : Value).ownBlock) rfl rfl ?aO ?aR (fun _ hk => hk) ?aF ?aB ?aS ?aL ?_; (case aR => exact (by skip; exact Kd.N_F (Kd.N_mono (ok' := (fun k_ => ((fun k_ => (w.heap.size ≤ k_))) k_ ∧ some k_ ≠ (u6 : Value).ownBlock)) (HO477.out) (fun k_ hk => ⟨hk.1, hk.2⟩)))); (case aB => exact (by repeat (first | exact HB.out | with_reducible first | apply below_alloc | apply pw_below_drewN | apply below_drew1))); (case aF => exact (fun k_ hk => (Nat.le_trans (below_size (by repeat (first | exact HB.out | with_reducible first | apply below_alloc | apply pw_below_drewN | apply below_drew1))) hk))); (case aO => exact (by (with_reducible repeat (first | apply Kd.N_alloc | apply Kd.N_drewN | apply Kd.N_drew)); exact Kd.N_mono HO_6.out (fun _ hk => hk.1))); (case aS => exact (below_size (by repeat (first | exact HB.out | with_reducible first | apply below_alloc | apply pw_below_drewN | apply below_drew1)))); (case aL => have := LMc8.out; omega); intro v479 w12 ho hb hg hat; rw [← Ny478.out] at ho; have n0_ := Aside0.mk (Kd.N_afterv (ok := (fun k_ => (w.heap.size ≤ k_))) (by (with_reducible repeat (first | apply Kd.N_alloc | apply Kd.N_drewN | apply Kd.N_drew)); exact HO477.out) hg hat); have n1_ := Aside0.mk (hb); have n2_ := Aside0.mk (ho); clear HO477; clear HB; clear HO_6; have HO477 := n0_; have HB := n1_; have HO480 := n2_; clear n0_ n1_ n2_; clear ho hb hg hat; obtain ⟨Ao14, co14, eo14⟩ := Kd.N_slice HO480.out; subst eo14) | ((with_reducible refine gate_callee (f := 30) rfl ?_); refine goesL_ (some 32) rfl rfl Try.func30 (by kernel_rfl) rfl #[.slice Ao14 y478.length co14] rfl (by (try simp only [List.map_toArray, List.map_cons, List.map_nil]); first | done | rfl | (simp only [List.length_drop, List.length_take]; rfl)) ?_; (with_reducible refine (impl_SortPackets.calls _ _ y478 t481 _ ?side1 ?side2 A10.out).mono ?_); (case side1 => repeat (first | exact (Kd.N_reads' HO480.out).2.2 | (with_reducible first | refine Kd.C_alloc ?_ _ | refine Kd.C_drewN ?_ _ | refine Kd.C_drew ?_))); (case side2 => exact (Kd.N_reads' HO480.out).2.1); rintro e w15 ⟨v482, rfl, ho0, hb⟩; refine ⟨_, rfl, ?_⟩; have n0_ := Aside0.mk (Kd.N_elder' (by (with_reducible repeat (first | apply Kd.N_alloc | apply Kd.N_drewN | apply Kd.N_drew)); exact HO477.out) (by first | exact Kd.N_base ho0 | exact Kd.S_base ho0) hb); have n1_ := Aside0.mk (Kd.N_elder' (by (with_reducible repeat (first | apply Kd.N_alloc | apply Kd.N_drewN | apply Kd.N_drew)); exact HO480.out) (by first | exact Kd.N_base ho0 | exact Kd.S_base ho0) hb); have n2_ := Aside0.mk (Kd.N_lower (Kd.N_mono (ok' := fun k_ => (w.heap.size ≤ k_) ∧ some k_ ≠ (.slice Ao13 t474.length co13 : Value).ownBlock ∧ some k_ ≠ (.slice Ao14 y478.length co14 : Value).ownBlock) (Kd.S_N (Kd.S_bound ho0)) (fun k_ hk_ => ⟨(Nat.le_trans (below_size (by repeat (first | exact HB.out | with_reducible first | apply below_alloc | apply pw_below_drewN | apply below_drew1))) hk_.2.1), (Kd.fresh' (Kd.N_lt (by (with_reducible repeat (first | apply Kd.N_alloc | apply Kd.N_drewN | apply Kd.N_drew)); exact HO477.out)) k_ hk_.2.1), (Kd.fresh' (Kd.N_lt (by (with_reducible repeat (first | apply Kd.N_alloc | apply Kd.N_drewN | apply Kd.N_drew)); exact HO480.out)) k_ hk_.2.1)⟩)) (below_size (by repeat (first | exact HB.out | with_reducible first | apply below_alloc | apply pw_below_drewN | apply below_drew1)))); have n3_ := Aside0.mk (below_step (by repeat (first | exact HB.out | with_reducible first | apply below_alloc | apply pw_below_drewN | apply below_drew1)) hb); clear HO477; clear HO480; clear HB; have HO477 := n0_; have HO480 := n1_; have HO483 := n2_; have HB := n3_; clear n0_ n1_ n2_ n3_; (try clear hb); (try clear ho0)))
         go_roundg k1
         case measure => have := HK1.out; omega
         case rel => exact ⟨(t481), (wrap64 (x13_1 + 1)), (by first | rfl | (simp; done) | (simp [*]; done)), H', ⟨by have := HK1.out; omega⟩, ⟨by (with_reducible repeat (first | apply Kd.N_alloc | apply Kd.N_drewN | apply Kd.N_drew)); exact Kd.N_mono HO483.out (fun _ hk => hk.1)⟩, ⟨by repeat (first | (with_reducible first | exact HB.out | apply below_alloc | apply pw_below_drewN | apply below_drew1) | exact HB.out)⟩⟩
        ·rw [if_neg c9] at H
         have c9b0 : decide (12000 < (y478.length : Int)) = false := decide_eq_false c9
         have c9b1 : decide (12000 < y478.length) = false := decide_eq_false (by omega)
         clear c9
         have H' := Aside0.mk H
         clear H
         have p473 : 0 ≤ (x13_1 : Int) := of_decide_eq_true (by first | (with_reducible assumption) | assumption)
         have q473 : x13_1 < (l0.length : Int) := of_decide_eq_true (by first | (with_reducible assumption) | assumption)
         obtain ⟨ad473, A473_0, c473_0, e473, hx473_0, hl473_0, hi473_0⟩ := at_L1 HR0.out x13_1 p473 q473
         cases e473
         replace hx473_0 := (HB.out.cell (World.block_lt_of_cell? w _ hx473_0)).trans hx473_0
         have HR473_0 := Aside0.mk hi473_0
         have HC473_0 := Aside0.mk hl473_0
         clear hi473_0 hl473_0
         replace p473 := eq_true p473
         replace q473 := eq_true q473
         go_wp2_with (first | ((with_reducible refine gate_callee (f := 35) rfl ?_); refine goesL_ (some 20) rfl rfl Try.func35 (by kernel_rfl) rfl #[.slice A473_0 (rd_L1 l0 x13_1).length c473_0, .int .i64 a1] rfl (by (try simp only [List.map_toArray, List.map_cons, List.map_nil]); first | done | rfl | (simp only [List.length_drop, List.length_take]; rfl)) ?_; (with_reducible refine (impl_ResultsOf.calls k1 _ _ (rd_L1 l0 x13_1) a1 t474 true _ ?side1 ?side2 A6.out).mono ?_); (case side1 => repeat (first | exact (Kd.C_below HR473_0.out HB.out) | (with_reducible first | refine Kd.C_alloc ?_ _ | refine Kd.C_drewN ?_ _ | refine Kd.C_drew ?_))); (case side2 => exact HC473_0.out); rintro e w16 ⟨v476, rfl, ho0, hb⟩; refine ⟨_, rfl, ?_⟩; have n0_ := Aside0.mk (Kd.N_elder' (by (with_reducible repeat (first | apply Kd.N_alloc | apply Kd.N_drewN | apply Kd.N_drew)); exact HO_6.out) (by first | exact Kd.N_base ho0 | exact Kd.S_base ho0) hb); have n1_ := Aside0.mk (Kd.N_lower (Kd.N_mono (ok' := fun k_ => (w.heap.size ≤ k_) ∧ some k_ ≠ (u6 : Value).ownBlock) (Kd.S_N (Kd.S_bound ho0)) (fun k_ hk_ => ⟨(Nat.le_trans (below_size (by repeat (first | exact HB.out | with_reducible first | apply below_alloc | apply pw_below_drewN | apply below_drew1))) hk_.2.1), (Kd.fresh' (Kd.N_lt (by (with_reducible repeat (first | apply Kd.N_alloc | apply Kd.N_drewN | apply Kd.N_drew)); exact HO_6.out)) k_ hk_.2.1)⟩)) (below_size (by repeat (first | exact HB.out | with_reducible first | apply below_alloc | apply pw_below_drewN | apply below_drew1)))); have n2_ := Aside0.mk (below_step (by repeat (first | exact HB.out | with_reducible first | apply below_alloc | apply pw_below_drewN | apply below_drew1)) hb); clear HO_6; clear HB; have HO_6 := n0_; have HO477 := n1_; have HB := n2_; clear n0_ n1_ n2_; (try clear hb); (try clear ho0); obtain ⟨Ao18, co18, eo18⟩ := Kd.N_slice HO477.out; subst eo18) | ((with_reducible refine gate_builtin (b := .append) (xs := #[.tmp 25, .tmp 26]) rfl ?_); at_builtin; refine Kd.N_append_rows (Kd.slice 3 (Kd.int .i64)) (w0 := w) w.heap.size rfl (.tmp 25) (.tmp 26) 43 22 (.slice none 0 0) 24 rfl Try.underlying43 info22 rfl (by decide) (by omega) u6 x6_1 t474 _ _ _ (fun k_ => (w.heap.size ≤ k_)) (fun k_ => ((fun k_ => (w.heap.size ≤ k_))) k_ ∧ some k_ ≠ (u6 : Value).ownBlock) rfl rfl ?aO ?aR (fun _ hk => hk) ?aF ?aB ?aS ?aL ?_; (case aR => exact (by skip; exact Kd.N_F (Kd.N_mono (ok' := (fun k_ => ((fun k_ => (w.heap.size ≤ k_))) k_ ∧ some k_ ≠ (u6 : Value).ownBlock)) (HO477.out) (fun k_ hk => ⟨hk.1, hk.2⟩)))); (case aB => exact (by repeat (first | exact HB.out | with_reducible first | apply below_alloc | apply pw_below_drewN | apply below_drew1))); (case aF => exact (fun k_ hk => (Nat.le_trans (below_size (by repeat (first | exact HB.out | with_reducible first | apply below_alloc | apply pw_below_drewN | apply below_drew1))) hk))); (case aO => exact (by (with_reducible repeat (first | apply Kd.N_alloc | apply Kd.N_drewN | apply Kd.N_drew)); exact Kd.N_mono HO_6.out (fun _ hk => hk.1))); (case aS => exact (below_size (by repeat (first | exact HB.out | with_reducible first | apply below_alloc | apply pw_below_drewN | apply below_drew1)))); (case aL => have := LMc8.out; omega); intro v479 w17 ho hb hg hat; rw [← Ny478.out] at ho; have n0_ := Aside0.mk (Kd.N_afterv (ok := (fun k_ => (w.heap.size ≤ k_))) (by (with_reducible repeat (first | apply Kd.N_alloc | apply Kd.N_drewN | apply Kd.N_drew)); exact HO477.out) hg hat); have n1_ := Aside0.mk (hb); have n2_ := Aside0.mk (ho); clear HO477; clear HB; clear HO_6; have HO477 := n0_; have HB := n1_; have HO480 := n2_; clear n0_ n1_ n2_; clear ho hb hg hat; obtain ⟨Ao19, co19, eo19⟩ := Kd.N_slice HO480.out; subst eo19))
         go_roundg k1
         case measure => have := HK1.out; omega
         case rel => exact ⟨(y478), (wrap64 (x13_1 + 1)), (by first | rfl | (simp; done) | (simp [*]; done)), H', ⟨by have := HK1.out; omega⟩, ⟨by (with_reducible repeat (first | apply Kd.N_alloc | apply Kd.N_drewN | apply Kd.N_drew)); exact HO480.out⟩, ⟨by repeat (first | (with_reducible first | exact HB.out | apply below_alloc | apply pw_below_drewN | apply below_drew1) | exact HB.out)⟩⟩
       ·rw [if_neg c8] at H
        exact absurd H (by simp)
      ·replace c7 := Bool.eq_false_iff.mpr c7
       subst c7
       rw [if_neg (show ¬ (false = true) by decide)] at H
       simp only [Option.some.injEq, Prod.mk.injEq] at H
       obtain ⟨rfl, rfl⟩ := H
       have p473 : 0 ≤ (x13_1 : Int) := of_decide_eq_true (by first | (with_reducible assumption) | assumption)
       have q473 : x13_1 < (l0.length : Int) := of_decide_eq_true (by first | (with_reducible assumption) | assumption)
       obtain ⟨ad473, A473_0, c473_0, e473, hx473_0, hl473_0, hi473_0⟩ := at_L1 HR0.out x13_1 p473 q473
       cases e473
       replace hx473_0 := (HB.out.cell (World.block_lt_of_cell? w _ hx473_0)).trans hx473_0
       have HR473_0 := Aside0.mk hi473_0
       have HC473_0 := Aside0.mk hl473_0
       clear hi473_0 hl473_0
       replace p473 := eq_true p473
       replace q473 := eq_true q473
       go_wp2_with (first | ((with_reducible refine gate_callee (f := 35) rfl ?_); refine goesL_ (some 20) rfl rfl Try.func35 (by kernel_rfl) rfl #[.slice A473_0 (rd_L1 l0 x13_1).length c473_0, .int .i64 a1] rfl (by (try simp only [List.map_toArray, List.map_cons, List.map_nil]); first | done | rfl | (simp only [List.length_drop, List.length_take]; rfl)) ?_; (with_reducible refine (impl_ResultsOf.calls k1 _ _ (rd_L1 l0 x13_1) a1 t474 false _ ?side1 ?side2 A6.out).mono ?_); (case side1 => repeat (first | exact (Kd.C_below HR473_0.out HB.out) | (with_reducible first | refine Kd.C_alloc ?_ _ | refine Kd.C_drewN ?_ _ | refine Kd.C_drew ?_))); (case side2 => exact HC473_0.out); rintro e w20 ⟨v476, rfl, ho0, hb⟩; refine ⟨_, rfl, ?_⟩; have n0_ := Aside0.mk (Kd.N_elder' (by (with_reducible repeat (first | apply Kd.N_alloc | apply Kd.N_drewN | apply Kd.N_drew)); exact HO_6.out) (by first | exact Kd.N_base ho0 | exact Kd.S_base ho0) hb); have n1_ := Aside0.mk (Kd.N_lower (Kd.N_mono (ok' := fun k_ => (w.heap.size ≤ k_) ∧ some k_ ≠ (u6 : Value).ownBlock) (Kd.S_N (Kd.S_bound ho0)) (fun k_ hk_ => ⟨(Nat.le_trans (below_size (by repeat (first | exact HB.out | with_reducible first | apply below_alloc | apply pw_below_drewN | apply below_drew1))) hk_.2.1), (Kd.fresh' (Kd.N_lt (by (with_reducible repeat (first | apply Kd.N_alloc | apply Kd.N_drewN | apply Kd.N_drew)); exact HO_6.out)) k_ hk_.2.1)⟩)) (below_size (by repeat (first | exact HB.out | with_reducible first | apply below_alloc | apply pw_below_drewN | apply below_drew1)))); have n2_ := Aside0.mk (below_step (by repeat (first | exact HB.out | with_reducible first | apply below_alloc | apply pw_below_drewN | apply below_drew1)) hb); clear HO_6; clear HB; have HO_6 := n0_; have HO477 := n1_; have HB := n2_; clear n0_ n1_ n2_; (try clear hb); (try clear ho0)))
       go_ret2
       exact ⟨_, by first | rfl | (simp [errW_none, errW_some] <;> rfl) | (simp [*, errW_none, errW_some] <;> rfl), by first | exact Kd.S_nil _ _ _ _ _ | exact Kd.N_nil _ _ _ _ _ | exact Kd.V_nil _ _ _ _ _ | exact Kd.Q_nil _ _ _ _ _ | exact Kd.R_nil _ _ _ _ _, by repeat (first | (with_reducible first | exact HB.out | apply below_alloc | apply pw_below_drewN | apply below_drew1) | exact HB.out)⟩
     ·rw [if_neg c5] at H
      exact absurd H (by simp)
    ·rw [if_neg c4] at H
     exact absurd H (by simp)
   ·rw [if_neg c3] at H
    have c3b0 : decide (x13_1 < (l0.length : Int)) = false := decide_eq_false c3
    clear c3
    replace H := Option.bind_eq_some_iff.mp H
    obtain ⟨t470, A210, H⟩ := H
    replace H : (if (t470.length : Int) > 3000 then (some (([] : List (List Int)), false)) else (some (t470, true))) = some (r1, r2) := H
    have A21 := Aside0.mk A210
    clear A210
    by_cases c22 : (t470.length : Int) > 3000
    ·rw [if_pos c22] at H
     have c22b0 : decide (3000 < (t470.length : Int)) = true := decide_eq_true c22
     have c22b1 : decide (3000 < t470.length) = true := decide_eq_true (by omega)
     clear c22
     simp only [Option.some.injEq, Prod.mk.injEq] at H
     obtain ⟨rfl, rfl⟩ := H
     obtain ⟨Ao23, co23, eo23⟩ := Kd.N_slice HO_6.out
     subst eo23
     go_wp2_with (first | ((with_reducible refine gate_callee (f := 30) rfl ?_); refine goesL_ (some 35) rfl rfl Try.func30 (by kernel_rfl) rfl #[.slice Ao23 x6_1.length co23] rfl (by (try simp only [List.map_toArray, List.map_cons, List.map_nil]); first | done | rfl | (simp only [List.length_drop, List.length_take]; rfl)) ?_; (with_reducible refine (impl_SortPackets.calls _ _ x6_1 t470 _ ?side1 ?side2 A21.out).mono ?_); (case side1 => repeat (first | exact (Kd.N_reads' HO_6.out).2.2 | (with_reducible first | refine Kd.C_alloc ?_ _ | refine Kd.C_drewN ?_ _ | refine Kd.C_drew ?_))); (case side2 => exact (Kd.N_reads' HO_6.out).2.1); rintro e w24 ⟨v471, rfl, ho0, hb⟩; refine ⟨_, rfl, ?_⟩; have n0_ := Aside0.mk (Kd.N_elder' (by (with_reducible repeat (first | apply Kd.N_alloc | apply Kd.N_drewN | apply Kd.N_drew)); exact HO_6.out) (by first | exact Kd.N_base ho0 | exact Kd.S_base ho0) hb); have n1_ := Aside0.mk (Kd.N_lower (Kd.N_mono (ok' := fun k_ => (w.heap.size ≤ k_) ∧ some k_ ≠ (.slice Ao23 x6_1.length co23 : Value).ownBlock) (Kd.S_N (Kd.S_bound ho0)) (fun k_ hk_ => ⟨(Nat.le_trans (below_size (by repeat (first | exact HB.out | with_reducible first | apply below_alloc | apply pw_below_drewN | apply below_drew1))) hk_.2.1), (Kd.fresh' (Kd.N_lt (by (with_reducible repeat (first | apply Kd.N_alloc | apply Kd.N_drewN | apply Kd.N_drew)); exact HO_6.out)) k_ hk_.2.1)⟩)) (below_size (by repeat (first | exact HB.out | with_reducible first | apply below_alloc | apply pw_below_drewN | apply below_drew1)))); have n2_ := Aside0.mk (below_step (by repeat (first | exact HB.out | with_reducible first | apply below_alloc | apply pw_below_drewN | apply below_drew1)) hb); clear HO_6; clear HB; have HO_6 := n0_; have HO472 := n1_; have HB := n2_; clear n0_ n1_ n2_; (try clear hb); (try clear ho0); obtain ⟨Ao25, co25, eo25⟩ := Kd.N_slice HO472.out; subst eo25))
     go_ret2
     exact ⟨_, by first | rfl | (simp [errW_none, errW_some] <;> rfl) | (simp [*, errW_none, errW_some] <;> rfl), by first | exact Kd.S_nil _ _ _ _ _ | exact Kd.N_nil _ _ _ _ _ | exact Kd.V_nil _ _ _ _ _ | exact Kd.Q_nil _ _ _ _ _ | exact Kd.R_nil _ _ _ _ _, by repeat (first | (with_reducible first | exact HB.out | apply below_alloc | apply pw_below_drewN | apply below_drew1) | exact HB.out)⟩
    ·rw [if_neg c22] at H
     have c22b0 : decide (3000 < (t470.length : Int)) = false := decide_eq_false c22
     have c22b1 : decide (3000 < t470.length) = false := decide_eq_false (by omega)
     clear c22
     simp only [Option.some.injEq, Prod.mk.injEq] at H
     obtain ⟨rfl, rfl⟩ := H
     obtain ⟨Ao26, co26, eo26⟩ := Kd.N_slice HO_6.out
     subst eo26
     go_wp2_with (first | ((with_reducible refine gate_callee (f := 30) rfl ?_); refine goesL_ (some 35) rfl rfl Try.func30 (by kernel_rfl) rfl #[.slice Ao26 x6_1.length co26] rfl (by (try simp only [List.map_toArray, List.map_cons, List.map_nil]); first | done | rfl | (simp only [List.length_drop, List.length_take]; rfl)) ?_; (with_reducible refine (impl_SortPackets.calls _ _ x6_1 t470 _ ?side1 ?side2 A21.out).mono ?_); (case side1 => repeat (first | exact (Kd.N_reads' HO_6.out).2.2 | (with_reducible first | refine Kd.C_alloc ?_ _ | refine Kd.C_drewN ?_ _ | refine Kd.C_drew ?_))); (case side2 => exact (Kd.N_reads' HO_6.out).2.1); rintro e w27 ⟨v471, rfl, ho0, hb⟩; refine ⟨_, rfl, ?_⟩; have HSX_ := Aside0.mk (Kd.S_lower ho0 (below_size (by repeat (first | exact HB.out | with_reducible first | apply below_alloc | apply pw_below_drewN | apply below_drew1)))); have n0_ := Aside0.mk (Kd.N_elder' (by (with_reducible repeat (first | apply Kd.N_alloc | apply Kd.N_drewN | apply Kd.N_drew)); exact HO_6.out) (by first | exact Kd.N_base ho0 | exact Kd.S_base ho0) hb); have n1_ := Aside0.mk (Kd.N_lower (Kd.N_mono (ok' := fun k_ => (w.heap.size ≤ k_) ∧ some k_ ≠ (.slice Ao26 x6_1.length co26 : Value).ownBlock) (Kd.S_N (Kd.S_bound ho0)) (fun k_ hk_ => ⟨(Nat.le_trans (below_size (by repeat (first | exact HB.out | with_reducible first | apply below_alloc | apply pw_below_drewN | apply below_drew1))) hk_.2.1), (Kd.fresh' (Kd.N_lt (by (with_reducible repeat (first | apply Kd.N_alloc | apply Kd.N_drewN | apply Kd.N_drew)); exact HO_6.out)) k_ hk_.2.1)⟩)) (below_size (by repeat (first | exact HB.out | with_reducible first | apply below_alloc | apply pw_below_drewN | apply below_drew1)))); have n2_ := Aside0.mk (below_step (by repeat (first | exact HB.out | with_reducible first | apply below_alloc | apply pw_below_drewN | apply below_drew1)) hb); clear HO_6; clear HB; have HO_6 := n0_; have HO472 := n1_; have HB := n2_; clear n0_ n1_ n2_; (try clear hb); (try clear ho0); obtain ⟨Ao28, co28, eo28⟩ := Kd.N_slice HO472.out; subst eo28))
     go_ret2
     exact ⟨_, by first | rfl | (simp [errW_none, errW_some] <;> rfl) | (simp [*, errW_none, errW_some] <;> rfl), HSX_.out, by repeat (first | (with_reducible first | exact HB.out | apply below_alloc | apply pw_below_drewN | apply below_drew1) | exact HB.out)⟩

/-! ### laws_FnExactResultsAfter: function 11, by this session's lawss.py -/
/-- A row of the call's own, in blocks from lo on and below hi. -/
def Own1 (W : World) (b lo hi : Nat) (v : Value) (l : List Int) : Prop := Kd.R (Kd.int .i64) 3 W b (fun k => lo ≤ k ∧ k < hi) v l
def Own2 (W : World) (b lo hi : Nat) (v : Value) (l : List (List Int)) : Prop := Kd.S (Kd.slice 3 (Kd.int .i64)) 22 W b (fun k => lo ≤ k ∧ k < hi) v l
theorem Own1.below {W W' : World} {b lo hi : Nat} {v : Value} {l : List Int} (h : Own1 W b lo hi v l) (hb : Below W.heap.size W W') : Own1 W' b lo hi v l := Kd.R_below h hb
theorem Own2.below {W W' : World} {b lo hi : Nat} {v : Value} {l : List (List Int)} (h : Own2 W b lo hi v l) (hb : Below W.heap.size W W') : Own2 W' b lo hi v l := Kd.S_below h hb
theorem Own1.kept {W W' : World} {b lo hi lo' hi' : Nat} {v : Value} {l : List Int} (h : Own1 W b lo hi v l) (hk : Kept W W' (fun k => lo' ≤ k ∧ k < hi')) (hd : hi ≤ lo' ∨ hi' ≤ lo) : Own1 W' b lo hi v l := Kd.R_kept h hk (fun k h1 h2 => by omega)
theorem Own2.kept {W W' : World} {b lo hi lo' hi' : Nat} {v : Value} {l : List (List Int)} (h : Own2 W b lo hi v l) (hk : Kept W W' (fun k => lo' ≤ k ∧ k < hi')) (hd : hi ≤ lo' ∨ hi' ≤ lo) : Own2 W' b lo hi v l := Kd.S_kept h hk (fun k h1 h2 => by omega)
theorem Own1.new {W W' : World} {b h : Nat} {v : Value} {l : List Int} (ho : Kd.R (Kd.int .i64) 3 W' W.heap.size (fun _ => True) v l) (hb : b ≤ h) (hz : h ≤ W.heap.size) (hw : W.heap.size ≤ W'.heap.size) : ∃ h', h ≤ h' ∧ h' ≤ W'.heap.size ∧ Own1 W' b h h' v l :=
 ⟨W'.heap.size, by omega, by omega, Kd.R_mono (Kd.R_lower (Kd.R_bound ho) (by omega)) (fun k hk => ⟨by have := hk.2.1; omega, hk.2.2.1⟩)⟩
theorem Own2.new {W W' : World} {b h : Nat} {v : Value} {l : List (List Int)} (ho : Kd.S (Kd.slice 3 (Kd.int .i64)) 22 W' W.heap.size (fun _ => True) v l) (hb : b ≤ h) (hz : h ≤ W.heap.size) (hw : W.heap.size ≤ W'.heap.size) : ∃ h', h ≤ h' ∧ h' ≤ W'.heap.size ∧ Own2 W' b h h' v l :=
 ⟨W'.heap.size, by omega, by omega, Kd.S_mono (Kd.S_lower (Kd.S_bound ho) (by omega)) (fun k hk => ⟨by have := hk.2.1; omega, hk.2.2.1⟩)⟩
theorem Own1.mark {W W' : World} {b lo hi : Nat} {v : Value} {l l' : List Int} {ok : Nat → Prop} (h : Own1 W b lo hi v l) (ho : Kd.R (Kd.int .i64) 3 W' b ok v l') : Own1 W' b lo hi v l' := Kd.R_reok rfl ho (fun k hk => h.1 k hk)
theorem Own1.slice {W : World} {b lo hi : Nat} {v : Value} {l : List Int} (h : Own1 W b lo hi v l) : ∃ A c, v = .slice A l.length c := Kd.R_slice h
theorem Own2.slice {W : World} {b lo hi : Nat} {v : Value} {l : List (List Int)} (h : Own2 W b lo hi v l) : ∃ A c, v = .slice A l.length c := Kd.S_slice h
theorem Own1.reads {W : World} {b lo hi n : Nat} {A : Option Addr} {c : Nat} {l : List Int} (h : Own1 W b lo hi (.slice A n c) l) : n = l.length ∧ n ≤ c ∧ Kd.C (Kd.int .i64) W A l.length l := Kd.R_reads' h
theorem Own2.reads {W : World} {b lo hi n : Nat} {A : Option Addr} {c : Nat} {l : List (List Int)} (h : Own2 W b lo hi (.slice A n c) l) : n = l.length ∧ n ≤ c ∧ Kd.C (Kd.slice 3 (Kd.int .i64)) W A l.length l := Kd.S_reads' h
def Own3 (W : World) (b lo hi : Nat) (v : Value) (l : List (List Int)) : Prop := Kd.N (Kd.slice 3 (Kd.int .i64)) 22 W b (fun k => lo ≤ k ∧ k < hi) v l
theorem Own3.below {W W' : World} {b lo hi : Nat} {v : Value} {l : List (List Int)} (h : Own3 W b lo hi v l) (hb : Below W.heap.size W W') : Own3 W' b lo hi v l := Kd.N_below h hb
theorem Own3.kept {W W' : World} {b lo hi lo' hi' : Nat} {v : Value} {l : List (List Int)} (h : Own3 W b lo hi v l) (hk : Kept W W' (fun k => lo' ≤ k ∧ k < hi')) (hd : hi ≤ lo' ∨ hi' ≤ lo) : Own3 W' b lo hi v l := Kd.N_kept h hk (fun k h1 h2 => by omega)
theorem Own3.new {W W' : World} {b h : Nat} {v : Value} {l : List (List Int)} (ho : Kd.N (Kd.slice 3 (Kd.int .i64)) 22 W' W.heap.size (fun k_ => (W.heap.size ≤ k_)) v l) (hb : b ≤ h) (hz : h ≤ W.heap.size) (hw : W.heap.size ≤ W'.heap.size) : ∃ h', h ≤ h' ∧ h' ≤ W'.heap.size ∧ Own3 W' b h h' v l :=
 ⟨W'.heap.size, by omega, by omega, Kd.N_mono (Kd.N_lower (Kd.N_bound ho) (by omega)) (fun k hk => ⟨by have := hk.1; omega, hk.2⟩)⟩
theorem Own3.newS {W W' : World} {b h : Nat} {v : Value} {l : List (List Int)} {Q : Nat → Prop} (ho : Kd.N (Kd.slice 3 (Kd.int .i64)) 22 W' W.heap.size Q v l) (hb : b ≤ h) (hz : h ≤ W.heap.size) (hw : W.heap.size ≤ W'.heap.size) : ∃ h', h ≤ h' ∧ h' ≤ W'.heap.size ∧ Own3 W' b 0 h' v l :=
 ⟨W'.heap.size, by omega, by omega, Kd.N_mono (Kd.N_lower (Kd.N_bound ho) (by omega)) (fun k hk => ⟨Nat.zero_le _, hk.2⟩)⟩
theorem Own3.slice {W : World} {b lo hi : Nat} {v : Value} {l : List (List Int)} (h : Own3 W b lo hi v l) : ∃ A c, v = .slice A l.length c := Kd.N_slice h
theorem Own3.reads {W : World} {b lo hi n : Nat} {A : Option Addr} {c : Nat} {l : List (List Int)} (h : Own3 W b lo hi (.slice A n c) l) : n = l.length ∧ n ≤ c ∧ Kd.C (Kd.slice 3 (Kd.int .i64)) W A l.length l := Kd.N_reads' h

def laws_FnExactResultsAfter.Pure : Prop := ∀ (l0 : List (List Int)) (a1 : Int), l0.length ≤ maxLen → (∀ x ∈ l0, x.length ≤ maxLen) → (∀ x ∈ l0, ∀ y ∈ x, (Lit.int .i64 y).wf = true) → (Lit.int .i64 a1).wf = true → (∃ (k : Nat) (z : Int), laws_szIntSS.f k l0 1048576 = some z ∧ z < 0) ∨ ∃ (k : Nat) (r r' : List (List Int)) (b : Bool) (mm : Int) (z0_ : Int) (m1 : Int) (l0' : List (List Int)), laws_toIntSS.f k l0 = some l0 ∧ laws_szIntSS.f k l0 1048576 = some z0_ ∧ spec_ResultsAfter.f k l0 a1 = some (r, b) ∧ impl_ResultsAfter.f k l0 a1 = some (r, b) ∧ laws_eqIntSS.f k r r = some true ∧ laws_eqIntSS.f k l0 l0 = some true ∧ laws_markIntSS.f k l0 1 = some (m1, l0') ∧ laws_markIntSS.f k r 1 = some (mm, r') ∧ laws_heldIntSS.f k r' 1 = some mm ∧ r'.length = r.length ∧ 0 ≤ mm ∧ 0 ≤ m1 ∧ 0 ≤ z0_
set_option maxHeartbeats 16000000 in
set_option maxRecDepth 100000 in
theorem laws_FnExactResultsAfter.walk (P : laws_FnExactResultsAfter.Pure) (a0 : Option Addr) (cap0 : Nat) (l0 : List (List Int)) (a1 : Int) (w : World) (hr0 : Kd.C (Kd.slice 3 (Kd.int .i64)) w a0 l0.length l0) (hc0 : l0.length ≤ cap0) (w0_0 : l0.length ≤ maxLen) (w0_1 : ∀ x ∈ l0, x.length ≤ maxLen) (w0_2 : ∀ x ∈ l0, ∀ y ∈ x, (Lit.int .i64 y).wf = true) (w1 : (Lit.int .i64 a1).wf = true) :
  Calls Try.prog 11 #[.slice a0 l0.length cap0, .int .i64 a1] w fun e w' => e = .returned (.bool true) ∧ Below w.heap.size w w' := by
 rcases P l0 a1 w0_0 w0_1 w0_2 w1 with ⟨k, z0_, EZ0, hz0⟩ | ⟨k, r, r', b, mm, z0_, m1, l0', EtI0, EZ0, Es, Ei, EQ, EQ0, EM1, EMM, EH, hlen, hmm, hml, hz0⟩
 ·have c0 : decide (z0_ < 0) = true := decide_eq_true hz0
  clear hz0 w0_0 w0_1 w0_2
  have HR0 := Aside0.mk hr0
  have HC0 := Aside0.mk hc0
  have EZ0' := Aside0.mk EZ0
  clear hr0 hc0 EZ0
  go_enter Try.func11, Try.ntmps11
  go_wp2_with ((with_reducible refine gate_callee (f := 27) rfl ?_); refine goesL_ (some 18) rfl rfl Try.func27 (by kernel_rfl) rfl #[.slice a0 l0.length cap0, .int .i64 1048576] rfl (by (try simp only [List.map_toArray, List.map_cons, List.map_nil]); first | done | rfl) ?_; (with_reducible refine (laws_szIntSS.calls k _ _ l0 1048576 z0_ _ ?side1 ?side2 EZ0'.out).mono ?_); (case side1 => exact HR0.out); (case side2 => exact HC0.out); rintro e W0 ⟨rfl, ⟨nd0, rfl⟩⟩; refine ⟨_, rfl, ?_⟩)
  go_ret
  exact ⟨rfl, pw_below_drewN (Below.refl _ _) nd0⟩
 ·
  have HR0 := Aside0.mk hr0
  have HC0 := Aside0.mk hc0
  clear hr0 hc0 w0_0 w0_1 w0_2
  have c0 : decide (z0_ < 0) = false := decide_eq_false (by omega)
  clear hz0
  have EtI0' := Aside0.mk EtI0
  clear EtI0
  have EZ0' := Aside0.mk EZ0
  clear EZ0
  have Es' := Aside0.mk Es
  clear Es
  have Ei' := Aside0.mk Ei
  clear Ei
  have EQ' := Aside0.mk EQ
  clear EQ
  have EQ0' := Aside0.mk EQ0
  clear EQ0
  have EM1' := Aside0.mk EM1
  clear EM1
  have EMM' := Aside0.mk EMM
  clear EMM
  have EH' := Aside0.mk EH
  clear EH
  have hlen' := Aside0.mk hlen
  clear hlen
  have c2 : decide (mm < 0) = false := decide_eq_false (by omega)
  have c3 : decide (m1 < 0) = false := decide_eq_false (by omega)
  clear hml
  clear hmm
  have HB := Aside0.mk (Below.refl w.heap.size w)
  have HZ := Aside0.mk (Nat.le_refl w.heap.size)
  have HH0 := Aside0.mk (Nat.le_refl w.heap.size)
  cases b
  all_goals
   go_enter Try.func11, Try.ntmps11
   go_wp2_with (first | ((with_reducible refine gate_callee (f := 27) rfl ?_); refine goesL_ (some 18) rfl rfl Try.func27 (by kernel_rfl) rfl #[.slice a0 l0.length cap0, .int .i64 1048576] rfl (by (try simp only [List.map_toArray, List.map_cons, List.map_nil]); first | done | rfl) ?_; (with_reducible refine (laws_szIntSS.calls k _ _ l0 1048576 z0_ _ ?side1 ?side2 EZ0'.out).mono ?_); (case side1 => exact Kd.C_below HR0.out HB.out); (case side2 => exact HC0.out); rintro e W0 ⟨rfl, ⟨nd0, rfl⟩⟩; refine ⟨_, rfl, ?_⟩; have hb := pw_below_drewN (Below.refl w.heap.size w) nd0; have b_ := Aside0.mk (below_step HB.out hb); have z_ := Aside0.mk (Nat.le_trans HZ.out hb.size); clear HB HZ hb; have HB := b_; have HZ := z_; clear b_ z_) | ((with_reducible refine gate_callee (f := 29) rfl ?_); refine goesL_ (some 23) rfl rfl Try.func29 (by kernel_rfl) rfl #[.slice a0 l0.length cap0] rfl (by (try simp only [List.map_toArray, List.map_cons, List.map_nil]); first | done | rfl) ?_; (with_reducible refine (laws_toIntSS.calls k _ _ l0 l0 _ ?side1 ?side2 EtI0'.out).mono ?_); (case side1 => exact Kd.C_below HR0.out HB.out); (case side2 => exact HC0.out); rintro e W1 ⟨v1, rfl, ho, hb⟩; refine ⟨_, rfl, ?_⟩; obtain ⟨h1, hh_, hz_, ho_⟩ := Own2.new ho HH0.out HZ.out hb.size; have HH1 := Aside0.mk hh_; have HH1B := Aside0.mk (Nat.le_trans HH0.out hh_); have b_ := Aside0.mk (below_step HB.out hb); clear HB HZ hb ho; have HB := b_; have HZ := Aside0.mk hz_; clear b_ hh_ hz_; have O1 := Aside0.mk ho_; clear ho_; obtain ⟨A1_, c1_, e_⟩ := O1.out.slice; subst e_) | ((with_reducible refine gate_callee (f := 44) rfl ?_); refine goesL_ (some 25) rfl rfl Try.func44 (by kernel_rfl) rfl #[.slice A1_ l0.length c1_, .int .i64 a1] rfl (by (try simp only [List.map_toArray, List.map_cons, List.map_nil]); first | done | rfl) ?_; (with_reducible refine (spec_ResultsAfter.calls k (fun k_ => k_ < W1.heap.size) _ _ l0 a1 r _ _ ?side1 Es'.out).mono ?_); (case side1 => exact Kd.V_mk O1.out.reads.2.1 (Kd.C_F (Kd.heap_slice 3 (Kd.heap_int .i64)) O1.out.reads.2.2)); rintro e W2 ⟨v2, rfl, ho, hb⟩; refine ⟨_, rfl, ?_⟩; have n1_ := Aside0.mk (Own2.below O1.out hb); obtain ⟨h2, hh_, hz_, ho_⟩ := Own3.newS ho HH1B.out HZ.out hb.size; have HH2 := Aside0.mk hh_; have HH2B := Aside0.mk (Nat.le_trans HH1B.out hh_); have b_ := Aside0.mk (below_step HB.out hb); clear HB HZ hb ho; have HB := b_; have HZ := Aside0.mk hz_; clear b_ hh_ hz_; clear O1; have O1 := n1_; clear n1_; have O2 := Aside0.mk ho_; clear ho_; obtain ⟨A2_, c2_, e_⟩ := O2.out.slice; subst e_) | ((with_reducible refine gate_callee (f := 29) rfl ?_); refine goesL_ (some 29) rfl rfl Try.func29 (by kernel_rfl) rfl #[.slice a0 l0.length cap0] rfl (by (try simp only [List.map_toArray, List.map_cons, List.map_nil]); first | done | rfl) ?_; (with_reducible refine (laws_toIntSS.calls k _ _ l0 l0 _ ?side1 ?side2 EtI0'.out).mono ?_); (case side1 => exact Kd.C_below HR0.out HB.out); (case side2 => exact HC0.out); rintro e W3 ⟨v3, rfl, ho, hb⟩; refine ⟨_, rfl, ?_⟩; have n2_ := Aside0.mk (Own3.below O2.out hb); obtain ⟨h3, hh_, hz_, ho_⟩ := Own2.new ho HH2B.out HZ.out hb.size; have HH3 := Aside0.mk hh_; have HH3B := Aside0.mk (Nat.le_trans HH2B.out hh_); have b_ := Aside0.mk (below_step HB.out hb); clear HB HZ hb ho; have HB := b_; have HZ := Aside0.mk hz_; clear b_ hh_ hz_; clear O1; clear O2; have O2 := n2_; clear n2_; have O3 := Aside0.mk ho_; clear ho_; obtain ⟨A3_, c3_, e_⟩ := O3.out.slice; subst e_) | ((with_reducible refine gate_callee (f := 45) rfl ?_); refine goesL_ (some 33) rfl rfl Try.func45 (by kernel_rfl) rfl #[.slice A3_ l0.length c3_, .int .i64 a1] rfl (by (try simp only [List.map_toArray, List.map_cons, List.map_nil]); first | done | rfl) ?_; (with_reducible refine (impl_ResultsAfter.calls k _ _ l0 a1 r _ _ ?side1 ?side2 Ei'.out).mono ?_); (case side1 => exact O3.out.reads.2.2); (case side2 => exact O3.out.reads.2.1); rintro e W4 ⟨v4, rfl, ho, hb⟩; refine ⟨_, rfl, ?_⟩; have n2_ := Aside0.mk (Own3.below O2.out hb); have n3_ := Aside0.mk (Own2.below O3.out hb); obtain ⟨h4, hh_, hz_, ho_⟩ := Own2.new ho HH3B.out HZ.out hb.size; have HH4 := Aside0.mk hh_; have HH4B := Aside0.mk (Nat.le_trans HH3B.out hh_); have b_ := Aside0.mk (below_step HB.out hb); clear HB HZ hb ho; have HB := b_; have HZ := Aside0.mk hz_; clear b_ hh_ hz_; clear O2; clear O3; have O2 := n2_; clear n2_; have O3 := n3_; clear n3_; have O4 := Aside0.mk ho_; clear ho_; obtain ⟨A4_, c4_, e_⟩ := O4.out.slice; subst e_) | ((with_reducible refine gate_callee (f := 31) rfl ?_); refine goesL_ (some 38) rfl rfl Try.func31 (by kernel_rfl) rfl #[.slice A4_ r.length c4_, .slice A2_ r.length c2_] rfl (by (try simp only [List.map_toArray, List.map_cons, List.map_nil]); first | done | rfl) ?_; (with_reducible refine (laws_eqIntSS.calls k _ _ r _ _ r true _ ?side1 ?side2 ?side3 ?side4 EQ'.out).mono ?_); (case side1 => exact O4.out.reads.2.2); (case side2 => exact O4.out.reads.2.1); (case side3 => exact O2.out.reads.2.2); (case side4 => exact O2.out.reads.2.1); rintro e W5 ⟨rfl, ⟨nd5, rfl⟩⟩; refine ⟨_, rfl, ?_⟩; have hb := pw_below_drewN (Below.refl W4.heap.size W4) nd5; have n2_ := Aside0.mk (Own3.below O2.out hb); have n3_ := Aside0.mk (Own2.below O3.out hb); have n4_ := Aside0.mk (Own2.below O4.out hb); have b_ := Aside0.mk (below_step HB.out hb); have z_ := Aside0.mk (Nat.le_trans HZ.out hb.size); clear HB HZ hb; have HB := b_; have HZ := z_; clear b_ z_; clear O2; clear O3; clear O4; have O2 := n2_; clear n2_; have O3 := n3_; clear n3_; have O4 := n4_; clear n4_) | ((with_reducible refine gate_callee (f := 29) rfl ?_); refine goesL_ (some 47) rfl rfl Try.func29 (by kernel_rfl) rfl #[.slice a0 l0.length cap0] rfl (by (try simp only [List.map_toArray, List.map_cons, List.map_nil]); first | done | rfl) ?_; (with_reducible refine (laws_toIntSS.calls k _ _ l0 l0 _ ?side1 ?side2 EtI0'.out).mono ?_); (case side1 => exact Kd.C_below HR0.out HB.out); (case side2 => exact HC0.out); rintro e W6 ⟨v5, rfl, ho, hb⟩; refine ⟨_, rfl, ?_⟩; have n2_ := Aside0.mk (Own3.below O2.out hb); have n3_ := Aside0.mk (Own2.below O3.out hb); have n4_ := Aside0.mk (Own2.below O4.out hb); obtain ⟨h5, hh_, hz_, ho_⟩ := Own2.new ho HH4B.out HZ.out hb.size; have HH5 := Aside0.mk hh_; have HH5B := Aside0.mk (Nat.le_trans HH4B.out hh_); have b_ := Aside0.mk (below_step HB.out hb); clear HB HZ hb ho; have HB := b_; have HZ := Aside0.mk hz_; clear b_ hh_ hz_; clear O2; clear O3; clear O4; have O2 := n2_; clear n2_; have O3 := n3_; clear n3_; have O4 := n4_; clear n4_; have O5 := Aside0.mk ho_; clear ho_; obtain ⟨A5_, c5_, e_⟩ := O5.out.slice; subst e_) | ((with_reducible refine gate_callee (f := 31) rfl ?_); refine goesL_ (some 48) rfl rfl Try.func31 (by kernel_rfl) rfl #[.slice A3_ l0.length c3_, .slice A5_ l0.length c5_] rfl (by (try simp only [List.map_toArray, List.map_cons, List.map_nil]); first | done | rfl) ?_; (with_reducible refine (laws_eqIntSS.calls k _ _ l0 _ _ l0 true _ ?side1 ?side2 ?side3 ?side4 EQ0'.out).mono ?_); (case side1 => exact O3.out.reads.2.2); (case side2 => exact O3.out.reads.2.1); (case side3 => exact O5.out.reads.2.2); (case side4 => exact O5.out.reads.2.1); rintro e W7 ⟨rfl, ⟨nd7, rfl⟩⟩; refine ⟨_, rfl, ?_⟩; have hb := pw_below_drewN (Below.refl W6.heap.size W6) nd7; have n2_ := Aside0.mk (Own3.below O2.out hb); have n3_ := Aside0.mk (Own2.below O3.out hb); have n4_ := Aside0.mk (Own2.below O4.out hb); have n5_ := Aside0.mk (Own2.below O5.out hb); have b_ := Aside0.mk (below_step HB.out hb); have z_ := Aside0.mk (Nat.le_trans HZ.out hb.size); clear HB HZ hb; have HB := b_; have HZ := z_; clear b_ z_; clear O2; clear O3; clear O4; clear O5; have O2 := n2_; clear n2_; have O3 := n3_; clear n3_; have O4 := n4_; clear n4_; have O5 := n5_; clear n5_) | ((with_reducible refine gate_callee (f := 32) rfl ?_); refine goesL_ (some 52) rfl rfl Try.func32 (by kernel_rfl) rfl #[.slice A3_ l0.length c3_, .int .i64 1] rfl (by (try simp only [List.map_toArray, List.map_cons, List.map_nil]); first | done | rfl) ?_; (with_reducible refine (laws_markIntSS.calls k (fun k_ => h2 ≤ k_ ∧ k_ < h3) _ l0 1 m1 l0' w _ ?side1 ?side2 EM1'.out).mono ?_); (case side1 => exact HB.out); (case side2 => exact O3.out); rintro e W8 ⟨rfl, ho, hb, hk⟩; refine ⟨_, rfl, ?_⟩; have n2_ := Aside0.mk (Own3.kept O2.out hk (by have := HH1.out; have := HH2.out; have := HH3.out; have := HH4.out; have := HH5.out; omega)); have n3_ := Aside0.mk (show Own2 _ _ _ _ _ _ from ho); have n4_ := Aside0.mk (Own2.kept O4.out hk (by have := HH1.out; have := HH2.out; have := HH3.out; have := HH4.out; have := HH5.out; omega)); have z_ := Aside0.mk (Nat.le_trans HZ.out hk.1); clear HB HZ hk ho; have HB := Aside0.mk hb; have HZ := z_; clear hb z_; clear O2; clear O3; clear O4; clear O5; have O2 := n2_; clear n2_; have O3 := n3_; clear n3_; have O4 := n4_; clear n4_) | (go_at_call 31; (with_reducible refine (laws_eqIntSS.calls k _ _ r _ _ r true _ ?side1 ?side2 ?side3 ?side4 EQ'.out).mono ?_); (case side1 => exact O4.out.reads.2.2); (case side2 => exact O4.out.reads.2.1); (case side3 => exact O2.out.reads.2.2); (case side4 => exact O2.out.reads.2.1); rintro e W9 ⟨rfl, ⟨nd9, rfl⟩⟩; have hb := pw_below_drewN (Below.refl W8.heap.size W8) nd9; have n2_ := Aside0.mk (Own3.below O2.out hb); have n4_ := Aside0.mk (Own2.below O4.out hb); have b_ := Aside0.mk (below_step HB.out hb); have z_ := Aside0.mk (Nat.le_trans HZ.out hb.size); clear HB HZ hb; have HB := b_; have HZ := z_; clear b_ z_; clear O2; clear O3; clear O4; have O2 := n2_; clear n2_; have O4 := n4_; clear n4_) | ((with_reducible refine gate_callee (f := 32) rfl ?_); refine goesL_ (some 68) rfl rfl Try.func32 (by kernel_rfl) rfl #[.slice A4_ r.length c4_, .int .i64 1] rfl (by (try simp only [List.map_toArray, List.map_cons, List.map_nil]); first | done | rfl) ?_; (with_reducible refine (laws_markIntSS.calls k (fun k_ => h3 ≤ k_ ∧ k_ < h4) _ r 1 mm r' w _ ?side1 ?side2 EMM'.out).mono ?_); (case side1 => exact HB.out); (case side2 => exact O4.out); rintro e W10 ⟨rfl, ho, hb, hk⟩; refine ⟨_, rfl, ?_⟩; have n2_ := Aside0.mk (Own3.kept O2.out hk (by have := HH1.out; have := HH2.out; have := HH3.out; have := HH4.out; have := HH5.out; omega)); have n4_ := Aside0.mk (show Own2 _ _ _ _ _ _ from ho); have z_ := Aside0.mk (Nat.le_trans HZ.out hk.1); clear HB HZ hk ho; have HB := Aside0.mk hb; have HZ := z_; clear hb z_; clear O2; clear O4; have O2 := n2_; clear n2_; have O4 := n4_; clear n4_) | ((with_reducible refine gate_callee (f := 33) rfl ?_); refine goesL_ (some 71) rfl rfl Try.func33 (by kernel_rfl) rfl #[.slice A4_ r.length c4_, .int .i64 1] rfl (by (try simp only [List.map_toArray, List.map_cons, List.map_nil]); first | done | rfl) ?_; (refine calls_of_args (args' := #[.slice A4_ r'.length c4_, .int .i64 1]) (by rw [hlen'.out]) ?_); (with_reducible refine (laws_heldIntSS.calls k _ _ r' 1 mm _ ?side1 ?side2 EH'.out).mono ?_); (case side1 => exact O4.out.reads.2.2); (case side2 => exact (by have := O4.out.reads.2.1; rw [← hlen'.out] at this; exact this)); rintro e W11 ⟨rfl, ⟨nd11, rfl⟩⟩; refine ⟨_, rfl, ?_⟩; have hb := pw_below_drewN (Below.refl W10.heap.size W10) nd11; have n2_ := Aside0.mk (Own3.below O2.out hb); have n4_ := Aside0.mk (Own2.below O4.out hb); have b_ := Aside0.mk (below_step HB.out hb); have z_ := Aside0.mk (Nat.le_trans HZ.out hb.size); clear HB HZ hb; have HB := b_; have HZ := z_; clear b_ z_; clear O2; clear O4; have O2 := n2_; clear n2_; have O4 := n4_; clear n4_) | ((with_reducible refine gate_callee (f := 29) rfl ?_); refine goesL_ (some 79) rfl rfl Try.func29 (by kernel_rfl) rfl #[.slice a0 l0.length cap0] rfl (by (try simp only [List.map_toArray, List.map_cons, List.map_nil]); first | done | rfl) ?_; (with_reducible refine (laws_toIntSS.calls k _ _ l0 l0 _ ?side1 ?side2 EtI0'.out).mono ?_); (case side1 => exact Kd.C_below HR0.out HB.out); (case side2 => exact HC0.out); rintro e W12 ⟨v6, rfl, ho, hb⟩; refine ⟨_, rfl, ?_⟩; have n2_ := Aside0.mk (Own3.below O2.out hb); have n4_ := Aside0.mk (Own2.below O4.out hb); obtain ⟨h6, hh_, hz_, ho_⟩ := Own2.new ho HH5B.out HZ.out hb.size; have HH6 := Aside0.mk hh_; have HH6B := Aside0.mk (Nat.le_trans HH5B.out hh_); have b_ := Aside0.mk (below_step HB.out hb); clear HB HZ hb ho; have HB := b_; have HZ := Aside0.mk hz_; clear b_ hh_ hz_; clear O2; clear O4; have O2 := n2_; clear n2_; have O4 := n4_; clear n4_; have O6 := Aside0.mk ho_; clear ho_; obtain ⟨A6_, c6_, e_⟩ := O6.out.slice; subst e_) | ((with_reducible refine gate_callee (f := 45) rfl ?_); refine goesL_ (some 81) rfl rfl Try.func45 (by kernel_rfl) rfl #[.slice A6_ l0.length c6_, .int .i64 a1] rfl (by (try simp only [List.map_toArray, List.map_cons, List.map_nil]); first | done | rfl) ?_; (with_reducible refine (impl_ResultsAfter.calls k _ _ l0 a1 r _ _ ?side1 ?side2 Ei'.out).mono ?_); (case side1 => exact O6.out.reads.2.2); (case side2 => exact O6.out.reads.2.1); rintro e W13 ⟨v7, rfl, ho, hb⟩; refine ⟨_, rfl, ?_⟩; have n2_ := Aside0.mk (Own3.below O2.out hb); have n4_ := Aside0.mk (Own2.below O4.out hb); have n6_ := Aside0.mk (Own2.below O6.out hb); obtain ⟨h7, hh_, hz_, ho_⟩ := Own2.new ho HH6B.out HZ.out hb.size; have HH7 := Aside0.mk hh_; have HH7B := Aside0.mk (Nat.le_trans HH6B.out hh_); have b_ := Aside0.mk (below_step HB.out hb); clear HB HZ hb ho; have HB := b_; have HZ := Aside0.mk hz_; clear b_ hh_ hz_; clear O2; clear O4; clear O6; have O2 := n2_; clear n2_; have O4 := n4_; clear n4_; have O6 := n6_; clear n6_; have O7 := Aside0.mk ho_; clear ho_; obtain ⟨A7_, c7_, e_⟩ := O7.out.slice; subst e_) | ((with_reducible refine gate_callee (f := 31) rfl ?_); refine goesL_ (some 86) rfl rfl Try.func31 (by kernel_rfl) rfl #[.slice A7_ r.length c7_, .slice A2_ r.length c2_] rfl (by (try simp only [List.map_toArray, List.map_cons, List.map_nil]); first | done | rfl) ?_; (with_reducible refine (laws_eqIntSS.calls k _ _ r _ _ r true _ ?side1 ?side2 ?side3 ?side4 EQ'.out).mono ?_); (case side1 => exact O7.out.reads.2.2); (case side2 => exact O7.out.reads.2.1); (case side3 => exact O2.out.reads.2.2); (case side4 => exact O2.out.reads.2.1); rintro e W14 ⟨rfl, ⟨nd14, rfl⟩⟩; refine ⟨_, rfl, ?_⟩; have hb := pw_below_drewN (Below.refl W13.heap.size W13) nd14; have n2_ := Aside0.mk (Own3.below O2.out hb); have n4_ := Aside0.mk (Own2.below O4.out hb); have n7_ := Aside0.mk (Own2.below O7.out hb); have b_ := Aside0.mk (below_step HB.out hb); have z_ := Aside0.mk (Nat.le_trans HZ.out hb.size); clear HB HZ hb; have HB := b_; have HZ := z_; clear b_ z_; clear O2; clear O4; clear O6; clear O7; have O2 := n2_; clear n2_; have O4 := n4_; clear n4_; have O7 := n7_; clear n7_) | ((with_reducible refine gate_callee (f := 33) rfl ?_); refine goesL_ (some 95) rfl rfl Try.func33 (by kernel_rfl) rfl #[.slice A4_ r.length c4_, .int .i64 1] rfl (by (try simp only [List.map_toArray, List.map_cons, List.map_nil]); first | done | rfl) ?_; (refine calls_of_args (args' := #[.slice A4_ r'.length c4_, .int .i64 1]) (by rw [hlen'.out]) ?_); (with_reducible refine (laws_heldIntSS.calls k _ _ r' 1 mm _ ?side1 ?side2 EH'.out).mono ?_); (case side1 => exact O4.out.reads.2.2); (case side2 => exact (by have := O4.out.reads.2.1; rw [← hlen'.out] at this; exact this)); rintro e W15 ⟨rfl, ⟨nd15, rfl⟩⟩; refine ⟨_, rfl, ?_⟩; have hb := pw_below_drewN (Below.refl (W13.drewN nd14).heap.size (W13.drewN nd14)) nd15; have n4_ := Aside0.mk (Own2.below O4.out hb); have b_ := Aside0.mk (below_step HB.out hb); have z_ := Aside0.mk (Nat.le_trans HZ.out hb.size); clear HB HZ hb; have HB := b_; have HZ := z_; clear b_ z_; clear O2; clear O4; clear O7; have O4 := n4_; clear n4_))
   go_ret
   exact ⟨rfl, by first | exact HB.out | (have h_ := HB.out; simp only [World.drewN_drewN] at h_; exact h_)⟩

end Go.Proofs.Ytbghkcgglhoopaa.MFnExactResultsAfter
