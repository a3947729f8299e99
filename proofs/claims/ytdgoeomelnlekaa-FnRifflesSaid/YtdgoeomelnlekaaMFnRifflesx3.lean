-- Written by this session's own program (wip/tools/myprint.py), over the kit's printer.
import Derived.Test.YtdgoeomelnlekaaMFnRifflesx0
import Derived.Test.YtdgoeomelnlekaaMFnRifflesx1
import Derived.Test.YtdgoeomelnlekaaMFnRifflesx2
namespace Go.Proofs.Ytdgoeomelnlekaa.MFnRiffles
open Go.RowKit Go.Proofs.YtdgoeomelnlekaaW.PrintWords Go.Proofs.YtdgoeomelnlekaaW.PrintLast Go.Proofs.YtdgoeomelnlekaaW.PrintMore
attribute [local go_sem] max2_int min2_int max_two min_two max_three min_three max_four min_four   -- for this text's walks alone
set_option linter.unusedVariables false
set_option linter.unusedSimpArgs false

/-! ### spec_l05Merge: function 83 -/
mutual
def spec_l05Merge.l0 : Nat → List (List Int) → List (List Int) → List (List Int) → Option ((List (List Int)))
 | 0, _, _, _ => none
 | k + 1, x0, x1, x5 => if (x0.length : Int) > 0 then (spec_l05Merge.j1 k x0 x1 x5 true) else (spec_l05Merge.j1 k x0 x1 x5 (decide ((x1.length : Int) > 0)))
def spec_l05Merge.j1 : Nat → List (List Int) → List (List Int) → List (List Int) → Bool → Option ((List (List Int)))
 | 0, _, _, _, _ => none
 | k + 1, x0, x1, x5, x15 => if x15 = true then (if (x1.length : Int) = 0 then (spec_l05Merge.j2 k x0 x1 x5 true) else (if (x0.length : Int) > 0 then (if 0 < (x1.length : Int) then (if 0 < (x0.length : Int) then ((spec_l05Less.f k (rd_L2 x1 0) (rd_L2 x0 0)).bind fun t146 => (spec_l05Merge.j2 k x0 x1 x5 (!t146))) else (none)) else (none)) else (spec_l05Merge.j2 k x0 x1 x5 false))) else (some x5)
def spec_l05Merge.j2 : Nat → List (List Int) → List (List Int) → List (List Int) → Bool → Option ((List (List Int)))
 | 0, _, _, _, _ => none
 | k + 1, x0, x1, x5, x34 => if x34 = true then (if 0 < (x0.length : Int) then (if 1 ≤ (x0.length : Int) then ((some (x0.drop 1 : List (List Int))).bind fun y148 => (if (x5.length : Int) = 0 then ((some (([] : List Int) : List Int)).bind fun y153 => (if y153.length + (rd_L2 x0 0).length < 17592186044416 then (if x5.length < 5864062014805 then (spec_l05Merge.l0 k y148 x1 (x5 ++ [(y153 ++ (rd_L2 x0 0))])) else (none)) else (none))) else (if 0 ≤ (wrap64 ((x5.length : Int) - 1)) then (if (wrap64 ((x5.length : Int) - 1)) < (x5.length : Int) then ((spec_SamePacket.f k (rd_L2 x5 (wrap64 ((x5.length : Int) - 1))) (rd_L2 x0 0)).bind fun t163 => (if t163 = true then (spec_l05Merge.l0 k y148 x1 x5) else ((some (([] : List Int) : List Int)).bind fun y164 => (if y164.length + (rd_L2 x0 0).length < 17592186044416 then (if x5.length < 5864062014805 then (spec_l05Merge.l0 k y148 x1 (x5 ++ [(y164 ++ (rd_L2 x0 0))])) else (none)) else (none))))) else (none)) else (none)))) else (none)) else (none)) else (if 0 < (x1.length : Int) then (if 1 ≤ (x1.length : Int) then ((some (x1.drop 1 : List (List Int))).bind fun y174 => (if (x5.length : Int) = 0 then ((some (([] : List Int) : List Int)).bind fun y179 => (if y179.length + (rd_L2 x1 0).length < 17592186044416 then (if x5.length < 5864062014805 then (spec_l05Merge.l0 k x0 y174 (x5 ++ [(y179 ++ (rd_L2 x1 0))])) else (none)) else (none))) else (if 0 ≤ (wrap64 ((x5.length : Int) - 1)) then (if (wrap64 ((x5.length : Int) - 1)) < (x5.length : Int) then ((spec_SamePacket.f k (rd_L2 x5 (wrap64 ((x5.length : Int) - 1))) (rd_L2 x1 0)).bind fun t189 => (if t189 = true then (spec_l05Merge.l0 k x0 y174 x5) else ((some (([] : List Int) : List Int)).bind fun y190 => (if y190.length + (rd_L2 x1 0).length < 17592186044416 then (if x5.length < 5864062014805 then (spec_l05Merge.l0 k x0 y174 (x5 ++ [(y190 ++ (rd_L2 x1 0))])) else (none)) else (none))))) else (none)) else (none)))) else (none)) else (none))
end
def spec_l05Merge.f (k : Nat) (l0 : List (List Int)) (l1 : List (List Int)) : Option ((List (List Int))) := spec_l05Merge.l0 k l0 l1 (([] : List (List Int)))
theorem spec_l05Merge.mono_l : ∀ k, (∀ y0 y1 y2, LeO (spec_l05Merge.l0 k y0 y1 y2) (spec_l05Merge.l0 (k + 1) y0 y1 y2)) ∧ (∀ y0 y1 y2 y3, LeO (spec_l05Merge.j1 k y0 y1 y2 y3) (spec_l05Merge.j1 (k + 1) y0 y1 y2 y3)) ∧ (∀ y0 y1 y2 y3, LeO (spec_l05Merge.j2 k y0 y1 y2 y3) (spec_l05Merge.j2 (k + 1) y0 y1 y2 y3))
 | 0 => ⟨fun _ _ _ r h => by simp [spec_l05Merge.l0] at h, fun _ _ _ _ r h => by simp [spec_l05Merge.j1] at h, fun _ _ _ _ r h => by simp [spec_l05Merge.j2] at h⟩
 | k + 1 => by
  obtain ⟨ih0, ih1, ih2⟩ := spec_l05Merge.mono_l k
  refine ⟨?_, ?_, ?_⟩
  ·intro y0 y1 y2
   unfold spec_l05Merge.l0
   repeat' first
   | (with_reducible exact ih0 _ _ _)
   | (with_reducible exact ih1 _ _ _ _)
   | (with_reducible exact ih2 _ _ _ _)
   | (with_reducible exact spec_SamePacket.mono _ _ _)
   | (with_reducible exact spec_l05Less.mono _ _ _)
   | (with_reducible exact LeO.refl _)
   | (with_reducible exact LeO.none _)
   | (with_reducible refine LeO.ite ?_ ?_)
   | (with_reducible refine LeO.bind ?_ (fun _ => ?_))
  ·intro y0 y1 y2 y3
   unfold spec_l05Merge.j1
   repeat' first
   | (with_reducible exact ih0 _ _ _)
   | (with_reducible exact ih1 _ _ _ _)
   | (with_reducible exact ih2 _ _ _ _)
   | (with_reducible exact spec_SamePacket.mono _ _ _)
   | (with_reducible exact spec_l05Less.mono _ _ _)
   | (with_reducible exact LeO.refl _)
   | (with_reducible exact LeO.none _)
   | (with_reducible refine LeO.ite ?_ ?_)
   | (with_reducible refine LeO.bind ?_ (fun _ => ?_))
  ·intro y0 y1 y2 y3
   unfold spec_l05Merge.j2
   repeat' first
   | (with_reducible exact ih0 _ _ _)
   | (with_reducible exact ih1 _ _ _ _)
   | (with_reducible exact ih2 _ _ _ _)
   | (with_reducible exact spec_SamePacket.mono _ _ _)
   | (with_reducible exact spec_l05Less.mono _ _ _)
   | (with_reducible exact LeO.refl _)
   | (with_reducible exact LeO.none _)
   | (with_reducible refine LeO.ite ?_ ?_)
   | (with_reducible refine LeO.bind ?_ (fun _ => ?_))
theorem spec_l05Merge.mono : ∀ a0 a1 k, LeO (spec_l05Merge.f k a0 a1) (spec_l05Merge.f (k + 1) a0 a1) := by
 intro a0 a1 k
 obtain ⟨ih0, ih1, ih2⟩ := spec_l05Merge.mono_l k
 unfold spec_l05Merge.f
 repeat' first
   | (with_reducible exact ih0 _ _ _)
   | (with_reducible exact ih1 _ _ _ _)
   | (with_reducible exact ih2 _ _ _ _)
   | (with_reducible exact spec_SamePacket.mono _ _ _)
   | (with_reducible exact spec_l05Less.mono _ _ _)
   | (with_reducible exact LeO.refl _)
   | (with_reducible exact LeO.none _)
   | (with_reducible refine LeO.ite ?_ ?_)
   | (with_reducible refine LeO.bind ?_ (fun _ => ?_))
set_option maxHeartbeats 8000000 in
set_option maxRecDepth 100000 in
theorem spec_l05Merge.calls (k : Nat) (P0_ : Nat → Prop) (A0 : Option Addr) (c0 : Nat) (l0 : List (List Int)) (P1_ : Nat → Prop) (A1 : Option Addr) (c1 : Nat) (l1 : List (List Int)) (r : List (List Int)) (w : World) (hs0 : Kd.V (Kd.slice 3 (Kd.int .i64)) 22 w w.heap.size (fun k_ => P0_ k_) (.slice A0 l0.length c0) l0) (hs1 : Kd.V (Kd.slice 3 (Kd.int .i64)) 22 w w.heap.size (fun k_ => P1_ k_) (.slice A1 l1.length c1) l1) (h : spec_l05Merge.f k l0 l1 = some r) :
  Calls Try.prog 83 #[.slice A0 l0.length c0, .slice A1 l1.length c1] w fun e w' => ∃ v0_ : Value, e = .returned (v0_) ∧ Kd.S (Kd.slice 3 (Kd.int .i64)) 22 w' w.heap.size (fun k_ => (w.heap.size ≤ k_)) v0_ r ∧ Below w.heap.size w w' := by
 have HO0 := Aside0.mk (show Kd.V (Kd.slice 3 (Kd.int .i64)) 22 w w.heap.size (fun k_ => ((P0_ k_ ∨ P1_ k_) ∨ w.heap.size ≤ k_)) (.slice A0 l0.length c0) l0 from Kd.V_mono hs0 (fun k_ hk => .inl (.inl hk)))
 have HO1 := Aside0.mk (show Kd.V (Kd.slice 3 (Kd.int .i64)) 22 w w.heap.size (fun k_ => ((P0_ k_ ∨ P1_ k_) ∨ w.heap.size ≤ k_)) (.slice A1 l1.length c1) l1 from Kd.V_mono hs1 (fun k_ hk => .inl (.inr hk)))
 have HB := Aside0.mk (Below.refl w.heap.size w)
 have H : (spec_l05Merge.l0 k l0 l1 (([] : List (List Int)))) = some r := h
 clear h
 obtain ⟨y138, hy138⟩ : ∃ y_ : List (List Int), y_ = (([] : List (List Int))) := ⟨_, rfl⟩
 replace H : (spec_l05Merge.l0 k l0 l1 y138) = some r := by first | (rw [hy138]; with_reducible exact H) | (have H2_ := (Option.bind_some _ _).symm.trans H; rw [hy138]; with_reducible exact H2_) | (have H2_ := (Option.bind_some _ _).symm.trans H; with_reducible exact H2_) | with_reducible exact H | (rw [hy138]; exact H) | exact H
 have Ny138 := Aside0.mk hy138
 clear hy138
 have H' := Aside0.mk H
 clear H
 go_enter Try.func83, Try.ntmps83
 go_wp2_with (first | ((with_reducible refine gate_dst (N := 7) rfl ?_); (try (refine gate_guard (by rfl) ?_; dsimp only)); refine Kd.S_lit (Kd.slice 3 (Kd.int .i64)) _ 22 ?hg (N := 7) ?hd (xs := ([] : List (List Int))) (inner := []) (ok := fun _ => True) (okp := fun _ => True) ?hr ?hp (fun _ hk => hk) trivial (Below.refl _ _) (Nat.le_refl _) (by simp) ?_; (case hd => rfl); (case hg => rfl); (case hr => first | (go_simp; done) | (go_simp; rfl)); (case hp => exact (Reps.none _ _)); intro v139 w3 ho4 hb hg_ hnew_; clear hg_ hnew_; (first | rw [← Ny138.out] at ho4 | (simp only [Int.reduceToNat] at ho4; rw [← Ny138.out] at ho4)); have n0_ := Aside0.mk (Kd.V_elder' (vx_ HO0) (Kd.S_base ho4) hb); have n1_ := Aside0.mk (Kd.V_elder' (vx_ HO1) (Kd.S_base ho4) hb); have n2_ := Aside0.mk (Kd.S_lower (Kd.S_newM (M := fun k_ => (w.heap.size ≤ k_)) ho4 (below_size bl_) (fun k_ h_ => h_)) (below_size bl_)); have n3_ := Aside0.mk (below_step bl_ hb); clear HO0; clear HO1; clear HB; have HO0 := n0_; have HO1 := n1_; have HO140 := n2_; have HB := n3_; clear n0_ n1_ n2_ n3_; clear hb ho4) | go_quiet (fail))
 go_loopg [0, 1, 5] k (fun kq v0 v1 v5 w' => ∃ (x0_1 : List (List Int)) (x1_1 : List (List Int)) (x5_1 : List (List Int)), Aside0 (spec_l05Merge.l0 kq x0_1 x1_1 x5_1 = some r) ∧ Aside0 (kq ≤ k) ∧ Aside0 (Kd.V (Kd.slice 3 (Kd.int .i64)) 22 w' w.heap.size (fun k_ => ((P0_ k_ ∨ P1_ k_) ∨ w.heap.size ≤ k_) ∧ some k_ ≠ (v5 : Value).ownBlock) v0 x0_1) ∧ Aside0 (Kd.V (Kd.slice 3 (Kd.int .i64)) 22 w' w.heap.size (fun k_ => ((P0_ k_ ∨ P1_ k_) ∨ w.heap.size ≤ k_) ∧ some k_ ≠ (v5 : Value).ownBlock) v1 x1_1) ∧ Aside0 (Kd.S (Kd.slice 3 (Kd.int .i64)) 22 w' w.heap.size (fun k_ => (w.heap.size ≤ k_)) v5 x5_1) ∧ Aside0 (Below w.heap.size w w'))
 case atStart => exact ⟨(l0), (l1), (y138), H', ⟨Nat.le_refl _⟩, ⟨by (with_reducible repeat (first | apply Kd.V_alloc | apply Kd.V_drewN | apply Kd.V_drew)); exact HO0.out⟩, ⟨by (with_reducible repeat (first | apply Kd.V_alloc | apply Kd.V_drewN | apply Kd.V_drew)); exact HO1.out⟩, ⟨by (with_reducible repeat (first | apply Kd.S_alloc | apply Kd.S_drewN | apply Kd.S_drew)); exact Kd.S_mono HO140.out (fun _ hk => hk.1)⟩, ⟨by repeat (first | (with_reducible first | exact HB.out | apply below_alloc | apply pw_below_drewN | apply below_drew1) | exact HB.out)⟩⟩
 case round =>
  clear H'
  try clear c1
  try clear p2
  obtain ⟨x0_1, x1_1, x5_1, HA, HK1, HO_0, HO_1, HO_5, HB⟩ := hrel
  cases gk with
  | zero => exact absurd HA.out (by simp [spec_l05Merge.l0])
  | succ k1 =>
   have H := HA.out
   clear HA
   simp only [spec_l05Merge.l0] at H
   have HC5 := Aside0.mk H
   clear H
   go_upto_region 2 with (fail)
   repeat (go_quiet (fail); go_upto_region 2 with (fail))
   go_cut [15] (fun v15 wc => ∃ (kq : Nat) (x15_4 : Bool), v15 = .bool x15_4 ∧ Aside0 (spec_l05Merge.j1 kq x0_1 x1_1 x5_1 x15_4 = some r) ∧ Aside0 (kq ≤ k1) ∧ Aside0 (Kd.V (Kd.slice 3 (Kd.int .i64)) 22 wc w.heap.size (fun k_ => ((P0_ k_ ∨ P1_ k_) ∨ w.heap.size ≤ k_) ∧ some k_ ≠ (u5 : Value).ownBlock) u0 x0_1) ∧ Aside0 (Kd.V (Kd.slice 3 (Kd.int .i64)) 22 wc w.heap.size (fun k_ => ((P0_ k_ ∨ P1_ k_) ∨ w.heap.size ≤ k_) ∧ some k_ ≠ (u5 : Value).ownBlock) u1 x1_1) ∧ Aside0 (Kd.S (Kd.slice 3 (Kd.int .i64)) 22 wc w.heap.size (fun k_ => (w.heap.size ≤ k_)) u5 x5_1) ∧ Aside0 (Below w.heap.size w wc))
   case first =>
    have H := HC5.out
    clear HC5
    by_cases c6 : (x0_1.length : Int) > 0
    ·rw [if_pos c6] at H
     have c6b0 : decide (0 < (x0_1.length : Int)) = true := decide_eq_true c6
     have c6b1 : decide (0 < x0_1.length) = true := decide_eq_true (by omega)
     clear c6
     (first | rw [c6b0] | (simp only [i64_w, i32_w]; rw [c6b0]) | skip)
     have H' := Aside0.mk H
     clear H
     obtain ⟨Ao7, co7, eo7⟩ := Kd.V_slice HO_0.out
     subst eo7
     go_wp2
     repeat (go_quiet (fail); try go_wp2)
     go_meet
     case rel => exact ⟨_, (true), (by first | rfl | (simp; done) | (simp [*]; done)), H', ⟨by have := HK1.out; first | omega | exact Nat.le_refl _⟩, ⟨by (with_reducible repeat (first | apply Kd.V_alloc | apply Kd.V_drewN | apply Kd.V_drew)); exact HO_0.out⟩, ⟨by (with_reducible repeat (first | apply Kd.V_alloc | apply Kd.V_drewN | apply Kd.V_drew)); exact HO_1.out⟩, ⟨by (with_reducible repeat (first | apply Kd.S_alloc | apply Kd.S_drewN | apply Kd.S_drew)); exact HO_5.out⟩, ⟨by repeat (first | (with_reducible first | exact HB.out | apply below_alloc | apply pw_below_drewN | apply below_drew1) | exact HB.out)⟩⟩
    ·rw [if_neg c6] at H
     have c6b0 : decide (0 < (x0_1.length : Int)) = false := decide_eq_false c6
     have c6b1 : decide (0 < x0_1.length) = false := decide_eq_false (by omega)
     clear c6
     (first | rw [c6b0] | (simp only [i64_w, i32_w]; rw [c6b0]) | skip)
     have H' := Aside0.mk H
     clear H
     obtain ⟨Ao8, co8, eo8⟩ := Kd.V_slice HO_0.out
     subst eo8
     obtain ⟨Ao9, co9, eo9⟩ := Kd.V_slice HO_1.out
     subst eo9
     go_wp2
     repeat (go_quiet (fail); try go_wp2)
     go_meet
     case rel => exact ⟨_, (decide ((x1_1.length : Int) > 0)), (by first | rfl | (simp; done) | (simp [*]; done)), H', ⟨by have := HK1.out; first | omega | exact Nat.le_refl _⟩, ⟨by (with_reducible repeat (first | apply Kd.V_alloc | apply Kd.V_drewN | apply Kd.V_drew)); exact HO_0.out⟩, ⟨by (with_reducible repeat (first | apply Kd.V_alloc | apply Kd.V_drewN | apply Kd.V_drew)); exact HO_1.out⟩, ⟨by (with_reducible repeat (first | apply Kd.S_alloc | apply Kd.S_drewN | apply Kd.S_drew)); exact HO_5.out⟩, ⟨by repeat (first | (with_reducible first | exact HB.out | apply below_alloc | apply pw_below_drewN | apply below_drew1) | exact HB.out)⟩⟩
   case rest =>
    clear HC5
    try clear c1
    try clear p2
    try clear c6
    try clear c6b0
    try clear c6b1
    try clear c8
    try clear p2
    obtain ⟨kq, x15_4, rfl, HA, HJ4, HO_0, HO_1, HO_5, HB⟩ := hcut
    cases kq with
    | zero => exact absurd HA.out (by simp [spec_l05Merge.j1])
    | succ kj4 =>
     have H := HA.out
     clear HA
     simp only [spec_l05Merge.j1] at H
     by_cases c10 : x15_4 = true
     ·subst c10
      rw [if_pos rfl] at H
      obtain ⟨y141, hy141⟩ : ∃ y_ : List Int, y_ = (([] : List Int)) := ⟨_, rfl⟩
      replace H : (if (x1_1.length : Int) = 0 then (spec_l05Merge.j2 kj4 x0_1 x1_1 x5_1 true) else (if (x0_1.length : Int) > 0 then (if 0 < (x1_1.length : Int) then (if 0 < (x0_1.length : Int) then ((spec_l05Less.f kj4 (rd_L2 x1_1 0) (rd_L2 x0_1 0)).bind fun t146 => (spec_l05Merge.j2 kj4 x0_1 x1_1 x5_1 (!t146))) else (none)) else (none)) else (spec_l05Merge.j2 kj4 x0_1 x1_1 x5_1 false))) = some r := by first | (rw [hy141]; with_reducible exact H) | (have H2_ := (Option.bind_some _ _).symm.trans H; rw [hy141]; with_reducible exact H2_) | (have H2_ := (Option.bind_some _ _).symm.trans H; with_reducible exact H2_) | with_reducible exact H | (rw [hy141]; exact H) | exact H
      have Ny141 := Aside0.mk hy141
      clear hy141
      have HC11 := Aside0.mk H
      clear H
      go_upto_region 4 with (first | ((with_reducible refine gate_dst (N := 16) rfl ?_); (try (refine gate_guard (by rfl) ?_; dsimp only)); refine Kd.R_lit (Kd.int .i64) _ 3 ?hg (N := 16) ?hd (xs := ([] : List Int)) (inner := []) (ok := fun _ => True) (okp := fun _ => True) ?hr ?hp (fun _ hk => hk) trivial (Below.refl _ _) (Nat.le_refl _) (by simp) ?_; (case hd => rfl); (case hg => rfl); (case hr => first | (go_simp; done) | (go_simp; rfl)); (case hp => exact (Reps.none _ _)); intro v142 w12 ho13 hb hg_ hnew_; clear hg_ hnew_; (first | rw [← Ny141.out] at ho13 | (simp only [Int.reduceToNat] at ho13; rw [← Ny141.out] at ho13)); have n0_ := Aside0.mk (Kd.V_elder' (vx_ HO_0) (Kd.R_base ho13) hb); have n1_ := Aside0.mk (Kd.V_elder' (vx_ HO_1) (Kd.R_base ho13) hb); have n2_ := Aside0.mk (Kd.S_elder' (sx_ HO_5) (Kd.R_base ho13) hb); have n3_ := Aside0.mk (Kd.R_lower (Kd.R_newM (M := fun k_ => (w.heap.size ≤ k_)) ho13 (below_size bl_) (fun k_ h_ => h_)) (below_size bl_)); have n4_ := Aside0.mk (below_step bl_ hb); clear HO_0; clear HO_1; clear HO_5; clear HB; have HO_0 := n0_; have HO_1 := n1_; have HO_5 := n2_; have HO143 := n3_; have HB := n4_; clear n0_ n1_ n2_ n3_ n4_; clear hb ho13))
      repeat (go_quiet (first | ((with_reducible refine gate_dst (N := 16) rfl ?_); (try (refine gate_guard (by rfl) ?_; dsimp only)); refine Kd.R_lit (Kd.int .i64) _ 3 ?hg (N := 16) ?hd (xs := ([] : List Int)) (inner := []) (ok := fun _ => True) (okp := fun _ => True) ?hr ?hp (fun _ hk => hk) trivial (Below.refl _ _) (Nat.le_refl _) (by simp) ?_; (case hd => rfl); (case hg => rfl); (case hr => first | (go_simp; done) | (go_simp; rfl)); (case hp => exact (Reps.none _ _)); intro v142 w12 ho13 hb hg_ hnew_; clear hg_ hnew_; (first | rw [← Ny141.out] at ho13 | (simp only [Int.reduceToNat] at ho13; rw [← Ny141.out] at ho13)); have n0_ := Aside0.mk (Kd.V_elder' (vx_ HO_0) (Kd.R_base ho13) hb); have n1_ := Aside0.mk (Kd.V_elder' (vx_ HO_1) (Kd.R_base ho13) hb); have n2_ := Aside0.mk (Kd.S_elder' (sx_ HO_5) (Kd.R_base ho13) hb); have n3_ := Aside0.mk (Kd.R_lower (Kd.R_newM (M := fun k_ => (w.heap.size ≤ k_)) ho13 (below_size bl_) (fun k_ h_ => h_)) (below_size bl_)); have n4_ := Aside0.mk (below_step bl_ hb); clear HO_0; clear HO_1; clear HO_5; clear HB; have HO_0 := n0_; have HO_1 := n1_; have HO_5 := n2_; have HO143 := n3_; have HB := n4_; clear n0_ n1_ n2_ n3_ n4_; clear hb ho13)); go_upto_region 4 with (first | ((with_reducible refine gate_dst (N := 16) rfl ?_); (try (refine gate_guard (by rfl) ?_; dsimp only)); refine Kd.R_lit (Kd.int .i64) _ 3 ?hg (N := 16) ?hd (xs := ([] : List Int)) (inner := []) (ok := fun _ => True) (okp := fun _ => True) ?hr ?hp (fun _ hk => hk) trivial (Below.refl _ _) (Nat.le_refl _) (by simp) ?_; (case hd => rfl); (case hg => rfl); (case hr => first | (go_simp; done) | (go_simp; rfl)); (case hp => exact (Reps.none _ _)); intro v142 w12 ho13 hb hg_ hnew_; clear hg_ hnew_; (first | rw [← Ny141.out] at ho13 | (simp only [Int.reduceToNat] at ho13; rw [← Ny141.out] at ho13)); have n0_ := Aside0.mk (Kd.V_elder' (vx_ HO_0) (Kd.R_base ho13) hb); have n1_ := Aside0.mk (Kd.V_elder' (vx_ HO_1) (Kd.R_base ho13) hb); have n2_ := Aside0.mk (Kd.S_elder' (sx_ HO_5) (Kd.R_base ho13) hb); have n3_ := Aside0.mk (Kd.R_lower (Kd.R_newM (M := fun k_ => (w.heap.size ≤ k_)) ho13 (below_size bl_) (fun k_ h_ => h_)) (below_size bl_)); have n4_ := Aside0.mk (below_step bl_ hb); clear HO_0; clear HO_1; clear HO_5; clear HB; have HO_0 := n0_; have HO_1 := n1_; have HO_5 := n2_; have HO143 := n3_; have HB := n4_; clear n0_ n1_ n2_ n3_ n4_; clear hb ho13)))
      (try simp only [Act.put, List.setIfInBounds_toArray, List.set_cons_zero, List.set_cons_succ])
      go_cut [34] (fun v34 wc => ∃ (kq : Nat) (x34_10 : Bool), v34 = .bool x34_10 ∧ Aside0 (spec_l05Merge.j2 kq x0_1 x1_1 x5_1 x34_10 = some r) ∧ Aside0 (kq ≤ kj4) ∧ Aside0 (Kd.V (Kd.slice 3 (Kd.int .i64)) 22 wc w.heap.size (fun k_ => ((P0_ k_ ∨ P1_ k_) ∨ w.heap.size ≤ k_) ∧ some k_ ≠ (u5 : Value).ownBlock) u0 x0_1) ∧ Aside0 (Kd.V (Kd.slice 3 (Kd.int .i64)) 22 wc w.heap.size (fun k_ => ((P0_ k_ ∨ P1_ k_) ∨ w.heap.size ≤ k_) ∧ some k_ ≠ (u5 : Value).ownBlock) u1 x1_1) ∧ Aside0 (Kd.S (Kd.slice 3 (Kd.int .i64)) 22 wc w.heap.size (fun k_ => (w.heap.size ≤ k_)) u5 x5_1) ∧ Aside0 (Below w.heap.size w wc))
      case first =>
       have H := HC11.out
       clear HC11
       by_cases c14 : (x1_1.length : Int) = 0
       ·rw [if_pos c14] at H
        have c14b0 : ((x1_1.length : Int) == 0) = true := beq_iff_eq.mpr c14
        have c14b1 : ((x1_1.length : Int) != 0) = false := bne_eq_false_iff_eq.mpr c14
        clear c14
        (first | rw [c14b0] | (simp only [i64_w, i32_w]; rw [c14b0]) | skip)
        have H' := Aside0.mk H
        clear H
        obtain ⟨Ao15, co15, eo15⟩ := Kd.V_slice HO_1.out
        subst eo15
        go_wp2
        repeat (go_quiet (fail); try go_wp2)
        go_meet
        case rel => exact ⟨_, (true), (by first | rfl | (simp; done) | (simp [*]; done)), H', ⟨by have := HK1.out; have := HJ4.out; first | omega | exact Nat.le_refl _⟩, ⟨by (with_reducible repeat (first | apply Kd.V_alloc | apply Kd.V_drewN | apply Kd.V_drew)); exact Kd.V_mono HO_0.out (fun _ hk => ⟨hk.1.1, hk.1.2⟩)⟩, ⟨by (with_reducible repeat (first | apply Kd.V_alloc | apply Kd.V_drewN | apply Kd.V_drew)); exact Kd.V_mono HO_1.out (fun _ hk => ⟨hk.1.1, hk.1.2⟩)⟩, ⟨by (with_reducible repeat (first | apply Kd.S_alloc | apply Kd.S_drewN | apply Kd.S_drew)); exact Kd.S_mono HO_5.out (fun _ hk => hk.1)⟩, ⟨by repeat (first | (with_reducible first | exact HB.out | apply below_alloc | apply pw_below_drewN | apply below_drew1) | exact HB.out)⟩⟩
       ·rw [if_neg c14] at H
        have c14b0 : ((x1_1.length : Int) == 0) = false := beq_eq_false_iff_ne.mpr c14
        have c14b1 : ((x1_1.length : Int) != 0) = true := bne_iff_ne.mpr c14
        have c14b2 : ¬ (x1_1 = []) := fun h_ => c14 (by rw [h_]; rfl)
        (first | rw [c14b0] | (simp only [i64_w, i32_w]; rw [c14b0]) | skip)
        by_cases c16 : (x0_1.length : Int) > 0
        ·rw [if_pos c16] at H
         have c16b0 : decide (0 < (x0_1.length : Int)) = true := decide_eq_true c16
         have c16b1 : decide (0 < x0_1.length) = true := decide_eq_true (by omega)
         clear c16
         by_cases c17 : 0 < (x1_1.length : Int)
         ·rw [if_pos c17] at H
          have c17b0 : decide (0 < (x1_1.length : Int)) = true := decide_eq_true c17
          have c17b1 : decide (0 < x1_1.length) = true := decide_eq_true (by omega)
          clear c17
          by_cases c18 : 0 < (x0_1.length : Int)
          ·rw [if_pos c18] at H
           have c18b0 : decide (0 < (x0_1.length : Int)) = true := decide_eq_true c18
           have c18b1 : decide (0 < x0_1.length) = true := decide_eq_true (by omega)
           clear c18
           replace H := Option.bind_eq_some_iff.mp H
           obtain ⟨t146, A190, H⟩ := H
           replace H : (spec_l05Merge.j2 kj4 x0_1 x1_1 x5_1 (!t146)) = some r := H
           have A19 := Aside0.mk A190
           clear A190
           have H' := Aside0.mk H
           clear H
           obtain ⟨Ao20, co20, eo20⟩ := Kd.V_slice HO_1.out
           subst eo20
           obtain ⟨Ao21, co21, eo21⟩ := Kd.V_slice HO_0.out
           subst eo21
           have p144 : 0 ≤ (0 : Int) := (by omega)
           have q144 : 0 < (x1_1.length : Int) := of_decide_eq_true (by first | (with_reducible assumption) | assumption)
           obtain ⟨ad144, A144_0, c144_0, e144, hx144_0, hl144_0, hi144_0⟩ := at_L2 (Kd.V_reads' HO_1.out).2.2 0 p144 q144
           cases e144
           obtain ⟨ce144, hce144, hMe144, hcc144⟩ := Kd.V_get HO_1.out [] 0 p144 (by first | exact q144 | exact of_decide_eq_true (by first | (with_reducible assumption) | assumption) | (have e_ := (Kd.V_reads' HO_1.out).1; omega))
           obtain ⟨ua144_0, uc144_0, rfl, ul144_0, ge144_0⟩ := Kd.FK_slice_open hMe144
           have hv144_0 := hcc144 0 _ rfl
           rw [Nat.add_zero, show ((Kd.slice 3 (Kd.int .i64))).sz = 1 from rfl, Nat.mul_one] at hv144_0
           replace hv144_0 := Option.some.inj (hv144_0.symm.trans hx144_0)
           injection hv144_0 with hva_ hvn_ hvc_
           rw [hva_] at ge144_0
           rw [hvc_] at ul144_0
           have HL144_0 := Aside0.mk (show Kd.V (Kd.int .i64) 3 _ w.heap.size _ _ (rd_L2 x1_1 0) from Kd.V_mk ul144_0 ge144_0)
           clear hva_ hvn_ hvc_ ge144_0 ul144_0
           clear hcc144 hce144
           have qi144 : (0 < x1_1.length) = True := eq_true (by omega)
           (try rw [show ((0 : Int)).toNat = 0 from rfl] at hx144_0)
           (try rw [Addr.add_zero'] at hx144_0)
           have HR144_0 := Aside0.mk hi144_0
           have HC144_0 := Aside0.mk hl144_0
           clear hi144_0 hl144_0
           replace p144 := eq_true p144
           replace q144 := eq_true q144
           have p145 : 0 ≤ (0 : Int) := (by omega)
           have q145 : 0 < (x0_1.length : Int) := of_decide_eq_true (by first | (with_reducible assumption) | assumption)
           obtain ⟨ad145, A145_0, c145_0, e145, hx145_0, hl145_0, hi145_0⟩ := at_L2 (Kd.V_reads' HO_0.out).2.2 0 p145 q145
           cases e145
           obtain ⟨ce145, hce145, hMe145, hcc145⟩ := Kd.V_get HO_0.out [] 0 p145 (by first | exact q145 | exact of_decide_eq_true (by first | (with_reducible assumption) | assumption) | (have e_ := (Kd.V_reads' HO_0.out).1; omega))
           obtain ⟨ua145_0, uc145_0, rfl, ul145_0, ge145_0⟩ := Kd.FK_slice_open hMe145
           have hv145_0 := hcc145 0 _ rfl
           rw [Nat.add_zero, show ((Kd.slice 3 (Kd.int .i64))).sz = 1 from rfl, Nat.mul_one] at hv145_0
           replace hv145_0 := Option.some.inj (hv145_0.symm.trans hx145_0)
           injection hv145_0 with hva_ hvn_ hvc_
           rw [hva_] at ge145_0
           rw [hvc_] at ul145_0
           have HL145_0 := Aside0.mk (show Kd.V (Kd.int .i64) 3 _ w.heap.size _ _ (rd_L2 x0_1 0) from Kd.V_mk ul145_0 ge145_0)
           clear hva_ hvn_ hvc_ ge145_0 ul145_0
           clear hcc145 hce145
           have qi145 : (0 < x0_1.length) = True := eq_true (by omega)
           (try rw [show ((0 : Int)).toNat = 0 from rfl] at hx145_0)
           (try rw [Addr.add_zero'] at hx145_0)
           have HR145_0 := Aside0.mk hi145_0
           have HC145_0 := Aside0.mk hl145_0
           clear hi145_0 hl145_0
           replace p145 := eq_true p145
           replace q145 := eq_true q145
           go_wp2_with (first | (go_at_call 100; (with_reducible refine (spec_l05Less.calls kj4 _ _ (rd_L2 x1_1 0) _ _ (rd_L2 x0_1 0) t146 _ ?side1 ?side2 ?side3 ?side4 A19.out).mono ?_); (case side1 => repeat (first | exact (cx_ HR144_0) | (with_reducible first | refine Kd.C_alloc ?_ _ | refine Kd.C_drewN ?_ _ | refine Kd.C_drew ?_))); (case side2 => exact HC144_0.out); (case side3 => repeat (first | exact (cx_ HR145_0) | (with_reducible first | refine Kd.C_alloc ?_ _ | refine Kd.C_drewN ?_ _ | refine Kd.C_drew ?_))); (case side4 => exact HC145_0.out); rintro e w' ⟨rfl, ⟨nd, rfl⟩⟩; (try first | exact ⟨rfl, _, World.drewN_drewN _ _ _⟩ | exact ⟨rfl, _, Eq.trans (World.drewN_drewN _ _ _) (congrArg (World.drewN _) (Nat.add_assoc _ _ _))⟩)) | go_quiet (first | (go_at_call 100; (with_reducible refine (spec_l05Less.calls kj4 _ _ (rd_L2 x1_1 0) _ _ (rd_L2 x0_1 0) t146 _ ?side1 ?side2 ?side3 ?side4 A19.out).mono ?_); (case side1 => repeat (first | exact (cx_ HR144_0) | (with_reducible first | refine Kd.C_alloc ?_ _ | refine Kd.C_drewN ?_ _ | refine Kd.C_drew ?_))); (case side2 => exact HC144_0.out); (case side3 => repeat (first | exact (cx_ HR145_0) | (with_reducible first | refine Kd.C_alloc ?_ _ | refine Kd.C_drewN ?_ _ | refine Kd.C_drew ?_))); (case side4 => exact HC145_0.out); rintro e w' ⟨rfl, ⟨nd, rfl⟩⟩; (try first | exact ⟨rfl, _, World.drewN_drewN _ _ _⟩ | exact ⟨rfl, _, Eq.trans (World.drewN_drewN _ _ _) (congrArg (World.drewN _) (Nat.add_assoc _ _ _))⟩))))
           go_meet
           case rel => exact ⟨_, (!t146), (by first | rfl | (simp; done) | (simp [*]; done)), H', ⟨by have := HK1.out; have := HJ4.out; first | omega | exact Nat.le_refl _⟩, ⟨by (with_reducible repeat (first | apply Kd.V_alloc | apply Kd.V_drewN | apply Kd.V_drew)); exact Kd.V_mono HO_0.out (fun _ hk => ⟨hk.1.1, hk.1.2⟩)⟩, ⟨by (with_reducible repeat (first | apply Kd.V_alloc | apply Kd.V_drewN | apply Kd.V_drew)); exact Kd.V_mono HO_1.out (fun _ hk => ⟨hk.1.1, hk.1.2⟩)⟩, ⟨by (with_reducible repeat (first | apply Kd.S_alloc | apply Kd.S_drewN | apply Kd.S_drew)); exact Kd.S_mono HO_5.out (fun _ hk => hk.1)⟩, ⟨by repeat (first | (with_reducible first | exact HB.out | apply below_alloc | apply pw_below_drewN | apply below_drew1) | exact HB.out)⟩⟩
          ·rw [if_neg c18] at H
           exact absurd H (by simp)
         ·rw [if_neg c17] at H
          exact absurd H (by simp)
        ·rw [if_neg c16] at H
         have c16b0 : decide (0 < (x0_1.length : Int)) = false := decide_eq_false c16
         have c16b1 : decide (0 < x0_1.length) = false := decide_eq_false (by omega)
         clear c16
         have H' := Aside0.mk H
         clear H
         obtain ⟨Ao22, co22, eo22⟩ := Kd.V_slice HO_1.out
         subst eo22
         obtain ⟨Ao23, co23, eo23⟩ := Kd.V_slice HO_0.out
         subst eo23
         go_wp2
         repeat (go_quiet (fail); try go_wp2)
         go_meet
         case rel => exact ⟨_, (false), (by first | rfl | (simp; done) | (simp [*]; done)), H', ⟨by have := HK1.out; have := HJ4.out; first | omega | exact Nat.le_refl _⟩, ⟨by (with_reducible repeat (first | apply Kd.V_alloc | apply Kd.V_drewN | apply Kd.V_drew)); exact Kd.V_mono HO_0.out (fun _ hk => ⟨hk.1.1, hk.1.2⟩)⟩, ⟨by (with_reducible repeat (first | apply Kd.V_alloc | apply Kd.V_drewN | apply Kd.V_drew)); exact Kd.V_mono HO_1.out (fun _ hk => ⟨hk.1.1, hk.1.2⟩)⟩, ⟨by (with_reducible repeat (first | apply Kd.S_alloc | apply Kd.S_drewN | apply Kd.S_drew)); exact Kd.S_mono HO_5.out (fun _ hk => hk.1)⟩, ⟨by repeat (first | (with_reducible first | exact HB.out | apply below_alloc | apply pw_below_drewN | apply below_drew1) | exact HB.out)⟩⟩
      case rest =>
       clear HC11
       try clear c1
       try clear p1
       try clear q1
       try clear hx1
       try clear qi1
       try clear p2
       try clear c6
       try clear c6b0
       try clear c6b1
       try clear c8
       try clear c10
       try clear c14
       try clear c14b0
       try clear c14b1
       try clear c14b2
       try clear p14
       try clear q14
       try clear hx14
       try clear qi14
       try clear c16
       try clear c16b0
       try clear c16b1
       try clear c17
       try clear c17b0
       try clear c17b1
       try clear c18
       try clear c18b0
       try clear c18b1
       try clear hx144_0
       try clear hx145_0
       try clear p144
       try clear p145
       try clear p2
       try clear q144
       try clear q145
       obtain ⟨kq, x34_10, rfl, HA, HJ10, HO_0, HO_1, HO_5, HB⟩ := hcut
       cases kq with
       | zero => exact absurd HA.out (by simp [spec_l05Merge.j2])
       | succ kj10 =>
        have H := HA.out
        clear HA
        simp only [spec_l05Merge.j2] at H
        by_cases c24 : x34_10 = true
        ·subst c24
         rw [if_pos rfl] at H
         by_cases c25 : 0 < (x0_1.length : Int)
         ·rw [if_pos c25] at H
          have c25b0 : decide (0 < (x0_1.length : Int)) = true := decide_eq_true c25
          have c25b1 : decide (0 < x0_1.length) = true := decide_eq_true (by omega)
          clear c25
          by_cases c26 : 1 ≤ (x0_1.length : Int)
          ·rw [if_pos c26] at H
           have c26b0 := eq_true c26
           have c26b1 : decide (1 ≤ (x0_1.length : Int)) = true := decide_eq_true c26
           clear c26
           obtain ⟨y148, hy148⟩ : ∃ y_ : List (List Int), y_ = (x0_1.drop 1) := ⟨_, rfl⟩
           replace H : (if (x5_1.length : Int) = 0 then ((some (([] : List Int) : List Int)).bind fun y153 => (if y153.length + (rd_L2 x0_1 0).length < 17592186044416 then (if x5_1.length < 5864062014805 then (spec_l05Merge.l0 kj10 y148 x1_1 (x5_1 ++ [(y153 ++ (rd_L2 x0_1 0))])) else (none)) else (none))) else (if 0 ≤ (wrap64 ((x5_1.length : Int) - 1)) then (if (wrap64 ((x5_1.length : Int) - 1)) < (x5_1.length : Int) then ((spec_SamePacket.f kj10 (rd_L2 x5_1 (wrap64 ((x5_1.length : Int) - 1))) (rd_L2 x0_1 0)).bind fun t163 => (if t163 = true then (spec_l05Merge.l0 kj10 y148 x1_1 x5_1) else ((some (([] : List Int) : List Int)).bind fun y164 => (if y164.length + (rd_L2 x0_1 0).length < 17592186044416 then (if x5_1.length < 5864062014805 then (spec_l05Merge.l0 kj10 y148 x1_1 (x5_1 ++ [(y164 ++ (rd_L2 x0_1 0))])) else (none)) else (none))))) else (none)) else (none))) = some r := by first | (rw [hy148]; with_reducible exact H) | (have H2_ := (Option.bind_some _ _).symm.trans H; rw [hy148]; with_reducible exact H2_) | (have H2_ := (Option.bind_some _ _).symm.trans H; with_reducible exact H2_) | with_reducible exact H | (rw [hy148]; exact H) | exact H
           have Ny148 := Aside0.mk hy148
           clear hy148
           by_cases c27 : (x5_1.length : Int) = 0
           ·rw [if_pos c27] at H
            have c27b0 : ((x5_1.length : Int) == 0) = true := beq_iff_eq.mpr c27
            have c27b1 : ((x5_1.length : Int) != 0) = false := bne_eq_false_iff_eq.mpr c27
            clear c27
            obtain ⟨y153, hy153⟩ : ∃ y_ : List Int, y_ = (([] : List Int)) := ⟨_, rfl⟩
            replace H : (if y153.length + (rd_L2 x0_1 0).length < 17592186044416 then (if x5_1.length < 5864062014805 then (spec_l05Merge.l0 kj10 y148 x1_1 (x5_1 ++ [(y153 ++ (rd_L2 x0_1 0))])) else (none)) else (none)) = some r := by first | (rw [hy153]; with_reducible exact H) | (have H2_ := (Option.bind_some _ _).symm.trans H; rw [hy153]; with_reducible exact H2_) | (have H2_ := (Option.bind_some _ _).symm.trans H; with_reducible exact H2_) | with_reducible exact H | (rw [hy153]; exact H) | exact H
            have Ny153 := Aside0.mk hy153
            clear hy153
            by_cases c28 : y153.length + (rd_L2 x0_1 0).length < 17592186044416
            ·rw [if_pos c28] at H
             have LMc28 := Aside0.mk c28
             clear c28
             obtain ⟨y156, hy156⟩ : ∃ y_ : List Int, y_ = (y153 ++ (rd_L2 x0_1 0)) := ⟨_, rfl⟩
             replace H : (if x5_1.length < 5864062014805 then (spec_l05Merge.l0 kj10 y148 x1_1 (x5_1 ++ [y156])) else (none)) = some r := by first | (rw [hy156]; with_reducible exact H) | (have H2_ := (Option.bind_some _ _).symm.trans H; rw [hy156]; with_reducible exact H2_) | (have H2_ := (Option.bind_some _ _).symm.trans H; with_reducible exact H2_) | with_reducible exact H | (rw [hy156]; exact H) | exact H
             have Ny156 := Aside0.mk hy156
             clear hy156
             by_cases c29 : x5_1.length < 5864062014805
             ·rw [if_pos c29] at H
              have LMc29 := Aside0.mk c29
              clear c29
              obtain ⟨y159, hy159⟩ : ∃ y_ : List (List Int), y_ = (x5_1 ++ [y156]) := ⟨_, rfl⟩
              replace H : (spec_l05Merge.l0 kj10 y148 x1_1 y159) = some r := by first | (rw [hy159]; with_reducible exact H) | (have H2_ := (Option.bind_some _ _).symm.trans H; rw [hy159]; with_reducible exact H2_) | (have H2_ := (Option.bind_some _ _).symm.trans H; with_reducible exact H2_) | with_reducible exact H | (rw [hy159]; exact H) | exact H
              have Ny159 := Aside0.mk hy159
              clear hy159
              have H' := Aside0.mk H
              clear H
              obtain ⟨Ao30, co30, eo30⟩ := Kd.V_slice HO_0.out
              subst eo30
              have p147 : 0 ≤ (0 : Int) := (by omega)
              have q147 : 0 < (x0_1.length : Int) := of_decide_eq_true (by first | (with_reducible assumption) | assumption)
              obtain ⟨ad147, A147_0, c147_0, e147, hx147_0, hl147_0, hi147_0⟩ := at_L2 (Kd.V_reads' HO_0.out).2.2 0 p147 q147
              cases e147
              obtain ⟨ce147, hce147, hMe147, hcc147⟩ := Kd.V_get HO_0.out [] 0 p147 (by first | exact q147 | exact of_decide_eq_true (by first | (with_reducible assumption) | assumption) | (have e_ := (Kd.V_reads' HO_0.out).1; omega))
              obtain ⟨ua147_0, uc147_0, rfl, ul147_0, ge147_0⟩ := Kd.FK_slice_open hMe147
              have hv147_0 := hcc147 0 _ rfl
              rw [Nat.add_zero, show ((Kd.slice 3 (Kd.int .i64))).sz = 1 from rfl, Nat.mul_one] at hv147_0
              replace hv147_0 := Option.some.inj (hv147_0.symm.trans hx147_0)
              injection hv147_0 with hva_ hvn_ hvc_
              rw [hva_] at ge147_0
              rw [hvc_] at ul147_0
              have HL147_0 := Aside0.mk (show Kd.V (Kd.int .i64) 3 _ w.heap.size _ _ (rd_L2 x0_1 0) from Kd.V_mk ul147_0 ge147_0)
              clear hva_ hvn_ hvc_ ge147_0 ul147_0
              clear hcc147 hce147
              have qi147 : (0 < x0_1.length) = True := eq_true (by omega)
              (try rw [show ((0 : Int)).toNat = 0 from rfl] at hx147_0)
              (try rw [Addr.add_zero'] at hx147_0)
              have HR147_0 := Aside0.mk hi147_0
              have HC147_0 := Aside0.mk hl147_0
              clear hi147_0 hl147_0
              replace p147 := eq_true p147
              replace q147 := eq_true q147
              have q31 : (1 : Int) ≤ ((x0_1.length : Int) : Int) := of_decide_eq_true (by first | (with_reducible assumption) | assumption)
              obtain ⟨i031, hi031, _, hsz31, _⟩ := info_parts info22
              have hroom31 : x0_1.length ≤ co30 := (Kd.V_reads' HO_0.out).2.1
              have hC31 : Kd.F (Kd.slice 3 (Kd.int .i64)) _ _ (some ad147) x0_1.length x0_1 := (Kd.V_at (base := w.heap.size) HO_0.out).2.2
              have hcut31 := cut_from (P := Try.prog) 33 22 .i64 Try.underlying33 hi031 1 hsz31 (some ad147) x0_1.length co30 1 (by omega) q31
              have hr31 := Kd.F_cut (m := (1 : Int).toNat) (c := co30) hC31 (by omega) hroom31
              obtain ⟨A31, hA31⟩ : ∃ A1, A1 = (if co30 = (1 : Int).toNat then (some ad147) else ((some ad147) : Option Addr).map (·.add ((1 : Int).toNat * 1))) := ⟨_, rfl⟩
              obtain ⟨c31, hc31⟩ : ∃ c1, c1 = co30 - (1 : Int).toNat := ⟨_, rfl⟩
              have hy31 : y148.length = x0_1.length - (1 : Int).toNat := (by rw [Ny148.out, List.length_drop] <;> omega)
              rw [show (x0_1).drop (1 : Int).toNat = y148 from Ny148.out.symm] at hr31
              replace hr31 : Kd.F (Kd.slice 3 (Kd.int .i64)) _ _ A31 y148.length y148 := (by rw [hA31]; exact hr31)
              rw [← hy31, ← hA31, ← hc31] at hcut31
              have HO152 := Aside0.mk (show Kd.V (Kd.slice 3 (Kd.int .i64)) 22 _ w.heap.size _ (.slice A31 y148.length c31) y148 from Kd.V_mk (by rw [hy31, hc31]; exact Nat.sub_le_sub_right hroom31 _) hr31)
              have HC152 := Aside0.mk (show y148.length ≤ c31 from by rw [hy31, hc31]; exact Nat.sub_le_sub_right hroom31 _)
              clear hr31 hC31 hroom31 hi031 hsz31 hc31
              have KY31 := Aside0.mk hy31
              have KA31 := Aside0.mk hA31
              clear hy31 hA31
              replace q31 := eq_true q31
              obtain ⟨Ao32, co32, eo32⟩ := Kd.S_slice HO_5.out
              subst eo32
              go_wp2_with (first | ((with_reducible refine gate_dst (N := 60) rfl ?_); (try (refine gate_guard (by rfl) ?_; dsimp only)); refine Kd.R_lit (Kd.int .i64) _ 3 ?hg (N := 60) ?hd (xs := ([] : List Int)) (inner := []) (ok := fun _ => True) (okp := fun _ => True) ?hr ?hp (fun _ hk => hk) trivial (Below.refl _ _) (Nat.le_refl _) (by simp) ?_; (case hd => rfl); (case hg => rfl); (case hr => first | (go_simp; done) | (go_simp; rfl)); (case hp => exact (Reps.none _ _)); intro v154 w33 ho34 hb hg_ hnew_; clear hg_ hnew_; (first | rw [← Ny153.out] at ho34 | (simp only [Int.reduceToNat] at ho34; rw [← Ny153.out] at ho34)); have n0_ := Aside0.mk (Kd.V_elder' (vx_ HO_0) (Kd.R_base ho34) hb); have n1_ := Aside0.mk (Kd.V_elder' (vx_ HO_1) (Kd.R_base ho34) hb); have n2_ := Aside0.mk (Kd.S_elder' (sx_ HO_5) (Kd.R_base ho34) hb); have n3_ := Aside0.mk (Kd.V_elder' (vx_ HL147_0) (Kd.R_base ho34) hb); have n4_ := Aside0.mk (Kd.V_elder' (vx_ HO152) (Kd.R_base ho34) hb); have n5_ := Aside0.mk (Kd.R_lower (Kd.R_newM (M := fun k_ => (w.heap.size ≤ k_)) ho34 (below_size bl_) (fun k_ h_ => h_)) (below_size bl_)); have n6_ := Aside0.mk (Kd.C_below (cx_ HR147_0) hb); have n7_ := Aside0.mk (below_step bl_ hb); clear HO_0; clear HO_1; clear HO_5; clear HL147_0; clear HO152; clear HR147_0; clear HB; have HO_0 := n0_; have HO_1 := n1_; have HO_5 := n2_; have HL147_0 := n3_; have HO152 := n4_; have HO155 := n5_; have HR147_0 := n6_; have HB := n7_; clear n0_ n1_ n2_ n3_ n4_ n5_ n6_ n7_; clear hb ho34) | ((with_reducible refine gate_builtin (b := .append) (xs := #[.tmp 60, .tmp 61]) rfl ?_); (try (refine gate_guard (by rfl) ?_; dsimp only)); at_builtin; refine Kd.R_append_rows (Kd.int .i64) (w0 := w) w.heap.size rfl (.tmp 60) (.tmp 61) 22 3 (.int .i64 0) 8 rfl Try.underlying22 info3 rfl (by decide) (by omega) v154 y153 (rd_L2 x0_1 0) _ _ _ (fun k_ => (w.heap.size ≤ k_)) (fun _ => False) rfl rfl ?aO ?aR (fun _ _ h => h) (fun _ h => h.elim) ?aF ?aB ?aS ?aL ?_; (case aR => repeat (first | exact (cx_ HR147_0) | (with_reducible first | refine Kd.C_alloc ?_ _ | refine Kd.C_drewN ?_ _ | refine Kd.C_drew ?_))); (case aB => exact bl_); (case aF => exact (fun k_ hk => (Nat.le_trans (below_size bl_) hk))); (case aO => exact (by (with_reducible repeat (first | apply Kd.R_alloc | apply Kd.R_drewN | apply Kd.R_drew)); exact Kd.R_mono HO155.out (fun _ hk => hk.1))); (case aS => exact (below_size bl_)); (case aL => have := LMc28.out; omega); intro v157 w35 ho hb hg hat; rw [← Ny156.out] at ho; have n0_ := Aside0.mk (Kd.V_afterv (ok := (fun k_ => ((P0_ k_ ∨ P1_ k_) ∨ w.heap.size ≤ k_) ∧ some k_ ≠ (.slice Ao32 x5_1.length co32 : Value).ownBlock)) (vx_ HO_0) hg hat); have n1_ := Aside0.mk (Kd.V_afterv (ok := (fun k_ => ((P0_ k_ ∨ P1_ k_) ∨ w.heap.size ≤ k_) ∧ some k_ ≠ (.slice Ao32 x5_1.length co32 : Value).ownBlock)) (vx_ HO_1) hg hat); have n2_ := Aside0.mk (Kd.S_after (ok := (fun k_ => (w.heap.size ≤ k_))) (sx_ HO_5) hg hat); have n3_ := Aside0.mk (Kd.V_afterv (ok := (fun k_ => ((P0_ k_ ∨ P1_ k_) ∨ w.heap.size ≤ k_) ∧ some k_ ≠ (.slice Ao32 x5_1.length co32 : Value).ownBlock)) (vx_ HL147_0) hg hat); have n4_ := Aside0.mk (Kd.V_afterv (ok := (fun k_ => ((P0_ k_ ∨ P1_ k_) ∨ w.heap.size ≤ k_) ∧ some k_ ≠ (.slice Ao32 x5_1.length co32 : Value).ownBlock)) (vx_ HO152) hg hat); have n5_ := Aside0.mk (hb); have n6_ := Aside0.mk (ho); clear HO_0; clear HO_1; clear HO_5; clear HL147_0; clear HO152; clear HB; clear HO155; have HO_0 := n0_; have HO_1 := n1_; have HO_5 := n2_; have HL147_0 := n3_; have HO152 := n4_; have HB := n5_; have HO158 := n6_; clear n0_ n1_ n2_ n3_ n4_ n5_ n6_; clear ho hb hg hat; obtain ⟨Ao37, co37, eo37⟩ := Kd.R_slice HO158.out; subst eo37) | ((with_reducible refine gate_builtin (b := .append) (xs := #[.tmp 59, .tmp 63]) rfl ?_); (try (refine gate_guard (by rfl) ?_; dsimp only)); at_builtin; refine Kd.S_append (Kd.slice 3 (Kd.int .i64)) (w0 := w) w.heap.size rfl (.tmp 59) (.tmp 63) 33 22 (.slice none 0 0) 24 rfl Try.underlying33 info22 rfl (by decide) (by omega) (.slice Ao32 x5_1.length co32) x5_1 y156 [.slice Ao37 y156.length co37] (fun k_ => (w.heap.size ≤ k_)) (fun k_ => some k_ = (.slice Ao37 y156.length co37 : Value).ownBlock) rfl rfl ?aP (fun k_ hk_ => ((Kd.R_mono (ok' := fun k_ => ((fun k_ => (w.heap.size ≤ k_))) k_ ∧ some k_ ≠ (.slice Ao32 x5_1.length co32 : Value).ownBlock) (Kd.R_apart' (HO158.out) (Kd.S_typed HO_5.out) (by decide)) (fun k_ hk => ⟨hk.1, hk.2⟩))).1 k_ hk_.symm) ?aF ?aO ?aB ?aS ?aL ?_; (case aP => exact Kd.M_row (Kd.R_mono (Kd.R_tight rfl (Kd.R_mono (ok' := fun k_ => ((fun k_ => (w.heap.size ≤ k_))) k_ ∧ some k_ ≠ (.slice Ao32 x5_1.length co32 : Value).ownBlock) (Kd.R_apart' (HO158.out) (Kd.S_typed HO_5.out) (by decide)) (fun k_ hk => ⟨hk.1, hk.2⟩))) (fun _ h_ => h_))); (case aB => exact bl_); (case aF => exact (fun k_ hk => (Nat.le_trans (below_size bl_) hk))); (case aO => exact (by (with_reducible repeat (first | apply Kd.S_alloc | apply Kd.S_drewN | apply Kd.S_drew)); exact Kd.S_mono HO_5.out (fun k_ hk => ⟨hk.1, fun e_ => hk.2 e_⟩))); (case aS => exact (below_size bl_)); (case aL => have := LMc29.out; omega); intro v160 w36 ho hb hg hat; rw [← Ny159.out] at ho; have n0_ := Aside0.mk (Kd.V_afterv (ok := (fun k_ => ((P0_ k_ ∨ P1_ k_) ∨ w.heap.size ≤ k_) ∧ some k_ ≠ (.slice Ao37 y156.length co37 : Value).ownBlock)) (by (with_reducible repeat (first | apply Kd.V_alloc | apply Kd.V_drewN | apply Kd.V_drew)); exact Kd.V_mono HO_0.out (fun _ hk => ⟨⟨hk.1.1, hk.2⟩, hk.1.2⟩)) hg hat); have n1_ := Aside0.mk (Kd.V_afterv (ok := (fun k_ => ((P0_ k_ ∨ P1_ k_) ∨ w.heap.size ≤ k_) ∧ some k_ ≠ (.slice Ao37 y156.length co37 : Value).ownBlock)) (by (with_reducible repeat (first | apply Kd.V_alloc | apply Kd.V_drewN | apply Kd.V_drew)); exact Kd.V_mono HO_1.out (fun _ hk => ⟨⟨hk.1.1, hk.2⟩, hk.1.2⟩)) hg hat); have n2_ := Aside0.mk (Kd.V_afterv (ok := (fun k_ => ((P0_ k_ ∨ P1_ k_) ∨ w.heap.size ≤ k_) ∧ some k_ ≠ (.slice Ao37 y156.length co37 : Value).ownBlock)) (by (with_reducible repeat (first | apply Kd.V_alloc | apply Kd.V_drewN | apply Kd.V_drew)); exact Kd.V_mono HL147_0.out (fun _ hk => ⟨⟨hk.1.1, hk.2⟩, hk.1.2⟩)) hg hat); have n3_ := Aside0.mk (Kd.V_afterv (ok := (fun k_ => ((P0_ k_ ∨ P1_ k_) ∨ w.heap.size ≤ k_) ∧ some k_ ≠ (.slice Ao37 y156.length co37 : Value).ownBlock)) (by (with_reducible repeat (first | apply Kd.V_alloc | apply Kd.V_drewN | apply Kd.V_drew)); exact Kd.V_mono HO152.out (fun _ hk => ⟨⟨hk.1.1, hk.2⟩, hk.1.2⟩)) hg hat); have n4_ := Aside0.mk (hb); have n5_ := Aside0.mk (ho); clear HO_0; clear HO_1; clear HL147_0; clear HO152; clear HB; clear HO_5; clear HO158; have HO_0 := n0_; have HO_1 := n1_; have HL147_0 := n2_; have HO152 := n3_; have HB := n4_; have HO161 := n5_; clear n0_ n1_ n2_ n3_ n4_ n5_; clear ho hb hg hat) | go_quiet (fail))
              go_roundg kj10
              case measure => have := HK1.out; have := HJ4.out; have := HJ10.out; omega
              case rel => exact ⟨(y148), (x1_1), (y159), H', ⟨by have := HK1.out; have := HJ4.out; have := HJ10.out; omega⟩, ⟨by (with_reducible repeat (first | apply Kd.V_alloc | apply Kd.V_drewN | apply Kd.V_drew)); exact Kd.V_mono HO152.out (fun _ hk => ⟨hk.1.1, hk.2⟩)⟩, ⟨by (with_reducible repeat (first | apply Kd.V_alloc | apply Kd.V_drewN | apply Kd.V_drew)); exact Kd.V_mono HO_1.out (fun _ hk => ⟨hk.1.1, hk.2⟩)⟩, ⟨by (with_reducible repeat (first | apply Kd.S_alloc | apply Kd.S_drewN | apply Kd.S_drew)); exact HO161.out⟩, ⟨by repeat (first | (with_reducible first | exact HB.out | apply below_alloc | apply pw_below_drewN | apply below_drew1) | exact HB.out)⟩⟩
             ·rw [if_neg c29] at H
              exact absurd H (by simp)
            ·rw [if_neg c28] at H
             exact absurd H (by simp)
           ·rw [if_neg c27] at H
            have c27b0 : ((x5_1.length : Int) == 0) = false := beq_eq_false_iff_ne.mpr c27
            have c27b1 : ((x5_1.length : Int) != 0) = true := bne_iff_ne.mpr c27
            have c27b2 : ¬ (x5_1 = []) := fun h_ => c27 (by rw [h_]; rfl)
            obtain ⟨ji38, hji38⟩ : ∃ j_ : Int, (wrap64 ((x5_1.length : Int) - 1)) = j_ := ⟨_, rfl⟩
            replace H : (if 0 ≤ (ji38) then (if (ji38) < (x5_1.length : Int) then ((spec_SamePacket.f kj10 (rd_L2 x5_1 (ji38)) (rd_L2 x0_1 0)).bind fun t163 => (if t163 = true then (spec_l05Merge.l0 kj10 y148 x1_1 x5_1) else ((some (([] : List Int) : List Int)).bind fun y164 => (if y164.length + (rd_L2 x0_1 0).length < 17592186044416 then (if x5_1.length < 5864062014805 then (spec_l05Merge.l0 kj10 y148 x1_1 (x5_1 ++ [(y164 ++ (rd_L2 x0_1 0))])) else (none)) else (none))))) else (none)) else (none)) = some r := by first | (rw [hji38] at H; exact H) | (simp only [hji38] at H ⊢; exact H)
            have hji38w : (IntKind.i64.wrap ((x5_1.length : Int) - 1)) = ji38 := (i64_w _).trans hji38
            by_cases c39 : 0 ≤ (ji38)
            ·rw [if_pos c39] at H
             have c39b0 : decide (0 ≤ (ji38)) = true := decide_eq_true c39
             clear c39
             by_cases c40 : (ji38) < (x5_1.length : Int)
             ·rw [if_pos c40] at H
              have c40b0 : decide ((ji38) < (x5_1.length : Int)) = true := decide_eq_true c40
              clear c40
              replace H := Option.bind_eq_some_iff.mp H
              obtain ⟨t163, A410, H⟩ := H
              replace H : (if t163 = true then (spec_l05Merge.l0 kj10 y148 x1_1 x5_1) else ((some (([] : List Int) : List Int)).bind fun y164 => (if y164.length + (rd_L2 x0_1 0).length < 17592186044416 then (if x5_1.length < 5864062014805 then (spec_l05Merge.l0 kj10 y148 x1_1 (x5_1 ++ [(y164 ++ (rd_L2 x0_1 0))])) else (none)) else (none)))) = some r := H
              have A41 := Aside0.mk A410
              clear A410
              by_cases c42 : t163 = true
              ·subst c42
               rw [if_pos rfl] at H
               have H' := Aside0.mk H
               clear H
               obtain ⟨Ao43, co43, eo43⟩ := Kd.V_slice HO_0.out
               subst eo43
               have p147 : 0 ≤ (0 : Int) := (by omega)
               have q147 : 0 < (x0_1.length : Int) := of_decide_eq_true (by first | (with_reducible assumption) | assumption)
               obtain ⟨ad147, A147_0, c147_0, e147, hx147_0, hl147_0, hi147_0⟩ := at_L2 (Kd.V_reads' HO_0.out).2.2 0 p147 q147
               cases e147
               obtain ⟨ce147, hce147, hMe147, hcc147⟩ := Kd.V_get HO_0.out [] 0 p147 (by first | exact q147 | exact of_decide_eq_true (by first | (with_reducible assumption) | assumption) | (have e_ := (Kd.V_reads' HO_0.out).1; omega))
               obtain ⟨ua147_0, uc147_0, rfl, ul147_0, ge147_0⟩ := Kd.FK_slice_open hMe147
               have hv147_0 := hcc147 0 _ rfl
               rw [Nat.add_zero, show ((Kd.slice 3 (Kd.int .i64))).sz = 1 from rfl, Nat.mul_one] at hv147_0
               replace hv147_0 := Option.some.inj (hv147_0.symm.trans hx147_0)
               injection hv147_0 with hva_ hvn_ hvc_
               rw [hva_] at ge147_0
               rw [hvc_] at ul147_0
               have HL147_0 := Aside0.mk (show Kd.V (Kd.int .i64) 3 _ w.heap.size _ _ (rd_L2 x0_1 0) from Kd.V_mk ul147_0 ge147_0)
               clear hva_ hvn_ hvc_ ge147_0 ul147_0
               clear hcc147 hce147
               have qi147 : (0 < x0_1.length) = True := eq_true (by omega)
               (try rw [show ((0 : Int)).toNat = 0 from rfl] at hx147_0)
               (try rw [Addr.add_zero'] at hx147_0)
               have HR147_0 := Aside0.mk hi147_0
               have HC147_0 := Aside0.mk hl147_0
               clear hi147_0 hl147_0
               replace p147 := eq_true p147
               replace q147 := eq_true q147
               have q44 : (1 : Int) ≤ ((x0_1.length : Int) : Int) := of_decide_eq_true (by first | (with_reducible assumption) | assumption)
               obtain ⟨i044, hi044, _, hsz44, _⟩ := info_parts info22
               have hroom44 : x0_1.length ≤ co43 := (Kd.V_reads' HO_0.out).2.1
               have hC44 : Kd.F (Kd.slice 3 (Kd.int .i64)) _ _ (some ad147) x0_1.length x0_1 := (Kd.V_at (base := w.heap.size) HO_0.out).2.2
               have hcut44 := cut_from (P := Try.prog) 33 22 .i64 Try.underlying33 hi044 1 hsz44 (some ad147) x0_1.length co43 1 (by omega) q44
               have hr44 := Kd.F_cut (m := (1 : Int).toNat) (c := co43) hC44 (by omega) hroom44
               obtain ⟨A44, hA44⟩ : ∃ A1, A1 = (if co43 = (1 : Int).toNat then (some ad147) else ((some ad147) : Option Addr).map (·.add ((1 : Int).toNat * 1))) := ⟨_, rfl⟩
               obtain ⟨c44, hc44⟩ : ∃ c1, c1 = co43 - (1 : Int).toNat := ⟨_, rfl⟩
               have hy44 : y148.length = x0_1.length - (1 : Int).toNat := (by rw [Ny148.out, List.length_drop] <;> omega)
               rw [show (x0_1).drop (1 : Int).toNat = y148 from Ny148.out.symm] at hr44
               replace hr44 : Kd.F (Kd.slice 3 (Kd.int .i64)) _ _ A44 y148.length y148 := (by rw [hA44]; exact hr44)
               rw [← hy44, ← hA44, ← hc44] at hcut44
               have HO152 := Aside0.mk (show Kd.V (Kd.slice 3 (Kd.int .i64)) 22 _ w.heap.size _ (.slice A44 y148.length c44) y148 from Kd.V_mk (by rw [hy44, hc44]; exact Nat.sub_le_sub_right hroom44 _) hr44)
               have HC152 := Aside0.mk (show y148.length ≤ c44 from by rw [hy44, hc44]; exact Nat.sub_le_sub_right hroom44 _)
               clear hr44 hC44 hroom44 hi044 hsz44 hc44
               have KY44 := Aside0.mk hy44
               have KA44 := Aside0.mk hA44
               clear hy44 hA44
               replace q44 := eq_true q44
               obtain ⟨Ao45, co45, eo45⟩ := Kd.S_slice HO_5.out
               subst eo45
               have p162 : 0 ≤ ((ji38) : Int) := of_decide_eq_true (by first | (with_reducible assumption) | assumption)
               have q162 : (ji38) < (x5_1.length : Int) := of_decide_eq_true (by first | (with_reducible assumption) | assumption)
               obtain ⟨ad162, A162_0, c162_0, e162, hx162_0, hl162_0, hi162_0⟩ := at_L2 (Kd.S_reads' HO_5.out).2.2 (ji38) p162 q162
               cases e162
               obtain ⟨ce162, hce162, hMe162, hcc162⟩ := Kd.S_get HO_5.out [] (ji38) p162 (by first | exact q162 | exact of_decide_eq_true (by first | (with_reducible assumption) | assumption) | (have e_ := (Kd.S_reads' HO_5.out).1; omega))
               obtain ⟨ve162_0, rfl, ge162_0⟩ := hMe162
               have hv162_0 := hcc162 0 _ rfl
               rw [Nat.add_zero, show ((Kd.slice 3 (Kd.int .i64))).sz = 1 from rfl, Nat.mul_one] at hv162_0
               replace hv162_0 := Option.some.inj (hv162_0.symm.trans hx162_0)
               rw [hv162_0] at ge162_0
               have HL162_0 := Aside0.mk (show Kd.R (Kd.int .i64) 3 _ _ _ _ (rd_L2 x5_1 (ji38)) from ge162_0)
               clear hv162_0 ge162_0
               clear hcc162 hce162
               have HR162_0 := Aside0.mk hi162_0
               have HC162_0 := Aside0.mk hl162_0
               clear hi162_0 hl162_0
               replace p162 := eq_true p162
               replace q162 := eq_true q162
               go_wp2_with (first | (go_at_call 16; (with_reducible refine (spec_SamePacket.calls kj10 _ _ (rd_L2 x5_1 (ji38)) _ _ (rd_L2 x0_1 0) true _ ?side1 ?side2 ?side3 ?side4 A41.out).mono ?_); (case side1 => repeat (first | exact (cx_ HR162_0) | (with_reducible first | refine Kd.C_alloc ?_ _ | refine Kd.C_drewN ?_ _ | refine Kd.C_drew ?_))); (case side2 => exact HC162_0.out); (case side3 => repeat (first | exact (cx_ HR147_0) | (with_reducible first | refine Kd.C_alloc ?_ _ | refine Kd.C_drewN ?_ _ | refine Kd.C_drew ?_))); (case side4 => exact HC147_0.out); rintro e w' ⟨rfl, ⟨nd, rfl⟩⟩; (try first | exact ⟨rfl, _, World.drewN_drewN _ _ _⟩ | exact ⟨rfl, _, Eq.trans (World.drewN_drewN _ _ _) (congrArg (World.drewN _) (Nat.add_assoc _ _ _))⟩)) | go_quiet (first | (go_at_call 16; (with_reducible refine (spec_SamePacket.calls kj10 _ _ (rd_L2 x5_1 (ji38)) _ _ (rd_L2 x0_1 0) true _ ?side1 ?side2 ?side3 ?side4 A41.out).mono ?_); (case side1 => repeat (first | exact (cx_ HR162_0) | (with_reducible first | refine Kd.C_alloc ?_ _ | refine Kd.C_drewN ?_ _ | refine Kd.C_drew ?_))); (case side2 => exact HC162_0.out); (case side3 => repeat (first | exact (cx_ HR147_0) | (with_reducible first | refine Kd.C_alloc ?_ _ | refine Kd.C_drewN ?_ _ | refine Kd.C_drew ?_))); (case side4 => exact HC147_0.out); rintro e w' ⟨rfl, ⟨nd, rfl⟩⟩; (try first | exact ⟨rfl, _, World.drewN_drewN _ _ _⟩ | exact ⟨rfl, _, Eq.trans (World.drewN_drewN _ _ _) (congrArg (World.drewN _) (Nat.add_assoc _ _ _))⟩))))
               go_roundg kj10
               case measure => have := HK1.out; have := HJ4.out; have := HJ10.out; omega
               case rel => exact ⟨(y148), (x1_1), (x5_1), H', ⟨by have := HK1.out; have := HJ4.out; have := HJ10.out; omega⟩, ⟨by (with_reducible repeat (first | apply Kd.V_alloc | apply Kd.V_drewN | apply Kd.V_drew)); exact HO152.out⟩, ⟨by (with_reducible repeat (first | apply Kd.V_alloc | apply Kd.V_drewN | apply Kd.V_drew)); exact HO_1.out⟩, ⟨by (with_reducible repeat (first | apply Kd.S_alloc | apply Kd.S_drewN | apply Kd.S_drew)); exact HO_5.out⟩, ⟨by repeat (first | (with_reducible first | exact HB.out | apply below_alloc | apply pw_below_drewN | apply below_drew1) | exact HB.out)⟩⟩
              ·replace c42 := Bool.eq_false_iff.mpr c42
               subst c42
               rw [if_neg (show ¬ (false = true) by decide)] at H
               obtain ⟨y164, hy164⟩ : ∃ y_ : List Int, y_ = (([] : List Int)) := ⟨_, rfl⟩
               replace H : (if y164.length + (rd_L2 x0_1 0).length < 17592186044416 then (if x5_1.length < 5864062014805 then (spec_l05Merge.l0 kj10 y148 x1_1 (x5_1 ++ [(y164 ++ (rd_L2 x0_1 0))])) else (none)) else (none)) = some r := by first | (rw [hy164]; with_reducible exact H) | (have H2_ := (Option.bind_some _ _).symm.trans H; rw [hy164]; with_reducible exact H2_) | (have H2_ := (Option.bind_some _ _).symm.trans H; with_reducible exact H2_) | with_reducible exact H | (rw [hy164]; exact H) | exact H
               have Ny164 := Aside0.mk hy164
               clear hy164
               by_cases c46 : y164.length + (rd_L2 x0_1 0).length < 17592186044416
               ·rw [if_pos c46] at H
                have LMc46 := Aside0.mk c46
                clear c46
                obtain ⟨y167, hy167⟩ : ∃ y_ : List Int, y_ = (y164 ++ (rd_L2 x0_1 0)) := ⟨_, rfl⟩
                replace H : (if x5_1.length < 5864062014805 then (spec_l05Merge.l0 kj10 y148 x1_1 (x5_1 ++ [y167])) else (none)) = some r := by first | (rw [hy167]; with_reducible exact H) | (have H2_ := (Option.bind_some _ _).symm.trans H; rw [hy167]; with_reducible exact H2_) | (have H2_ := (Option.bind_some _ _).symm.trans H; with_reducible exact H2_) | with_reducible exact H | (rw [hy167]; exact H) | exact H
                have Ny167 := Aside0.mk hy167
                clear hy167
                by_cases c47 : x5_1.length < 5864062014805
                ·rw [if_pos c47] at H
                 have LMc47 := Aside0.mk c47
                 clear c47
                 obtain ⟨y170, hy170⟩ : ∃ y_ : List (List Int), y_ = (x5_1 ++ [y167]) := ⟨_, rfl⟩
                 replace H : (spec_l05Merge.l0 kj10 y148 x1_1 y170) = some r := by first | (rw [hy170]; with_reducible exact H) | (have H2_ := (Option.bind_some _ _).symm.trans H; rw [hy170]; with_reducible exact H2_) | (have H2_ := (Option.bind_some _ _).symm.trans H; with_reducible exact H2_) | with_reducible exact H | (rw [hy170]; exact H) | exact H
                 have Ny170 := Aside0.mk hy170
                 clear hy170
                 have H' := Aside0.mk H
                 clear H
                 obtain ⟨Ao48, co48, eo48⟩ := Kd.V_slice HO_0.out
                 subst eo48
                 have p147 : 0 ≤ (0 : Int) := (by omega)
                 have q147 : 0 < (x0_1.length : Int) := of_decide_eq_true (by first | (with_reducible assumption) | assumption)
                 obtain ⟨ad147, A147_0, c147_0, e147, hx147_0, hl147_0, hi147_0⟩ := at_L2 (Kd.V_reads' HO_0.out).2.2 0 p147 q147
                 cases e147
                 obtain ⟨ce147, hce147, hMe147, hcc147⟩ := Kd.V_get HO_0.out [] 0 p147 (by first | exact q147 | exact of_decide_eq_true (by first | (with_reducible assumption) | assumption) | (have e_ := (Kd.V_reads' HO_0.out).1; omega))
                 obtain ⟨ua147_0, uc147_0, rfl, ul147_0, ge147_0⟩ := Kd.FK_slice_open hMe147
                 have hv147_0 := hcc147 0 _ rfl
                 rw [Nat.add_zero, show ((Kd.slice 3 (Kd.int .i64))).sz = 1 from rfl, Nat.mul_one] at hv147_0
                 replace hv147_0 := Option.some.inj (hv147_0.symm.trans hx147_0)
                 injection hv147_0 with hva_ hvn_ hvc_
                 rw [hva_] at ge147_0
                 rw [hvc_] at ul147_0
                 have HL147_0 := Aside0.mk (show Kd.V (Kd.int .i64) 3 _ w.heap.size _ _ (rd_L2 x0_1 0) from Kd.V_mk ul147_0 ge147_0)
                 clear hva_ hvn_ hvc_ ge147_0 ul147_0
                 clear hcc147 hce147
                 have qi147 : (0 < x0_1.length) = True := eq_true (by omega)
                 (try rw [show ((0 : Int)).toNat = 0 from rfl] at hx147_0)
                 (try rw [Addr.add_zero'] at hx147_0)
                 have HR147_0 := Aside0.mk hi147_0
                 have HC147_0 := Aside0.mk hl147_0
                 clear hi147_0 hl147_0
                 replace p147 := eq_true p147
                 replace q147 := eq_true q147
                 have q49 : (1 : Int) ≤ ((x0_1.length : Int) : Int) := of_decide_eq_true (by first | (with_reducible assumption) | assumption)
                 obtain ⟨i049, hi049, _, hsz49, _⟩ := info_parts info22
                 have hroom49 : x0_1.length ≤ co48 := (Kd.V_reads' HO_0.out).2.1
                 have hC49 : Kd.F (Kd.slice 3 (Kd.int .i64)) _ _ (some ad147) x0_1.length x0_1 := (Kd.V_at (base := w.heap.size) HO_0.out).2.2
                 have hcut49 := cut_from (P := Try.prog) 33 22 .i64 Try.underlying33 hi049 1 hsz49 (some ad147) x0_1.length co48 1 (by omega) q49
                 have hr49 := Kd.F_cut (m := (1 : Int).toNat) (c := co48) hC49 (by omega) hroom49
                 obtain ⟨A49, hA49⟩ : ∃ A1, A1 = (if co48 = (1 : Int).toNat then (some ad147) else ((some ad147) : Option Addr).map (·.add ((1 : Int).toNat * 1))) := ⟨_, rfl⟩
                 obtain ⟨c49, hc49⟩ : ∃ c1, c1 = co48 - (1 : Int).toNat := ⟨_, rfl⟩
                 have hy49 : y148.length = x0_1.length - (1 : Int).toNat := (by rw [Ny148.out, List.length_drop] <;> omega)
                 rw [show (x0_1).drop (1 : Int).toNat = y148 from Ny148.out.symm] at hr49
                 replace hr49 : Kd.F (Kd.slice 3 (Kd.int .i64)) _ _ A49 y148.length y148 := (by rw [hA49]; exact hr49)
                 rw [← hy49, ← hA49, ← hc49] at hcut49
                 have HO152 := Aside0.mk (show Kd.V (Kd.slice 3 (Kd.int .i64)) 22 _ w.heap.size _ (.slice A49 y148.length c49) y148 from Kd.V_mk (by rw [hy49, hc49]; exact Nat.sub_le_sub_right hroom49 _) hr49)
                 have HC152 := Aside0.mk (show y148.length ≤ c49 from by rw [hy49, hc49]; exact Nat.sub_le_sub_right hroom49 _)
                 clear hr49 hC49 hroom49 hi049 hsz49 hc49
                 have KY49 := Aside0.mk hy49
                 have KA49 := Aside0.mk hA49
                 clear hy49 hA49
                 replace q49 := eq_true q49
                 obtain ⟨Ao50, co50, eo50⟩ := Kd.S_slice HO_5.out
                 subst eo50
                 have p162 : 0 ≤ ((ji38) : Int) := of_decide_eq_true (by first | (with_reducible assumption) | assumption)
                 have q162 : (ji38) < (x5_1.length : Int) := of_decide_eq_true (by first | (with_reducible assumption) | assumption)
                 obtain ⟨ad162, A162_0, c162_0, e162, hx162_0, hl162_0, hi162_0⟩ := at_L2 (Kd.S_reads' HO_5.out).2.2 (ji38) p162 q162
                 cases e162
                 obtain ⟨ce162, hce162, hMe162, hcc162⟩ := Kd.S_get HO_5.out [] (ji38) p162 (by first | exact q162 | exact of_decide_eq_true (by first | (with_reducible assumption) | assumption) | (have e_ := (Kd.S_reads' HO_5.out).1; omega))
                 obtain ⟨ve162_0, rfl, ge162_0⟩ := hMe162
                 have hv162_0 := hcc162 0 _ rfl
                 rw [Nat.add_zero, show ((Kd.slice 3 (Kd.int .i64))).sz = 1 from rfl, Nat.mul_one] at hv162_0
                 replace hv162_0 := Option.some.inj (hv162_0.symm.trans hx162_0)
                 rw [hv162_0] at ge162_0
                 have HL162_0 := Aside0.mk (show Kd.R (Kd.int .i64) 3 _ _ _ _ (rd_L2 x5_1 (ji38)) from ge162_0)
                 clear hv162_0 ge162_0
                 clear hcc162 hce162
                 have HR162_0 := Aside0.mk hi162_0
                 have HC162_0 := Aside0.mk hl162_0
                 clear hi162_0 hl162_0
                 replace p162 := eq_true p162
                 replace q162 := eq_true q162
                 go_wp2_with (first | (go_at_call 16; (with_reducible refine (spec_SamePacket.calls kj10 _ _ (rd_L2 x5_1 (ji38)) _ _ (rd_L2 x0_1 0) false _ ?side1 ?side2 ?side3 ?side4 A41.out).mono ?_); (case side1 => repeat (first | exact (cx_ HR162_0) | (with_reducible first | refine Kd.C_alloc ?_ _ | refine Kd.C_drewN ?_ _ | refine Kd.C_drew ?_))); (case side2 => exact HC162_0.out); (case side3 => repeat (first | exact (cx_ HR147_0) | (with_reducible first | refine Kd.C_alloc ?_ _ | refine Kd.C_drewN ?_ _ | refine Kd.C_drew ?_))); (case side4 => exact HC147_0.out); rintro e w' ⟨rfl, ⟨nd, rfl⟩⟩; (try first | exact ⟨rfl, _, World.drewN_drewN _ _ _⟩ | exact ⟨rfl, _, Eq.trans (World.drewN_drewN _ _ _) (congrArg (World.drewN _) (Nat.add_assoc _ _ _))⟩)) | ((with_reducible refine gate_dst (N := 60) rfl ?_); (try (refine gate_guard (by rfl) ?_; dsimp only)); refine Kd.R_lit (Kd.int .i64) _ 3 ?hg (N := 60) ?hd (xs := ([] : List Int)) (inner := []) (ok := fun _ => True) (okp := fun _ => True) ?hr ?hp (fun _ hk => hk) trivial (Below.refl _ _) (Nat.le_refl _) (by simp) ?_; (case hd => rfl); (case hg => rfl); (case hr => first | (go_simp; done) | (go_simp; rfl)); (case hp => exact (Reps.none _ _)); intro v165 w51 ho52 hb hg_ hnew_; clear hg_ hnew_; (first | rw [← Ny164.out] at ho52 | (simp only [Int.reduceToNat] at ho52; rw [← Ny164.out] at ho52)); have n0_ := Aside0.mk (Kd.V_elder' (vx_ HO_0) (Kd.R_base ho52) hb); have n1_ := Aside0.mk (Kd.V_elder' (vx_ HO_1) (Kd.R_base ho52) hb); have n2_ := Aside0.mk (Kd.S_elder' (sx_ HO_5) (Kd.R_base ho52) hb); have n3_ := Aside0.mk (Kd.V_elder' (vx_ HL147_0) (Kd.R_base ho52) hb); have n4_ := Aside0.mk (Kd.V_elder' (vx_ HO152) (Kd.R_base ho52) hb); have n5_ := Aside0.mk (Kd.R_elder' (rx_ HL162_0) (Kd.R_base ho52) hb); have n6_ := Aside0.mk (Kd.R_lower (Kd.R_new' (Kd.R_newM (M := fun k_ => (w.heap.size ≤ k_)) ho52 (below_size bl_) (fun k_ h_ => h_)) (Kd.R_lt (rx_ HL162_0))) (below_size bl_)); have n7_ := Aside0.mk (Kd.C_below (cx_ HR147_0) hb); have n8_ := Aside0.mk (Kd.C_below (cx_ HR162_0) hb); have n9_ := Aside0.mk (below_step bl_ hb); clear HO_0; clear HO_1; clear HO_5; clear HL147_0; clear HO152; clear HL162_0; clear HR147_0; clear HR162_0; clear HB; have HO_0 := n0_; have HO_1 := n1_; have HO_5 := n2_; have HL147_0 := n3_; have HO152 := n4_; have HL162_0 := n5_; have HO166 := n6_; have HR147_0 := n7_; have HR162_0 := n8_; have HB := n9_; clear n0_ n1_ n2_ n3_ n4_ n5_ n6_ n7_ n8_ n9_; clear hb ho52) | ((with_reducible refine gate_builtin (b := .append) (xs := #[.tmp 60, .tmp 61]) rfl ?_); (try (refine gate_guard (by rfl) ?_; dsimp only)); at_builtin; refine Kd.R_append_rows (Kd.int .i64) (w0 := w) w.heap.size rfl (.tmp 60) (.tmp 61) 22 3 (.int .i64 0) 8 rfl Try.underlying22 info3 rfl (by decide) (by omega) v165 y164 (rd_L2 x0_1 0) _ _ _ (fun k_ => (w.heap.size ≤ k_) ∧ some k_ ≠ (.slice A162_0 (rd_L2 x5_1 (ji38)).length c162_0 : Value).ownBlock) (fun _ => False) rfl rfl ?aO ?aR (fun _ _ h => h) (fun _ h => h.elim) ?aF ?aB ?aS ?aL ?_; (case aR => repeat (first | exact (cx_ HR147_0) | (with_reducible first | refine Kd.C_alloc ?_ _ | refine Kd.C_drewN ?_ _ | refine Kd.C_drew ?_))); (case aB => exact bl_); (case aF => exact (fun k_ hk => ⟨(Nat.le_trans (below_size bl_) hk), Kd.fresh' (Kd.R_lt (rx_ HL162_0)) k_ hk⟩)); (case aO => exact (by (with_reducible repeat (first | apply Kd.R_alloc | apply Kd.R_drewN | apply Kd.R_drew)); exact Kd.R_mono HO166.out (fun _ hk => ⟨hk.1.1, hk.2⟩))); (case aS => exact (below_size bl_)); (case aL => have := LMc46.out; omega); intro v168 w53 ho hb hg hat; rw [← Ny167.out] at ho; have n0_ := Aside0.mk (Kd.V_afterv (ok := (fun k_ => ((P0_ k_ ∨ P1_ k_) ∨ w.heap.size ≤ k_) ∧ some k_ ≠ (.slice (some ad162) x5_1.length co50 : Value).ownBlock)) (vx_ HO_0) hg hat); have n1_ := Aside0.mk (Kd.V_afterv (ok := (fun k_ => ((P0_ k_ ∨ P1_ k_) ∨ w.heap.size ≤ k_) ∧ some k_ ≠ (.slice (some ad162) x5_1.length co50 : Value).ownBlock)) (vx_ HO_1) hg hat); have n2_ := Aside0.mk (Kd.S_after (ok := (fun k_ => (w.heap.size ≤ k_))) (sx_ HO_5) hg hat); have n3_ := Aside0.mk (Kd.V_afterv (ok := (fun k_ => ((P0_ k_ ∨ P1_ k_) ∨ w.heap.size ≤ k_) ∧ some k_ ≠ (.slice (some ad162) x5_1.length co50 : Value).ownBlock)) (vx_ HL147_0) hg hat); have n4_ := Aside0.mk (Kd.V_afterv (ok := (fun k_ => ((P0_ k_ ∨ P1_ k_) ∨ w.heap.size ≤ k_) ∧ some k_ ≠ (.slice (some ad162) x5_1.length co50 : Value).ownBlock)) (vx_ HO152) hg hat); have n5_ := Aside0.mk (Kd.R_after (ok := (fun k_ => (w.heap.size ≤ k_) ∧ some k_ ≠ (.slice (some ad162) x5_1.length co50 : Value).ownBlock)) (rx_ HL162_0) hg hat); have n6_ := Aside0.mk (hb); have n7_ := Aside0.mk (ho); clear HO_0; clear HO_1; clear HO_5; clear HL147_0; clear HO152; clear HL162_0; clear HB; clear HO166; have HO_0 := n0_; have HO_1 := n1_; have HO_5 := n2_; have HL147_0 := n3_; have HO152 := n4_; have HL162_0 := n5_; have HB := n6_; have HO169 := n7_; clear n0_ n1_ n2_ n3_ n4_ n5_ n6_ n7_; clear ho hb hg hat; obtain ⟨Ao55, co55, eo55⟩ := Kd.R_slice HO169.out; subst eo55) | ((with_reducible refine gate_builtin (b := .append) (xs := #[.tmp 59, .tmp 63]) rfl ?_); (try (refine gate_guard (by rfl) ?_; dsimp only)); at_builtin; refine Kd.S_append (Kd.slice 3 (Kd.int .i64)) (w0 := w) w.heap.size rfl (.tmp 59) (.tmp 63) 33 22 (.slice none 0 0) 24 rfl Try.underlying33 info22 rfl (by decide) (by omega) (.slice (some ad162) x5_1.length co50) x5_1 y167 [.slice Ao55 y167.length co55] (fun k_ => (w.heap.size ≤ k_)) (fun k_ => some k_ = (.slice Ao55 y167.length co55 : Value).ownBlock) rfl rfl ?aP (fun k_ hk_ => ((Kd.R_mono (ok' := fun k_ => ((fun k_ => (w.heap.size ≤ k_))) k_ ∧ some k_ ≠ (.slice (some ad162) x5_1.length co50 : Value).ownBlock) (Kd.R_apart' (HO169.out) (Kd.S_typed HO_5.out) (by decide)) (fun k_ hk => ⟨hk.1.1, hk.2⟩))).1 k_ hk_.symm) ?aF ?aO ?aB ?aS ?aL ?_; (case aP => exact Kd.M_row (Kd.R_mono (Kd.R_tight rfl (Kd.R_mono (ok' := fun k_ => ((fun k_ => (w.heap.size ≤ k_))) k_ ∧ some k_ ≠ (.slice (some ad162) x5_1.length co50 : Value).ownBlock) (Kd.R_apart' (HO169.out) (Kd.S_typed HO_5.out) (by decide)) (fun k_ hk => ⟨hk.1.1, hk.2⟩))) (fun _ h_ => h_))); (case aB => exact bl_); (case aF => exact (fun k_ hk => (Nat.le_trans (below_size bl_) hk))); (case aO => exact (by (with_reducible repeat (first | apply Kd.S_alloc | apply Kd.S_drewN | apply Kd.S_drew)); exact Kd.S_mono HO_5.out (fun k_ hk => ⟨hk.1, fun e_ => hk.2 e_⟩))); (case aS => exact (below_size bl_)); (case aL => have := LMc47.out; omega); intro v171 w54 ho hb hg hat; rw [← Ny170.out] at ho; have n0_ := Aside0.mk (Kd.V_afterv (ok := (fun k_ => ((P0_ k_ ∨ P1_ k_) ∨ w.heap.size ≤ k_) ∧ some k_ ≠ (.slice Ao55 y167.length co55 : Value).ownBlock)) (by (with_reducible repeat (first | apply Kd.V_alloc | apply Kd.V_drewN | apply Kd.V_drew)); exact Kd.V_mono HO_0.out (fun _ hk => ⟨⟨hk.1.1, hk.2⟩, hk.1.2⟩)) hg hat); have n1_ := Aside0.mk (Kd.V_afterv (ok := (fun k_ => ((P0_ k_ ∨ P1_ k_) ∨ w.heap.size ≤ k_) ∧ some k_ ≠ (.slice Ao55 y167.length co55 : Value).ownBlock)) (by (with_reducible repeat (first | apply Kd.V_alloc | apply Kd.V_drewN | apply Kd.V_drew)); exact Kd.V_mono HO_1.out (fun _ hk => ⟨⟨hk.1.1, hk.2⟩, hk.1.2⟩)) hg hat); have n2_ := Aside0.mk (Kd.V_afterv (ok := (fun k_ => ((P0_ k_ ∨ P1_ k_) ∨ w.heap.size ≤ k_) ∧ some k_ ≠ (.slice Ao55 y167.length co55 : Value).ownBlock)) (by (with_reducible repeat (first | apply Kd.V_alloc | apply Kd.V_drewN | apply Kd.V_drew)); exact Kd.V_mono HL147_0.out (fun _ hk => ⟨⟨hk.1.1, hk.2⟩, hk.1.2⟩)) hg hat); have n3_ := Aside0.mk (Kd.V_afterv (ok := (fun k_ => ((P0_ k_ ∨ P1_ k_) ∨ w.heap.size ≤ k_) ∧ some k_ ≠ (.slice Ao55 y167.length co55 : Value).ownBlock)) (by (with_reducible repeat (first | apply Kd.V_alloc | apply Kd.V_drewN | apply Kd.V_drew)); exact Kd.V_mono HO152.out (fun _ hk => ⟨⟨hk.1.1, hk.2⟩, hk.1.2⟩)) hg hat); have n4_ := Aside0.mk (Kd.R_after (ok := (fun k_ => (w.heap.size ≤ k_) ∧ some k_ ≠ (.slice Ao55 y167.length co55 : Value).ownBlock)) (by (with_reducible repeat (first | apply Kd.R_alloc | apply Kd.R_drewN | apply Kd.R_drew)); exact Kd.R_mono HL162_0.out (fun _ hk => ⟨⟨hk.1.1, hk.2⟩, hk.1.2⟩)) hg hat); have n5_ := Aside0.mk (hb); have n6_ := Aside0.mk (ho); clear HO_0; clear HO_1; clear HL147_0; clear HO152; clear HL162_0; clear HB; clear HO_5; clear HO169; have HO_0 := n0_; have HO_1 := n1_; have HL147_0 := n2_; have HO152 := n3_; have HL162_0 := n4_; have HB := n5_; have HO172 := n6_; clear n0_ n1_ n2_ n3_ n4_ n5_ n6_; clear ho hb hg hat) | go_quiet (first | (go_at_call 16; (with_reducible refine (spec_SamePacket.calls kj10 _ _ (rd_L2 x5_1 (ji38)) _ _ (rd_L2 x0_1 0) false _ ?side1 ?side2 ?side3 ?side4 A41.out).mono ?_); (case side1 => repeat (first | exact (cx_ HR162_0) | (with_reducible first | refine Kd.C_alloc ?_ _ | refine Kd.C_drewN ?_ _ | refine Kd.C_drew ?_))); (case side2 => exact HC162_0.out); (case side3 => repeat (first | exact (cx_ HR147_0) | (with_reducible first | refine Kd.C_alloc ?_ _ | refine Kd.C_drewN ?_ _ | refine Kd.C_drew ?_))); (case side4 => exact HC147_0.out); rintro e w' ⟨rfl, ⟨nd, rfl⟩⟩; (try first | exact ⟨rfl, _, World.drewN_drewN _ _ _⟩ | exact ⟨rfl, _, Eq.trans (World.drewN_drewN _ _ _) (congrArg (World.drewN _) (Nat.add_assoc _ _ _))⟩))))
                 go_roundg kj10
                 case measure => have := HK1.out; have := HJ4.out; have := HJ10.out; omega
                 case rel => exact ⟨(y148), (x1_1), (y170), H', ⟨by have := HK1.out; have := HJ4.out; have := HJ10.out; omega⟩, ⟨by (with_reducible repeat (first | apply Kd.V_alloc | apply Kd.V_drewN | apply Kd.V_drew)); exact Kd.V_mono HO152.out (fun _ hk => ⟨hk.1.1, hk.2⟩)⟩, ⟨by (with_reducible repeat (first | apply Kd.V_alloc | apply Kd.V_drewN | apply Kd.V_drew)); exact Kd.V_mono HO_1.out (fun _ hk => ⟨hk.1.1, hk.2⟩)⟩, ⟨by (with_reducible repeat (first | apply Kd.S_alloc | apply Kd.S_drewN | apply Kd.S_drew)); exact HO172.out⟩, ⟨by repeat (first | (with_reducible first | exact HB.out | apply below_alloc | apply pw_below_drewN | apply below_drew1) | exact HB.out)⟩⟩
                ·rw [if_neg c47] at H
                 exact absurd H (by simp)
               ·rw [if_neg c46] at H
                exact absurd H (by simp)
             ·rw [if_neg c40] at H
              exact absurd H (by simp)
            ·rw [if_neg c39] at H
             exact absurd H (by simp)
          ·rw [if_neg c26] at H
           exact absurd H (by simp)
         ·rw [if_neg c25] at H
          exact absurd H (by simp)
        ·replace c24 := Bool.eq_false_iff.mpr c24
         subst c24
         rw [if_neg (show ¬ (false = true) by decide)] at H
         by_cases c56 : 0 < (x1_1.length : Int)
         ·rw [if_pos c56] at H
          have c56b0 : decide (0 < (x1_1.length : Int)) = true := decide_eq_true c56
          have c56b1 : decide (0 < x1_1.length) = true := decide_eq_true (by omega)
          clear c56
          by_cases c57 : 1 ≤ (x1_1.length : Int)
          ·rw [if_pos c57] at H
           have c57b0 := eq_true c57
           have c57b1 : decide (1 ≤ (x1_1.length : Int)) = true := decide_eq_true c57
           clear c57
           obtain ⟨y174, hy174⟩ : ∃ y_ : List (List Int), y_ = (x1_1.drop 1) := ⟨_, rfl⟩
           replace H : (if (x5_1.length : Int) = 0 then ((some (([] : List Int) : List Int)).bind fun y179 => (if y179.length + (rd_L2 x1_1 0).length < 17592186044416 then (if x5_1.length < 5864062014805 then (spec_l05Merge.l0 kj10 x0_1 y174 (x5_1 ++ [(y179 ++ (rd_L2 x1_1 0))])) else (none)) else (none))) else (if 0 ≤ (wrap64 ((x5_1.length : Int) - 1)) then (if (wrap64 ((x5_1.length : Int) - 1)) < (x5_1.length : Int) then ((spec_SamePacket.f kj10 (rd_L2 x5_1 (wrap64 ((x5_1.length : Int) - 1))) (rd_L2 x1_1 0)).bind fun t189 => (if t189 = true then (spec_l05Merge.l0 kj10 x0_1 y174 x5_1) else ((some (([] : List Int) : List Int)).bind fun y190 => (if y190.length + (rd_L2 x1_1 0).length < 17592186044416 then (if x5_1.length < 5864062014805 then (spec_l05Merge.l0 kj10 x0_1 y174 (x5_1 ++ [(y190 ++ (rd_L2 x1_1 0))])) else (none)) else (none))))) else (none)) else (none))) = some r := by first | (rw [hy174]; with_reducible exact H) | (have H2_ := (Option.bind_some _ _).symm.trans H; rw [hy174]; with_reducible exact H2_) | (have H2_ := (Option.bind_some _ _).symm.trans H; with_reducible exact H2_) | with_reducible exact H | (rw [hy174]; exact H) | exact H
           have Ny174 := Aside0.mk hy174
           clear hy174
           by_cases c58 : (x5_1.length : Int) = 0
           ·rw [if_pos c58] at H
            have c58b0 : ((x5_1.length : Int) == 0) = true := beq_iff_eq.mpr c58
            have c58b1 : ((x5_1.length : Int) != 0) = false := bne_eq_false_iff_eq.mpr c58
            clear c58
            obtain ⟨y179, hy179⟩ : ∃ y_ : List Int, y_ = (([] : List Int)) := ⟨_, rfl⟩
            replace H : (if y179.length + (rd_L2 x1_1 0).length < 17592186044416 then (if x5_1.length < 5864062014805 then (spec_l05Merge.l0 kj10 x0_1 y174 (x5_1 ++ [(y179 ++ (rd_L2 x1_1 0))])) else (none)) else (none)) = some r := by first | (rw [hy179]; with_reducible exact H) | (have H2_ := (Option.bind_some _ _).symm.trans H; rw [hy179]; with_reducible exact H2_) | (have H2_ := (Option.bind_some _ _).symm.trans H; with_reducible exact H2_) | with_reducible exact H | (rw [hy179]; exact H) | exact H
            have Ny179 := Aside0.mk hy179
            clear hy179
            by_cases c59 : y179.length + (rd_L2 x1_1 0).length < 17592186044416
            ·rw [if_pos c59] at H
             have LMc59 := Aside0.mk c59
             clear c59
             obtain ⟨y182, hy182⟩ : ∃ y_ : List Int, y_ = (y179 ++ (rd_L2 x1_1 0)) := ⟨_, rfl⟩
             replace H : (if x5_1.length < 5864062014805 then (spec_l05Merge.l0 kj10 x0_1 y174 (x5_1 ++ [y182])) else (none)) = some r := by first | (rw [hy182]; with_reducible exact H) | (have H2_ := (Option.bind_some _ _).symm.trans H; rw [hy182]; with_reducible exact H2_) | (have H2_ := (Option.bind_some _ _).symm.trans H; with_reducible exact H2_) | with_reducible exact H | (rw [hy182]; exact H) | exact H
             have Ny182 := Aside0.mk hy182
             clear hy182
             by_cases c60 : x5_1.length < 5864062014805
             ·rw [if_pos c60] at H
              have LMc60 := Aside0.mk c60
              clear c60
              obtain ⟨y185, hy185⟩ : ∃ y_ : List (List Int), y_ = (x5_1 ++ [y182]) := ⟨_, rfl⟩
              replace H : (spec_l05Merge.l0 kj10 x0_1 y174 y185) = some r := by first | (rw [hy185]; with_reducible exact H) | (have H2_ := (Option.bind_some _ _).symm.trans H; rw [hy185]; with_reducible exact H2_) | (have H2_ := (Option.bind_some _ _).symm.trans H; with_reducible exact H2_) | with_reducible exact H | (rw [hy185]; exact H) | exact H
              have Ny185 := Aside0.mk hy185
              clear hy185
              have H' := Aside0.mk H
              clear H
              obtain ⟨Ao61, co61, eo61⟩ := Kd.V_slice HO_1.out
              subst eo61
              have p173 : 0 ≤ (0 : Int) := (by omega)
              have q173 : 0 < (x1_1.length : Int) := of_decide_eq_true (by first | (with_reducible assumption) | assumption)
              obtain ⟨ad173, A173_0, c173_0, e173, hx173_0, hl173_0, hi173_0⟩ := at_L2 (Kd.V_reads' HO_1.out).2.2 0 p173 q173
              cases e173
              obtain ⟨ce173, hce173, hMe173, hcc173⟩ := Kd.V_get HO_1.out [] 0 p173 (by first | exact q173 | exact of_decide_eq_true (by first | (with_reducible assumption) | assumption) | (have e_ := (Kd.V_reads' HO_1.out).1; omega))
              obtain ⟨ua173_0, uc173_0, rfl, ul173_0, ge173_0⟩ := Kd.FK_slice_open hMe173
              have hv173_0 := hcc173 0 _ rfl
              rw [Nat.add_zero, show ((Kd.slice 3 (Kd.int .i64))).sz = 1 from rfl, Nat.mul_one] at hv173_0
              replace hv173_0 := Option.some.inj (hv173_0.symm.trans hx173_0)
              injection hv173_0 with hva_ hvn_ hvc_
              rw [hva_] at ge173_0
              rw [hvc_] at ul173_0
              have HL173_0 := Aside0.mk (show Kd.V (Kd.int .i64) 3 _ w.heap.size _ _ (rd_L2 x1_1 0) from Kd.V_mk ul173_0 ge173_0)
              clear hva_ hvn_ hvc_ ge173_0 ul173_0
              clear hcc173 hce173
              have qi173 : (0 < x1_1.length) = True := eq_true (by omega)
              (try rw [show ((0 : Int)).toNat = 0 from rfl] at hx173_0)
              (try rw [Addr.add_zero'] at hx173_0)
              have HR173_0 := Aside0.mk hi173_0
              have HC173_0 := Aside0.mk hl173_0
              clear hi173_0 hl173_0
              replace p173 := eq_true p173
              replace q173 := eq_true q173
              have q62 : (1 : Int) ≤ ((x1_1.length : Int) : Int) := of_decide_eq_true (by first | (with_reducible assumption) | assumption)
              obtain ⟨i062, hi062, _, hsz62, _⟩ := info_parts info22
              have hroom62 : x1_1.length ≤ co61 := (Kd.V_reads' HO_1.out).2.1
              have hC62 : Kd.F (Kd.slice 3 (Kd.int .i64)) _ _ (some ad173) x1_1.length x1_1 := (Kd.V_at (base := w.heap.size) HO_1.out).2.2
              have hcut62 := cut_from (P := Try.prog) 33 22 .i64 Try.underlying33 hi062 1 hsz62 (some ad173) x1_1.length co61 1 (by omega) q62
              have hr62 := Kd.F_cut (m := (1 : Int).toNat) (c := co61) hC62 (by omega) hroom62
              obtain ⟨A62, hA62⟩ : ∃ A1, A1 = (if co61 = (1 : Int).toNat then (some ad173) else ((some ad173) : Option Addr).map (·.add ((1 : Int).toNat * 1))) := ⟨_, rfl⟩
              obtain ⟨c62, hc62⟩ : ∃ c1, c1 = co61 - (1 : Int).toNat := ⟨_, rfl⟩
              have hy62 : y174.length = x1_1.length - (1 : Int).toNat := (by rw [Ny174.out, List.length_drop] <;> omega)
              rw [show (x1_1).drop (1 : Int).toNat = y174 from Ny174.out.symm] at hr62
              replace hr62 : Kd.F (Kd.slice 3 (Kd.int .i64)) _ _ A62 y174.length y174 := (by rw [hA62]; exact hr62)
              rw [← hy62, ← hA62, ← hc62] at hcut62
              have HO178 := Aside0.mk (show Kd.V (Kd.slice 3 (Kd.int .i64)) 22 _ w.heap.size _ (.slice A62 y174.length c62) y174 from Kd.V_mk (by rw [hy62, hc62]; exact Nat.sub_le_sub_right hroom62 _) hr62)
              have HC178 := Aside0.mk (show y174.length ≤ c62 from by rw [hy62, hc62]; exact Nat.sub_le_sub_right hroom62 _)
              clear hr62 hC62 hroom62 hi062 hsz62 hc62
              have KY62 := Aside0.mk hy62
              have KA62 := Aside0.mk hA62
              clear hy62 hA62
              replace q62 := eq_true q62
              obtain ⟨Ao63, co63, eo63⟩ := Kd.S_slice HO_5.out
              subst eo63
              go_wp2_with (first | ((with_reducible refine gate_dst (N := 60) rfl ?_); (try (refine gate_guard (by rfl) ?_; dsimp only)); refine Kd.R_lit (Kd.int .i64) _ 3 ?hg (N := 60) ?hd (xs := ([] : List Int)) (inner := []) (ok := fun _ => True) (okp := fun _ => True) ?hr ?hp (fun _ hk => hk) trivial (Below.refl _ _) (Nat.le_refl _) (by simp) ?_; (case hd => rfl); (case hg => rfl); (case hr => first | (go_simp; done) | (go_simp; rfl)); (case hp => exact (Reps.none _ _)); intro v180 w64 ho65 hb hg_ hnew_; clear hg_ hnew_; (first | rw [← Ny179.out] at ho65 | (simp only [Int.reduceToNat] at ho65; rw [← Ny179.out] at ho65)); have n0_ := Aside0.mk (Kd.V_elder' (vx_ HO_0) (Kd.R_base ho65) hb); have n1_ := Aside0.mk (Kd.V_elder' (vx_ HO_1) (Kd.R_base ho65) hb); have n2_ := Aside0.mk (Kd.S_elder' (sx_ HO_5) (Kd.R_base ho65) hb); have n3_ := Aside0.mk (Kd.V_elder' (vx_ HL173_0) (Kd.R_base ho65) hb); have n4_ := Aside0.mk (Kd.V_elder' (vx_ HO178) (Kd.R_base ho65) hb); have n5_ := Aside0.mk (Kd.R_lower (Kd.R_newM (M := fun k_ => (w.heap.size ≤ k_)) ho65 (below_size bl_) (fun k_ h_ => h_)) (below_size bl_)); have n6_ := Aside0.mk (Kd.C_below (cx_ HR173_0) hb); have n7_ := Aside0.mk (below_step bl_ hb); clear HO_0; clear HO_1; clear HO_5; clear HL173_0; clear HO178; clear HR173_0; clear HB; have HO_0 := n0_; have HO_1 := n1_; have HO_5 := n2_; have HL173_0 := n3_; have HO178 := n4_; have HO181 := n5_; have HR173_0 := n6_; have HB := n7_; clear n0_ n1_ n2_ n3_ n4_ n5_ n6_ n7_; clear hb ho65) | ((with_reducible refine gate_builtin (b := .append) (xs := #[.tmp 60, .tmp 61]) rfl ?_); (try (refine gate_guard (by rfl) ?_; dsimp only)); at_builtin; refine Kd.R_append_rows (Kd.int .i64) (w0 := w) w.heap.size rfl (.tmp 60) (.tmp 61) 22 3 (.int .i64 0) 8 rfl Try.underlying22 info3 rfl (by decide) (by omega) v180 y179 (rd_L2 x1_1 0) _ _ _ (fun k_ => (w.heap.size ≤ k_)) (fun _ => False) rfl rfl ?aO ?aR (fun _ _ h => h) (fun _ h => h.elim) ?aF ?aB ?aS ?aL ?_; (case aR => repeat (first | exact (cx_ HR173_0) | (with_reducible first | refine Kd.C_alloc ?_ _ | refine Kd.C_drewN ?_ _ | refine Kd.C_drew ?_))); (case aB => exact bl_); (case aF => exact (fun k_ hk => (Nat.le_trans (below_size bl_) hk))); (case aO => exact (by (with_reducible repeat (first | apply Kd.R_alloc | apply Kd.R_drewN | apply Kd.R_drew)); exact Kd.R_mono HO181.out (fun _ hk => hk.1))); (case aS => exact (below_size bl_)); (case aL => have := LMc59.out; omega); intro v183 w66 ho hb hg hat; rw [← Ny182.out] at ho; have n0_ := Aside0.mk (Kd.V_afterv (ok := (fun k_ => ((P0_ k_ ∨ P1_ k_) ∨ w.heap.size ≤ k_) ∧ some k_ ≠ (.slice Ao63 x5_1.length co63 : Value).ownBlock)) (vx_ HO_0) hg hat); have n1_ := Aside0.mk (Kd.V_afterv (ok := (fun k_ => ((P0_ k_ ∨ P1_ k_) ∨ w.heap.size ≤ k_) ∧ some k_ ≠ (.slice Ao63 x5_1.length co63 : Value).ownBlock)) (vx_ HO_1) hg hat); have n2_ := Aside0.mk (Kd.S_after (ok := (fun k_ => (w.heap.size ≤ k_))) (sx_ HO_5) hg hat); have n3_ := Aside0.mk (Kd.V_afterv (ok := (fun k_ => ((P0_ k_ ∨ P1_ k_) ∨ w.heap.size ≤ k_) ∧ some k_ ≠ (.slice Ao63 x5_1.length co63 : Value).ownBlock)) (vx_ HL173_0) hg hat); have n4_ := Aside0.mk (Kd.V_afterv (ok := (fun k_ => ((P0_ k_ ∨ P1_ k_) ∨ w.heap.size ≤ k_) ∧ some k_ ≠ (.slice Ao63 x5_1.length co63 : Value).ownBlock)) (vx_ HO178) hg hat); have n5_ := Aside0.mk (hb); have n6_ := Aside0.mk (ho); clear HO_0; clear HO_1; clear HO_5; clear HL173_0; clear HO178; clear HB; clear HO181; have HO_0 := n0_; have HO_1 := n1_; have HO_5 := n2_; have HL173_0 := n3_; have HO178 := n4_; have HB := n5_; have HO184 := n6_; clear n0_ n1_ n2_ n3_ n4_ n5_ n6_; clear ho hb hg hat; obtain ⟨Ao68, co68, eo68⟩ := Kd.R_slice HO184.out; subst eo68) | ((with_reducible refine gate_builtin (b := .append) (xs := #[.tmp 59, .tmp 63]) rfl ?_); (try (refine gate_guard (by rfl) ?_; dsimp only)); at_builtin; refine Kd.S_append (Kd.slice 3 (Kd.int .i64)) (w0 := w) w.heap.size rfl (.tmp 59) (.tmp 63) 33 22 (.slice none 0 0) 24 rfl Try.underlying33 info22 rfl (by decide) (by omega) (.slice Ao63 x5_1.length co63) x5_1 y182 [.slice Ao68 y182.length co68] (fun k_ => (w.heap.size ≤ k_)) (fun k_ => some k_ = (.slice Ao68 y182.length co68 : Value).ownBlock) rfl rfl ?aP (fun k_ hk_ => ((Kd.R_mono (ok' := fun k_ => ((fun k_ => (w.heap.size ≤ k_))) k_ ∧ some k_ ≠ (.slice Ao63 x5_1.length co63 : Value).ownBlock) (Kd.R_apart' (HO184.out) (Kd.S_typed HO_5.out) (by decide)) (fun k_ hk => ⟨hk.1, hk.2⟩))).1 k_ hk_.symm) ?aF ?aO ?aB ?aS ?aL ?_; (case aP => exact Kd.M_row (Kd.R_mono (Kd.R_tight rfl (Kd.R_mono (ok' := fun k_ => ((fun k_ => (w.heap.size ≤ k_))) k_ ∧ some k_ ≠ (.slice Ao63 x5_1.length co63 : Value).ownBlock) (Kd.R_apart' (HO184.out) (Kd.S_typed HO_5.out) (by decide)) (fun k_ hk => ⟨hk.1, hk.2⟩))) (fun _ h_ => h_))); (case aB => exact bl_); (case aF => exact (fun k_ hk => (Nat.le_trans (below_size bl_) hk))); (case aO => exact (by (with_reducible repeat (first | apply Kd.S_alloc | apply Kd.S_drewN | apply Kd.S_drew)); exact Kd.S_mono HO_5.out (fun k_ hk => ⟨hk.1, fun e_ => hk.2 e_⟩))); (case aS => exact (below_size bl_)); (case aL => have := LMc60.out; omega); intro v186 w67 ho hb hg hat; rw [← Ny185.out] at ho; have n0_ := Aside0.mk (Kd.V_afterv (ok := (fun k_ => ((P0_ k_ ∨ P1_ k_) ∨ w.heap.size ≤ k_) ∧ some k_ ≠ (.slice Ao68 y182.length co68 : Value).ownBlock)) (by (with_reducible repeat (first | apply Kd.V_alloc | apply Kd.V_drewN | apply Kd.V_drew)); exact Kd.V_mono HO_0.out (fun _ hk => ⟨⟨hk.1.1, hk.2⟩, hk.1.2⟩)) hg hat); have n1_ := Aside0.mk (Kd.V_afterv (ok := (fun k_ => ((P0_ k_ ∨ P1_ k_) ∨ w.heap.size ≤ k_) ∧ some k_ ≠ (.slice Ao68 y182.length co68 : Value).ownBlock)) (by (with_reducible repeat (first | apply Kd.V_alloc | apply Kd.V_drewN | apply Kd.V_drew)); exact Kd.V_mono HO_1.out (fun _ hk => ⟨⟨hk.1.1, hk.2⟩, hk.1.2⟩)) hg hat); have n2_ := Aside0.mk (Kd.V_afterv (ok := (fun k_ => ((P0_ k_ ∨ P1_ k_) ∨ w.heap.size ≤ k_) ∧ some k_ ≠ (.slice Ao68 y182.length co68 : Value).ownBlock)) (by (with_reducible repeat (first | apply Kd.V_alloc | apply Kd.V_drewN | apply Kd.V_drew)); exact Kd.V_mono HL173_0.out (fun _ hk => ⟨⟨hk.1.1, hk.2⟩, hk.1.2⟩)) hg hat); have n3_ := Aside0.mk (Kd.V_afterv (ok := (fun k_ => ((P0_ k_ ∨ P1_ k_) ∨ w.heap.size ≤ k_) ∧ some k_ ≠ (.slice Ao68 y182.length co68 : Value).ownBlock)) (by (with_reducible repeat (first | apply Kd.V_alloc | apply Kd.V_drewN | apply Kd.V_drew)); exact Kd.V_mono HO178.out (fun _ hk => ⟨⟨hk.1.1, hk.2⟩, hk.1.2⟩)) hg hat); have n4_ := Aside0.mk (hb); have n5_ := Aside0.mk (ho); clear HO_0; clear HO_1; clear HL173_0; clear HO178; clear HB; clear HO_5; clear HO184; have HO_0 := n0_; have HO_1 := n1_; have HL173_0 := n2_; have HO178 := n3_; have HB := n4_; have HO187 := n5_; clear n0_ n1_ n2_ n3_ n4_ n5_; clear ho hb hg hat) | go_quiet (fail))
              go_roundg kj10
              case measure => have := HK1.out; have := HJ4.out; have := HJ10.out; omega
              case rel => exact ⟨(x0_1), (y174), (y185), H', ⟨by have := HK1.out; have := HJ4.out; have := HJ10.out; omega⟩, ⟨by (with_reducible repeat (first | apply Kd.V_alloc | apply Kd.V_drewN | apply Kd.V_drew)); exact Kd.V_mono HO_0.out (fun _ hk => ⟨hk.1.1, hk.2⟩)⟩, ⟨by (with_reducible repeat (first | apply Kd.V_alloc | apply Kd.V_drewN | apply Kd.V_drew)); exact Kd.V_mono HO178.out (fun _ hk => ⟨hk.1.1, hk.2⟩)⟩, ⟨by (with_reducible repeat (first | apply Kd.S_alloc | apply Kd.S_drewN | apply Kd.S_drew)); exact HO187.out⟩, ⟨by repeat (first | (with_reducible first | exact HB.out | apply below_alloc | apply pw_below_drewN | apply below_drew1) | exact HB.out)⟩⟩
             ·rw [if_neg c60] at H
              exact absurd H (by simp)
            ·rw [if_neg c59] at H
             exact absurd H (by simp)
           ·rw [if_neg c58] at H
            have c58b0 : ((x5_1.length : Int) == 0) = false := beq_eq_false_iff_ne.mpr c58
            have c58b1 : ((x5_1.length : Int) != 0) = true := bne_iff_ne.mpr c58
            have c58b2 : ¬ (x5_1 = []) := fun h_ => c58 (by rw [h_]; rfl)
            obtain ⟨ji69, hji69⟩ : ∃ j_ : Int, (wrap64 ((x5_1.length : Int) - 1)) = j_ := ⟨_, rfl⟩
            replace H : (if 0 ≤ (ji69) then (if (ji69) < (x5_1.length : Int) then ((spec_SamePacket.f kj10 (rd_L2 x5_1 (ji69)) (rd_L2 x1_1 0)).bind fun t189 => (if t189 = true then (spec_l05Merge.l0 kj10 x0_1 y174 x5_1) else ((some (([] : List Int) : List Int)).bind fun y190 => (if y190.length + (rd_L2 x1_1 0).length < 17592186044416 then (if x5_1.length < 5864062014805 then (spec_l05Merge.l0 kj10 x0_1 y174 (x5_1 ++ [(y190 ++ (rd_L2 x1_1 0))])) else (none)) else (none))))) else (none)) else (none)) = some r := by first | (rw [hji69] at H; exact H) | (simp only [hji69] at H ⊢; exact H)
            have hji69w : (IntKind.i64.wrap ((x5_1.length : Int) - 1)) = ji69 := (i64_w _).trans hji69
            by_cases c70 : 0 ≤ (ji69)
            ·rw [if_pos c70] at H
             have c70b0 : decide (0 ≤ (ji69)) = true := decide_eq_true c70
             clear c70
             by_cases c71 : (ji69) < (x5_1.length : Int)
             ·rw [if_pos c71] at H
              have c71b0 : decide ((ji69) < (x5_1.length : Int)) = true := decide_eq_true c71
              clear c71
              replace H := Option.bind_eq_some_iff.mp H
              obtain ⟨t189, A720, H⟩ := H
              replace H : (if t189 = true then (spec_l05Merge.l0 kj10 x0_1 y174 x5_1) else ((some (([] : List Int) : List Int)).bind fun y190 => (if y190.length + (rd_L2 x1_1 0).length < 17592186044416 then (if x5_1.length < 5864062014805 then (spec_l05Merge.l0 kj10 x0_1 y174 (x5_1 ++ [(y190 ++ (rd_L2 x1_1 0))])) else (none)) else (none)))) = some r := H
              have A72 := Aside0.mk A720
              clear A720
              by_cases c73 : t189 = true
              ·subst c73
               rw [if_pos rfl] at H
               have H' := Aside0.mk H
               clear H
               obtain ⟨Ao74, co74, eo74⟩ := Kd.V_slice HO_1.out
               subst eo74
               have p173 : 0 ≤ (0 : Int) := (by omega)
               have q173 : 0 < (x1_1.length : Int) := of_decide_eq_true (by first | (with_reducible assumption) | assumption)
               obtain ⟨ad173, A173_0, c173_0, e173, hx173_0, hl173_0, hi173_0⟩ := at_L2 (Kd.V_reads' HO_1.out).2.2 0 p173 q173
               cases e173
               obtain ⟨ce173, hce173, hMe173, hcc173⟩ := Kd.V_get HO_1.out [] 0 p173 (by first | exact q173 | exact of_decide_eq_true (by first | (with_reducible assumption) | assumption) | (have e_ := (Kd.V_reads' HO_1.out).1; omega))
               obtain ⟨ua173_0, uc173_0, rfl, ul173_0, ge173_0⟩ := Kd.FK_slice_open hMe173
               have hv173_0 := hcc173 0 _ rfl
               rw [Nat.add_zero, show ((Kd.slice 3 (Kd.int .i64))).sz = 1 from rfl, Nat.mul_one] at hv173_0
               replace hv173_0 := Option.some.inj (hv173_0.symm.trans hx173_0)
               injection hv173_0 with hva_ hvn_ hvc_
               rw [hva_] at ge173_0
               rw [hvc_] at ul173_0
               have HL173_0 := Aside0.mk (show Kd.V (Kd.int .i64) 3 _ w.heap.size _ _ (rd_L2 x1_1 0) from Kd.V_mk ul173_0 ge173_0)
               clear hva_ hvn_ hvc_ ge173_0 ul173_0
               clear hcc173 hce173
               have qi173 : (0 < x1_1.length) = True := eq_true (by omega)
               (try rw [show ((0 : Int)).toNat = 0 from rfl] at hx173_0)
               (try rw [Addr.add_zero'] at hx173_0)
               have HR173_0 := Aside0.mk hi173_0
               have HC173_0 := Aside0.mk hl173_0
               clear hi173_0 hl173_0
               replace p173 := eq_true p173
               replace q173 := eq_true q173
               have q75 : (1 : Int) ≤ ((x1_1.length : Int) : Int) := of_decide_eq_true (by first | (with_reducible assumption) | assumption)
               obtain ⟨i075, hi075, _, hsz75, _⟩ := info_parts info22
               have hroom75 : x1_1.length ≤ co74 := (Kd.V_reads' HO_1.out).2.1
               have hC75 : Kd.F (Kd.slice 3 (Kd.int .i64)) _ _ (some ad173) x1_1.length x1_1 := (Kd.V_at (base := w.heap.size) HO_1.out).2.2
               have hcut75 := cut_from (P := Try.prog) 33 22 .i64 Try.underlying33 hi075 1 hsz75 (some ad173) x1_1.length co74 1 (by omega) q75
               have hr75 := Kd.F_cut (m := (1 : Int).toNat) (c := co74) hC75 (by omega) hroom75
               obtain ⟨A75, hA75⟩ : ∃ A1, A1 = (if co74 = (1 : Int).toNat then (some ad173) else ((some ad173) : Option Addr).map (·.add ((1 : Int).toNat * 1))) := ⟨_, rfl⟩
               obtain ⟨c75, hc75⟩ : ∃ c1, c1 = co74 - (1 : Int).toNat := ⟨_, rfl⟩
               have hy75 : y174.length = x1_1.length - (1 : Int).toNat := (by rw [Ny174.out, List.length_drop] <;> omega)
               rw [show (x1_1).drop (1 : Int).toNat = y174 from Ny174.out.symm] at hr75
               replace hr75 : Kd.F (Kd.slice 3 (Kd.int .i64)) _ _ A75 y174.length y174 := (by rw [hA75]; exact hr75)
               rw [← hy75, ← hA75, ← hc75] at hcut75
               have HO178 := Aside0.mk (show Kd.V (Kd.slice 3 (Kd.int .i64)) 22 _ w.heap.size _ (.slice A75 y174.length c75) y174 from Kd.V_mk (by rw [hy75, hc75]; exact Nat.sub_le_sub_right hroom75 _) hr75)
               have HC178 := Aside0.mk (show y174.length ≤ c75 from by rw [hy75, hc75]; exact Nat.sub_le_sub_right hroom75 _)
               clear hr75 hC75 hroom75 hi075 hsz75 hc75
               have KY75 := Aside0.mk hy75
               have KA75 := Aside0.mk hA75
               clear hy75 hA75
               replace q75 := eq_true q75
               obtain ⟨Ao76, co76, eo76⟩ := Kd.S_slice HO_5.out
               subst eo76
               have p188 : 0 ≤ ((ji69) : Int) := of_decide_eq_true (by first | (with_reducible assumption) | assumption)
               have q188 : (ji69) < (x5_1.length : Int) := of_decide_eq_true (by first | (with_reducible assumption) | assumption)
               obtain ⟨ad188, A188_0, c188_0, e188, hx188_0, hl188_0, hi188_0⟩ := at_L2 (Kd.S_reads' HO_5.out).2.2 (ji69) p188 q188
               cases e188
               obtain ⟨ce188, hce188, hMe188, hcc188⟩ := Kd.S_get HO_5.out [] (ji69) p188 (by first | exact q188 | exact of_decide_eq_true (by first | (with_reducible assumption) | assumption) | (have e_ := (Kd.S_reads' HO_5.out).1; omega))
               obtain ⟨ve188_0, rfl, ge188_0⟩ := hMe188
               have hv188_0 := hcc188 0 _ rfl
               rw [Nat.add_zero, show ((Kd.slice 3 (Kd.int .i64))).sz = 1 from rfl, Nat.mul_one] at hv188_0
               replace hv188_0 := Option.some.inj (hv188_0.symm.trans hx188_0)
               rw [hv188_0] at ge188_0
               have HL188_0 := Aside0.mk (show Kd.R (Kd.int .i64) 3 _ _ _ _ (rd_L2 x5_1 (ji69)) from ge188_0)
               clear hv188_0 ge188_0
               clear hcc188 hce188
               have HR188_0 := Aside0.mk hi188_0
               have HC188_0 := Aside0.mk hl188_0
               clear hi188_0 hl188_0
               replace p188 := eq_true p188
               replace q188 := eq_true q188
               go_wp2_with (first | (go_at_call 16; (with_reducible refine (spec_SamePacket.calls kj10 _ _ (rd_L2 x5_1 (ji69)) _ _ (rd_L2 x1_1 0) true _ ?side1 ?side2 ?side3 ?side4 A72.out).mono ?_); (case side1 => repeat (first | exact (cx_ HR188_0) | (with_reducible first | refine Kd.C_alloc ?_ _ | refine Kd.C_drewN ?_ _ | refine Kd.C_drew ?_))); (case side2 => exact HC188_0.out); (case side3 => repeat (first | exact (cx_ HR173_0) | (with_reducible first | refine Kd.C_alloc ?_ _ | refine Kd.C_drewN ?_ _ | refine Kd.C_drew ?_))); (case side4 => exact HC173_0.out); rintro e w' ⟨rfl, ⟨nd, rfl⟩⟩; (try first | exact ⟨rfl, _, World.drewN_drewN _ _ _⟩ | exact ⟨rfl, _, Eq.trans (World.drewN_drewN _ _ _) (congrArg (World.drewN _) (Nat.add_assoc _ _ _))⟩)) | go_quiet (first | (go_at_call 16; (with_reducible refine (spec_SamePacket.calls kj10 _ _ (rd_L2 x5_1 (ji69)) _ _ (rd_L2 x1_1 0) true _ ?side1 ?side2 ?side3 ?side4 A72.out).mono ?_); (case side1 => repeat (first | exact (cx_ HR188_0) | (with_reducible first | refine Kd.C_alloc ?_ _ | refine Kd.C_drewN ?_ _ | refine Kd.C_drew ?_))); (case side2 => exact HC188_0.out); (case side3 => repeat (first | exact (cx_ HR173_0) | (with_reducible first | refine Kd.C_alloc ?_ _ | refine Kd.C_drewN ?_ _ | refine Kd.C_drew ?_))); (case side4 => exact HC173_0.out); rintro e w' ⟨rfl, ⟨nd, rfl⟩⟩; (try first | exact ⟨rfl, _, World.drewN_drewN _ _ _⟩ | exact ⟨rfl, _, Eq.trans (World.drewN_drewN _ _ _) (congrArg (World.drewN _) (Nat.add_assoc _ _ _))⟩))))
               go_roundg kj10
               case measure => have := HK1.out; have := HJ4.out; have := HJ10.out; omega
               case rel => exact ⟨(x0_1), (y174), (x5_1), H', ⟨by have := HK1.out; have := HJ4.out; have := HJ10.out; omega⟩, ⟨by (with_reducible repeat (first | apply Kd.V_alloc | apply Kd.V_drewN | apply Kd.V_drew)); exact HO_0.out⟩, ⟨by (with_reducible repeat (first | apply Kd.V_alloc | apply Kd.V_drewN | apply Kd.V_drew)); exact HO178.out⟩, ⟨by (with_reducible repeat (first | apply Kd.S_alloc | apply Kd.S_drewN | apply Kd.S_drew)); exact HO_5.out⟩, ⟨by repeat (first | (with_reducible first | exact HB.out | apply below_alloc | apply pw_below_drewN | apply below_drew1) | exact HB.out)⟩⟩
              ·replace c73 := Bool.eq_false_iff.mpr c73
               subst c73
               rw [if_neg (show ¬ (false = true) by decide)] at H
               obtain ⟨y190, hy190⟩ : ∃ y_ : List Int, y_ = (([] : List Int)) := ⟨_, rfl⟩
               replace H : (if y190.length + (rd_L2 x1_1 0).length < 17592186044416 then (if x5_1.length < 5864062014805 then (spec_l05Merge.l0 kj10 x0_1 y174 (x5_1 ++ [(y190 ++ (rd_L2 x1_1 0))])) else (none)) else (none)) = some r := by first | (rw [hy190]; with_reducible exact H) | (have H2_ := (Option.bind_some _ _).symm.trans H; rw [hy190]; with_reducible exact H2_) | (have H2_ := (Option.bind_some _ _).symm.trans H; with_reducible exact H2_) | with_reducible exact H | (rw [hy190]; exact H) | exact H
               have Ny190 := Aside0.mk hy190
               clear hy190
               by_cases c77 : y190.length + (rd_L2 x1_1 0).length < 17592186044416
               ·rw [if_pos c77] at H
                have LMc77 := Aside0.mk c77
                clear c77
                obtain ⟨y193, hy193⟩ : ∃ y_ : List Int, y_ = (y190 ++ (rd_L2 x1_1 0)) := ⟨_, rfl⟩
                replace H : (if x5_1.length < 5864062014805 then (spec_l05Merge.l0 kj10 x0_1 y174 (x5_1 ++ [y193])) else (none)) = some r := by first | (rw [hy193]; with_reducible exact H) | (have H2_ := (Option.bind_some _ _).symm.trans H; rw [hy193]; with_reducible exact H2_) | (have H2_ := (Option.bind_some _ _).symm.trans H; with_reducible exact H2_) | with_reducible exact H | (rw [hy193]; exact H) | exact H
                have Ny193 := Aside0.mk hy193
                clear hy193
                by_cases c78 : x5_1.length < 5864062014805
                ·rw [if_pos c78] at H
                 have LMc78 := Aside0.mk c78
                 clear c78
                 obtain ⟨y196, hy196⟩ : ∃ y_ : List (List Int), y_ = (x5_1 ++ [y193]) := ⟨_, rfl⟩
                 replace H : (spec_l05Merge.l0 kj10 x0_1 y174 y196) = some r := by first | (rw [hy196]; with_reducible exact H) | (have H2_ := (Option.bind_some _ _).symm.trans H; rw [hy196]; with_reducible exact H2_) | (have H2_ := (Option.bind_some _ _).symm.trans H; with_reducible exact H2_) | with_reducible exact H | (rw [hy196]; exact H) | exact H
                 have Ny196 := Aside0.mk hy196
                 clear hy196
                 have H' := Aside0.mk H
                 clear H
                 obtain ⟨Ao79, co79, eo79⟩ := Kd.V_slice HO_1.out
                 subst eo79
                 have p173 : 0 ≤ (0 : Int) := (by omega)
                 have q173 : 0 < (x1_1.length : Int) := of_decide_eq_true (by first | (with_reducible assumption) | assumption)
                 obtain ⟨ad173, A173_0, c173_0, e173, hx173_0, hl173_0, hi173_0⟩ := at_L2 (Kd.V_reads' HO_1.out).2.2 0 p173 q173
                 cases e173
                 obtain ⟨ce173, hce173, hMe173, hcc173⟩ := Kd.V_get HO_1.out [] 0 p173 (by first | exact q173 | exact of_decide_eq_true (by first | (with_reducible assumption) | assumption) | (have e_ := (Kd.V_reads' HO_1.out).1; omega))
                 obtain ⟨ua173_0, uc173_0, rfl, ul173_0, ge173_0⟩ := Kd.FK_slice_open hMe173
                 have hv173_0 := hcc173 0 _ rfl
                 rw [Nat.add_zero, show ((Kd.slice 3 (Kd.int .i64))).sz = 1 from rfl, Nat.mul_one] at hv173_0
                 replace hv173_0 := Option.some.inj (hv173_0.symm.trans hx173_0)
                 injection hv173_0 with hva_ hvn_ hvc_
                 rw [hva_] at ge173_0
                 rw [hvc_] at ul173_0
                 have HL173_0 := Aside0.mk (show Kd.V (Kd.int .i64) 3 _ w.heap.size _ _ (rd_L2 x1_1 0) from Kd.V_mk ul173_0 ge173_0)
                 clear hva_ hvn_ hvc_ ge173_0 ul173_0
                 clear hcc173 hce173
                 have qi173 : (0 < x1_1.length) = True := eq_true (by omega)
                 (try rw [show ((0 : Int)).toNat = 0 from rfl] at hx173_0)
                 (try rw [Addr.add_zero'] at hx173_0)
                 have HR173_0 := Aside0.mk hi173_0
                 have HC173_0 := Aside0.mk hl173_0
                 clear hi173_0 hl173_0
                 replace p173 := eq_true p173
                 replace q173 := eq_true q173
                 have q80 : (1 : Int) ≤ ((x1_1.length : Int) : Int) := of_decide_eq_true (by first | (with_reducible assumption) | assumption)
                 obtain ⟨i080, hi080, _, hsz80, _⟩ := info_parts info22
                 have hroom80 : x1_1.length ≤ co79 := (Kd.V_reads' HO_1.out).2.1
                 have hC80 : Kd.F (Kd.slice 3 (Kd.int .i64)) _ _ (some ad173) x1_1.length x1_1 := (Kd.V_at (base := w.heap.size) HO_1.out).2.2
                 have hcut80 := cut_from (P := Try.prog) 33 22 .i64 Try.underlying33 hi080 1 hsz80 (some ad173) x1_1.length co79 1 (by omega) q80
                 have hr80 := Kd.F_cut (m := (1 : Int).toNat) (c := co79) hC80 (by omega) hroom80
                 obtain ⟨A80, hA80⟩ : ∃ A1, A1 = (if co79 = (1 : Int).toNat then (some ad173) else ((some ad173) : Option Addr).map (·.add ((1 : Int).toNat * 1))) := ⟨_, rfl⟩
                 obtain ⟨c80, hc80⟩ : ∃ c1, c1 = co79 - (1 : Int).toNat := ⟨_, rfl⟩
                 have hy80 : y174.length = x1_1.length - (1 : Int).toNat := (by rw [Ny174.out, List.length_drop] <;> omega)
                 rw [show (x1_1).drop (1 : Int).toNat = y174 from Ny174.out.symm] at hr80
                 replace hr80 : Kd.F (Kd.slice 3 (Kd.int .i64)) _ _ A80 y174.length y174 := (by rw [hA80]; exact hr80)
                 rw [← hy80, ← hA80, ← hc80] at hcut80
                 have HO178 := Aside0.mk (show Kd.V (Kd.slice 3 (Kd.int .i64)) 22 _ w.heap.size _ (.slice A80 y174.length c80) y174 from Kd.V_mk (by rw [hy80, hc80]; exact Nat.sub_le_sub_right hroom80 _) hr80)
                 have HC178 := Aside0.mk (show y174.length ≤ c80 from by rw [hy80, hc80]; exact Nat.sub_le_sub_right hroom80 _)
                 clear hr80 hC80 hroom80 hi080 hsz80 hc80
                 have KY80 := Aside0.mk hy80
                 have KA80 := Aside0.mk hA80
                 clear hy80 hA80
                 replace q80 := eq_true q80
                 obtain ⟨Ao81, co81, eo81⟩ := Kd.S_slice HO_5.out
                 subst eo81
                 have p188 : 0 ≤ ((ji69) : Int) := of_decide_eq_true (by first | (with_reducible assumption) | assumption)
                 have q188 : (ji69) < (x5_1.length : Int) := of_decide_eq_true (by first | (with_reducible assumption) | assumption)
                 obtain ⟨ad188, A188_0, c188_0, e188, hx188_0, hl188_0, hi188_0⟩ := at_L2 (Kd.S_reads' HO_5.out).2.2 (ji69) p188 q188
                 cases e188
                 obtain ⟨ce188, hce188, hMe188, hcc188⟩ := Kd.S_get HO_5.out [] (ji69) p188 (by first | exact q188 | exact of_decide_eq_true (by first | (with_reducible assumption) | assumption) | (have e_ := (Kd.S_reads' HO_5.out).1; omega))
                 obtain ⟨ve188_0, rfl, ge188_0⟩ := hMe188
                 have hv188_0 := hcc188 0 _ rfl
                 rw [Nat.add_zero, show ((Kd.slice 3 (Kd.int .i64))).sz = 1 from rfl, Nat.mul_one] at hv188_0
                 replace hv188_0 := Option.some.inj (hv188_0.symm.trans hx188_0)
                 rw [hv188_0] at ge188_0
                 have HL188_0 := Aside0.mk (show Kd.R (Kd.int .i64) 3 _ _ _ _ (rd_L2 x5_1 (ji69)) from ge188_0)
                 clear hv188_0 ge188_0
                 clear hcc188 hce188
                 have HR188_0 := Aside0.mk hi188_0
                 have HC188_0 := Aside0.mk hl188_0
                 clear hi188_0 hl188_0
                 replace p188 := eq_true p188
                 replace q188 := eq_true q188
                 go_wp2_with (first | (go_at_call 16; (with_reducible refine (spec_SamePacket.calls kj10 _ _ (rd_L2 x5_1 (ji69)) _ _ (rd_L2 x1_1 0) false _ ?side1 ?side2 ?side3 ?side4 A72.out).mono ?_); (case side1 => repeat (first | exact (cx_ HR188_0) | (with_reducible first | refine Kd.C_alloc ?_ _ | refine Kd.C_drewN ?_ _ | refine Kd.C_drew ?_))); (case side2 => exact HC188_0.out); (case side3 => repeat (first | exact (cx_ HR173_0) | (with_reducible first | refine Kd.C_alloc ?_ _ | refine Kd.C_drewN ?_ _ | refine Kd.C_drew ?_))); (case side4 => exact HC173_0.out); rintro e w' ⟨rfl, ⟨nd, rfl⟩⟩; (try first | exact ⟨rfl, _, World.drewN_drewN _ _ _⟩ | exact ⟨rfl, _, Eq.trans (World.drewN_drewN _ _ _) (congrArg (World.drewN _) (Nat.add_assoc _ _ _))⟩)) | ((with_reducible refine gate_dst (N := 60) rfl ?_); (try (refine gate_guard (by rfl) ?_; dsimp only)); refine Kd.R_lit (Kd.int .i64) _ 3 ?hg (N := 60) ?hd (xs := ([] : List Int)) (inner := []) (ok := fun _ => True) (okp := fun _ => True) ?hr ?hp (fun _ hk => hk) trivial (Below.refl _ _) (Nat.le_refl _) (by simp) ?_; (case hd => rfl); (case hg => rfl); (case hr => first | (go_simp; done) | (go_simp; rfl)); (case hp => exact (Reps.none _ _)); intro v191 w82 ho83 hb hg_ hnew_; clear hg_ hnew_; (first | rw [← Ny190.out] at ho83 | (simp only [Int.reduceToNat] at ho83; rw [← Ny190.out] at ho83)); have n0_ := Aside0.mk (Kd.V_elder' (vx_ HO_0) (Kd.R_base ho83) hb); have n1_ := Aside0.mk (Kd.V_elder' (vx_ HO_1) (Kd.R_base ho83) hb); have n2_ := Aside0.mk (Kd.S_elder' (sx_ HO_5) (Kd.R_base ho83) hb); have n3_ := Aside0.mk (Kd.V_elder' (vx_ HL173_0) (Kd.R_base ho83) hb); have n4_ := Aside0.mk (Kd.V_elder' (vx_ HO178) (Kd.R_base ho83) hb); have n5_ := Aside0.mk (Kd.R_elder' (rx_ HL188_0) (Kd.R_base ho83) hb); have n6_ := Aside0.mk (Kd.R_lower (Kd.R_new' (Kd.R_newM (M := fun k_ => (w.heap.size ≤ k_)) ho83 (below_size bl_) (fun k_ h_ => h_)) (Kd.R_lt (rx_ HL188_0))) (below_size bl_)); have n7_ := Aside0.mk (Kd.C_below (cx_ HR173_0) hb); have n8_ := Aside0.mk (Kd.C_below (cx_ HR188_0) hb); have n9_ := Aside0.mk (below_step bl_ hb); clear HO_0; clear HO_1; clear HO_5; clear HL173_0; clear HO178; clear HL188_0; clear HR173_0; clear HR188_0; clear HB; have HO_0 := n0_; have HO_1 := n1_; have HO_5 := n2_; have HL173_0 := n3_; have HO178 := n4_; have HL188_0 := n5_; have HO192 := n6_; have HR173_0 := n7_; have HR188_0 := n8_; have HB := n9_; clear n0_ n1_ n2_ n3_ n4_ n5_ n6_ n7_ n8_ n9_; clear hb ho83) | ((with_reducible refine gate_builtin (b := .append) (xs := #[.tmp 60, .tmp 61]) rfl ?_); (try (refine gate_guard (by rfl) ?_; dsimp only)); at_builtin; refine Kd.R_append_rows (Kd.int .i64) (w0 := w) w.heap.size rfl (.tmp 60) (.tmp 61) 22 3 (.int .i64 0) 8 rfl Try.underlying22 info3 rfl (by decide) (by omega) v191 y190 (rd_L2 x1_1 0) _ _ _ (fun k_ => (w.heap.size ≤ k_) ∧ some k_ ≠ (.slice A188_0 (rd_L2 x5_1 (ji69)).length c188_0 : Value).ownBlock) (fun _ => False) rfl rfl ?aO ?aR (fun _ _ h => h) (fun _ h => h.elim) ?aF ?aB ?aS ?aL ?_; (case aR => repeat (first | exact (cx_ HR173_0) | (with_reducible first | refine Kd.C_alloc ?_ _ | refine Kd.C_drewN ?_ _ | refine Kd.C_drew ?_))); (case aB => exact bl_); (case aF => exact (fun k_ hk => ⟨(Nat.le_trans (below_size bl_) hk), Kd.fresh' (Kd.R_lt (rx_ HL188_0)) k_ hk⟩)); (case aO => exact (by (with_reducible repeat (first | apply Kd.R_alloc | apply Kd.R_drewN | apply Kd.R_drew)); exact Kd.R_mono HO192.out (fun _ hk => ⟨hk.1.1, hk.2⟩))); (case aS => exact (below_size bl_)); (case aL => have := LMc77.out; omega); intro v194 w84 ho hb hg hat; rw [← Ny193.out] at ho; have n0_ := Aside0.mk (Kd.V_afterv (ok := (fun k_ => ((P0_ k_ ∨ P1_ k_) ∨ w.heap.size ≤ k_) ∧ some k_ ≠ (.slice (some ad188) x5_1.length co81 : Value).ownBlock)) (vx_ HO_0) hg hat); have n1_ := Aside0.mk (Kd.V_afterv (ok := (fun k_ => ((P0_ k_ ∨ P1_ k_) ∨ w.heap.size ≤ k_) ∧ some k_ ≠ (.slice (some ad188) x5_1.length co81 : Value).ownBlock)) (vx_ HO_1) hg hat); have n2_ := Aside0.mk (Kd.S_after (ok := (fun k_ => (w.heap.size ≤ k_))) (sx_ HO_5) hg hat); have n3_ := Aside0.mk (Kd.V_afterv (ok := (fun k_ => ((P0_ k_ ∨ P1_ k_) ∨ w.heap.size ≤ k_) ∧ some k_ ≠ (.slice (some ad188) x5_1.length co81 : Value).ownBlock)) (vx_ HL173_0) hg hat); have n4_ := Aside0.mk (Kd.V_afterv (ok := (fun k_ => ((P0_ k_ ∨ P1_ k_) ∨ w.heap.size ≤ k_) ∧ some k_ ≠ (.slice (some ad188) x5_1.length co81 : Value).ownBlock)) (vx_ HO178) hg hat); have n5_ := Aside0.mk (Kd.R_after (ok := (fun k_ => (w.heap.size ≤ k_) ∧ some k_ ≠ (.slice (some ad188) x5_1.length co81 : Value).ownBlock)) (rx_ HL188_0) hg hat); have n6_ := Aside0.mk (hb); have n7_ := Aside0.mk (ho); clear HO_0; clear HO_1; clear HO_5; clear HL173_0; clear HO178; clear HL188_0; clear HB; clear HO192; have HO_0 := n0_; have HO_1 := n1_; have HO_5 := n2_; have HL173_0 := n3_; have HO178 := n4_; have HL188_0 := n5_; have HB := n6_; have HO195 := n7_; clear n0_ n1_ n2_ n3_ n4_ n5_ n6_ n7_; clear ho hb hg hat; obtain ⟨Ao86, co86, eo86⟩ := Kd.R_slice HO195.out; subst eo86) | ((with_reducible refine gate_builtin (b := .append) (xs := #[.tmp 59, .tmp 63]) rfl ?_); (try (refine gate_guard (by rfl) ?_; dsimp only)); at_builtin; refine Kd.S_append (Kd.slice 3 (Kd.int .i64)) (w0 := w) w.heap.size rfl (.tmp 59) (.tmp 63) 33 22 (.slice none 0 0) 24 rfl Try.underlying33 info22 rfl (by decide) (by omega) (.slice (some ad188) x5_1.length co81) x5_1 y193 [.slice Ao86 y193.length co86] (fun k_ => (w.heap.size ≤ k_)) (fun k_ => some k_ = (.slice Ao86 y193.length co86 : Value).ownBlock) rfl rfl ?aP (fun k_ hk_ => ((Kd.R_mono (ok' := fun k_ => ((fun k_ => (w.heap.size ≤ k_))) k_ ∧ some k_ ≠ (.slice (some ad188) x5_1.length co81 : Value).ownBlock) (Kd.R_apart' (HO195.out) (Kd.S_typed HO_5.out) (by decide)) (fun k_ hk => ⟨hk.1.1, hk.2⟩))).1 k_ hk_.symm) ?aF ?aO ?aB ?aS ?aL ?_; (case aP => exact Kd.M_row (Kd.R_mono (Kd.R_tight rfl (Kd.R_mono (ok' := fun k_ => ((fun k_ => (w.heap.size ≤ k_))) k_ ∧ some k_ ≠ (.slice (some ad188) x5_1.length co81 : Value).ownBlock) (Kd.R_apart' (HO195.out) (Kd.S_typed HO_5.out) (by decide)) (fun k_ hk => ⟨hk.1.1, hk.2⟩))) (fun _ h_ => h_))); (case aB => exact bl_); (case aF => exact (fun k_ hk => (Nat.le_trans (below_size bl_) hk))); (case aO => exact (by (with_reducible repeat (first | apply Kd.S_alloc | apply Kd.S_drewN | apply Kd.S_drew)); exact Kd.S_mono HO_5.out (fun k_ hk => ⟨hk.1, fun e_ => hk.2 e_⟩))); (case aS => exact (below_size bl_)); (case aL => have := LMc78.out; omega); intro v197 w85 ho hb hg hat; rw [← Ny196.out] at ho; have n0_ := Aside0.mk (Kd.V_afterv (ok := (fun k_ => ((P0_ k_ ∨ P1_ k_) ∨ w.heap.size ≤ k_) ∧ some k_ ≠ (.slice Ao86 y193.length co86 : Value).ownBlock)) (by (with_reducible repeat (first | apply Kd.V_alloc | apply Kd.V_drewN | apply Kd.V_drew)); exact Kd.V_mono HO_0.out (fun _ hk => ⟨⟨hk.1.1, hk.2⟩, hk.1.2⟩)) hg hat); have n1_ := Aside0.mk (Kd.V_afterv (ok := (fun k_ => ((P0_ k_ ∨ P1_ k_) ∨ w.heap.size ≤ k_) ∧ some k_ ≠ (.slice Ao86 y193.length co86 : Value).ownBlock)) (by (with_reducible repeat (first | apply Kd.V_alloc | apply Kd.V_drewN | apply Kd.V_drew)); exact Kd.V_mono HO_1.out (fun _ hk => ⟨⟨hk.1.1, hk.2⟩, hk.1.2⟩)) hg hat); have n2_ := Aside0.mk (Kd.V_afterv (ok := (fun k_ => ((P0_ k_ ∨ P1_ k_) ∨ w.heap.size ≤ k_) ∧ some k_ ≠ (.slice Ao86 y193.length co86 : Value).ownBlock)) (by (with_reducible repeat (first | apply Kd.V_alloc | apply Kd.V_drewN | apply Kd.V_drew)); exact Kd.V_mono HL173_0.out (fun _ hk => ⟨⟨hk.1.1, hk.2⟩, hk.1.2⟩)) hg hat); have n3_ := Aside0.mk (Kd.V_afterv (ok := (fun k_ => ((P0_ k_ ∨ P1_ k_) ∨ w.heap.size ≤ k_) ∧ some k_ ≠ (.slice Ao86 y193.length co86 : Value).ownBlock)) (by (with_reducible repeat (first | apply Kd.V_alloc | apply Kd.V_drewN | apply Kd.V_drew)); exact Kd.V_mono HO178.out (fun _ hk => ⟨⟨hk.1.1, hk.2⟩, hk.1.2⟩)) hg hat); have n4_ := Aside0.mk (Kd.R_after (ok := (fun k_ => (w.heap.size ≤ k_) ∧ some k_ ≠ (.slice Ao86 y193.length co86 : Value).ownBlock)) (by (with_reducible repeat (first | apply Kd.R_alloc | apply Kd.R_drewN | apply Kd.R_drew)); exact Kd.R_mono HL188_0.out (fun _ hk => ⟨⟨hk.1.1, hk.2⟩, hk.1.2⟩)) hg hat); have n5_ := Aside0.mk (hb); have n6_ := Aside0.mk (ho); clear HO_0; clear HO_1; clear HL173_0; clear HO178; clear HL188_0; clear HB; clear HO_5; clear HO195; have HO_0 := n0_; have HO_1 := n1_; have HL173_0 := n2_; have HO178 := n3_; have HL188_0 := n4_; have HB := n5_; have HO198 := n6_; clear n0_ n1_ n2_ n3_ n4_ n5_ n6_; clear ho hb hg hat) | go_quiet (first | (go_at_call 16; (with_reducible refine (spec_SamePacket.calls kj10 _ _ (rd_L2 x5_1 (ji69)) _ _ (rd_L2 x1_1 0) false _ ?side1 ?side2 ?side3 ?side4 A72.out).mono ?_); (case side1 => repeat (first | exact (cx_ HR188_0) | (with_reducible first | refine Kd.C_alloc ?_ _ | refine Kd.C_drewN ?_ _ | refine Kd.C_drew ?_))); (case side2 => exact HC188_0.out); (case side3 => repeat (first | exact (cx_ HR173_0) | (with_reducible first | refine Kd.C_alloc ?_ _ | refine Kd.C_drewN ?_ _ | refine Kd.C_drew ?_))); (case side4 => exact HC173_0.out); rintro e w' ⟨rfl, ⟨nd, rfl⟩⟩; (try first | exact ⟨rfl, _, World.drewN_drewN _ _ _⟩ | exact ⟨rfl, _, Eq.trans (World.drewN_drewN _ _ _) (congrArg (World.drewN _) (Nat.add_assoc _ _ _))⟩))))
                 go_roundg kj10
                 case measure => have := HK1.out; have := HJ4.out; have := HJ10.out; omega
                 case rel => exact ⟨(x0_1), (y174), (y196), H', ⟨by have := HK1.out; have := HJ4.out; have := HJ10.out; omega⟩, ⟨by (with_reducible repeat (first | apply Kd.V_alloc | apply Kd.V_drewN | apply Kd.V_drew)); exact Kd.V_mono HO_0.out (fun _ hk => ⟨hk.1.1, hk.2⟩)⟩, ⟨by (with_reducible repeat (first | apply Kd.V_alloc | apply Kd.V_drewN | apply Kd.V_drew)); exact Kd.V_mono HO178.out (fun _ hk => ⟨hk.1.1, hk.2⟩)⟩, ⟨by (with_reducible repeat (first | apply Kd.S_alloc | apply Kd.S_drewN | apply Kd.S_drew)); exact HO198.out⟩, ⟨by repeat (first | (with_reducible first | exact HB.out | apply below_alloc | apply pw_below_drewN | apply below_drew1) | exact HB.out)⟩⟩
                ·rw [if_neg c78] at H
                 exact absurd H (by simp)
               ·rw [if_neg c77] at H
                exact absurd H (by simp)
             ·rw [if_neg c71] at H
              exact absurd H (by simp)
            ·rw [if_neg c70] at H
             exact absurd H (by simp)
          ·rw [if_neg c57] at H
           exact absurd H (by simp)
         ·rw [if_neg c56] at H
          exact absurd H (by simp)
     ·replace c10 := Bool.eq_false_iff.mpr c10
      subst c10
      rw [if_neg (show ¬ (false = true) by decide)] at H
      obtain rfl := Option.some.inj H
      go_wp2
      repeat (go_quiet (fail); try go_wp2)
      go_ret
      exact ⟨_, by first | rfl | (simp [errW_none, errW_some] <;> rfl) | (simp [*, errW_none, errW_some] <;> rfl), by (with_reducible repeat (first | apply Kd.S_alloc | apply Kd.S_drewN | apply Kd.S_drew)); exact HO_5.out, by repeat (first | (with_reducible first | exact HB.out | apply below_alloc | apply pw_below_drewN | apply below_drew1) | exact HB.out)⟩

end Go.Proofs.Ytdgoeomelnlekaa.MFnRiffles
