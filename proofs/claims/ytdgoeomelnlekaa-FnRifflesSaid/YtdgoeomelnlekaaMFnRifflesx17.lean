-- Written by this session's own program (wip/tools/myprint.py), over the kit's printer.
import Derived.Test.YtdgoeomelnlekaaMFnRifflesx0
import Derived.Test.YtdgoeomelnlekaaMFnRifflesx1
import Derived.Test.YtdgoeomelnlekaaMFnRifflesx8
import Derived.Test.YtdgoeomelnlekaaMFnRifflesx9
import Derived.Test.YtdgoeomelnlekaaMFnRifflesx16
namespace Go.Proofs.Ytdgoeomelnlekaa.MFnRiffles
open Go.RowKit Go.Proofs.YtdgoeomelnlekaaW.PrintWords Go.Proofs.YtdgoeomelnlekaaW.PrintLast Go.Proofs.YtdgoeomelnlekaaW.PrintMore
attribute [local go_sem] max2_int min2_int max_two min_two max_three min_three max_four min_four   -- for this text's walks alone
set_option linter.unusedVariables false
set_option linter.unusedSimpArgs false

/-! ### laws_FnRiffles: function 6 -/
mutual
def laws_FnRiffles.l0 : Nat → List Int → Int → List Int → List (List Int) → Int → List (List Int) → Int → Int → Option (Bool)
 | 0, _, _, _, _, _, _, _, _ => none
 | k + 1, x3, x4, x5, x6, x7, x28, x29, x30 => if x30 < x29 then (if 0 ≤ x30 then (if x30 < (x28.length : Int) then (laws_FnRiffles.l0 k x3 x4 x5 x6 (wrap64 (x7 + ((rd_L2 x28 x30).length : Int))) x28 x29 (wrap64 (x30 + 1))) else (none)) else (none)) else ((impl_IsRiffle.f k x3).bind fun t555 => (if t555 = true then (if x7 = x4 then (if (x6.length : Int) > 2 then (laws_FnRiffles.j1 k x3 x4 x6 true) else ((impl_CountRiffles.f x4).bind fun t556 => (if 0 ≤ x4 then (if t556 = (wrap64 ((shl .i64 1 x4) - x4)) then ((impl_IsRiffle.f k x5).bind fun t557 => ((impl_NewPacket.f k x4).bind fun t558 => ((impl_IsResult.f k t558 2 x5).bind fun t561 => (laws_FnRiffles.j1 k x3 x4 x6 (t557 != t561))))) else (laws_FnRiffles.j1 k x3 x4 x6 true)) else (none)))) else (laws_FnRiffles.j1 k x3 x4 x6 true)) else (laws_FnRiffles.j1 k x3 x4 x6 true)))
def laws_FnRiffles.j1 : Nat → List Int → Int → List (List Int) → Bool → Option (Bool)
 | 0, _, _, _, _ => none
 | k + 1, x3, x4, x6, x69 => if x69 = true then (some false) else ((impl_NewPacket.f k x4).bind fun t562 => ((impl_ResultsOf.f k t562 2).bind fun bt565 => (laws_FnRiffles.l1 k x3 x4 x6 bt565.2 0 bt565.1 (bt565.1.length : Int) 0)))
def laws_FnRiffles.l1 : Nat → List Int → Int → List (List Int) → Bool → Int → List (List Int) → Int → Int → Option (Bool)
 | 0, _, _, _, _, _, _, _, _ => none
 | k + 1, x3, x4, x6, x11, x12, x76, x77, x78 => if x78 < x77 then (if 0 ≤ x78 then (if x78 < (x76.length : Int) then ((impl_RiffleWays.f k (rd_L2 x76 x78)).bind fun t570 => (if t570 < 1 then (some false) else (laws_FnRiffles.l1 k x3 x4 x6 x11 (wrap64 (x12 + t570)) x76 x77 (wrap64 (x78 + 1))))) else (none)) else (none)) else (if x11 = true then (if 0 ≤ x4 then (if x12 = (shl .i64 1 x4) then (if (x6.length : Int) = 2 then ((impl_SplitOf.f k x3).bind fun t571 => (if 0 < (x6.length : Int) then (some (t571 == ((rd_L2 x6 0).length : Int))) else (none))) else (some true)) else (some false)) else (none)) else (some false))
end
def laws_FnRiffles.f (k : Nat) (l0 : List Int) : Option (Bool) := if (l0.length : Int) > 1048576 then (some true) else ((spec_MakeRiffle.f k l0).bind fun t545 => ((spec_MakePerm.f k l0 20 (t545.length : Int)).bind fun t548 => ((impl_RisingSequences.f k t545).bind fun t551 => (laws_FnRiffles.l0 k t545 (t545.length : Int) t548 t551 0 t551 (t551.length : Int) 0))))
theorem laws_FnRiffles.mono_l : ∀ k, (∀ y0 y1 y2 y3 y4 y5 y6 y7, LeO (laws_FnRiffles.l0 k y0 y1 y2 y3 y4 y5 y6 y7) (laws_FnRiffles.l0 (k + 1) y0 y1 y2 y3 y4 y5 y6 y7)) ∧ (∀ y0 y1 y2 y3, LeO (laws_FnRiffles.j1 k y0 y1 y2 y3) (laws_FnRiffles.j1 (k + 1) y0 y1 y2 y3)) ∧ (∀ y0 y1 y2 y3 y4 y5 y6 y7, LeO (laws_FnRiffles.l1 k y0 y1 y2 y3 y4 y5 y6 y7) (laws_FnRiffles.l1 (k + 1) y0 y1 y2 y3 y4 y5 y6 y7))
 | 0 => ⟨fun _ _ _ _ _ _ _ _ r h => by simp [laws_FnRiffles.l0] at h, fun _ _ _ _ r h => by simp [laws_FnRiffles.j1] at h, fun _ _ _ _ _ _ _ _ r h => by simp [laws_FnRiffles.l1] at h⟩
 | k + 1 => by
  obtain ⟨ih0, ih1, ih2⟩ := laws_FnRiffles.mono_l k
  refine ⟨?_, ?_, ?_⟩
  ·intro y0 y1 y2 y3 y4 y5 y6 y7
   unfold laws_FnRiffles.l0
   repeat' first
   | (with_reducible exact ih0 _ _ _ _ _ _ _ _)
   | (with_reducible exact ih1 _ _ _ _)
   | (with_reducible exact ih2 _ _ _ _ _ _ _ _)
   | (with_reducible exact impl_IsResult.mono _ _ _ _)
   | (with_reducible exact impl_IsRiffle.mono _ _)
   | (with_reducible exact impl_NewPacket.mono _ _)
   | (with_reducible exact impl_ResultsOf.mono _ _ _)
   | (with_reducible exact impl_RiffleWays.mono _ _)
   | (with_reducible exact impl_RisingSequences.mono _ _)
   | (with_reducible exact impl_SplitOf.mono _ _)
   | (with_reducible exact spec_MakePerm.mono _ _ _ _)
   | (with_reducible exact spec_MakeRiffle.mono _ _)
   | (with_reducible exact LeO.refl _)
   | (with_reducible exact LeO.none _)
   | (with_reducible refine LeO.ite ?_ ?_)
   | (with_reducible refine LeO.bind ?_ (fun _ => ?_))
  ·intro y0 y1 y2 y3
   unfold laws_FnRiffles.j1
   repeat' first
   | (with_reducible exact ih0 _ _ _ _ _ _ _ _)
   | (with_reducible exact ih1 _ _ _ _)
   | (with_reducible exact ih2 _ _ _ _ _ _ _ _)
   | (with_reducible exact impl_IsResult.mono _ _ _ _)
   | (with_reducible exact impl_IsRiffle.mono _ _)
   | (with_reducible exact impl_NewPacket.mono _ _)
   | (with_reducible exact impl_ResultsOf.mono _ _ _)
   | (with_reducible exact impl_RiffleWays.mono _ _)
   | (with_reducible exact impl_RisingSequences.mono _ _)
   | (with_reducible exact impl_SplitOf.mono _ _)
   | (with_reducible exact spec_MakePerm.mono _ _ _ _)
   | (with_reducible exact spec_MakeRiffle.mono _ _)
   | (with_reducible exact LeO.refl _)
   | (with_reducible exact LeO.none _)
   | (with_reducible refine LeO.ite ?_ ?_)
   | (with_reducible refine LeO.bind ?_ (fun _ => ?_))
  ·intro y0 y1 y2 y3 y4 y5 y6 y7
   unfold laws_FnRiffles.l1
   repeat' first
   | (with_reducible exact ih0 _ _ _ _ _ _ _ _)
   | (with_reducible exact ih1 _ _ _ _)
   | (with_reducible exact ih2 _ _ _ _ _ _ _ _)
   | (with_reducible exact impl_IsResult.mono _ _ _ _)
   | (with_reducible exact impl_IsRiffle.mono _ _)
   | (with_reducible exact impl_NewPacket.mono _ _)
   | (with_reducible exact impl_ResultsOf.mono _ _ _)
   | (with_reducible exact impl_RiffleWays.mono _ _)
   | (with_reducible exact impl_RisingSequences.mono _ _)
   | (with_reducible exact impl_SplitOf.mono _ _)
   | (with_reducible exact spec_MakePerm.mono _ _ _ _)
   | (with_reducible exact spec_MakeRiffle.mono _ _)
   | (with_reducible exact LeO.refl _)
   | (with_reducible exact LeO.none _)
   | (with_reducible refine LeO.ite ?_ ?_)
   | (with_reducible refine LeO.bind ?_ (fun _ => ?_))
theorem laws_FnRiffles.mono : ∀ a0 k, LeO (laws_FnRiffles.f k a0) (laws_FnRiffles.f (k + 1) a0) := by
 intro a0 k
 obtain ⟨ih0, ih1, ih2⟩ := laws_FnRiffles.mono_l k
 unfold laws_FnRiffles.f
 repeat' first
   | (with_reducible exact ih0 _ _ _ _ _ _ _ _)
   | (with_reducible exact ih1 _ _ _ _)
   | (with_reducible exact ih2 _ _ _ _ _ _ _ _)
   | (with_reducible exact impl_IsResult.mono _ _ _ _)
   | (with_reducible exact impl_IsRiffle.mono _ _)
   | (with_reducible exact impl_NewPacket.mono _ _)
   | (with_reducible exact impl_ResultsOf.mono _ _ _)
   | (with_reducible exact impl_RiffleWays.mono _ _)
   | (with_reducible exact impl_RisingSequences.mono _ _)
   | (with_reducible exact impl_SplitOf.mono _ _)
   | (with_reducible exact spec_MakePerm.mono _ _ _ _)
   | (with_reducible exact spec_MakeRiffle.mono _ _)
   | (with_reducible exact LeO.refl _)
   | (with_reducible exact LeO.none _)
   | (with_reducible refine LeO.ite ?_ ?_)
   | (with_reducible refine LeO.bind ?_ (fun _ => ?_))
def laws_FnRiffles.T13 : Bool × List (List Nat × List Nat) := (true, [([], []), ([0], [0]), ([1], [1]), ([2, 1], [2]), ([3], [3]), ([3], [3]), ([4, 5, 3], [3, 4, 5]), ([3, 6], [3, 6]), ([7, 3], [7]), ([8], [8]), ([9, 8], [8, 9]), ([10, 8], [8, 10]), ([8, 11], [8, 11]), ([12, 8], [12]), ([13], [13]), ([14, 13, 13], [13, 14]), ([13], [13]), ([16, 13], [13, 16]), ([13], [13]), ([17, 18, 13], [13, 17, 18]), ([15, 19, 13], [13, 15, 19]), ([13, 20], [13, 20]), ([21, 15], [21]), ([22], [22]), ([23, 22, 22], [22, 23]), ([22], [22]), ([25, 24, 22], [22, 25]), ([22], [22]), ([26, 27, 26, 22], [22, 26, 27]), ([24, 28, 22], [22, 24, 28]), ([22, 29], [22, 29])])
def laws_FnRiffles.B13 : List Nat := [0, 1, 3, 7, 15, 15, 63, 127, 255, 511, 1023, 2047, 4095, 8191, 16383, 32767, 16383, 81919, 16383, 475135, 1048575, 2097151, 4194303, 8388607, 16777215, 8388607, 67108863, 8388607, 268435455, 536870911, 1073741823]
theorem laws_FnRiffles.tab13 : rtab .any (opsOf Try.f6 13) = laws_FnRiffles.T13 := by kernel_rfl
theorem laws_FnRiffles.bits13 : waitsOk laws_FnRiffles.T13.2 laws_FnRiffles.B13 = true := by kernel_rfl
def laws_FnRiffles.T25 : Bool × List (List Nat × List Nat) := (true, [([], []), ([0], [0]), ([1], [1]), ([1], [1]), ([3, 1], [1, 3]), ([2, 4, 1], [1, 2, 4]), ([1, 5], [1, 5]), ([6, 1], [6]), ([7], [7]), ([8, 7], [7, 8]), ([9, 7], [7, 9]), ([10, 7, 7], [7, 10]), ([11], [11]), ([12, 11, 11], [11, 12]), ([11], [11]), ([14, 11], [11, 14]), ([15, 11], [11, 15]), ([16, 11], [11, 16]), ([13, 17, 11], [11, 13, 17]), ([11, 18, 7], [7, 11, 18]), ([7, 19], [7, 19]), ([20, 13, 0, 1, 2, 3, 4, 5, 6, 7, 8, 9, 10, 11, 12, 13, 14, 15, 16, 17, 18, 19, 20], [20])])
def laws_FnRiffles.B25 : List Nat := [0, 1, 3, 3, 11, 31, 63, 127, 255, 511, 1023, 2047, 4095, 8191, 4095, 20479, 53247, 118783, 262143, 524287, 1048575, 2097151]
theorem laws_FnRiffles.tab25 : rtab .any (opsOf Try.f6 25) = laws_FnRiffles.T25 := by kernel_rfl
theorem laws_FnRiffles.bits25 : waitsOk laws_FnRiffles.T25.2 laws_FnRiffles.B25 = true := by kernel_rfl
set_option maxHeartbeats 8000000 in
set_option maxRecDepth 100000 in
theorem laws_FnRiffles.calls (k : Nat) (A0 : Option Addr) (c0 : Nat) (l0 : List Int) (r : Bool) (w : World) (hr0 : Kd.C (Kd.int .u8) w A0 l0.length l0) (hc0 : l0.length ≤ c0) (h : laws_FnRiffles.f k l0 = some r) :
  Calls Try.prog 6 #[.slice A0 l0.length c0] w fun e w' => e = .returned (.bool r) ∧ Below w.heap.size w w' := by
 have HR0 := Aside0.mk hr0
 have HC0 := Aside0.mk hc0
 clear hr0 hc0
 have HB := Aside0.mk (Below.refl w.heap.size w)
 have H : (if (l0.length : Int) > 1048576 then (some true) else ((spec_MakeRiffle.f k l0).bind fun t545 => ((spec_MakePerm.f k l0 20 (t545.length : Int)).bind fun t548 => ((impl_RisingSequences.f k t545).bind fun t551 => (laws_FnRiffles.l0 k t545 (t545.length : Int) t548 t551 0 t551 (t551.length : Int) 0))))) = some r := h
 clear h
 by_cases c2 : (l0.length : Int) > 1048576
 ·rw [if_pos c2] at H
  have c2b0 : decide (1048576 < (l0.length : Int)) = true := decide_eq_true c2
  have c2b1 : decide (1048576 < l0.length) = true := decide_eq_true (by omega)
  clear c2
  obtain rfl := Option.some.inj H
  go_enter Try.func6, Try.ntmps6
  go_wp2
  go_ret
  exact ⟨by first | rfl | (simp [errW_none, errW_some] <;> rfl) | (simp [*, errW_none, errW_some] <;> rfl), by repeat (first | (with_reducible first | exact HB.out | apply below_alloc | apply pw_below_drewN | apply below_drew1) | exact HB.out)⟩
 ·rw [if_neg c2] at H
  have c2b0 : decide (1048576 < (l0.length : Int)) = false := decide_eq_false c2
  have c2b1 : decide (1048576 < l0.length) = false := decide_eq_false (by omega)
  clear c2
  replace H := Option.bind_eq_some_iff.mp H
  obtain ⟨t545, A30, H⟩ := H
  replace H : ((spec_MakePerm.f k l0 20 (t545.length : Int)).bind fun t548 => ((impl_RisingSequences.f k t545).bind fun t551 => (laws_FnRiffles.l0 k t545 (t545.length : Int) t548 t551 0 t551 (t551.length : Int) 0))) = some r := H
  have A3 := Aside0.mk A30
  clear A30
  replace H := Option.bind_eq_some_iff.mp H
  obtain ⟨t548, A40, H⟩ := H
  replace H : ((impl_RisingSequences.f k t545).bind fun t551 => (laws_FnRiffles.l0 k t545 (t545.length : Int) t548 t551 0 t551 (t551.length : Int) 0)) = some r := H
  have A4 := Aside0.mk A40
  clear A40
  replace H := Option.bind_eq_some_iff.mp H
  obtain ⟨t551, A50, H⟩ := H
  replace H : (laws_FnRiffles.l0 k t545 (t545.length : Int) t548 t551 0 t551 (t551.length : Int) 0) = some r := H
  have A5 := Aside0.mk A50
  clear A50
  have H' := Aside0.mk H
  clear H
  go_enter Try.func6, Try.ntmps6
  go_wp2_with (first | ((with_reducible refine gate_callee (f := 26) rfl ?_); refine goesL_ (some 20) rfl rfl Try.func26 (by kernel_rfl) rfl #[.slice A0 l0.length c0] rfl (by (try simp only [List.map_toArray, List.map_cons, List.map_nil]); first | done | rfl | (simp only [List.length_drop, List.length_take]; rfl)) ?_; (with_reducible refine (spec_MakeRiffle.calls k _ _ l0 t545 _ ?side1 ?side2 A3.out).mono ?_); (case side1 => repeat (first | exact HR0.out | (with_reducible first | refine Kd.C_alloc ?_ _ | refine Kd.C_drewN ?_ _ | refine Kd.C_drew ?_))); (case side2 => exact HC0.out); rintro e w6 ⟨v546, rfl, ho0, hb⟩; refine ⟨_, rfl, ?_⟩; have n0_ := Aside0.mk (Kd.V_lower (Kd.V_mono (ok' := fun k_ => True) ho0 (fun k_ hk_ => trivial)) (below_size bl_)); have n1_ := Aside0.mk (below_step bl_ hb); clear HB; have HO547 := n0_; have HB := n1_; clear n0_ n1_; (try clear hb); (try clear ho0); obtain ⟨Ao7, co7, eo7⟩ := Kd.V_slice HO547.out; subst eo7) | ((with_reducible refine gate_callee (f := 27) rfl ?_); refine goesL_ (some 25) rfl rfl Try.func27 (by kernel_rfl) rfl #[.slice A0 l0.length c0, .int .i64 20, .int .i64 (t545.length : Int)] rfl (by (try simp only [List.map_toArray, List.map_cons, List.map_nil]); first | done | rfl | (simp only [List.length_drop, List.length_take]; rfl)) ?_; (with_reducible refine (spec_MakePerm.calls k _ _ l0 20 (t545.length : Int) t548 _ ?side1 ?side2 A4.out).mono ?_); (case side1 => repeat (first | exact (Kd.C_below HR0.out HB.out) | (with_reducible first | refine Kd.C_alloc ?_ _ | refine Kd.C_drewN ?_ _ | refine Kd.C_drew ?_))); (case side2 => exact HC0.out); rintro e w8 ⟨v549, rfl, ho0, hb⟩; refine ⟨_, rfl, ?_⟩; have n0_ := Aside0.mk (Kd.V_elder' (vx_ HO547) (Kd.R_base ho0) hb); have n1_ := Aside0.mk (Kd.R_lower ho0 (below_size bl_)); have n2_ := Aside0.mk (below_step bl_ hb); clear HO547; clear HB; have HO547 := n0_; have HO550 := n1_; have HB := n2_; clear n0_ n1_ n2_; (try clear hb); (try clear ho0)) | ((with_reducible refine gate_callee (f := 28) rfl ?_); refine goesL_ (some 27) rfl rfl Try.func28 (by kernel_rfl) rfl #[.slice Ao7 t545.length co7] rfl (by (try simp only [List.map_toArray, List.map_cons, List.map_nil]); first | done | rfl | (simp only [List.length_drop, List.length_take]; rfl)) ?_; (with_reducible refine (impl_RisingSequences.calls k _ _ t545 t551 _ ?side1 ?side2 A5.out).mono ?_); (case side1 => repeat (first | exact (Kd.V_reads' HO547.out).2.2 | (with_reducible first | refine Kd.C_alloc ?_ _ | refine Kd.C_drewN ?_ _ | refine Kd.C_drew ?_))); (case side2 => exact (Kd.V_reads' HO547.out).2.1); rintro e w9 ⟨v552, rfl, ho0, hb⟩; refine ⟨_, rfl, ?_⟩; have n0_ := Aside0.mk (Kd.V_elder' (vx_ HO547) (Kd.S_base ho0) hb); have n1_ := Aside0.mk (Kd.R_below (rx_ HO550) hb); have n2_ := Aside0.mk (Kd.S_lower (Kd.S_new' ho0 (Kd.R_lt (rx_ HO550))) (below_size bl_)); have n3_ := Aside0.mk (below_step bl_ hb); clear HO547; clear HO550; clear HB; have HO547 := n0_; have HO550 := n1_; have HO553 := n2_; have HB := n3_; clear n0_ n1_ n2_ n3_; (try clear hb); (try clear ho0); obtain ⟨Ao10, co10, eo10⟩ := Kd.S_slice HO553.out; subst eo10))
  go_loopg [7, 30] k (fun kq v7 v30 w' => ∃ (x7_1 : Int) (x30_1 : Int), v7 = .int .i64 x7_1 ∧ v30 = .int .i64 x30_1 ∧ Aside0 (laws_FnRiffles.l0 kq t545 (t545.length : Int) t548 t551 x7_1 t551 (t551.length : Int) x30_1 = some r) ∧ Aside0 (kq ≤ k) ∧ Aside0 (Kd.V (Kd.int .i64) 3 w' w.heap.size (fun k_ => some k_ ≠ (v549 : Value).ownBlock ∧ some k_ ≠ ((.slice Ao10 t551.length co10) : Value).ownBlock ∧ some k_ ≠ ((.slice Ao10 t551.length co10) : Value).ownBlock) (.slice Ao7 t545.length co7) t545) ∧ Aside0 (Kd.R (Kd.int .i64) 3 w' w.heap.size (fun _ => True) v549 t548) ∧ Aside0 (Kd.S (Kd.slice 3 (Kd.int .i64)) 22 w' w.heap.size (fun k_ => some k_ ≠ (v549 : Value).ownBlock) (.slice Ao10 t551.length co10) t551) ∧ Aside0 (Kd.S (Kd.slice 3 (Kd.int .i64)) 22 w' w.heap.size (fun k_ => some k_ ≠ (v549 : Value).ownBlock) (.slice Ao10 t551.length co10) t551) ∧ Aside0 (Below w.heap.size w w'))
  case atStart => exact ⟨(0), (0), (by first | rfl | (simp; done) | (simp [*]; done)), (by first | rfl | (simp; done) | (simp [*]; done)), H', ⟨Nat.le_refl _⟩, ⟨by (with_reducible repeat (first | apply Kd.V_alloc | apply Kd.V_drewN | apply Kd.V_drew)); exact Kd.V_mono HO547.out (fun _ hk => ⟨hk.1.2, ⟨hk.2, hk.2⟩⟩)⟩, ⟨by (with_reducible repeat (first | apply Kd.R_alloc | apply Kd.R_drewN | apply Kd.R_drew)); exact HO550.out⟩, ⟨by (with_reducible repeat (first | apply Kd.S_alloc | apply Kd.S_drewN | apply Kd.S_drew)); exact Kd.S_mono HO553.out (fun _ hk => hk.2)⟩, ⟨by (with_reducible repeat (first | apply Kd.S_alloc | apply Kd.S_drewN | apply Kd.S_drew)); exact Kd.S_mono HO553.out (fun _ hk => hk.2)⟩, ⟨by repeat (first | (with_reducible first | exact HB.out | apply below_alloc | apply pw_below_drewN | apply below_drew1) | exact HB.out)⟩⟩
  case round =>
   clear H'
   try clear c2
   try clear c2b0
   try clear c2b1
   try clear p2
   try clear c6
   obtain ⟨x7_1, x30_1, rfl, rfl, HA, HK1, HO_3, HO_5, HO_6, HO_28, HB⟩ := hrel
   cases gk with
   | zero => exact absurd HA.out (by simp [laws_FnRiffles.l0])
   | succ k1 =>
    have H := HA.out
    clear HA
    simp only [laws_FnRiffles.l0] at H
    by_cases c11 : x30_1 < (t551.length : Int)
    ·rw [if_pos c11] at H
     have c11b0 : decide (x30_1 < (t551.length : Int)) = true := decide_eq_true c11
     clear c11
     by_cases c12 : 0 ≤ x30_1
     ·rw [if_pos c12] at H
      have c12b0 : decide (0 ≤ x30_1) = true := decide_eq_true c12
      clear c12
      by_cases c13 : x30_1 < (t551.length : Int)
      ·rw [if_pos c13] at H
       have c13b0 : decide (x30_1 < (t551.length : Int)) = true := decide_eq_true c13
       clear c13
       have H' := Aside0.mk H
       clear H
       have p554 : 0 ≤ (x30_1 : Int) := of_decide_eq_true (by first | (with_reducible assumption) | assumption)
       have q554 : x30_1 < (t551.length : Int) := of_decide_eq_true (by first | (with_reducible assumption) | assumption)
       obtain ⟨ad554, A554_0, c554_0, e554, hx554_0, hl554_0, hi554_0⟩ := at_L2 (Kd.S_reads' HO_28.out).2.2 x30_1 p554 q554
       cases e554
       obtain ⟨ce554, hce554, hMe554, hcc554⟩ := Kd.S_get HO_28.out [] x30_1 p554 (by first | exact q554 | exact of_decide_eq_true (by first | (with_reducible assumption) | assumption) | (have e_ := (Kd.S_reads' HO_28.out).1; omega))
       obtain ⟨ve554_0, rfl, ge554_0⟩ := hMe554
       have hv554_0 := hcc554 0 _ rfl
       rw [Nat.add_zero, show ((Kd.slice 3 (Kd.int .i64))).sz = 1 from rfl, Nat.mul_one] at hv554_0
       replace hv554_0 := Option.some.inj (hv554_0.symm.trans hx554_0)
       rw [hv554_0] at ge554_0
       have HL554_0 := Aside0.mk (show Kd.R (Kd.int .i64) 3 _ _ _ _ (rd_L2 t551 x30_1) from ge554_0)
       clear hv554_0 ge554_0
       clear hcc554 hce554
       have HR554_0 := Aside0.mk hi554_0
       have HC554_0 := Aside0.mk hl554_0
       clear hi554_0 hl554_0
       replace p554 := eq_true p554
       replace q554 := eq_true q554
       go_wp2
       go_roundg k1
       case measure => have := HK1.out; omega
       case rel => exact ⟨(wrap64 (x7_1 + ((rd_L2 t551 x30_1).length : Int))), (wrap64 (x30_1 + 1)), (by first | rfl | (simp; done) | (simp [*]; done)), (by first | rfl | (simp; done) | (simp [*]; done)), H', ⟨by have := HK1.out; omega⟩, ⟨by (with_reducible repeat (first | apply Kd.V_alloc | apply Kd.V_drewN | apply Kd.V_drew)); exact HO_3.out⟩, ⟨by (with_reducible repeat (first | apply Kd.R_alloc | apply Kd.R_drewN | apply Kd.R_drew)); exact HO_5.out⟩, ⟨by (with_reducible repeat (first | apply Kd.S_alloc | apply Kd.S_drewN | apply Kd.S_drew)); exact HO_6.out⟩, ⟨by (with_reducible repeat (first | apply Kd.S_alloc | apply Kd.S_drewN | apply Kd.S_drew)); exact HO_28.out⟩, ⟨by repeat (first | (with_reducible first | exact HB.out | apply below_alloc | apply pw_below_drewN | apply below_drew1) | exact HB.out)⟩⟩
      ·rw [if_neg c13] at H
       exact absurd H (by simp)
     ·rw [if_neg c12] at H
      exact absurd H (by simp)
    ·rw [if_neg c11] at H
     have c11b0 : decide (x30_1 < (t551.length : Int)) = false := decide_eq_false c11
     clear c11
     have HC14 := Aside0.mk H
     clear H
     go_upto_region 13 with (fail)
     go_cut [69] (fun v69 wc => ∃ (kq : Nat) (x69_13 : Bool), v69 = .bool x69_13 ∧ Aside0 (laws_FnRiffles.j1 kq t545 (t545.length : Int) t551 x69_13 = some r) ∧ Aside0 (kq ≤ k1) ∧ Aside0 (Kd.V (Kd.int .i64) 3 wc w.heap.size (fun k_ => some k_ ≠ ((.slice Ao10 t551.length co10) : Value).ownBlock) (.slice Ao7 t545.length co7) t545) ∧ Aside0 (Kd.S (Kd.slice 3 (Kd.int .i64)) 22 wc w.heap.size (fun _ => True) (.slice Ao10 t551.length co10) t551) ∧ Aside0 (Below w.heap.size w wc))
     case first =>
      have H := HC14.out
      clear HC14
      replace H := Option.bind_eq_some_iff.mp H
      obtain ⟨t555, A150, H⟩ := H
      replace H : (if t555 = true then (if x7_1 = (t545.length : Int) then (if (t551.length : Int) > 2 then (laws_FnRiffles.j1 k1 t545 (t545.length : Int) t551 true) else ((impl_CountRiffles.f (t545.length : Int)).bind fun t556 => (if 0 ≤ (t545.length : Int) then (if t556 = (wrap64 ((shl .i64 1 (t545.length : Int)) - (t545.length : Int))) then ((impl_IsRiffle.f k1 t548).bind fun t557 => ((impl_NewPacket.f k1 (t545.length : Int)).bind fun t558 => ((impl_IsResult.f k1 t558 2 t548).bind fun t561 => (laws_FnRiffles.j1 k1 t545 (t545.length : Int) t551 (t557 != t561))))) else (laws_FnRiffles.j1 k1 t545 (t545.length : Int) t551 true)) else (none)))) else (laws_FnRiffles.j1 k1 t545 (t545.length : Int) t551 true)) else (laws_FnRiffles.j1 k1 t545 (t545.length : Int) t551 true)) = some r := H
      have A15 := Aside0.mk A150
      clear A150
      by_cases c16 : t555 = true
      ·subst c16
       rw [if_pos rfl] at H
       by_cases c17 : x7_1 = (t545.length : Int)
       ·rw [if_pos c17] at H
        have c17b0 : (x7_1 == (t545.length : Int)) = true := beq_iff_eq.mpr c17
        have c17b1 : (x7_1 != (t545.length : Int)) = false := bne_eq_false_iff_eq.mpr c17
        clear c17
        (first | rw [c17b0] | (simp only [i64_w, i32_w]; rw [c17b0]) | skip)
        by_cases c18 : (t551.length : Int) > 2
        ·rw [if_pos c18] at H
         have c18b0 : decide (2 < (t551.length : Int)) = true := decide_eq_true c18
         have c18b1 : decide (2 < t551.length) = true := decide_eq_true (by omega)
         clear c18
         have H' := Aside0.mk H
         clear H
         try go_wp2
         have n0_ := Aside0.mk (Kd.V_drew HO_3.out)
         have n1_ := Aside0.mk (Kd.R_drew HO_5.out)
         have n2_ := Aside0.mk (Kd.S_drew HO_6.out)
         have n3_ := Aside0.mk (Kd.S_drew HO_28.out)
         have n4_ := Aside0.mk (below_drew1 HB.out)
         clear HO_3
         clear HO_5
         clear HO_6
         clear HO_28
         clear HB
         have HO_3 := n0_
         have HO_5 := n1_
         have HO_6 := n2_
         have HO_28 := n3_
         have HB := n4_
         clear n0_ n1_ n2_ n3_ n4_
         refine start_ (n := 31) (S := fun w' => True) (ds := []) #[false, false, false, false, false, false, false, false, false, false, false, false, false, false, false, false, false, false, false, false, false, false, false, false, false, false, false, false, false, false, false] (by kernel_rfl) rfl rfl trivial (fun hHeld => ?_); refine with_tabW laws_FnRiffles.tab13 laws_FnRiffles.bits13 (fun HT_ HW_ => ?_)
         generalize wr.drew = w19 at HO_3 HO_5 HO_6 HO_28 HB hHeld ⊢
         refine ps_ HT_ 0 39 ?_
         refine one_ (i := 1) (N := some 40) #[true, true, false, false, false, false, false, false, false, false, false, false, false, false, false, false, false, false, false, false, false, false, false, false, false, false, false, false, false, false, false] rfl rfl (one_of HT_.out (by kernel_rfl)) (by decide) (fun K hK => ?_)
         refine goes_ Try.func29 (by kernel_rfl) rfl #[.slice Ao7 t545.length co7] (by rfl) rfl rfl (by (try simp only [List.map_toArray, List.map_cons, List.map_nil]); first | done | rfl | (simp only [List.length_drop, List.length_take]; rfl)) ?_
         with_reducible refine (impl_IsRiffle.calls k1 _ _ t545 true _ ?side1 ?side2 A15.out).mono ?_
         (case side1 => repeat (first | exact (Kd.V_reads' HO_3.out).2.2 | (with_reducible first | refine Kd.C_alloc ?_ _ | refine Kd.C_drewN ?_ _ | refine Kd.C_drew ?_)))
         (case side2 => exact (Kd.V_reads' HO_3.out).2.1)
         rintro e w20 ⟨rfl, hb⟩
         refine ⟨_, rfl, ?_⟩
         have n0_ := Aside0.mk (Kd.V_below (vx_ HO_3) hb)
         have n1_ := Aside0.mk (Kd.R_below (rx_ HO_5) hb)
         have n2_ := Aside0.mk (Kd.S_below (sx_ HO_6) hb)
         have n3_ := Aside0.mk (Kd.S_below (sx_ HO_28) hb)
         have n4_ := Aside0.mk (below_step bl_ hb)
         clear HO_3
         clear HO_5
         clear HO_6
         clear HO_28
         clear HB
         have HO_3 := n0_
         have HO_5 := n1_
         have HO_6 := n2_
         have HO_28 := n3_
         have HB := n4_
         clear n0_ n1_ n2_ n3_ n4_
         (try clear hb)
         (try clear hb2)
         (try clear hk)
         (try clear hi)
         refine hK.out _ _ trivial (fun hHeld => ?_)
         clear hK K
         refine ns_ ?_
         refine ps_ HT_ 2 41 ?_
         refine ps_ HT_ 3 42 ?_
         refine ps_ HT_ 4 43 ?_
         refine ps_ HT_ 5 44 ?_
         refine ps_ HT_ 6 45 ?_
         refine ps_ HT_ 7 46 ?_
         refine ps_ HT_ 8 47 ?_
         refine ps_ HT_ 9 48 ?_
         refine ps_ HT_ 10 49 ?_
         refine ps_ HT_ 11 50 ?_
         refine ps_ HT_ 12 51 ?_
         refine ps_ HT_ 13 52 ?_
         refine ps_ HT_ 14 53 ?_
         refine ps_ HT_ 15 54 ?_
         refine ps_ HT_ 16 55 ?_
         refine ps_ HT_ 17 56 ?_
         refine ps_ HT_ 18 57 ?_
         refine ps_ HT_ 19 58 ?_
         refine ps_ HT_ 20 59 ?_
         refine ps_ HT_ 21 60 ?_
         refine ps_ HT_ 22 61 ?_
         refine ps_ HT_ 23 62 ?_
         refine ps_ HT_ 24 63 ?_
         refine ps_ HT_ 25 64 ?_
         refine ps_ HT_ 26 65 ?_
         refine ps_ HT_ 27 66 ?_
         refine ps_ HT_ 28 67 ?_
         refine ps_ HT_ 29 68 ?_
         refine ps_ HT_ 30 69 ?_
         refine done_ (done_of HT_.out (by kernel_rfl)) ?_
         try go_wp2
         go_meet
         case rel => exact ⟨_, (true), (by first | rfl | (simp; done) | (simp [*]; done)), H', ⟨by have := HK1.out; first | omega | exact Nat.le_refl _⟩, ⟨by (with_reducible repeat (first | apply Kd.V_alloc | apply Kd.V_drewN | apply Kd.V_drew)); exact Kd.V_mono HO_3.out (fun _ hk => hk.2.1)⟩, ⟨by (with_reducible repeat (first | apply Kd.S_alloc | apply Kd.S_drewN | apply Kd.S_drew)); exact Kd.S_mono HO_6.out (fun _ hk => trivial)⟩, ⟨by repeat (first | (with_reducible first | exact HB.out | apply below_alloc | apply pw_below_drewN | apply below_drew1) | exact HB.out)⟩⟩
        ·rw [if_neg c18] at H
         have c18b0 : decide (2 < (t551.length : Int)) = false := decide_eq_false c18
         have c18b1 : decide (2 < t551.length) = false := decide_eq_false (by omega)
         clear c18
         replace H := Option.bind_eq_some_iff.mp H
         obtain ⟨t556, A210, H⟩ := H
         replace H : (if 0 ≤ (t545.length : Int) then (if t556 = (wrap64 ((shl .i64 1 (t545.length : Int)) - (t545.length : Int))) then ((impl_IsRiffle.f k1 t548).bind fun t557 => ((impl_NewPacket.f k1 (t545.length : Int)).bind fun t558 => ((impl_IsResult.f k1 t558 2 t548).bind fun t561 => (laws_FnRiffles.j1 k1 t545 (t545.length : Int) t551 (t557 != t561))))) else (laws_FnRiffles.j1 k1 t545 (t545.length : Int) t551 true)) else (none)) = some r := H
         have A21 := Aside0.mk A210
         clear A210
         by_cases c22 : 0 ≤ (t545.length : Int)
         ·rw [if_pos c22] at H
          have c22b0 := eq_true c22
          have c22b1 : decide (0 ≤ (t545.length : Int)) = true := decide_eq_true c22
          clear c22
          obtain ⟨ji23, hji23⟩ : ∃ j_ : Int, (shl .i64 1 (t545.length : Int)) = j_ := ⟨_, rfl⟩
          replace H : (if t556 = (wrap64 ((ji23) - (t545.length : Int))) then ((impl_IsRiffle.f k1 t548).bind fun t557 => ((impl_NewPacket.f k1 (t545.length : Int)).bind fun t558 => ((impl_IsResult.f k1 t558 2 t548).bind fun t561 => (laws_FnRiffles.j1 k1 t545 (t545.length : Int) t551 (t557 != t561))))) else (laws_FnRiffles.j1 k1 t545 (t545.length : Int) t551 true)) = some r := by first | (rw [hji23] at H; exact H) | (simp only [hji23] at H ⊢; exact H)
          (try rw [hji23] at A15)
          (try rw [hji23] at A21)
          have hji23_ : (IntKind.i64.wrap (1 * 2 ^ min (t545.length : Int).toNat 64)) = ji23 := hji23
          have hji23z : (t545.length : Int) ≤ 64 → (IntKind.i64.wrap (1 * 2 ^ (t545.length : Int).toNat)) = ji23 := shl_small hji23
          have hji23p : (IntKind.i64.wrap (1 * 2 ^ min t545.length 64)) = ji23 := hji23_
          have hji23q : (t545.length : Int) ≤ 64 → (IntKind.i64.wrap (1 * 2 ^ t545.length)) = ji23 := hji23z
          have hji23r : (IntKind.i64.wrap (2 ^ min t545.length 64)) = ji23 := by have h_ := hji23p; rw [Int.one_mul] at h_; exact h_
          have hji23s : (t545.length : Int) ≤ 64 → (IntKind.i64.wrap (2 ^ t545.length)) = ji23 := fun hle_ => by have h_ := hji23q hle_; rw [Int.one_mul] at h_; exact h_
          have hji23u : (IntKind.i64.wrap (2 ^ min (t545.length : Int).toNat 64)) = ji23 := by have h_ := hji23_; rw [Int.one_mul] at h_; exact h_
          have hji23v : (t545.length : Int) ≤ 64 → (IntKind.i64.wrap (2 ^ (t545.length : Int).toNat)) = ji23 := fun hle_ => by have h_ := hji23z hle_; rw [Int.one_mul] at h_; exact h_
          have hji23y : (wrap64 (1 * 2 ^ min (t545.length : Int).toNat 64)) = ji23 := (i64_w _).symm.trans hji23_
          have hji23x : (t545.length : Int) ≤ 64 → (wrap64 (1 * 2 ^ (t545.length : Int).toNat)) = ji23 := fun h_ => (i64_w _).symm.trans (hji23z h_)
          by_cases c24 : t556 = (wrap64 ((ji23) - (t545.length : Int)))
          ·rw [if_pos c24] at H
           have c24b0 : (t556 == (wrap64 ((ji23) - (t545.length : Int)))) = true := beq_iff_eq.mpr c24
           have c24b1 : (t556 != (wrap64 ((ji23) - (t545.length : Int)))) = false := bne_eq_false_iff_eq.mpr c24
           clear c24
           replace H := Option.bind_eq_some_iff.mp H
           obtain ⟨t557, A250, H⟩ := H
           replace H : ((impl_NewPacket.f k1 (t545.length : Int)).bind fun t558 => ((impl_IsResult.f k1 t558 2 t548).bind fun t561 => (laws_FnRiffles.j1 k1 t545 (t545.length : Int) t551 (t557 != t561)))) = some r := H
           have A25 := Aside0.mk A250
           clear A250
           replace H := Option.bind_eq_some_iff.mp H
           obtain ⟨t558, A260, H⟩ := H
           replace H : ((impl_IsResult.f k1 t558 2 t548).bind fun t561 => (laws_FnRiffles.j1 k1 t545 (t545.length : Int) t551 (t557 != t561))) = some r := H
           have A26 := Aside0.mk A260
           clear A260
           replace H := Option.bind_eq_some_iff.mp H
           obtain ⟨t561, A270, H⟩ := H
           replace H : (laws_FnRiffles.j1 k1 t545 (t545.length : Int) t551 (t557 != t561)) = some r := H
           have A27 := Aside0.mk A270
           clear A270
           have H' := Aside0.mk H
           clear H
           try go_wp2
           have n0_ := Aside0.mk (Kd.V_drew HO_3.out)
           have n1_ := Aside0.mk (Kd.R_drew HO_5.out)
           have n2_ := Aside0.mk (Kd.S_drew HO_6.out)
           have n3_ := Aside0.mk (Kd.S_drew HO_28.out)
           have n4_ := Aside0.mk (below_drew1 HB.out)
           clear HO_3
           clear HO_5
           clear HO_6
           clear HO_28
           clear HB
           have HO_3 := n0_
           have HO_5 := n1_
           have HO_6 := n2_
           have HO_28 := n3_
           have HB := n4_
           clear n0_ n1_ n2_ n3_ n4_
           refine start_ (n := 31) (S := fun w' => True) (ds := []) #[false, false, false, false, false, false, false, false, false, false, false, false, false, false, false, false, false, false, false, false, false, false, false, false, false, false, false, false, false, false, false] (by kernel_rfl) rfl rfl trivial (fun hHeld => ?_); refine with_tabW laws_FnRiffles.tab13 laws_FnRiffles.bits13 (fun HT_ HW_ => ?_)
           generalize wr.drew = w28 at HO_3 HO_5 HO_6 HO_28 HB hHeld ⊢
           refine ps_ HT_ 0 39 ?_
           refine one_ (i := 1) (N := some 40) #[true, true, false, false, false, false, false, false, false, false, false, false, false, false, false, false, false, false, false, false, false, false, false, false, false, false, false, false, false, false, false] rfl rfl (one_of HT_.out (by kernel_rfl)) (by decide) (fun K hK => ?_)
           refine goes_ Try.func29 (by kernel_rfl) rfl #[.slice Ao7 t545.length co7] (by rfl) rfl rfl (by (try simp only [List.map_toArray, List.map_cons, List.map_nil]); first | done | rfl | (simp only [List.length_drop, List.length_take]; rfl)) ?_
           with_reducible refine (impl_IsRiffle.calls k1 _ _ t545 true _ ?side1 ?side2 A15.out).mono ?_
           (case side1 => repeat (first | exact (Kd.V_reads' HO_3.out).2.2 | (with_reducible first | refine Kd.C_alloc ?_ _ | refine Kd.C_drewN ?_ _ | refine Kd.C_drew ?_)))
           (case side2 => exact (Kd.V_reads' HO_3.out).2.1)
           rintro e w29 ⟨rfl, hb⟩
           refine ⟨_, rfl, ?_⟩
           have n0_ := Aside0.mk (Kd.V_below (vx_ HO_3) hb)
           have n1_ := Aside0.mk (Kd.R_below (rx_ HO_5) hb)
           have n2_ := Aside0.mk (Kd.S_below (sx_ HO_6) hb)
           have n3_ := Aside0.mk (Kd.S_below (sx_ HO_28) hb)
           have n4_ := Aside0.mk (below_step bl_ hb)
           clear HO_3
           clear HO_5
           clear HO_6
           clear HO_28
           clear HB
           have HO_3 := n0_
           have HO_5 := n1_
           have HO_6 := n2_
           have HO_28 := n3_
           have HB := n4_
           clear n0_ n1_ n2_ n3_ n4_
           (try clear hb)
           (try clear hb2)
           (try clear hk)
           (try clear hi)
           refine hK.out _ _ trivial (fun hHeld => ?_)
           clear hK K
           refine ns_ ?_
           refine ps_ HT_ 2 41 ?_
           refine ps_ HT_ 3 42 ?_
           refine ps_ HT_ 4 43 ?_
           refine ps_ HT_ 5 44 ?_
           refine ps_ HT_ 6 45 ?_
           refine ps_ HT_ 7 46 ?_
           refine ps_ HT_ 8 47 ?_
           refine ps_ HT_ 9 48 ?_
           refine ps_ HT_ 10 49 ?_
           refine ps_ HT_ 11 50 ?_
           refine ps_ HT_ 12 51 ?_
           refine ps_ HT_ 13 52 ?_
           refine ps_ HT_ 14 53 ?_
           refine ps_ HT_ 16 55 ?_
           refine ps_ HT_ 17 56 ?_
           refine ps_ HT_ 18 57 ?_
           refine ps_ HT_ 19 58 ?_
           refine one_ (i := 15) (N := some 54) #[true, true, true, true, true, true, true, true, true, true, true, true, true, true, true, true, true, true, true, true, false, false, false, false, false, false, false, false, false, false, false] rfl rfl (one_of HT_.out (by kernel_rfl)) (by decide) (fun K hK => ?_)
           refine goes_ Try.func30 (by kernel_rfl) rfl #[.int .i64 (t545.length : Int)] (by rfl) rfl rfl (by (try simp only [List.map_toArray, List.map_cons, List.map_nil]); first | done | rfl | (simp only [List.length_drop, List.length_take]; rfl)) ?_
           with_reducible refine (impl_CountRiffles.calls (t545.length : Int) t556 _ A21.out).mono ?_
           rintro e w' ⟨rfl, ⟨nd, rfl⟩⟩
           refine ⟨_, rfl, ?_⟩
           obtain ⟨Ao30, co30, eo30⟩ := Kd.R_slice HO_5.out
           (first | subst eo30 | (injection eo30 with f1_ f2_ f3_; have f4_ := f1_.symm; have f5_ := f3_.symm; clear f1_ f2_ f3_; subst f4_; subst f5_))
           refine hK.out _ _ trivial (fun hHeld => ?_)
           clear hK K
           refine ns_ ?_
           refine ps_ HT_ 20 59 ?_
           refine ps_ HT_ 21 60 ?_
           refine ps_ HT_ 22 61 ?_
           refine ps_ HT_ 23 62 ?_
           refine ps_ HT_ 25 64 ?_
           refine ps_ HT_ 27 66 ?_
           refine one_ (i := 24) (N := some 63) #[true, true, true, true, true, true, true, true, true, true, true, true, true, true, true, true, true, true, true, true, true, true, true, true, true, true, false, true, false, false, false] rfl rfl (one_of HT_.out (by kernel_rfl)) (by decide) (fun K hK => ?_)
           refine goes_ Try.func29 (by kernel_rfl) rfl #[.slice Ao30 t548.length co30] (by rfl) rfl rfl (by (try simp only [List.map_toArray, List.map_cons, List.map_nil]); first | done | rfl | (simp only [List.length_drop, List.length_take]; rfl)) ?_
           with_reducible refine (impl_IsRiffle.calls k1 _ _ t548 t557 _ ?side1 ?side2 A25.out).mono ?_
           (case side1 => repeat (first | exact (Kd.R_reads' HO_5.out).2.2 | (with_reducible first | refine Kd.C_alloc ?_ _ | refine Kd.C_drewN ?_ _ | refine Kd.C_drew ?_)))
           (case side2 => exact (Kd.R_reads' HO_5.out).2.1)
           rintro e w31 ⟨rfl, hb⟩
           refine ⟨_, rfl, ?_⟩
           have n0_ := Aside0.mk (Kd.V_below (vx_ HO_3) hb)
           have n1_ := Aside0.mk (Kd.R_below (rx_ HO_5) hb)
           have n2_ := Aside0.mk (Kd.S_below (sx_ HO_6) hb)
           have n3_ := Aside0.mk (Kd.S_below (sx_ HO_28) hb)
           have n4_ := Aside0.mk (below_step bl_ hb)
           clear HO_3
           clear HO_5
           clear HO_6
           clear HO_28
           clear HB
           have HO_3 := n0_
           have HO_5 := n1_
           have HO_6 := n2_
           have HO_28 := n3_
           have HB := n4_
           clear n0_ n1_ n2_ n3_ n4_
           (try clear hb)
           (try clear hb2)
           (try clear hk)
           (try clear hi)
           refine hK.out _ _ trivial (fun hHeld => ?_)
           clear hK K
           refine ns_ ?_
           refine one_ (i := 26) (N := some 65) #[true, true, true, true, true, true, true, true, true, true, true, true, true, true, true, true, true, true, true, true, true, true, true, true, true, true, true, true, false, false, false] rfl rfl (one_of HT_.out (by kernel_rfl)) (by decide) (fun K hK => ?_)
           refine goes_ Try.func23 (by kernel_rfl) rfl #[.int .i64 (t545.length : Int)] (by rfl) rfl rfl (by (try simp only [List.map_toArray, List.map_cons, List.map_nil]); first | done | rfl | (simp only [List.length_drop, List.length_take]; rfl)) ?_
           with_reducible refine (impl_NewPacket.calls k1 (t545.length : Int) t558 _ A26.out).mono ?_
           rintro e w32 ⟨v559, rfl, ho0, hb⟩
           refine ⟨_, rfl, ?_⟩
           have n0_ := Aside0.mk (Kd.V_elder' (vx_ HO_3) (Kd.R_base ho0) hb)
           have n1_ := Aside0.mk (Kd.R_elder' (rx_ HO_5) (Kd.R_base ho0) hb)
           have n2_ := Aside0.mk (Kd.S_elder' (sx_ HO_6) (Kd.R_base ho0) hb)
           have n3_ := Aside0.mk (Kd.S_elder' (sx_ HO_28) (Kd.R_base ho0) hb)
           have n4_ := Aside0.mk (Kd.R_lower (Kd.R_new' ho0 (Kd.R_lt (rx_ HO_5))) (below_size bl_))
           have n5_ := Aside0.mk (below_step bl_ hb)
           clear HO_3
           clear HO_5
           clear HO_6
           clear HO_28
           clear HB
           have HO_3 := n0_
           have HO_5 := n1_
           have HO_6 := n2_
           have HO_28 := n3_
           have HO560 := n4_
           have HB := n5_
           clear n0_ n1_ n2_ n3_ n4_ n5_
           (try clear hb)
           (try clear hb2)
           (try clear hk)
           (try clear hi)
           (try clear ho0)
           obtain ⟨Ao33, co33, eo33⟩ := Kd.R_slice HO560.out
           (first | subst eo33 | (injection eo33 with f1_ f2_ f3_; have f4_ := f1_.symm; have f5_ := f3_.symm; clear f1_ f2_ f3_; subst f4_; subst f5_))
           refine hK.out _ _ trivial (fun hHeld => ?_)
           clear hK K
           refine ns_ ?_
           refine one_ (i := 28) (N := some 67) #[true, true, true, true, true, true, true, true, true, true, true, true, true, true, true, true, true, true, true, true, true, true, true, true, true, true, true, true, true, false, false] rfl rfl (one_of HT_.out (by kernel_rfl)) (by decide) (fun K hK => ?_)
           refine goes_ Try.func31 (by kernel_rfl) rfl #[.slice Ao33 t558.length co33, .int .i64 2, .slice Ao30 t548.length co30] (by rfl) rfl rfl (by (try simp only [List.map_toArray, List.map_cons, List.map_nil]); first | done | rfl | (simp only [List.length_drop, List.length_take]; rfl)) ?_
           with_reducible refine (impl_IsResult.calls k1 _ _ t558 2 _ _ t548 t561 _ ?side1 ?side2 ?side3 ?side4 A27.out).mono ?_
           (case side1 => repeat (first | exact (Kd.R_reads' HO560.out).2.2 | (with_reducible first | refine Kd.C_alloc ?_ _ | refine Kd.C_drewN ?_ _ | refine Kd.C_drew ?_)))
           (case side2 => exact (Kd.R_reads' HO560.out).2.1)
           (case side3 => repeat (first | exact (Kd.R_reads' HO_5.out).2.2 | (with_reducible first | refine Kd.C_alloc ?_ _ | refine Kd.C_drewN ?_ _ | refine Kd.C_drew ?_)))
           (case side4 => exact (Kd.R_reads' HO_5.out).2.1)
           rintro e w34 ⟨rfl, hb⟩
           refine ⟨_, rfl, ?_⟩
           have n0_ := Aside0.mk (Kd.V_below (vx_ HO_3) hb)
           have n1_ := Aside0.mk (Kd.R_below (rx_ HO_5) hb)
           have n2_ := Aside0.mk (Kd.S_below (sx_ HO_6) hb)
           have n3_ := Aside0.mk (Kd.S_below (sx_ HO_28) hb)
           have n4_ := Aside0.mk (Kd.R_below (rx_ HO560) hb)
           have n5_ := Aside0.mk (below_step bl_ hb)
           clear HO_3
           clear HO_5
           clear HO_6
           clear HO_28
           clear HO560
           clear HB
           have HO_3 := n0_
           have HO_5 := n1_
           have HO_6 := n2_
           have HO_28 := n3_
           have HO560 := n4_
           have HB := n5_
           clear n0_ n1_ n2_ n3_ n4_ n5_
           (try clear hb)
           (try clear hb2)
           (try clear hk)
           (try clear hi)
           refine hK.out _ _ trivial (fun hHeld => ?_)
           clear hK K
           refine ns_ ?_
           refine ps_ HT_ 29 68 ?_
           refine ps_ HT_ 30 69 ?_
           refine done_ (done_of HT_.out (by kernel_rfl)) ?_
           try go_wp2
           go_meet
           case rel => exact ⟨_, ((t557 != t561)), (by first | rfl | (simp; done) | (simp [*]; done)), H', ⟨by have := HK1.out; first | omega | exact Nat.le_refl _⟩, ⟨by (with_reducible repeat (first | apply Kd.V_alloc | apply Kd.V_drewN | apply Kd.V_drew)); exact Kd.V_mono HO_3.out (fun _ hk => hk.1.2.1)⟩, ⟨by (with_reducible repeat (first | apply Kd.S_alloc | apply Kd.S_drewN | apply Kd.S_drew)); exact Kd.S_mono HO_6.out (fun _ hk => trivial)⟩, ⟨by repeat (first | (with_reducible first | exact HB.out | apply below_alloc | apply pw_below_drewN | apply below_drew1) | exact HB.out)⟩⟩
          ·rw [if_neg c24] at H
           have c24b0 : (t556 == (wrap64 ((ji23) - (t545.length : Int)))) = false := beq_eq_false_iff_ne.mpr c24
           have c24b1 : (t556 != (wrap64 ((ji23) - (t545.length : Int)))) = true := bne_iff_ne.mpr c24
           have H' := Aside0.mk H
           clear H
           try go_wp2
           have n0_ := Aside0.mk (Kd.V_drew HO_3.out)
           have n1_ := Aside0.mk (Kd.R_drew HO_5.out)
           have n2_ := Aside0.mk (Kd.S_drew HO_6.out)
           have n3_ := Aside0.mk (Kd.S_drew HO_28.out)
           have n4_ := Aside0.mk (below_drew1 HB.out)
           clear HO_3
           clear HO_5
           clear HO_6
           clear HO_28
           clear HB
           have HO_3 := n0_
           have HO_5 := n1_
           have HO_6 := n2_
           have HO_28 := n3_
           have HB := n4_
           clear n0_ n1_ n2_ n3_ n4_
           refine start_ (n := 31) (S := fun w' => True) (ds := []) #[false, false, false, false, false, false, false, false, false, false, false, false, false, false, false, false, false, false, false, false, false, false, false, false, false, false, false, false, false, false, false] (by kernel_rfl) rfl rfl trivial (fun hHeld => ?_); refine with_tabW laws_FnRiffles.tab13 laws_FnRiffles.bits13 (fun HT_ HW_ => ?_)
           generalize wr.drew = w35 at HO_3 HO_5 HO_6 HO_28 HB hHeld ⊢
           refine ps_ HT_ 0 39 ?_
           refine one_ (i := 1) (N := some 40) #[true, true, false, false, false, false, false, false, false, false, false, false, false, false, false, false, false, false, false, false, false, false, false, false, false, false, false, false, false, false, false] rfl rfl (one_of HT_.out (by kernel_rfl)) (by decide) (fun K hK => ?_)
           refine goes_ Try.func29 (by kernel_rfl) rfl #[.slice Ao7 t545.length co7] (by rfl) rfl rfl (by (try simp only [List.map_toArray, List.map_cons, List.map_nil]); first | done | rfl | (simp only [List.length_drop, List.length_take]; rfl)) ?_
           with_reducible refine (impl_IsRiffle.calls k1 _ _ t545 true _ ?side1 ?side2 A15.out).mono ?_
           (case side1 => repeat (first | exact (Kd.V_reads' HO_3.out).2.2 | (with_reducible first | refine Kd.C_alloc ?_ _ | refine Kd.C_drewN ?_ _ | refine Kd.C_drew ?_)))
           (case side2 => exact (Kd.V_reads' HO_3.out).2.1)
           rintro e w36 ⟨rfl, hb⟩
           refine ⟨_, rfl, ?_⟩
           have n0_ := Aside0.mk (Kd.V_below (vx_ HO_3) hb)
           have n1_ := Aside0.mk (Kd.R_below (rx_ HO_5) hb)
           have n2_ := Aside0.mk (Kd.S_below (sx_ HO_6) hb)
           have n3_ := Aside0.mk (Kd.S_below (sx_ HO_28) hb)
           have n4_ := Aside0.mk (below_step bl_ hb)
           clear HO_3
           clear HO_5
           clear HO_6
           clear HO_28
           clear HB
           have HO_3 := n0_
           have HO_5 := n1_
           have HO_6 := n2_
           have HO_28 := n3_
           have HB := n4_
           clear n0_ n1_ n2_ n3_ n4_
           (try clear hb)
           (try clear hb2)
           (try clear hk)
           (try clear hi)
           refine hK.out _ _ trivial (fun hHeld => ?_)
           clear hK K
           refine ns_ ?_
           refine ps_ HT_ 2 41 ?_
           refine ps_ HT_ 3 42 ?_
           refine ps_ HT_ 4 43 ?_
           refine ps_ HT_ 5 44 ?_
           refine ps_ HT_ 6 45 ?_
           refine ps_ HT_ 7 46 ?_
           refine ps_ HT_ 8 47 ?_
           refine ps_ HT_ 9 48 ?_
           refine ps_ HT_ 10 49 ?_
           refine ps_ HT_ 11 50 ?_
           refine ps_ HT_ 12 51 ?_
           refine ps_ HT_ 13 52 ?_
           refine ps_ HT_ 14 53 ?_
           refine ps_ HT_ 16 55 ?_
           refine ps_ HT_ 17 56 ?_
           refine ps_ HT_ 18 57 ?_
           refine ps_ HT_ 19 58 ?_
           refine one_ (i := 15) (N := some 54) #[true, true, true, true, true, true, true, true, true, true, true, true, true, true, true, true, true, true, true, true, false, false, false, false, false, false, false, false, false, false, false] rfl rfl (one_of HT_.out (by kernel_rfl)) (by decide) (fun K hK => ?_)
           refine goes_ Try.func30 (by kernel_rfl) rfl #[.int .i64 (t545.length : Int)] (by rfl) rfl rfl (by (try simp only [List.map_toArray, List.map_cons, List.map_nil]); first | done | rfl | (simp only [List.length_drop, List.length_take]; rfl)) ?_
           with_reducible refine (impl_CountRiffles.calls (t545.length : Int) t556 _ A21.out).mono ?_
           rintro e w' ⟨rfl, ⟨nd, rfl⟩⟩
           refine ⟨_, rfl, ?_⟩
           refine hK.out _ _ trivial (fun hHeld => ?_)
           clear hK K
           refine ns_ ?_
           refine ps_ HT_ 20 59 ?_
           refine ps_ HT_ 21 60 ?_
           refine ps_ HT_ 22 61 ?_
           refine ps_ HT_ 23 62 ?_
           refine ps_ HT_ 24 63 ?_
           refine ps_ HT_ 25 64 ?_
           refine ps_ HT_ 26 65 ?_
           refine ps_ HT_ 27 66 ?_
           refine ps_ HT_ 28 67 ?_
           refine ps_ HT_ 29 68 ?_
           refine ps_ HT_ 30 69 ?_
           refine done_ (done_of HT_.out (by kernel_rfl)) ?_
           try go_wp2
           go_meet
           case rel => exact ⟨_, (true), (by first | rfl | (simp; done) | (simp [*]; done)), H', ⟨by have := HK1.out; first | omega | exact Nat.le_refl _⟩, ⟨by (with_reducible repeat (first | apply Kd.V_alloc | apply Kd.V_drewN | apply Kd.V_drew)); exact Kd.V_mono HO_3.out (fun _ hk => hk.2.1)⟩, ⟨by (with_reducible repeat (first | apply Kd.S_alloc | apply Kd.S_drewN | apply Kd.S_drew)); exact Kd.S_mono HO_6.out (fun _ hk => trivial)⟩, ⟨by repeat (first | (with_reducible first | exact HB.out | apply below_alloc | apply pw_below_drewN | apply below_drew1) | exact HB.out)⟩⟩
         ·rw [if_neg c22] at H
          exact absurd H (by simp)
       ·rw [if_neg c17] at H
        have c17b0 : (x7_1 == (t545.length : Int)) = false := beq_eq_false_iff_ne.mpr c17
        have c17b1 : (x7_1 != (t545.length : Int)) = true := bne_iff_ne.mpr c17
        (first | rw [c17b0] | (simp only [i64_w, i32_w]; rw [c17b0]) | skip)
        have H' := Aside0.mk H
        clear H
        try go_wp2
        have n0_ := Aside0.mk (Kd.V_drew HO_3.out)
        have n1_ := Aside0.mk (Kd.R_drew HO_5.out)
        have n2_ := Aside0.mk (Kd.S_drew HO_6.out)
        have n3_ := Aside0.mk (Kd.S_drew HO_28.out)
        have n4_ := Aside0.mk (below_drew1 HB.out)
        clear HO_3
        clear HO_5
        clear HO_6
        clear HO_28
        clear HB
        have HO_3 := n0_
        have HO_5 := n1_
        have HO_6 := n2_
        have HO_28 := n3_
        have HB := n4_
        clear n0_ n1_ n2_ n3_ n4_
        refine start_ (n := 31) (S := fun w' => True) (ds := []) #[false, false, false, false, false, false, false, false, false, false, false, false, false, false, false, false, false, false, false, false, false, false, false, false, false, false, false, false, false, false, false] (by kernel_rfl) rfl rfl trivial (fun hHeld => ?_); refine with_tabW laws_FnRiffles.tab13 laws_FnRiffles.bits13 (fun HT_ HW_ => ?_)
        generalize wr.drew = w37 at HO_3 HO_5 HO_6 HO_28 HB hHeld ⊢
        refine ps_ HT_ 0 39 ?_
        refine one_ (i := 1) (N := some 40) #[true, true, false, false, false, false, false, false, false, false, false, false, false, false, false, false, false, false, false, false, false, false, false, false, false, false, false, false, false, false, false] rfl rfl (one_of HT_.out (by kernel_rfl)) (by decide) (fun K hK => ?_)
        refine goes_ Try.func29 (by kernel_rfl) rfl #[.slice Ao7 t545.length co7] (by rfl) rfl rfl (by (try simp only [List.map_toArray, List.map_cons, List.map_nil]); first | done | rfl | (simp only [List.length_drop, List.length_take]; rfl)) ?_
        with_reducible refine (impl_IsRiffle.calls k1 _ _ t545 true _ ?side1 ?side2 A15.out).mono ?_
        (case side1 => repeat (first | exact (Kd.V_reads' HO_3.out).2.2 | (with_reducible first | refine Kd.C_alloc ?_ _ | refine Kd.C_drewN ?_ _ | refine Kd.C_drew ?_)))
        (case side2 => exact (Kd.V_reads' HO_3.out).2.1)
        rintro e w38 ⟨rfl, hb⟩
        refine ⟨_, rfl, ?_⟩
        have n0_ := Aside0.mk (Kd.V_below (vx_ HO_3) hb)
        have n1_ := Aside0.mk (Kd.R_below (rx_ HO_5) hb)
        have n2_ := Aside0.mk (Kd.S_below (sx_ HO_6) hb)
        have n3_ := Aside0.mk (Kd.S_below (sx_ HO_28) hb)
        have n4_ := Aside0.mk (below_step bl_ hb)
        clear HO_3
        clear HO_5
        clear HO_6
        clear HO_28
        clear HB
        have HO_3 := n0_
        have HO_5 := n1_
        have HO_6 := n2_
        have HO_28 := n3_
        have HB := n4_
        clear n0_ n1_ n2_ n3_ n4_
        (try clear hb)
        (try clear hb2)
        (try clear hk)
        (try clear hi)
        refine hK.out _ _ trivial (fun hHeld => ?_)
        clear hK K
        refine ns_ ?_
        refine ps_ HT_ 2 41 ?_
        refine ps_ HT_ 3 42 ?_
        refine ps_ HT_ 4 43 ?_
        refine ps_ HT_ 5 44 ?_
        refine ps_ HT_ 6 45 ?_
        refine ps_ HT_ 7 46 ?_
        refine ps_ HT_ 8 47 ?_
        refine ps_ HT_ 9 48 ?_
        refine ps_ HT_ 10 49 ?_
        refine ps_ HT_ 11 50 ?_
        refine ps_ HT_ 12 51 ?_
        refine ps_ HT_ 13 52 ?_
        refine ps_ HT_ 14 53 ?_
        refine ps_ HT_ 15 54 ?_
        refine ps_ HT_ 16 55 ?_
        refine ps_ HT_ 17 56 ?_
        refine ps_ HT_ 18 57 ?_
        refine ps_ HT_ 19 58 ?_
        refine ps_ HT_ 20 59 ?_
        refine ps_ HT_ 21 60 ?_
        refine ps_ HT_ 22 61 ?_
        refine ps_ HT_ 23 62 ?_
        refine ps_ HT_ 24 63 ?_
        refine ps_ HT_ 25 64 ?_
        refine ps_ HT_ 26 65 ?_
        refine ps_ HT_ 27 66 ?_
        refine ps_ HT_ 28 67 ?_
        refine ps_ HT_ 29 68 ?_
        refine ps_ HT_ 30 69 ?_
        refine done_ (done_of HT_.out (by kernel_rfl)) ?_
        try go_wp2
        go_meet
        case rel => exact ⟨_, (true), (by first | rfl | (simp; done) | (simp [*]; done)), H', ⟨by have := HK1.out; first | omega | exact Nat.le_refl _⟩, ⟨by (with_reducible repeat (first | apply Kd.V_alloc | apply Kd.V_drewN | apply Kd.V_drew)); exact Kd.V_mono HO_3.out (fun _ hk => hk.2.1)⟩, ⟨by (with_reducible repeat (first | apply Kd.S_alloc | apply Kd.S_drewN | apply Kd.S_drew)); exact Kd.S_mono HO_6.out (fun _ hk => trivial)⟩, ⟨by repeat (first | (with_reducible first | exact HB.out | apply below_alloc | apply pw_below_drewN | apply below_drew1) | exact HB.out)⟩⟩
      ·replace c16 := Bool.eq_false_iff.mpr c16
       subst c16
       rw [if_neg (show ¬ (false = true) by decide)] at H
       have H' := Aside0.mk H
       clear H
       try go_wp2
       have n0_ := Aside0.mk (Kd.V_drew HO_3.out)
       have n1_ := Aside0.mk (Kd.R_drew HO_5.out)
       have n2_ := Aside0.mk (Kd.S_drew HO_6.out)
       have n3_ := Aside0.mk (Kd.S_drew HO_28.out)
       have n4_ := Aside0.mk (below_drew1 HB.out)
       clear HO_3
       clear HO_5
       clear HO_6
       clear HO_28
       clear HB
       have HO_3 := n0_
       have HO_5 := n1_
       have HO_6 := n2_
       have HO_28 := n3_
       have HB := n4_
       clear n0_ n1_ n2_ n3_ n4_
       refine start_ (n := 31) (S := fun w' => True) (ds := []) #[false, false, false, false, false, false, false, false, false, false, false, false, false, false, false, false, false, false, false, false, false, false, false, false, false, false, false, false, false, false, false] (by kernel_rfl) rfl rfl trivial (fun hHeld => ?_); refine with_tabW laws_FnRiffles.tab13 laws_FnRiffles.bits13 (fun HT_ HW_ => ?_)
       generalize wr.drew = w39 at HO_3 HO_5 HO_6 HO_28 HB hHeld ⊢
       refine ps_ HT_ 0 39 ?_
       refine one_ (i := 1) (N := some 40) #[true, true, false, false, false, false, false, false, false, false, false, false, false, false, false, false, false, false, false, false, false, false, false, false, false, false, false, false, false, false, false] rfl rfl (one_of HT_.out (by kernel_rfl)) (by decide) (fun K hK => ?_)
       refine goes_ Try.func29 (by kernel_rfl) rfl #[.slice Ao7 t545.length co7] (by rfl) rfl rfl (by (try simp only [List.map_toArray, List.map_cons, List.map_nil]); first | done | rfl | (simp only [List.length_drop, List.length_take]; rfl)) ?_
       with_reducible refine (impl_IsRiffle.calls k1 _ _ t545 false _ ?side1 ?side2 A15.out).mono ?_
       (case side1 => repeat (first | exact (Kd.V_reads' HO_3.out).2.2 | (with_reducible first | refine Kd.C_alloc ?_ _ | refine Kd.C_drewN ?_ _ | refine Kd.C_drew ?_)))
       (case side2 => exact (Kd.V_reads' HO_3.out).2.1)
       rintro e w40 ⟨rfl, hb⟩
       refine ⟨_, rfl, ?_⟩
       have n0_ := Aside0.mk (Kd.V_below (vx_ HO_3) hb)
       have n1_ := Aside0.mk (Kd.R_below (rx_ HO_5) hb)
       have n2_ := Aside0.mk (Kd.S_below (sx_ HO_6) hb)
       have n3_ := Aside0.mk (Kd.S_below (sx_ HO_28) hb)
       have n4_ := Aside0.mk (below_step bl_ hb)
       clear HO_3
       clear HO_5
       clear HO_6
       clear HO_28
       clear HB
       have HO_3 := n0_
       have HO_5 := n1_
       have HO_6 := n2_
       have HO_28 := n3_
       have HB := n4_
       clear n0_ n1_ n2_ n3_ n4_
       (try clear hb)
       (try clear hb2)
       (try clear hk)
       (try clear hi)
       refine hK.out _ _ trivial (fun hHeld => ?_)
       clear hK K
       refine ns_ ?_
       refine ps_ HT_ 2 41 ?_
       refine ps_ HT_ 3 42 ?_
       refine ps_ HT_ 4 43 ?_
       refine ps_ HT_ 5 44 ?_
       refine ps_ HT_ 6 45 ?_
       refine ps_ HT_ 7 46 ?_
       refine ps_ HT_ 8 47 ?_
       refine ps_ HT_ 9 48 ?_
       refine ps_ HT_ 10 49 ?_
       refine ps_ HT_ 11 50 ?_
       refine ps_ HT_ 12 51 ?_
       refine ps_ HT_ 13 52 ?_
       refine ps_ HT_ 14 53 ?_
       refine ps_ HT_ 15 54 ?_
       refine ps_ HT_ 16 55 ?_
       refine ps_ HT_ 17 56 ?_
       refine ps_ HT_ 18 57 ?_
       refine ps_ HT_ 19 58 ?_
       refine ps_ HT_ 20 59 ?_
       refine ps_ HT_ 21 60 ?_
       refine ps_ HT_ 22 61 ?_
       refine ps_ HT_ 23 62 ?_
       refine ps_ HT_ 24 63 ?_
       refine ps_ HT_ 25 64 ?_
       refine ps_ HT_ 26 65 ?_
       refine ps_ HT_ 27 66 ?_
       refine ps_ HT_ 28 67 ?_
       refine ps_ HT_ 29 68 ?_
       refine ps_ HT_ 30 69 ?_
       refine done_ (done_of HT_.out (by kernel_rfl)) ?_
       try go_wp2
       go_meet
       case rel => exact ⟨_, (true), (by first | rfl | (simp; done) | (simp [*]; done)), H', ⟨by have := HK1.out; first | omega | exact Nat.le_refl _⟩, ⟨by (with_reducible repeat (first | apply Kd.V_alloc | apply Kd.V_drewN | apply Kd.V_drew)); exact Kd.V_mono HO_3.out (fun _ hk => hk.2.1)⟩, ⟨by (with_reducible repeat (first | apply Kd.S_alloc | apply Kd.S_drewN | apply Kd.S_drew)); exact Kd.S_mono HO_6.out (fun _ hk => trivial)⟩, ⟨by repeat (first | (with_reducible first | exact HB.out | apply below_alloc | apply pw_below_drewN | apply below_drew1) | exact HB.out)⟩⟩
     case rest =>
      clear HC14
      try clear c1
      try clear c2
      try clear p2
      try clear c3
      try clear c16
      try clear c17
      try clear c17b0
      try clear c17b1
      try clear c22
      try clear c29
      try clear c30
      obtain ⟨kq, x69_13, rfl, HA, HJ13, HO_3, HO_6, HB⟩ := hcut
      cases kq with
      | zero => exact absurd HA.out (by simp [laws_FnRiffles.j1])
      | succ kj13 =>
       have H := HA.out
       clear HA
       simp only [laws_FnRiffles.j1] at H
       by_cases c41 : x69_13 = true
       ·subst c41
        rw [if_pos rfl] at H
        obtain rfl := Option.some.inj H
        go_wp2
        go_ret
        exact ⟨by first | rfl | (simp [errW_none, errW_some] <;> rfl) | (simp [*, errW_none, errW_some] <;> rfl), by repeat (first | (with_reducible first | exact HB.out | apply below_alloc | apply pw_below_drewN | apply below_drew1) | exact HB.out)⟩
       ·replace c41 := Bool.eq_false_iff.mpr c41
        subst c41
        rw [if_neg (show ¬ (false = true) by decide)] at H
        replace H := Option.bind_eq_some_iff.mp H
        obtain ⟨t562, A420, H⟩ := H
        replace H : ((impl_ResultsOf.f kj13 t562 2).bind fun bt565 => (laws_FnRiffles.l1 kj13 t545 (t545.length : Int) t551 bt565.2 0 bt565.1 (bt565.1.length : Int) 0)) = some r := H
        have A42 := Aside0.mk A420
        clear A420
        replace H := Option.bind_eq_some_iff.mp H
        obtain ⟨⟨t565, t566⟩, A430, H⟩ := H
        replace H : (laws_FnRiffles.l1 kj13 t545 (t545.length : Int) t551 t566 0 t565 (t565.length : Int) 0) = some r := H
        have A43 := Aside0.mk A430
        clear A430
        have H' := Aside0.mk H
        clear H
        go_wp2_with (first | ((with_reducible refine gate_callee (f := 23) rfl ?_); refine goesL_ (some 72) rfl rfl Try.func23 (by kernel_rfl) rfl #[.int .i64 (t545.length : Int)] rfl (by (try simp only [List.map_toArray, List.map_cons, List.map_nil]); first | done | rfl | (simp only [List.length_drop, List.length_take]; rfl)) ?_; (with_reducible refine (impl_NewPacket.calls kj13 (t545.length : Int) t562 _ A42.out).mono ?_); rintro e w44 ⟨v563, rfl, ho0, hb⟩; refine ⟨_, rfl, ?_⟩; have n0_ := Aside0.mk (Kd.V_elder' (vx_ HO_3) (Kd.R_base ho0) hb); have n1_ := Aside0.mk (Kd.S_elder' (sx_ HO_6) (Kd.R_base ho0) hb); have n2_ := Aside0.mk (Kd.R_lower ho0 (below_size bl_)); have n3_ := Aside0.mk (below_step bl_ hb); clear HO_3; clear HO_6; clear HB; have HO_3 := n0_; have HO_6 := n1_; have HO564 := n2_; have HB := n3_; clear n0_ n1_ n2_ n3_; (try clear hb); (try clear ho0); obtain ⟨Ao45, co45, eo45⟩ := Kd.R_slice HO564.out; subst eo45) | ((with_reducible refine gate_callee (f := 32) rfl ?_); refine goesL_ (some 73) rfl rfl Try.func32 (by kernel_rfl) rfl #[.slice Ao45 t562.length co45, .int .i64 2] rfl (by (try simp only [List.map_toArray, List.map_cons, List.map_nil]); first | done | rfl | (simp only [List.length_drop, List.length_take]; rfl)) ?_; (with_reducible refine (impl_ResultsOf.calls kj13 _ _ t562 2 t565 t566 _ ?side1 ?side2 A43.out).mono ?_); (case side1 => repeat (first | exact (Kd.R_reads' HO564.out).2.2 | (with_reducible first | refine Kd.C_alloc ?_ _ | refine Kd.C_drewN ?_ _ | refine Kd.C_drew ?_))); (case side2 => exact (Kd.R_reads' HO564.out).2.1); rintro e w46 ⟨v567, rfl, ho0, hb⟩; refine ⟨_, rfl, ?_⟩; have n0_ := Aside0.mk (Kd.V_elder' (vx_ HO_3) (Kd.S_base ho0) hb); have n1_ := Aside0.mk (Kd.S_elder' (sx_ HO_6) (Kd.S_base ho0) hb); have n2_ := Aside0.mk (Kd.R_below (rx_ HO564) hb); have n3_ := Aside0.mk (Kd.S_lower (Kd.S_new' (Kd.S_new' ho0 (Kd.S_lt (sx_ HO_6))) (Kd.R_lt (rx_ HO564))) (below_size bl_)); have n4_ := Aside0.mk (below_step bl_ hb); clear HO_3; clear HO_6; clear HO564; clear HB; have HO_3 := n0_; have HO_6 := n1_; have HO564 := n2_; have HO568 := n3_; have HB := n4_; clear n0_ n1_ n2_ n3_ n4_; (try clear hb); (try clear ho0); obtain ⟨Ao47, co47, eo47⟩ := Kd.S_slice HO568.out; subst eo47))
        go_loopg [12, 78] kj13 (fun kq v12 v78 w' => ∃ (x12_3 : Int) (x78_3 : Int), v12 = .int .i64 x12_3 ∧ v78 = .int .i64 x78_3 ∧ Aside0 (laws_FnRiffles.l1 kq t545 (t545.length : Int) t551 t566 x12_3 t565 (t565.length : Int) x78_3 = some r) ∧ Aside0 (kq ≤ kj13) ∧ Aside0 (Kd.V (Kd.int .i64) 3 w' w.heap.size (fun k_ => some k_ ≠ ((.slice Ao10 t551.length co10) : Value).ownBlock ∧ some k_ ≠ ((.slice Ao47 t565.length co47) : Value).ownBlock) (.slice Ao7 t545.length co7) t545) ∧ Aside0 (Kd.S (Kd.slice 3 (Kd.int .i64)) 22 w' w.heap.size (fun k_ => some k_ ≠ ((.slice Ao47 t565.length co47) : Value).ownBlock) (.slice Ao10 t551.length co10) t551) ∧ Aside0 (Kd.S (Kd.slice 3 (Kd.int .i64)) 22 w' w.heap.size (fun k_ => some k_ ≠ ((.slice Ao10 t551.length co10) : Value).ownBlock) (.slice Ao47 t565.length co47) t565) ∧ Aside0 (Below w.heap.size w w'))
        case atStart => exact ⟨(0), (0), (by first | rfl | (simp; done) | (simp [*]; done)), (by first | rfl | (simp; done) | (simp [*]; done)), H', ⟨Nat.le_refl _⟩, ⟨by (with_reducible repeat (first | apply Kd.V_alloc | apply Kd.V_drewN | apply Kd.V_drew)); exact Kd.V_mono HO_3.out (fun _ hk => ⟨hk.1.1, hk.2⟩)⟩, ⟨by (with_reducible repeat (first | apply Kd.S_alloc | apply Kd.S_drewN | apply Kd.S_drew)); exact Kd.S_mono HO_6.out (fun _ hk => hk.2)⟩, ⟨by (with_reducible repeat (first | apply Kd.S_alloc | apply Kd.S_drewN | apply Kd.S_drew)); exact Kd.S_mono HO568.out (fun _ hk => hk.1.2)⟩, ⟨by repeat (first | (with_reducible first | exact HB.out | apply below_alloc | apply pw_below_drewN | apply below_drew1) | exact HB.out)⟩⟩
        case round =>
         clear H'
         try clear c1
         try clear c2
         try clear p2
         try clear c3
         try clear c4
         try clear c16
         try clear c17
         try clear c17b0
         try clear c17b1
         try clear c22
         try clear c23
         try clear c29
         try clear c30
         try clear c32
         try clear c41
         try clear p2
         obtain ⟨x12_3, x78_3, rfl, rfl, HA, HK3, HO_3, HO_6, HO_76, HB⟩ := hrel
         cases gk with
         | zero => exact absurd HA.out (by simp [laws_FnRiffles.l1])
         | succ k3 =>
          have H := HA.out
          clear HA
          simp only [laws_FnRiffles.l1] at H
          by_cases c48 : x78_3 < (t565.length : Int)
          ·rw [if_pos c48] at H
           have c48b0 : decide (x78_3 < (t565.length : Int)) = true := decide_eq_true c48
           clear c48
           by_cases c49 : 0 ≤ x78_3
           ·rw [if_pos c49] at H
            have c49b0 : decide (0 ≤ x78_3) = true := decide_eq_true c49
            clear c49
            by_cases c50 : x78_3 < (t565.length : Int)
            ·rw [if_pos c50] at H
             have c50b0 : decide (x78_3 < (t565.length : Int)) = true := decide_eq_true c50
             clear c50
             replace H := Option.bind_eq_some_iff.mp H
             obtain ⟨t570, A510, H⟩ := H
             replace H : (if t570 < 1 then (some false) else (laws_FnRiffles.l1 k3 t545 (t545.length : Int) t551 t566 (wrap64 (x12_3 + t570)) t565 (t565.length : Int) (wrap64 (x78_3 + 1)))) = some r := H
             have A51 := Aside0.mk A510
             clear A510
             by_cases c52 : t570 < 1
             ·rw [if_pos c52] at H
              have c52b0 : decide (t570 < 1) = true := decide_eq_true c52
              clear c52
              obtain rfl := Option.some.inj H
              have p569 : 0 ≤ (x78_3 : Int) := of_decide_eq_true (by first | (with_reducible assumption) | assumption)
              have q569 : x78_3 < (t565.length : Int) := of_decide_eq_true (by first | (with_reducible assumption) | assumption)
              obtain ⟨ad569, A569_0, c569_0, e569, hx569_0, hl569_0, hi569_0⟩ := at_L2 (Kd.S_reads' HO_76.out).2.2 x78_3 p569 q569
              cases e569
              obtain ⟨ce569, hce569, hMe569, hcc569⟩ := Kd.S_get HO_76.out [] x78_3 p569 (by first | exact q569 | exact of_decide_eq_true (by first | (with_reducible assumption) | assumption) | (have e_ := (Kd.S_reads' HO_76.out).1; omega))
              obtain ⟨ve569_0, rfl, ge569_0⟩ := hMe569
              have hv569_0 := hcc569 0 _ rfl
              rw [Nat.add_zero, show ((Kd.slice 3 (Kd.int .i64))).sz = 1 from rfl, Nat.mul_one] at hv569_0
              replace hv569_0 := Option.some.inj (hv569_0.symm.trans hx569_0)
              rw [hv569_0] at ge569_0
              have HL569_0 := Aside0.mk (show Kd.R (Kd.int .i64) 3 _ _ _ _ (rd_L2 t565 x78_3) from ge569_0)
              clear hv569_0 ge569_0
              clear hcc569 hce569
              have HR569_0 := Aside0.mk hi569_0
              have HC569_0 := Aside0.mk hl569_0
              clear hi569_0 hl569_0
              replace p569 := eq_true p569
              replace q569 := eq_true q569
              go_wp2_with (first | ((with_reducible refine gate_callee (f := 33) rfl ?_); refine goesL_ (some 83) rfl rfl Try.func33 (by kernel_rfl) rfl #[.slice A569_0 (rd_L2 t565 x78_3).length c569_0] rfl (by (try simp only [List.map_toArray, List.map_cons, List.map_nil]); first | done | rfl | (simp only [List.length_drop, List.length_take]; rfl)) ?_; (with_reducible refine (impl_RiffleWays.calls k3 _ _ (rd_L2 t565 x78_3) t570 _ ?side1 ?side2 A51.out).mono ?_); (case side1 => repeat (first | exact (cx_ HR569_0) | (with_reducible first | refine Kd.C_alloc ?_ _ | refine Kd.C_drewN ?_ _ | refine Kd.C_drew ?_))); (case side2 => exact HC569_0.out); rintro e w53 ⟨rfl, hb⟩; refine ⟨_, rfl, ?_⟩; have n0_ := Aside0.mk (Kd.V_below (vx_ HO_3) hb); have n1_ := Aside0.mk (Kd.S_below (sx_ HO_6) hb); have n2_ := Aside0.mk (Kd.S_below (sx_ HO_76) hb); have n3_ := Aside0.mk (Kd.R_below (rx_ HL569_0) hb); have n4_ := Aside0.mk (Kd.C_below (cx_ HR569_0) hb); have n5_ := Aside0.mk (below_step bl_ hb); clear HO_3; clear HO_6; clear HO_76; clear HL569_0; clear HR569_0; clear HB; have HO_3 := n0_; have HO_6 := n1_; have HO_76 := n2_; have HL569_0 := n3_; have HR569_0 := n4_; have HB := n5_; clear n0_ n1_ n2_ n3_ n4_ n5_; (try clear hb)))
              go_ret
              exact ⟨by first | rfl | (simp [errW_none, errW_some] <;> rfl) | (simp [*, errW_none, errW_some] <;> rfl), by repeat (first | (with_reducible first | exact HB.out | apply below_alloc | apply pw_below_drewN | apply below_drew1) | exact HB.out)⟩
             ·rw [if_neg c52] at H
              have c52b0 : decide (t570 < 1) = false := decide_eq_false c52
              clear c52
              have H' := Aside0.mk H
              clear H
              have p569 : 0 ≤ (x78_3 : Int) := of_decide_eq_true (by first | (with_reducible assumption) | assumption)
              have q569 : x78_3 < (t565.length : Int) := of_decide_eq_true (by first | (with_reducible assumption) | assumption)
              obtain ⟨ad569, A569_0, c569_0, e569, hx569_0, hl569_0, hi569_0⟩ := at_L2 (Kd.S_reads' HO_76.out).2.2 x78_3 p569 q569
              cases e569
              obtain ⟨ce569, hce569, hMe569, hcc569⟩ := Kd.S_get HO_76.out [] x78_3 p569 (by first | exact q569 | exact of_decide_eq_true (by first | (with_reducible assumption) | assumption) | (have e_ := (Kd.S_reads' HO_76.out).1; omega))
              obtain ⟨ve569_0, rfl, ge569_0⟩ := hMe569
              have hv569_0 := hcc569 0 _ rfl
              rw [Nat.add_zero, show ((Kd.slice 3 (Kd.int .i64))).sz = 1 from rfl, Nat.mul_one] at hv569_0
              replace hv569_0 := Option.some.inj (hv569_0.symm.trans hx569_0)
              rw [hv569_0] at ge569_0
              have HL569_0 := Aside0.mk (show Kd.R (Kd.int .i64) 3 _ _ _ _ (rd_L2 t565 x78_3) from ge569_0)
              clear hv569_0 ge569_0
              clear hcc569 hce569
              have HR569_0 := Aside0.mk hi569_0
              have HC569_0 := Aside0.mk hl569_0
              clear hi569_0 hl569_0
              replace p569 := eq_true p569
              replace q569 := eq_true q569
              go_wp2_with (first | ((with_reducible refine gate_callee (f := 33) rfl ?_); refine goesL_ (some 83) rfl rfl Try.func33 (by kernel_rfl) rfl #[.slice A569_0 (rd_L2 t565 x78_3).length c569_0] rfl (by (try simp only [List.map_toArray, List.map_cons, List.map_nil]); first | done | rfl | (simp only [List.length_drop, List.length_take]; rfl)) ?_; (with_reducible refine (impl_RiffleWays.calls k3 _ _ (rd_L2 t565 x78_3) t570 _ ?side1 ?side2 A51.out).mono ?_); (case side1 => repeat (first | exact (cx_ HR569_0) | (with_reducible first | refine Kd.C_alloc ?_ _ | refine Kd.C_drewN ?_ _ | refine Kd.C_drew ?_))); (case side2 => exact HC569_0.out); rintro e w54 ⟨rfl, hb⟩; refine ⟨_, rfl, ?_⟩; have n0_ := Aside0.mk (Kd.V_below (vx_ HO_3) hb); have n1_ := Aside0.mk (Kd.S_below (sx_ HO_6) hb); have n2_ := Aside0.mk (Kd.S_below (sx_ HO_76) hb); have n3_ := Aside0.mk (Kd.R_below (rx_ HL569_0) hb); have n4_ := Aside0.mk (Kd.C_below (cx_ HR569_0) hb); have n5_ := Aside0.mk (below_step bl_ hb); clear HO_3; clear HO_6; clear HO_76; clear HL569_0; clear HR569_0; clear HB; have HO_3 := n0_; have HO_6 := n1_; have HO_76 := n2_; have HL569_0 := n3_; have HR569_0 := n4_; have HB := n5_; clear n0_ n1_ n2_ n3_ n4_ n5_; (try clear hb)))
              go_roundg k3
              case measure => have := HK1.out; have := HJ13.out; have := HK3.out; omega
              case rel => exact ⟨(wrap64 (x12_3 + t570)), (wrap64 (x78_3 + 1)), (by first | rfl | (simp; done) | (simp [*]; done)), (by first | rfl | (simp; done) | (simp [*]; done)), H', ⟨by have := HK1.out; have := HJ13.out; have := HK3.out; omega⟩, ⟨by (with_reducible repeat (first | apply Kd.V_alloc | apply Kd.V_drewN | apply Kd.V_drew)); exact HO_3.out⟩, ⟨by (with_reducible repeat (first | apply Kd.S_alloc | apply Kd.S_drewN | apply Kd.S_drew)); exact HO_6.out⟩, ⟨by (with_reducible repeat (first | apply Kd.S_alloc | apply Kd.S_drewN | apply Kd.S_drew)); exact HO_76.out⟩, ⟨by repeat (first | (with_reducible first | exact HB.out | apply below_alloc | apply pw_below_drewN | apply below_drew1) | exact HB.out)⟩⟩
            ·rw [if_neg c50] at H
             exact absurd H (by simp)
           ·rw [if_neg c49] at H
            exact absurd H (by simp)
          ·rw [if_neg c48] at H
           have c48b0 : decide (x78_3 < (t565.length : Int)) = false := decide_eq_false c48
           clear c48
           by_cases c55 : t566 = true
           ·subst c55
            rw [if_pos rfl] at H
            by_cases c56 : 0 ≤ (t545.length : Int)
            ·rw [if_pos c56] at H
             have c56b0 := eq_true c56
             have c56b1 : decide (0 ≤ (t545.length : Int)) = true := decide_eq_true c56
             clear c56
             obtain ⟨ji57, hji57⟩ : ∃ j_ : Int, (shl .i64 1 (t545.length : Int)) = j_ := ⟨_, rfl⟩
             replace H : (if x12_3 = (ji57) then (if (t551.length : Int) = 2 then ((impl_SplitOf.f k3 t545).bind fun t571 => (if 0 < (t551.length : Int) then (some (t571 == ((rd_L2 t551 0).length : Int))) else (none))) else (some true)) else (some false)) = some r := by first | (rw [hji57] at H; exact H) | (simp only [hji57] at H ⊢; exact H)
             have hji57_ : (IntKind.i64.wrap (1 * 2 ^ min (t545.length : Int).toNat 64)) = ji57 := hji57
             have hji57z : (t545.length : Int) ≤ 64 → (IntKind.i64.wrap (1 * 2 ^ (t545.length : Int).toNat)) = ji57 := shl_small hji57
             have hji57p : (IntKind.i64.wrap (1 * 2 ^ min t545.length 64)) = ji57 := hji57_
             have hji57q : (t545.length : Int) ≤ 64 → (IntKind.i64.wrap (1 * 2 ^ t545.length)) = ji57 := hji57z
             have hji57r : (IntKind.i64.wrap (2 ^ min t545.length 64)) = ji57 := by have h_ := hji57p; rw [Int.one_mul] at h_; exact h_
             have hji57s : (t545.length : Int) ≤ 64 → (IntKind.i64.wrap (2 ^ t545.length)) = ji57 := fun hle_ => by have h_ := hji57q hle_; rw [Int.one_mul] at h_; exact h_
             have hji57u : (IntKind.i64.wrap (2 ^ min (t545.length : Int).toNat 64)) = ji57 := by have h_ := hji57_; rw [Int.one_mul] at h_; exact h_
             have hji57v : (t545.length : Int) ≤ 64 → (IntKind.i64.wrap (2 ^ (t545.length : Int).toNat)) = ji57 := fun hle_ => by have h_ := hji57z hle_; rw [Int.one_mul] at h_; exact h_
             have hji57y : (wrap64 (1 * 2 ^ min (t545.length : Int).toNat 64)) = ji57 := (i64_w _).symm.trans hji57_
             have hji57x : (t545.length : Int) ≤ 64 → (wrap64 (1 * 2 ^ (t545.length : Int).toNat)) = ji57 := fun h_ => (i64_w _).symm.trans (hji57z h_)
             by_cases c58 : x12_3 = (ji57)
             ·rw [if_pos c58] at H
              have c58b0 : (x12_3 == (ji57)) = true := beq_iff_eq.mpr c58
              have c58b1 : (x12_3 != (ji57)) = false := bne_eq_false_iff_eq.mpr c58
              clear c58
              by_cases c59 : (t551.length : Int) = 2
              ·rw [if_pos c59] at H
               have c59b0 : ((t551.length : Int) == 2) = true := beq_iff_eq.mpr c59
               have c59b1 : ((t551.length : Int) != 2) = false := bne_eq_false_iff_eq.mpr c59
               clear c59
               replace H := Option.bind_eq_some_iff.mp H
               obtain ⟨t571, A600, H⟩ := H
               replace H : (if 0 < (t551.length : Int) then (some (t571 == ((rd_L2 t551 0).length : Int))) else (none)) = some r := H
               have A60 := Aside0.mk A600
               clear A600
               by_cases c61 : 0 < (t551.length : Int)
               ·rw [if_pos c61] at H
                have c61b0 : decide (0 < (t551.length : Int)) = true := decide_eq_true c61
                have c61b1 : decide (0 < t551.length) = true := decide_eq_true (by omega)
                clear c61
                obtain rfl := Option.some.inj H
                try go_wp2
                have n0_ := Aside0.mk (Kd.V_drew HO_3.out)
                have n1_ := Aside0.mk (Kd.S_drew HO_6.out)
                have n2_ := Aside0.mk (Kd.S_drew HO_76.out)
                have n3_ := Aside0.mk (below_drew1 HB.out)
                clear HO_3
                clear HO_6
                clear HO_76
                clear HB
                have HO_3 := n0_
                have HO_6 := n1_
                have HO_76 := n2_
                have HB := n3_
                clear n0_ n1_ n2_ n3_
                have p572 : 0 ≤ (0 : Int) := (by omega)
                have q572 : 0 < (t551.length : Int) := of_decide_eq_true (by first | (with_reducible assumption) | assumption)
                obtain ⟨ad572, A572_0, c572_0, e572, hx572_0, hl572_0, hi572_0⟩ := at_L2 (Kd.S_reads' HO_6.out).2.2 0 p572 q572
                cases e572
                obtain ⟨ce572, hce572, hMe572, hcc572⟩ := Kd.S_get HO_6.out [] 0 p572 (by first | exact q572 | exact of_decide_eq_true (by first | (with_reducible assumption) | assumption) | (have e_ := (Kd.S_reads' HO_6.out).1; omega))
                obtain ⟨ve572_0, rfl, ge572_0⟩ := hMe572
                have hv572_0 := hcc572 0 _ rfl
                rw [Nat.add_zero, show ((Kd.slice 3 (Kd.int .i64))).sz = 1 from rfl, Nat.mul_one] at hv572_0
                replace hv572_0 := Option.some.inj (hv572_0.symm.trans hx572_0)
                rw [hv572_0] at ge572_0
                have HL572_0 := Aside0.mk (show Kd.R (Kd.int .i64) 3 _ _ _ _ (rd_L2 t551 0) from ge572_0)
                clear hv572_0 ge572_0
                clear hcc572 hce572
                have qi572 : (0 < t551.length) = True := eq_true (by omega)
                (try rw [show ((0 : Int)).toNat = 0 from rfl] at hx572_0)
                (try rw [Addr.add_zero'] at hx572_0)
                have HR572_0 := Aside0.mk hi572_0
                have HC572_0 := Aside0.mk hl572_0
                clear hi572_0 hl572_0
                replace p572 := eq_true p572
                replace q572 := eq_true q572
                refine start_ (n := 22) (S := fun w' => w'.cell? ad572 = some (.slice A572_0 (rd_L2 t551 0).length c572_0)) (ds := []) #[false, false, false, false, false, false, false, false, false, false, false, false, false, false, false, false, false, false, false, false, false, false] (by kernel_rfl) rfl rfl (hx572_0) (fun hHeld => ?_); refine with_tabW laws_FnRiffles.tab25 laws_FnRiffles.bits25 (fun HT_ HW_ => ?_)
                generalize wr.drew = w62 at HO_3 HO_6 HO_76 HB HL572_0 HR572_0 hx572_0 hHeld ⊢
                refine ps_ HT_ 0 90 ?_
                refine ps_ HT_ 1 91 ?_
                refine ps_ HT_ 2 92 ?_
                refine ps_ HT_ 3 93 ?_
                refine ps_ HT_ 4 94 ?_
                refine ps_ HT_ 5 95 ?_
                refine ps_ HT_ 6 96 ?_
                refine ps_ HT_ 7 97 ?_
                refine ps_ HT_ 8 98 ?_
                refine ps_ HT_ 9 99 ?_
                refine ps_ HT_ 10 100 ?_
                refine ps_ HT_ 11 101 ?_
                refine ps_ HT_ 12 102 ?_
                refine ps_ HT_ 14 104 ?_
                refine ps_ HT_ 15 105 ?_
                refine take_ (i := 16) (N := some 106) (v := ?_) (a' := ?_) #[true, true, true, true, true, true, true, true, true, true, true, true, true, false, true, true, true, false, false, false, false, false] rfl rfl (take_ofW HT_.out HW_.out (by kernel_rfl)) (fun _ _ _ h => h) (Or.inl ⟨by rfl, ?_⟩) hHeld ?_ ?_
                rotate_left
                ·intro w' s0
                 go_simp
                 with_reducible rfl
                rotate_left
                ·simp only [Act.put, List.setIfInBounds_toArray, List.set_cons_zero, List.set_cons_succ, i64_w, i32_w]
                 rfl
                refine ps_ HT_ 17 107 ?_
                refine one_ (i := 13) (N := some 103) #[true, true, true, true, true, true, true, true, true, true, true, true, true, true, true, true, true, true, false, false, false, false] rfl rfl (one_of HT_.out (by kernel_rfl)) (by decide) (fun K hK => ?_)
                refine goes_ Try.func34 (by kernel_rfl) rfl #[.slice Ao7 t545.length co7] (by rfl) rfl rfl (by (try simp only [List.map_toArray, List.map_cons, List.map_nil]); first | done | rfl | (simp only [List.length_drop, List.length_take]; rfl)) ?_
                with_reducible refine (impl_SplitOf.calls k3 _ _ t545 t571 _ ?side1 ?side2 A60.out).mono ?_
                (case side1 => repeat (first | exact (Kd.V_reads' HO_3.out).2.2 | (with_reducible first | refine Kd.C_alloc ?_ _ | refine Kd.C_drewN ?_ _ | refine Kd.C_drew ?_)))
                (case side2 => exact (Kd.V_reads' HO_3.out).2.1)
                rintro e w63 ⟨rfl, hb⟩
                have HS0_ := (hb.cell (World.block_lt_of_cell? _ _ (hHeld))).trans (hHeld)
                refine ⟨_, rfl, ?_⟩
                have n0_ := Aside0.mk (Kd.V_below (vx_ HO_3) hb)
                have n1_ := Aside0.mk (Kd.S_below (sx_ HO_6) hb)
                have n2_ := Aside0.mk (Kd.S_below (sx_ HO_76) hb)
                have n3_ := Aside0.mk (Kd.R_below (rx_ HL572_0) hb)
                have n4_ := Aside0.mk (Kd.C_below (cx_ HR572_0) hb)
                have n5_ := Aside0.mk (below_step bl_ hb)
                clear HO_3
                clear HO_6
                clear HO_76
                clear HL572_0
                clear HR572_0
                clear HB
                have HO_3 := n0_
                have HO_6 := n1_
                have HO_76 := n2_
                have HL572_0 := n3_
                have HR572_0 := n4_
                have HB := n5_
                clear n0_ n1_ n2_ n3_ n4_ n5_
                (try clear hb)
                (try clear hb2)
                (try clear hk)
                (try clear hi)
                refine hK.out _ _ (HS0_) (fun hHeld => ?_)
                clear hK K
                refine ns_ ?_
                refine ps_ HT_ 18 108 ?_
                refine ps_ HT_ 19 109 ?_
                refine ps_ HT_ 20 110 ?_
                refine ps_ HT_ 21 2 ?_
                refine done_ (done_of HT_.out (by kernel_rfl)) ?_
                try go_wp2
                go_ret
                exact ⟨by first | rfl | (simp [errW_none, errW_some] <;> rfl) | (simp only [← hji57]; first | rfl | (simp [errW_none, errW_some] <;> rfl)) | (simp [*, errW_none, errW_some] <;> rfl), by repeat (first | (with_reducible first | exact HB.out | apply below_alloc | apply pw_below_drewN | apply below_drew1) | exact HB.out)⟩
               ·rw [if_neg c61] at H
                exact absurd H (by simp)
              ·rw [if_neg c59] at H
               have c59b0 : ((t551.length : Int) == 2) = false := beq_eq_false_iff_ne.mpr c59
               have c59b1 : ((t551.length : Int) != 2) = true := bne_iff_ne.mpr c59
               obtain rfl := Option.some.inj H
               try go_wp2
               have n0_ := Aside0.mk (Kd.V_drew HO_3.out)
               have n1_ := Aside0.mk (Kd.S_drew HO_6.out)
               have n2_ := Aside0.mk (Kd.S_drew HO_76.out)
               have n3_ := Aside0.mk (below_drew1 HB.out)
               clear HO_3
               clear HO_6
               clear HO_76
               clear HB
               have HO_3 := n0_
               have HO_6 := n1_
               have HO_76 := n2_
               have HB := n3_
               clear n0_ n1_ n2_ n3_
               refine start_ (n := 22) (S := fun w' => True) (ds := []) #[false, false, false, false, false, false, false, false, false, false, false, false, false, false, false, false, false, false, false, false, false, false] (by kernel_rfl) rfl rfl trivial (fun hHeld => ?_); refine with_tabW laws_FnRiffles.tab25 laws_FnRiffles.bits25 (fun HT_ HW_ => ?_)
               generalize wr.drew = w64 at HO_3 HO_6 HO_76 HB hHeld ⊢
               refine ps_ HT_ 0 90 ?_
               refine ps_ HT_ 1 91 ?_
               refine ps_ HT_ 2 92 ?_
               refine ps_ HT_ 3 93 ?_
               refine ps_ HT_ 4 94 ?_
               refine ps_ HT_ 5 95 ?_
               refine ps_ HT_ 6 96 ?_
               refine ps_ HT_ 7 97 ?_
               refine ps_ HT_ 8 98 ?_
               refine ps_ HT_ 9 99 ?_
               refine ps_ HT_ 10 100 ?_
               refine ps_ HT_ 11 101 ?_
               refine ps_ HT_ 12 102 ?_
               refine ps_ HT_ 13 103 ?_
               refine ps_ HT_ 14 104 ?_
               refine ps_ HT_ 15 105 ?_
               refine ps_ HT_ 16 106 ?_
               refine ps_ HT_ 17 107 ?_
               refine ps_ HT_ 18 108 ?_
               refine ps_ HT_ 19 109 ?_
               refine ps_ HT_ 20 110 ?_
               refine ps_ HT_ 21 2 ?_
               refine done_ (done_of HT_.out (by kernel_rfl)) ?_
               try go_wp2
               go_ret
               exact ⟨by first | rfl | (simp [errW_none, errW_some] <;> rfl) | (simp only [← hji57]; first | rfl | (simp [errW_none, errW_some] <;> rfl)) | (simp [*, errW_none, errW_some] <;> rfl), by repeat (first | (with_reducible first | exact HB.out | apply below_alloc | apply pw_below_drewN | apply below_drew1) | exact HB.out)⟩
             ·rw [if_neg c58] at H
              have c58b0 : (x12_3 == (ji57)) = false := beq_eq_false_iff_ne.mpr c58
              have c58b1 : (x12_3 != (ji57)) = true := bne_iff_ne.mpr c58
              obtain rfl := Option.some.inj H
              try go_wp2
              have n0_ := Aside0.mk (Kd.V_drew HO_3.out)
              have n1_ := Aside0.mk (Kd.S_drew HO_6.out)
              have n2_ := Aside0.mk (Kd.S_drew HO_76.out)
              have n3_ := Aside0.mk (below_drew1 HB.out)
              clear HO_3
              clear HO_6
              clear HO_76
              clear HB
              have HO_3 := n0_
              have HO_6 := n1_
              have HO_76 := n2_
              have HB := n3_
              clear n0_ n1_ n2_ n3_
              refine start_ (n := 22) (S := fun w' => True) (ds := []) #[false, false, false, false, false, false, false, false, false, false, false, false, false, false, false, false, false, false, false, false, false, false] (by kernel_rfl) rfl rfl trivial (fun hHeld => ?_); refine with_tabW laws_FnRiffles.tab25 laws_FnRiffles.bits25 (fun HT_ HW_ => ?_)
              generalize wr.drew = w65 at HO_3 HO_6 HO_76 HB hHeld ⊢
              refine ps_ HT_ 0 90 ?_
              refine ps_ HT_ 1 91 ?_
              refine ps_ HT_ 2 92 ?_
              refine ps_ HT_ 3 93 ?_
              refine ps_ HT_ 4 94 ?_
              refine ps_ HT_ 5 95 ?_
              refine ps_ HT_ 6 96 ?_
              refine ps_ HT_ 7 97 ?_
              refine ps_ HT_ 8 98 ?_
              refine ps_ HT_ 9 99 ?_
              refine ps_ HT_ 10 100 ?_
              refine ps_ HT_ 11 101 ?_
              refine ps_ HT_ 12 102 ?_
              refine ps_ HT_ 13 103 ?_
              refine ps_ HT_ 14 104 ?_
              refine ps_ HT_ 15 105 ?_
              refine ps_ HT_ 16 106 ?_
              refine ps_ HT_ 17 107 ?_
              refine ps_ HT_ 18 108 ?_
              refine ps_ HT_ 19 109 ?_
              refine ps_ HT_ 20 110 ?_
              refine ps_ HT_ 21 2 ?_
              refine done_ (done_of HT_.out (by kernel_rfl)) ?_
              try go_wp2
              go_ret
              exact ⟨by first | rfl | (simp [errW_none, errW_some] <;> rfl) | (simp only [← hji57]; first | rfl | (simp [errW_none, errW_some] <;> rfl)) | (simp [*, errW_none, errW_some] <;> rfl), by repeat (first | (with_reducible first | exact HB.out | apply below_alloc | apply pw_below_drewN | apply below_drew1) | exact HB.out)⟩
            ·rw [if_neg c56] at H
             exact absurd H (by simp)
           ·replace c55 := Bool.eq_false_iff.mpr c55
            subst c55
            rw [if_neg (show ¬ (false = true) by decide)] at H
            obtain rfl := Option.some.inj H
            try go_wp2
            have n0_ := Aside0.mk (Kd.V_drew HO_3.out)
            have n1_ := Aside0.mk (Kd.S_drew HO_6.out)
            have n2_ := Aside0.mk (Kd.S_drew HO_76.out)
            have n3_ := Aside0.mk (below_drew1 HB.out)
            clear HO_3
            clear HO_6
            clear HO_76
            clear HB
            have HO_3 := n0_
            have HO_6 := n1_
            have HO_76 := n2_
            have HB := n3_
            clear n0_ n1_ n2_ n3_
            refine start_ (n := 22) (S := fun w' => True) (ds := []) #[false, false, false, false, false, false, false, false, false, false, false, false, false, false, false, false, false, false, false, false, false, false] (by kernel_rfl) rfl rfl trivial (fun hHeld => ?_); refine with_tabW laws_FnRiffles.tab25 laws_FnRiffles.bits25 (fun HT_ HW_ => ?_)
            generalize wr.drew = w66 at HO_3 HO_6 HO_76 HB hHeld ⊢
            refine ps_ HT_ 0 90 ?_
            refine ps_ HT_ 1 91 ?_
            refine ps_ HT_ 2 92 ?_
            refine ps_ HT_ 3 93 ?_
            refine ps_ HT_ 4 94 ?_
            refine ps_ HT_ 5 95 ?_
            refine ps_ HT_ 6 96 ?_
            refine ps_ HT_ 7 97 ?_
            refine ps_ HT_ 8 98 ?_
            refine ps_ HT_ 9 99 ?_
            refine ps_ HT_ 10 100 ?_
            refine ps_ HT_ 11 101 ?_
            refine ps_ HT_ 12 102 ?_
            refine ps_ HT_ 13 103 ?_
            refine ps_ HT_ 14 104 ?_
            refine ps_ HT_ 15 105 ?_
            refine ps_ HT_ 16 106 ?_
            refine ps_ HT_ 17 107 ?_
            refine ps_ HT_ 18 108 ?_
            refine ps_ HT_ 19 109 ?_
            refine ps_ HT_ 20 110 ?_
            refine ps_ HT_ 21 2 ?_
            refine done_ (done_of HT_.out (by kernel_rfl)) ?_
            try go_wp2
            go_ret
            exact ⟨by first | rfl | (simp [errW_none, errW_some] <;> rfl) | (simp [*, errW_none, errW_some] <;> rfl), by repeat (first | (with_reducible first | exact HB.out | apply below_alloc | apply pw_below_drewN | apply below_drew1) | exact HB.out)⟩

/-- THE ONE PURE STATEMENT of laws_FnRiffles: yours. -/
def laws_FnRiffles.Pure : Prop := ∀ (l0 : List Int), l0.length ≤ maxLen → l0.length * 1 ≤ 140737488351232 → (∀ x ∈ l0, (Lit.int .u8 x).wf = true) → ∃ k, laws_FnRiffles.f k l0 = some true
theorem laws_FnRiffles.walk (P : laws_FnRiffles.Pure) (a0 : Option Addr) (len0 cap0 : Nat) (z0 : List Int) (w : World) (w0 : (a0 = none ∧ len0 = 0 ∧ cap0 = 0 ∧ z0 = []) ∨ ∃ x, a0 = some x ∧ len0 ≤ cap0 ∧ cap0 ≤ maxLen ∧ z0.length = cap0 ∧ (∀ i, i < z0.length → w.cell? (x.add i) = some (.int .u8 (z0.getD i 0))) ∧ ∀ n ∈ z0, (Lit.int .u8 n).wf = true) (y0 : len0 * 1 ≤ 140737488351232) :
  Calls Try.prog 6 #[.slice a0 len0 cap0] w fun e w' => e = .returned (.bool true) ∧ Below w.heap.size w w' := by
 obtain ⟨l0, rfl, hr0, hm0, hw0, hc0⟩ := ReadsInt.ofRowC w0
 obtain ⟨k, h⟩ := P l0 hm0 y0 hw0
 refine (laws_FnRiffles.calls k _ _ l0 true w (Kd.C_of_reads (d := (0 : Int)) (h1 := fun _ => rfl) hr0) hc0 h).mono ?_
 rintro e w' ⟨rfl, hd⟩
 exact ⟨rfl, hd⟩

end Go.Proofs.Ytdgoeomelnlekaa.MFnRiffles
