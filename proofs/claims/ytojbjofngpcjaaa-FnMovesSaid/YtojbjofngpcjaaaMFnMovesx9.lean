-- Written by this session's own program (wip/tools/myprint.py), over the kit's printer.
import Derived.Test.YtojbjofngpcjaaaMFnMovesx0
import Derived.Test.YtojbjofngpcjaaaMFnMovesx1
import Derived.Test.YtojbjofngpcjaaaMFnMovesx2
import Derived.Test.YtojbjofngpcjaaaMFnMovesx8
namespace Go.Proofs.Ytojbjofngpcjaaa.MFnMoves
open Go.RowKit Go.Proofs.YtojbjofngpcjaaaW.PrintWords Go.Proofs.YtojbjofngpcjaaaW.PrintLast Go.Proofs.YtojbjofngpcjaaaW.PrintMore
attribute [local go_sem] max2_int min2_int max_two min_two max_three min_three max_four min_four   -- for this text's walks alone
set_option linter.unusedVariables false
set_option linter.unusedSimpArgs false

/-! ### laws_FnMoves: function 14 -/
mutual
def laws_FnMoves.j0 : Nat → List Int → List Int → Bool → Int → Int → Option (Bool)
  | 0, _, _, _, _, _ => none
  | k + 1, x3, x5, x71, x451000, x451001 => if x71 = true then (some false) else (laws_FnMoves.l0 k x5 0 x3 (x3.length : Int) 0 x451000 x451001)
def laws_FnMoves.l0 : Nat → List Int → Int → List Int → Int → Int → Int → Int → Option (Bool)
  | 0, _, _, _, _, _, _, _ => none
  | k + 1, x5, x11, x72, x73, x74, x451000, x451001 => if x74 < x73 then (if 0 ≤ x74 then (if x74 < (x72.length : Int) then ((impl_CardOf.f (rd x72 x74)).bind fun t466 => ((impl_PositionOf.f x5 t466).bind fun t467 => (if t467 < 0 then (laws_FnMoves.j2 k x5 x11 x74 (rd x72 x74) t467 x72 x73 x74 true x451000 x451001) else (laws_FnMoves.j2 k x5 x11 x74 (rd x72 x74) t467 x72 x73 x74 (decide (t467 ≥ (x5.length : Int))) x451000 x451001)))) else (none)) else (none)) else (if x451000 = 3 then (if x11 = x451001 then (some true) else (if x451000 = 8 then (if x11 = 1 then (some true) else (some false)) else (some false))) else (if x451000 = 8 then (if x11 = 1 then (some true) else (some false)) else (some (x11 == 0))))
def laws_FnMoves.j2 : Nat → List Int → Int → Int → Int → Int → List Int → Int → Int → Bool → Int → Int → Option (Bool)
  | 0, _, _, _, _, _, _, _, _, _, _, _ => none
  | k + 1, x5, x11, x12, x13, x14, x72, x73, x74, x90, x451000, x451001 => if x90 = true then (some false) else (if 0 ≤ x14 then (if x14 < (x5.length : Int) then ((impl_IsUp.f (rd x5 x14)).bind fun t469 => ((impl_IsUp.f x13).bind fun t470 => (if (t469 != t470) = true then (if x451000 = 3 then (if x451000 = 8 then (if x12 = x451001 then (if x12 ≥ x451001 then (some false) else (laws_FnMoves.l0 k x5 (wrap64 (x11 + 1)) x72 x73 (wrap64 (x74 + 1)) x451000 x451001)) else (some false)) else (if x12 ≥ x451001 then (some false) else (laws_FnMoves.l0 k x5 (wrap64 (x11 + 1)) x72 x73 (wrap64 (x74 + 1)) x451000 x451001))) else (if x451000 = 8 then (if x12 = x451001 then (laws_FnMoves.l0 k x5 (wrap64 (x11 + 1)) x72 x73 (wrap64 (x74 + 1)) x451000 x451001) else (some false)) else (some false))) else (laws_FnMoves.l0 k x5 x11 x72 x73 (wrap64 (x74 + 1)) x451000 x451001)))) else (none)) else (none))
end
def laws_FnMoves.f (k : Nat) (l0 : List Int) : Option (Bool) := if (l0.length : Int) > 1048576 then (some true) else ((spec_MakePacket.f k l0 0 9).bind fun t445 => ((spec_MakeMove.f k l0 30 (t445.length : Int)).bind fun bt448 => ((impl_Perform.f k t445 bt448.1 bt448.2).bind fun bt451 => ((impl_PermOfMove.f k (t445.length : Int) bt448.1 bt448.2).bind fun bt455 => ((impl_PermBetween.f k t445 bt451.1).bind fun bt459 => (if bt451.2 = true then (if bt455.2 = true then (if bt459.2 = true then ((impl_IsArrangement.f k t445 bt451.1).bind fun t463 => (if t463 = true then ((laws_same.f k bt455.1 bt459.1).bind fun t464 => (if t464 = true then (laws_FnMoves.j0 k t445 bt451.1 ((bt451.1.length : Int) != (t445.length : Int)) bt448.1 bt448.2) else (laws_FnMoves.j0 k t445 bt451.1 true bt448.1 bt448.2))) else (laws_FnMoves.j0 k t445 bt451.1 true bt448.1 bt448.2))) else (laws_FnMoves.j0 k t445 bt451.1 true bt448.1 bt448.2)) else (laws_FnMoves.j0 k t445 bt451.1 true bt448.1 bt448.2)) else (laws_FnMoves.j0 k t445 bt451.1 true bt448.1 bt448.2)))))))
theorem laws_FnMoves.mono_l : ∀ k, (∀ y0 y1 y2 y3 y4, LeO (laws_FnMoves.j0 k y0 y1 y2 y3 y4) (laws_FnMoves.j0 (k + 1) y0 y1 y2 y3 y4)) ∧ (∀ y0 y1 y2 y3 y4 y5 y6, LeO (laws_FnMoves.l0 k y0 y1 y2 y3 y4 y5 y6) (laws_FnMoves.l0 (k + 1) y0 y1 y2 y3 y4 y5 y6)) ∧ (∀ y0 y1 y2 y3 y4 y5 y6 y7 y8 y9 y10, LeO (laws_FnMoves.j2 k y0 y1 y2 y3 y4 y5 y6 y7 y8 y9 y10) (laws_FnMoves.j2 (k + 1) y0 y1 y2 y3 y4 y5 y6 y7 y8 y9 y10))
  | 0 => ⟨fun _ _ _ _ _ r h => by simp [laws_FnMoves.j0] at h, fun _ _ _ _ _ _ _ r h => by simp [laws_FnMoves.l0] at h, fun _ _ _ _ _ _ _ _ _ _ _ r h => by simp [laws_FnMoves.j2] at h⟩
  | k + 1 => by
    obtain ⟨ih0, ih1, ih2⟩ := laws_FnMoves.mono_l k
    refine ⟨?_, ?_, ?_⟩
    · intro y0 y1 y2 y3 y4
      unfold laws_FnMoves.j0
      repeat' first
      | (with_reducible exact ih0 _ _ _ _ _)
      | (with_reducible exact ih1 _ _ _ _ _ _ _)
      | (with_reducible exact ih2 _ _ _ _ _ _ _ _ _ _ _)
      | (with_reducible exact impl_IsArrangement.mono _ _ _)
      | (with_reducible exact impl_Perform.mono _ _ _ _)
      | (with_reducible exact impl_PermBetween.mono _ _ _)
      | (with_reducible exact impl_PermOfMove.mono _ _ _ _)
      | (with_reducible exact laws_same.mono _ _ _)
      | (with_reducible exact spec_MakeMove.mono _ _ _ _)
      | (with_reducible exact spec_MakePacket.mono _ _ _ _)
      | (with_reducible exact LeO.refl _)
      | (with_reducible exact LeO.none _)
      | (with_reducible refine LeO.ite ?_ ?_)
      | (with_reducible refine LeO.bind ?_ (fun _ => ?_))
      | exact ih0 _ _ _ _ _
      | exact ih1 _ _ _ _ _ _ _
      | exact ih2 _ _ _ _ _ _ _ _ _ _ _
      | exact impl_IsArrangement.mono _ _ _
      | exact impl_Perform.mono _ _ _ _
      | exact impl_PermBetween.mono _ _ _
      | exact impl_PermOfMove.mono _ _ _ _
      | exact laws_same.mono _ _ _
      | exact spec_MakeMove.mono _ _ _ _
      | exact spec_MakePacket.mono _ _ _ _
      | exact LeO.none _
      | refine LeO.ite ?_ ?_
      | refine LeO.bind ?_ (fun _ => ?_)
    · intro y0 y1 y2 y3 y4 y5 y6
      unfold laws_FnMoves.l0
      repeat' first
      | (with_reducible exact ih0 _ _ _ _ _)
      | (with_reducible exact ih1 _ _ _ _ _ _ _)
      | (with_reducible exact ih2 _ _ _ _ _ _ _ _ _ _ _)
      | (with_reducible exact impl_IsArrangement.mono _ _ _)
      | (with_reducible exact impl_Perform.mono _ _ _ _)
      | (with_reducible exact impl_PermBetween.mono _ _ _)
      | (with_reducible exact impl_PermOfMove.mono _ _ _ _)
      | (with_reducible exact laws_same.mono _ _ _)
      | (with_reducible exact spec_MakeMove.mono _ _ _ _)
      | (with_reducible exact spec_MakePacket.mono _ _ _ _)
      | (with_reducible exact LeO.refl _)
      | (with_reducible exact LeO.none _)
      | (with_reducible refine LeO.ite ?_ ?_)
      | (with_reducible refine LeO.bind ?_ (fun _ => ?_))
      | exact ih0 _ _ _ _ _
      | exact ih1 _ _ _ _ _ _ _
      | exact ih2 _ _ _ _ _ _ _ _ _ _ _
      | exact impl_IsArrangement.mono _ _ _
      | exact impl_Perform.mono _ _ _ _
      | exact impl_PermBetween.mono _ _ _
      | exact impl_PermOfMove.mono _ _ _ _
      | exact laws_same.mono _ _ _
      | exact spec_MakeMove.mono _ _ _ _
      | exact spec_MakePacket.mono _ _ _ _
      | exact LeO.none _
      | refine LeO.ite ?_ ?_
      | refine LeO.bind ?_ (fun _ => ?_)
    · intro y0 y1 y2 y3 y4 y5 y6 y7 y8 y9 y10
      unfold laws_FnMoves.j2
      repeat' first
      | (with_reducible exact ih0 _ _ _ _ _)
      | (with_reducible exact ih1 _ _ _ _ _ _ _)
      | (with_reducible exact ih2 _ _ _ _ _ _ _ _ _ _ _)
      | (with_reducible exact impl_IsArrangement.mono _ _ _)
      | (with_reducible exact impl_Perform.mono _ _ _ _)
      | (with_reducible exact impl_PermBetween.mono _ _ _)
      | (with_reducible exact impl_PermOfMove.mono _ _ _ _)
      | (with_reducible exact laws_same.mono _ _ _)
      | (with_reducible exact spec_MakeMove.mono _ _ _ _)
      | (with_reducible exact spec_MakePacket.mono _ _ _ _)
      | (with_reducible exact LeO.refl _)
      | (with_reducible exact LeO.none _)
      | (with_reducible refine LeO.ite ?_ ?_)
      | (with_reducible refine LeO.bind ?_ (fun _ => ?_))
      | exact ih0 _ _ _ _ _
      | exact ih1 _ _ _ _ _ _ _
      | exact ih2 _ _ _ _ _ _ _ _ _ _ _
      | exact impl_IsArrangement.mono _ _ _
      | exact impl_Perform.mono _ _ _ _
      | exact impl_PermBetween.mono _ _ _
      | exact impl_PermOfMove.mono _ _ _ _
      | exact laws_same.mono _ _ _
      | exact spec_MakeMove.mono _ _ _ _
      | exact spec_MakePacket.mono _ _ _ _
      | exact LeO.none _
      | refine LeO.ite ?_ ?_
      | refine LeO.bind ?_ (fun _ => ?_)
theorem laws_FnMoves.mono : ∀ a0 k, LeO (laws_FnMoves.f k a0) (laws_FnMoves.f (k + 1) a0) := by
  intro a0 k
  obtain ⟨ih0, ih1, ih2⟩ := laws_FnMoves.mono_l k
  unfold laws_FnMoves.f
  repeat' first
      | (with_reducible exact ih0 _ _ _ _ _)
      | (with_reducible exact ih1 _ _ _ _ _ _ _)
      | (with_reducible exact ih2 _ _ _ _ _ _ _ _ _ _ _)
      | (with_reducible exact impl_IsArrangement.mono _ _ _)
      | (with_reducible exact impl_Perform.mono _ _ _ _)
      | (with_reducible exact impl_PermBetween.mono _ _ _)
      | (with_reducible exact impl_PermOfMove.mono _ _ _ _)
      | (with_reducible exact laws_same.mono _ _ _)
      | (with_reducible exact spec_MakeMove.mono _ _ _ _)
      | (with_reducible exact spec_MakePacket.mono _ _ _ _)
      | (with_reducible exact LeO.refl _)
      | (with_reducible exact LeO.none _)
      | (with_reducible refine LeO.ite ?_ ?_)
      | (with_reducible refine LeO.bind ?_ (fun _ => ?_))
      | exact ih0 _ _ _ _ _
      | exact ih1 _ _ _ _ _ _ _
      | exact ih2 _ _ _ _ _ _ _ _ _ _ _
      | exact impl_IsArrangement.mono _ _ _
      | exact impl_Perform.mono _ _ _ _
      | exact impl_PermBetween.mono _ _ _
      | exact impl_PermOfMove.mono _ _ _ _
      | exact laws_same.mono _ _ _
      | exact spec_MakeMove.mono _ _ _ _
      | exact spec_MakePacket.mono _ _ _ _
      | exact LeO.none _
      | refine LeO.ite ?_ ?_
      | refine LeO.bind ?_ (fun _ => ?_)
set_option maxHeartbeats 8000000 in
set_option maxRecDepth 100000 in
theorem laws_FnMoves.calls (k : Nat) (A0 : Option Addr) (c0 : Nat) (l0 : List Int) (r : Bool) (w : World) (hr0 : Kd.C (Kd.int .u8) w A0 l0.length l0) (hc0 : l0.length ≤ c0) (h : laws_FnMoves.f k l0 = some r) :
    Calls Try.prog 14 #[.slice A0 l0.length c0] w fun e w' => e = .returned (.bool r) ∧ Below w.heap.size w w' := by
  have hu50 := Try.underlying50
  have HR0 := Aside0.mk hr0
  have HC0 := Aside0.mk hc0
  clear hr0 hc0
  have HB := Aside0.mk (Below.refl w.heap.size w)
  have H : (if (l0.length : Int) > 1048576 then (some true) else ((spec_MakePacket.f k l0 0 9).bind fun t445 => ((spec_MakeMove.f k l0 30 (t445.length : Int)).bind fun bt448 => ((impl_Perform.f k t445 bt448.1 bt448.2).bind fun bt451 => ((impl_PermOfMove.f k (t445.length : Int) bt448.1 bt448.2).bind fun bt455 => ((impl_PermBetween.f k t445 bt451.1).bind fun bt459 => (if bt451.2 = true then (if bt455.2 = true then (if bt459.2 = true then ((impl_IsArrangement.f k t445 bt451.1).bind fun t463 => (if t463 = true then ((laws_same.f k bt455.1 bt459.1).bind fun t464 => (if t464 = true then (laws_FnMoves.j0 k t445 bt451.1 ((bt451.1.length : Int) != (t445.length : Int)) bt448.1 bt448.2) else (laws_FnMoves.j0 k t445 bt451.1 true bt448.1 bt448.2))) else (laws_FnMoves.j0 k t445 bt451.1 true bt448.1 bt448.2))) else (laws_FnMoves.j0 k t445 bt451.1 true bt448.1 bt448.2)) else (laws_FnMoves.j0 k t445 bt451.1 true bt448.1 bt448.2)) else (laws_FnMoves.j0 k t445 bt451.1 true bt448.1 bt448.2)))))))) = some r := h
  clear h
  by_cases c2 : (l0.length : Int) > 1048576
  · rw [if_pos c2] at H
    have c2b0 : decide (1048576 < (l0.length : Int)) = true := decide_eq_true c2
    have c2b1 : decide (1048576 < l0.length) = true := decide_eq_true (by omega)
    clear c2
    obtain rfl := Option.some.inj H
    go_enter Try.func14, Try.ntmps14
    go_wp2
    go_ret
    exact ⟨by first | rfl | (simp [errW_none, errW_some] <;> rfl) | (simp [*, errW_none, errW_some] <;> rfl), by repeat (first | (with_reducible first | exact HB.out | apply below_alloc | apply pw_below_drewN | apply below_drew1) | exact HB.out)⟩
  · rw [if_neg c2] at H
    have c2b0 : decide (1048576 < (l0.length : Int)) = false := decide_eq_false c2
    have c2b1 : decide (1048576 < l0.length) = false := decide_eq_false (by omega)
    clear c2
    replace H := Option.bind_eq_some_iff.mp H
    obtain ⟨t445, A30, H⟩ := H
    replace H : ((spec_MakeMove.f k l0 30 (t445.length : Int)).bind fun bt448 => ((impl_Perform.f k t445 bt448.1 bt448.2).bind fun bt451 => ((impl_PermOfMove.f k (t445.length : Int) bt448.1 bt448.2).bind fun bt455 => ((impl_PermBetween.f k t445 bt451.1).bind fun bt459 => (if bt451.2 = true then (if bt455.2 = true then (if bt459.2 = true then ((impl_IsArrangement.f k t445 bt451.1).bind fun t463 => (if t463 = true then ((laws_same.f k bt455.1 bt459.1).bind fun t464 => (if t464 = true then (laws_FnMoves.j0 k t445 bt451.1 ((bt451.1.length : Int) != (t445.length : Int)) bt448.1 bt448.2) else (laws_FnMoves.j0 k t445 bt451.1 true bt448.1 bt448.2))) else (laws_FnMoves.j0 k t445 bt451.1 true bt448.1 bt448.2))) else (laws_FnMoves.j0 k t445 bt451.1 true bt448.1 bt448.2)) else (laws_FnMoves.j0 k t445 bt451.1 true bt448.1 bt448.2)) else (laws_FnMoves.j0 k t445 bt451.1 true bt448.1 bt448.2)))))) = some r := H
    have A3 := Aside0.mk A30
    clear A30
    replace H := Option.bind_eq_some_iff.mp H
    obtain ⟨⟨t448, t449⟩, A40, H⟩ := H
    replace H : ((impl_Perform.f k t445 t448 t449).bind fun bt451 => ((impl_PermOfMove.f k (t445.length : Int) t448 t449).bind fun bt455 => ((impl_PermBetween.f k t445 bt451.1).bind fun bt459 => (if bt451.2 = true then (if bt455.2 = true then (if bt459.2 = true then ((impl_IsArrangement.f k t445 bt451.1).bind fun t463 => (if t463 = true then ((laws_same.f k bt455.1 bt459.1).bind fun t464 => (if t464 = true then (laws_FnMoves.j0 k t445 bt451.1 ((bt451.1.length : Int) != (t445.length : Int)) t448 t449) else (laws_FnMoves.j0 k t445 bt451.1 true t448 t449))) else (laws_FnMoves.j0 k t445 bt451.1 true t448 t449))) else (laws_FnMoves.j0 k t445 bt451.1 true t448 t449)) else (laws_FnMoves.j0 k t445 bt451.1 true t448 t449)) else (laws_FnMoves.j0 k t445 bt451.1 true t448 t449))))) = some r := H
    have A4 := Aside0.mk A40
    clear A40
    replace H := Option.bind_eq_some_iff.mp H
    obtain ⟨⟨t451, t454⟩, A50, H⟩ := H
    replace H : ((impl_PermOfMove.f k (t445.length : Int) t448 t449).bind fun bt455 => ((impl_PermBetween.f k t445 t451).bind fun bt459 => (if t454 = true then (if bt455.2 = true then (if bt459.2 = true then ((impl_IsArrangement.f k t445 t451).bind fun t463 => (if t463 = true then ((laws_same.f k bt455.1 bt459.1).bind fun t464 => (if t464 = true then (laws_FnMoves.j0 k t445 t451 ((t451.length : Int) != (t445.length : Int)) t448 t449) else (laws_FnMoves.j0 k t445 t451 true t448 t449))) else (laws_FnMoves.j0 k t445 t451 true t448 t449))) else (laws_FnMoves.j0 k t445 t451 true t448 t449)) else (laws_FnMoves.j0 k t445 t451 true t448 t449)) else (laws_FnMoves.j0 k t445 t451 true t448 t449)))) = some r := H
    have A5 := Aside0.mk A50
    clear A50
    replace H := Option.bind_eq_some_iff.mp H
    obtain ⟨⟨t455, t458⟩, A60, H⟩ := H
    replace H : ((impl_PermBetween.f k t445 t451).bind fun bt459 => (if t454 = true then (if t458 = true then (if bt459.2 = true then ((impl_IsArrangement.f k t445 t451).bind fun t463 => (if t463 = true then ((laws_same.f k t455 bt459.1).bind fun t464 => (if t464 = true then (laws_FnMoves.j0 k t445 t451 ((t451.length : Int) != (t445.length : Int)) t448 t449) else (laws_FnMoves.j0 k t445 t451 true t448 t449))) else (laws_FnMoves.j0 k t445 t451 true t448 t449))) else (laws_FnMoves.j0 k t445 t451 true t448 t449)) else (laws_FnMoves.j0 k t445 t451 true t448 t449)) else (laws_FnMoves.j0 k t445 t451 true t448 t449))) = some r := H
    have A6 := Aside0.mk A60
    clear A60
    replace H := Option.bind_eq_some_iff.mp H
    obtain ⟨⟨t459, t460⟩, A70, H⟩ := H
    replace H : (if t454 = true then (if t458 = true then (if t460 = true then ((impl_IsArrangement.f k t445 t451).bind fun t463 => (if t463 = true then ((laws_same.f k t455 t459).bind fun t464 => (if t464 = true then (laws_FnMoves.j0 k t445 t451 ((t451.length : Int) != (t445.length : Int)) t448 t449) else (laws_FnMoves.j0 k t445 t451 true t448 t449))) else (laws_FnMoves.j0 k t445 t451 true t448 t449))) else (laws_FnMoves.j0 k t445 t451 true t448 t449)) else (laws_FnMoves.j0 k t445 t451 true t448 t449)) else (laws_FnMoves.j0 k t445 t451 true t448 t449)) = some r := H
    have A7 := Aside0.mk A70
    clear A70
    have HC8 := Aside0.mk H
    clear H
    go_enter Try.func14, Try.ntmps14
    go_upto_region 8 with (first | ((with_reducible refine gate_callee (f := 53) rfl ?_); refine goesL_ (some 19) rfl rfl Try.func53 (by kernel_rfl) rfl #[.slice A0 l0.length c0, .int .i64 0, .int .i64 9] rfl (by (try simp only [List.map_toArray, List.map_cons, List.map_nil]); first | done | rfl | (simp only [List.length_drop, List.length_take]; rfl)) ?_; (with_reducible refine (spec_MakePacket.calls k _ _ l0 0 9 t445 _ ?side1 ?side2 A3.out).mono ?_); (case side1 => repeat (first | exact HR0.out | (with_reducible refine Kd.C_alloc ?_ _) | (with_reducible refine Kd.C_drewN ?_ _) | (with_reducible refine Kd.C_drew ?_))); (case side2 => exact HC0.out); rintro e w9 ⟨v446, rfl, ho0, hb⟩; refine ⟨_, rfl, ?_⟩; have n0_ := Aside0.mk (Kd.R_lower ho0 (below_size (by repeat (first | (with_reducible first | exact HB.out | apply below_alloc | apply pw_below_drewN | apply below_drew1) | exact HB.out)))); have n1_ := Aside0.mk (below_step (by repeat (first | (with_reducible first | exact HB.out | apply below_alloc | apply pw_below_drewN | apply below_drew1) | exact HB.out)) hb); clear HB; have HO447 := n0_; have HB := n1_; clear n0_ n1_; (try clear hb); (try clear hb2); (try clear hk); (try clear hi); (try clear ho0); obtain ⟨Ao10, co10, eo10⟩ := Kd.R_slice HO447.out; subst eo10) | ((with_reducible refine gate_callee (f := 57) rfl ?_); refine goesL_ (some 23) rfl rfl Try.func57 (by kernel_rfl) rfl #[.slice A0 l0.length c0, .int .i64 30, .int .i64 (t445.length : Int)] rfl (by (try simp only [List.map_toArray, List.map_cons, List.map_nil]); first | done | rfl | (simp only [List.length_drop, List.length_take]; rfl)) ?_; (with_reducible refine (spec_MakeMove.calls k _ _ l0 30 (t445.length : Int) t448 t449 _ ?side1 ?side2 A4.out).mono ?_); (case side1 => repeat (first | exact (Kd.C_below HR0.out HB.out) | (with_reducible refine Kd.C_alloc ?_ _) | (with_reducible refine Kd.C_drewN ?_ _) | (with_reducible refine Kd.C_drew ?_))); (case side2 => exact HC0.out); rintro e w11 ⟨rfl, hb⟩; refine ⟨_, rfl, ?_⟩; have n0_ := Aside0.mk (Kd.R_below (by (with_reducible repeat (first | apply Kd.R_alloc | apply Kd.R_drewN | apply Kd.R_drew)); exact HO447.out) hb); have n1_ := Aside0.mk (below_step (by repeat (first | (with_reducible first | exact HB.out | apply below_alloc | apply pw_below_drewN | apply below_drew1) | exact HB.out)) hb); clear HO447; clear HB; have HO447 := n0_; have HB := n1_; clear n0_ n1_; (try clear hb); (try clear hb2); (try clear hk); (try clear hi)) | ((with_reducible refine gate_dst (N := 4) rfl ?_); (try (refine gate_guard (by rfl) ?_; dsimp only)); refine box_event ?hg (N := 4) ?hd (cs := #[.int .i64 0, .int .i64 0]) (t := 50) ?hr ?_; (case hd => rfl); (case hg => rfl); (case hr => first | (go_simp; done) | (go_simp; rfl)); intro gb450 hg w12 hbox hb; have n0_ := Aside0.mk (Kd.R_below (by (with_reducible repeat (first | apply Kd.R_alloc | apply Kd.R_drewN | apply Kd.R_drew)); exact HO447.out) hb); have n1_ := Aside0.mk (below_step (by repeat (first | (with_reducible first | exact HB.out | apply below_alloc | apply pw_below_drewN | apply below_drew1) | exact HB.out)) hb); have n2_ := Aside0.mk (hbox); have n3_ := Aside0.mk ((by rw [hg]; exact (below_size (by repeat (first | (with_reducible first | exact HB.out | apply below_alloc | apply pw_below_drewN | apply below_drew1) | exact HB.out))) : w.heap.size ≤ gb450)); have n4_ := Aside0.mk ((by rw [hg]; exact (below_size (by repeat (first | (with_reducible first | exact HB.out | apply below_alloc | apply pw_below_drewN | apply below_drew1) | exact HB.out))) : w.heap.size ≤ gb450)); clear HO447; clear HB; have HO447 := n0_; have HB := n1_; have BK450 := n2_; have GW450 := n3_; have GE450 := n4_; clear n0_ n1_ n2_ n3_ n4_; clear hb hbox hg; have hcz13_0 : w12.cell? ⟨gb450, 0, none⟩ = some (.int .i64 0) := (blk_cell BK450.out 0).trans rfl; have hcz13_1 : w12.cell? ⟨gb450, 1, none⟩ = some (.int .i64 0) := (blk_cell BK450.out 1).trans rfl; have hfz13_0 := blk_frozen BK450.out 0; have hfz13_1 := blk_frozen BK450.out 1) | ((with_reducible refine gate_callee (f := 55) rfl ?_); refine goesL_ (some 27) rfl rfl Try.func55 (by kernel_rfl) rfl #[.slice Ao10 t445.length co10, .agg #[.int .i64 t448, .int .i64 t449]] rfl (by (try simp only [List.map_toArray, List.map_cons, List.map_nil]); first | done | rfl | (simp only [List.length_drop, List.length_take]; rfl)) ?_; (with_reducible refine (impl_Perform.calls k _ _ t445 t448 t449 t451 t454 _ ?side1 ?side2 A5.out).mono ?_); (case side1 => refine (Kd.R_reads' (e := 3) (base := w.heap.size) (ok := fun k_ => True) (n := t445.length) (c := co10) ?_).2.2; exact (by (with_reducible repeat (first | apply Kd.R_alloc | apply Kd.R_drewN | apply Kd.R_drew)); exact (Kd.R_mono (Kd.R_far (p := ⟨gb450, 1, none⟩) (Kd.R_far (p := ⟨gb450, 0, none⟩) (Kd.R_types HO447.out BK450.out (by decide)) (fun _ hk => hk.2) (.int .i64 t448)) (fun _ hk => hk.2) (.int .i64 t449)) (fun _ h_ => h_.1)))); (case side2 => exact (Kd.R_reads' HO447.out).2.1); rintro e w14 ⟨v452, rfl, ho0, hb⟩; refine ⟨_, rfl, ?_⟩; have n0_ := Aside0.mk (Kd.R_elder' (by (with_reducible repeat (first | apply Kd.R_alloc | apply Kd.R_drewN | apply Kd.R_drew)); exact (Kd.R_mono (Kd.R_far (p := ⟨gb450, 1, none⟩) (Kd.R_far (p := ⟨gb450, 0, none⟩) (Kd.R_types HO447.out BK450.out (by decide)) (fun _ hk => hk.2) (.int .i64 t448)) (fun _ hk => hk.2) (.int .i64 t449)) (fun _ h_ => h_.1))) (Kd.R_base ho0) hb); have n1_ := Aside0.mk (Kd.R_lower (Kd.R_new' ho0 (Kd.R_lt (by (with_reducible repeat (first | apply Kd.R_alloc | apply Kd.R_drewN | apply Kd.R_drew)); exact (Kd.R_mono (Kd.R_far (p := ⟨gb450, 1, none⟩) (Kd.R_far (p := ⟨gb450, 0, none⟩) (Kd.R_types HO447.out BK450.out (by decide)) (fun _ hk => hk.2) (.int .i64 t448)) (fun _ hk => hk.2) (.int .i64 t449)) (fun _ h_ => h_.1))))) (below_size (by repeat (first | (with_reducible first | exact HB.out | apply below_alloc | apply pw_below_drewN | apply below_drew1 | refine below_set ?_ GE450.out) | exact HB.out)))); have n2_ := Aside0.mk (blk_below (g := gb450) (o := .cells #[.int .i64 t448, .int .i64 t449] 50 (0, 0)) (by (with_reducible repeat (first | refine blk_drewN ?_ _ | refine blk_drew ?_ | refine blk_alloc ?_ _)); refine blk_put (cs := #[.int .i64 t448, .int .i64 0]) ?_ 1 _ rfl; (with_reducible repeat (first | refine blk_drewN ?_ _ | refine blk_drew ?_ | refine blk_alloc ?_ _)); refine blk_put (cs := #[.int .i64 0, .int .i64 0]) ?_ 0 _ rfl; (with_reducible repeat (first | refine blk_drewN ?_ _ | refine blk_drew ?_ | refine blk_alloc ?_ _)); exact BK450.out) hb); have n3_ := Aside0.mk (below_step (by repeat (first | (with_reducible first | exact HB.out | apply below_alloc | apply pw_below_drewN | apply below_drew1 | refine below_set ?_ GE450.out) | exact HB.out)) hb); clear HO447; clear BK450; clear HB; have HO447 := n0_; have HO453 := n1_; have BK450 := n2_; have HB := n3_; clear n0_ n1_ n2_ n3_; (try clear hb); (try clear hb2); (try clear hk); (try clear hi); (try clear ho0); have hcz15_0 : w14.cell? ⟨gb450, 0, none⟩ = some (.int .i64 t448) := (blk_cell BK450.out 0).trans rfl; have hcz15_1 : w14.cell? ⟨gb450, 1, none⟩ = some (.int .i64 t449) := (blk_cell BK450.out 1).trans rfl; have hfz15_0 := blk_frozen BK450.out 0; have hfz15_1 := blk_frozen BK450.out 1) | ((with_reducible refine gate_callee (f := 58) rfl ?_); refine goesL_ (some 34) rfl rfl Try.func58 (by kernel_rfl) rfl #[.int .i64 (t445.length : Int), .agg #[.int .i64 t448, .int .i64 t449]] rfl (by (try simp only [List.map_toArray, List.map_cons, List.map_nil]); first | done | rfl | (simp only [List.length_drop, List.length_take]; rfl)) ?_; (with_reducible refine (impl_PermOfMove.calls k (t445.length : Int) t448 t449 t455 t458 _ A6.out).mono ?_); rintro e w16 ⟨v456, rfl, ho0, hb⟩; refine ⟨_, rfl, ?_⟩; have n0_ := Aside0.mk (Kd.R_elder' (by (with_reducible repeat (first | apply Kd.R_alloc | apply Kd.R_drewN | apply Kd.R_drew)); exact HO447.out) (Kd.R_base ho0) hb); have n1_ := Aside0.mk (Kd.R_elder' (by (with_reducible repeat (first | apply Kd.R_alloc | apply Kd.R_drewN | apply Kd.R_drew)); exact HO453.out) (Kd.R_base ho0) hb); have n2_ := Aside0.mk (Kd.R_lower (Kd.R_new' (Kd.R_new' ho0 (Kd.R_lt (by (with_reducible repeat (first | apply Kd.R_alloc | apply Kd.R_drewN | apply Kd.R_drew)); exact HO447.out))) (Kd.R_lt (by (with_reducible repeat (first | apply Kd.R_alloc | apply Kd.R_drewN | apply Kd.R_drew)); exact HO453.out))) (below_size (by repeat (first | (with_reducible first | exact HB.out | apply below_alloc | apply pw_below_drewN | apply below_drew1 | refine below_set ?_ GE450.out) | exact HB.out)))); have n3_ := Aside0.mk (blk_below (g := gb450) (o := .cells #[.int .i64 t448, .int .i64 t449] 50 (0, 0)) (by (with_reducible repeat (first | refine blk_drewN ?_ _ | refine blk_drew ?_ | refine blk_alloc ?_ _)); exact BK450.out) hb); have n4_ := Aside0.mk (below_step (by repeat (first | (with_reducible first | exact HB.out | apply below_alloc | apply pw_below_drewN | apply below_drew1 | refine below_set ?_ GE450.out) | exact HB.out)) hb); clear HO447; clear HO453; clear BK450; clear HB; have HO447 := n0_; have HO453 := n1_; have HO457 := n2_; have BK450 := n3_; have HB := n4_; clear n0_ n1_ n2_ n3_ n4_; (try clear hb); (try clear hb2); (try clear hk); (try clear hi); (try clear ho0); obtain ⟨Ao17, co17, eo17⟩ := Kd.R_slice HO453.out; subst eo17) | ((with_reducible refine gate_callee (f := 31) rfl ?_); refine goesL_ (some 40) rfl rfl Try.func31 (by kernel_rfl) rfl #[.slice Ao10 t445.length co10, .slice Ao17 t451.length co17] rfl (by (try simp only [List.map_toArray, List.map_cons, List.map_nil]); first | done | rfl | (simp only [List.length_drop, List.length_take]; rfl)) ?_; (with_reducible refine (impl_PermBetween.calls k _ _ t445 _ _ t451 t459 t460 _ ?side1 ?side2 ?side3 ?side4 A7.out).mono ?_); (case side1 => repeat (first | exact (Kd.R_reads' HO447.out).2.2 | (with_reducible refine Kd.C_alloc ?_ _) | (with_reducible refine Kd.C_drewN ?_ _) | (with_reducible refine Kd.C_drew ?_))); (case side2 => exact (Kd.R_reads' HO447.out).2.1); (case side3 => repeat (first | exact (Kd.R_reads' HO453.out).2.2 | (with_reducible refine Kd.C_alloc ?_ _) | (with_reducible refine Kd.C_drewN ?_ _) | (with_reducible refine Kd.C_drew ?_))); (case side4 => exact (Kd.R_reads' HO453.out).2.1); rintro e w18 ⟨v461, rfl, ho0, hb⟩; refine ⟨_, rfl, ?_⟩; have n0_ := Aside0.mk (Kd.R_elder' (by (with_reducible repeat (first | apply Kd.R_alloc | apply Kd.R_drewN | apply Kd.R_drew)); exact HO447.out) (Kd.R_base ho0) hb); have n1_ := Aside0.mk (Kd.R_elder' (by (with_reducible repeat (first | apply Kd.R_alloc | apply Kd.R_drewN | apply Kd.R_drew)); exact HO453.out) (Kd.R_base ho0) hb); have n2_ := Aside0.mk (Kd.R_elder' (by (with_reducible repeat (first | apply Kd.R_alloc | apply Kd.R_drewN | apply Kd.R_drew)); exact HO457.out) (Kd.R_base ho0) hb); have n3_ := Aside0.mk (Kd.R_lower (Kd.R_new' (Kd.R_new' (Kd.R_new' ho0 (Kd.R_lt (by (with_reducible repeat (first | apply Kd.R_alloc | apply Kd.R_drewN | apply Kd.R_drew)); exact HO447.out))) (Kd.R_lt (by (with_reducible repeat (first | apply Kd.R_alloc | apply Kd.R_drewN | apply Kd.R_drew)); exact HO453.out))) (Kd.R_lt (by (with_reducible repeat (first | apply Kd.R_alloc | apply Kd.R_drewN | apply Kd.R_drew)); exact HO457.out))) (below_size (by repeat (first | (with_reducible first | exact HB.out | apply below_alloc | apply pw_below_drewN | apply below_drew1 | refine below_set ?_ GE450.out) | exact HB.out)))); have n4_ := Aside0.mk (blk_below (g := gb450) (o := .cells #[.int .i64 t448, .int .i64 t449] 50 (0, 0)) (by (with_reducible repeat (first | refine blk_drewN ?_ _ | refine blk_drew ?_ | refine blk_alloc ?_ _)); exact BK450.out) hb); have n5_ := Aside0.mk (below_step (by repeat (first | (with_reducible first | exact HB.out | apply below_alloc | apply pw_below_drewN | apply below_drew1 | refine below_set ?_ GE450.out) | exact HB.out)) hb); clear HO447; clear HO453; clear HO457; clear BK450; clear HB; have HO447 := n0_; have HO453 := n1_; have HO457 := n2_; have HO462 := n3_; have BK450 := n4_; have HB := n5_; clear n0_ n1_ n2_ n3_ n4_ n5_; (try clear hb); (try clear hb2); (try clear hk); (try clear hi); (try clear ho0)))
    (try simp only [Act.put, List.setIfInBounds_toArray, List.set_cons_zero, List.set_cons_succ])
    go_cut [71] (fun v71 wc => ∃ (kq : Nat) (x71_7 : Bool), v71 = .bool x71_7 ∧ Aside0 (laws_FnMoves.j0 kq t445 t451 x71_7 t448 t449 = some r) ∧ Aside0 (kq ≤ k) ∧ Aside0 (Kd.R (Kd.int .i64) 3 wc w.heap.size (fun k_ => some k_ ≠ ((.slice Ao17 t451.length co17) : Value).ownBlock) (.slice Ao10 t445.length co10) t445) ∧ Aside0 (Kd.R (Kd.int .i64) 3 wc w.heap.size (fun k_ => some k_ ≠ ((.slice Ao10 t445.length co10) : Value).ownBlock) (.slice Ao17 t451.length co17) t451) ∧ Aside0 (wc.heap[gb450]? = some (.cells #[.int .i64 t448, .int .i64 t449] 50 (0, 0))) ∧ Aside0 (Below w.heap.size w wc))
    case first =>
      have H := HC8.out
      clear HC8
      by_cases c19 : t454 = true
      · subst c19
        rw [if_pos rfl] at H
        by_cases c20 : t458 = true
        · subst c20
          rw [if_pos rfl] at H
          by_cases c21 : t460 = true
          · subst c21
            rw [if_pos rfl] at H
            replace H := Option.bind_eq_some_iff.mp H
            obtain ⟨t463, A220, H⟩ := H
            replace H : (if t463 = true then ((laws_same.f k t455 t459).bind fun t464 => (if t464 = true then (laws_FnMoves.j0 k t445 t451 ((t451.length : Int) != (t445.length : Int)) t448 t449) else (laws_FnMoves.j0 k t445 t451 true t448 t449))) else (laws_FnMoves.j0 k t445 t451 true t448 t449)) = some r := H
            have A22 := Aside0.mk A220
            clear A220
            by_cases c23 : t463 = true
            · subst c23
              rw [if_pos rfl] at H
              replace H := Option.bind_eq_some_iff.mp H
              obtain ⟨t464, A240, H⟩ := H
              replace H : (if t464 = true then (laws_FnMoves.j0 k t445 t451 ((t451.length : Int) != (t445.length : Int)) t448 t449) else (laws_FnMoves.j0 k t445 t451 true t448 t449)) = some r := H
              have A24 := Aside0.mk A240
              clear A240
              by_cases c25 : t464 = true
              · subst c25
                rw [if_pos rfl] at H
                have H' := Aside0.mk H
                clear H
                go_wp2_with (first | (go_at_call 59; (with_reducible refine (impl_IsArrangement.calls k _ _ t445 _ _ t451 true _ ?side1 ?side2 ?side3 ?side4 A22.out).mono ?_); (case side1 => repeat (first | exact (Kd.R_reads' HO447.out).2.2 | (with_reducible refine Kd.C_alloc ?_ _) | (with_reducible refine Kd.C_drewN ?_ _) | (with_reducible refine Kd.C_drew ?_))); (case side2 => exact (Kd.R_reads' HO447.out).2.1); (case side3 => repeat (first | exact (Kd.R_reads' HO453.out).2.2 | (with_reducible refine Kd.C_alloc ?_ _) | (with_reducible refine Kd.C_drewN ?_ _) | (with_reducible refine Kd.C_drew ?_))); (case side4 => exact (Kd.R_reads' HO453.out).2.1); rintro e w26 ⟨rfl, hb⟩; have n0_ := Aside0.mk (Kd.R_below (by (with_reducible repeat (first | apply Kd.R_alloc | apply Kd.R_drewN | apply Kd.R_drew)); exact HO447.out) hb); have n1_ := Aside0.mk (Kd.R_below (by (with_reducible repeat (first | apply Kd.R_alloc | apply Kd.R_drewN | apply Kd.R_drew)); exact HO453.out) hb); have n2_ := Aside0.mk (Kd.R_below (by (with_reducible repeat (first | apply Kd.R_alloc | apply Kd.R_drewN | apply Kd.R_drew)); exact HO457.out) hb); have n3_ := Aside0.mk (Kd.R_below (by (with_reducible repeat (first | apply Kd.R_alloc | apply Kd.R_drewN | apply Kd.R_drew)); exact HO462.out) hb); have n4_ := Aside0.mk (blk_below (g := gb450) (o := .cells #[.int .i64 t448, .int .i64 t449] 50 (0, 0)) (by (with_reducible repeat (first | refine blk_drewN ?_ _ | refine blk_drew ?_ | refine blk_alloc ?_ _)); exact BK450.out) hb); have n5_ := Aside0.mk (below_step (by repeat (first | (with_reducible first | exact HB.out | apply below_alloc | apply pw_below_drewN | apply below_drew1 | refine below_set ?_ GE450.out) | exact HB.out)) hb); clear HO447; clear HO453; clear HO457; clear HO462; clear BK450; clear HB; have HO447 := n0_; have HO453 := n1_; have HO457 := n2_; have HO462 := n3_; have BK450 := n4_; have HB := n5_; clear n0_ n1_ n2_ n3_ n4_ n5_; (try clear hb); (try clear hb2); (try clear hk); (try clear hi); obtain ⟨Ao27, co27, eo27⟩ := Kd.R_slice HO457.out; subst eo27; obtain ⟨Ao28, co28, eo28⟩ := Kd.R_slice HO462.out; subst eo28) | (go_at_call 40; (with_reducible refine (laws_same.calls k _ _ t455 _ _ t459 true _ ?side1 ?side2 ?side3 ?side4 A24.out).mono ?_); (case side1 => repeat (first | exact (Kd.R_reads' HO457.out).2.2 | (with_reducible refine Kd.C_alloc ?_ _) | (with_reducible refine Kd.C_drewN ?_ _) | (with_reducible refine Kd.C_drew ?_))); (case side2 => exact (Kd.R_reads' HO457.out).2.1); (case side3 => repeat (first | exact (Kd.R_reads' HO462.out).2.2 | (with_reducible refine Kd.C_alloc ?_ _) | (with_reducible refine Kd.C_drewN ?_ _) | (with_reducible refine Kd.C_drew ?_))); (case side4 => exact (Kd.R_reads' HO462.out).2.1); rintro e w' ⟨rfl, ⟨nd, rfl⟩⟩))
                go_meet
                case rel => exact ⟨_, (((t451.length : Int) != (t445.length : Int))), (by first | rfl | (simp; done) | (simp [*]; done)), H', ⟨by first | omega | exact Nat.le_refl _⟩, ⟨by (with_reducible repeat (first | apply Kd.R_alloc | apply Kd.R_drewN | apply Kd.R_drew)); exact Kd.R_mono HO447.out (fun _ hk => hk.1.1.2)⟩, ⟨by (with_reducible repeat (first | apply Kd.R_alloc | apply Kd.R_drewN | apply Kd.R_drew)); exact Kd.R_mono HO453.out (fun _ hk => hk.1.1.2)⟩, ⟨by (with_reducible repeat (first | refine blk_drewN ?_ _ | refine blk_drew ?_ | refine blk_alloc ?_ _)); exact BK450.out⟩, ⟨by repeat (first | (with_reducible first | exact HB.out | apply below_alloc | apply pw_below_drewN | apply below_drew1 | refine below_set ?_ GE450.out) | exact HB.out)⟩⟩
              · replace c25 := Bool.eq_false_iff.mpr c25
                subst c25
                rw [if_neg (show ¬ (false = true) by decide)] at H
                have H' := Aside0.mk H
                clear H
                go_wp2_with (first | (go_at_call 59; (with_reducible refine (impl_IsArrangement.calls k _ _ t445 _ _ t451 true _ ?side1 ?side2 ?side3 ?side4 A22.out).mono ?_); (case side1 => repeat (first | exact (Kd.R_reads' HO447.out).2.2 | (with_reducible refine Kd.C_alloc ?_ _) | (with_reducible refine Kd.C_drewN ?_ _) | (with_reducible refine Kd.C_drew ?_))); (case side2 => exact (Kd.R_reads' HO447.out).2.1); (case side3 => repeat (first | exact (Kd.R_reads' HO453.out).2.2 | (with_reducible refine Kd.C_alloc ?_ _) | (with_reducible refine Kd.C_drewN ?_ _) | (with_reducible refine Kd.C_drew ?_))); (case side4 => exact (Kd.R_reads' HO453.out).2.1); rintro e w29 ⟨rfl, hb⟩; have n0_ := Aside0.mk (Kd.R_below (by (with_reducible repeat (first | apply Kd.R_alloc | apply Kd.R_drewN | apply Kd.R_drew)); exact HO447.out) hb); have n1_ := Aside0.mk (Kd.R_below (by (with_reducible repeat (first | apply Kd.R_alloc | apply Kd.R_drewN | apply Kd.R_drew)); exact HO453.out) hb); have n2_ := Aside0.mk (Kd.R_below (by (with_reducible repeat (first | apply Kd.R_alloc | apply Kd.R_drewN | apply Kd.R_drew)); exact HO457.out) hb); have n3_ := Aside0.mk (Kd.R_below (by (with_reducible repeat (first | apply Kd.R_alloc | apply Kd.R_drewN | apply Kd.R_drew)); exact HO462.out) hb); have n4_ := Aside0.mk (blk_below (g := gb450) (o := .cells #[.int .i64 t448, .int .i64 t449] 50 (0, 0)) (by (with_reducible repeat (first | refine blk_drewN ?_ _ | refine blk_drew ?_ | refine blk_alloc ?_ _)); exact BK450.out) hb); have n5_ := Aside0.mk (below_step (by repeat (first | (with_reducible first | exact HB.out | apply below_alloc | apply pw_below_drewN | apply below_drew1 | refine below_set ?_ GE450.out) | exact HB.out)) hb); clear HO447; clear HO453; clear HO457; clear HO462; clear BK450; clear HB; have HO447 := n0_; have HO453 := n1_; have HO457 := n2_; have HO462 := n3_; have BK450 := n4_; have HB := n5_; clear n0_ n1_ n2_ n3_ n4_ n5_; (try clear hb); (try clear hb2); (try clear hk); (try clear hi); obtain ⟨Ao30, co30, eo30⟩ := Kd.R_slice HO457.out; subst eo30; obtain ⟨Ao31, co31, eo31⟩ := Kd.R_slice HO462.out; subst eo31) | (go_at_call 40; (with_reducible refine (laws_same.calls k _ _ t455 _ _ t459 false _ ?side1 ?side2 ?side3 ?side4 A24.out).mono ?_); (case side1 => repeat (first | exact (Kd.R_reads' HO457.out).2.2 | (with_reducible refine Kd.C_alloc ?_ _) | (with_reducible refine Kd.C_drewN ?_ _) | (with_reducible refine Kd.C_drew ?_))); (case side2 => exact (Kd.R_reads' HO457.out).2.1); (case side3 => repeat (first | exact (Kd.R_reads' HO462.out).2.2 | (with_reducible refine Kd.C_alloc ?_ _) | (with_reducible refine Kd.C_drewN ?_ _) | (with_reducible refine Kd.C_drew ?_))); (case side4 => exact (Kd.R_reads' HO462.out).2.1); rintro e w' ⟨rfl, ⟨nd, rfl⟩⟩))
                go_meet
                case rel => exact ⟨_, (true), (by first | rfl | (simp; done) | (simp [*]; done)), H', ⟨by first | omega | exact Nat.le_refl _⟩, ⟨by (with_reducible repeat (first | apply Kd.R_alloc | apply Kd.R_drewN | apply Kd.R_drew)); exact Kd.R_mono HO447.out (fun _ hk => hk.1.1.2)⟩, ⟨by (with_reducible repeat (first | apply Kd.R_alloc | apply Kd.R_drewN | apply Kd.R_drew)); exact Kd.R_mono HO453.out (fun _ hk => hk.1.1.2)⟩, ⟨by (with_reducible repeat (first | refine blk_drewN ?_ _ | refine blk_drew ?_ | refine blk_alloc ?_ _)); exact BK450.out⟩, ⟨by repeat (first | (with_reducible first | exact HB.out | apply below_alloc | apply pw_below_drewN | apply below_drew1 | refine below_set ?_ GE450.out) | exact HB.out)⟩⟩
            · replace c23 := Bool.eq_false_iff.mpr c23
              subst c23
              rw [if_neg (show ¬ (false = true) by decide)] at H
              have H' := Aside0.mk H
              clear H
              go_wp2_with (first | (go_at_call 59; (with_reducible refine (impl_IsArrangement.calls k _ _ t445 _ _ t451 false _ ?side1 ?side2 ?side3 ?side4 A22.out).mono ?_); (case side1 => repeat (first | exact (Kd.R_reads' HO447.out).2.2 | (with_reducible refine Kd.C_alloc ?_ _) | (with_reducible refine Kd.C_drewN ?_ _) | (with_reducible refine Kd.C_drew ?_))); (case side2 => exact (Kd.R_reads' HO447.out).2.1); (case side3 => repeat (first | exact (Kd.R_reads' HO453.out).2.2 | (with_reducible refine Kd.C_alloc ?_ _) | (with_reducible refine Kd.C_drewN ?_ _) | (with_reducible refine Kd.C_drew ?_))); (case side4 => exact (Kd.R_reads' HO453.out).2.1); rintro e w32 ⟨rfl, hb⟩; have n0_ := Aside0.mk (Kd.R_below (by (with_reducible repeat (first | apply Kd.R_alloc | apply Kd.R_drewN | apply Kd.R_drew)); exact HO447.out) hb); have n1_ := Aside0.mk (Kd.R_below (by (with_reducible repeat (first | apply Kd.R_alloc | apply Kd.R_drewN | apply Kd.R_drew)); exact HO453.out) hb); have n2_ := Aside0.mk (Kd.R_below (by (with_reducible repeat (first | apply Kd.R_alloc | apply Kd.R_drewN | apply Kd.R_drew)); exact HO457.out) hb); have n3_ := Aside0.mk (Kd.R_below (by (with_reducible repeat (first | apply Kd.R_alloc | apply Kd.R_drewN | apply Kd.R_drew)); exact HO462.out) hb); have n4_ := Aside0.mk (blk_below (g := gb450) (o := .cells #[.int .i64 t448, .int .i64 t449] 50 (0, 0)) (by (with_reducible repeat (first | refine blk_drewN ?_ _ | refine blk_drew ?_ | refine blk_alloc ?_ _)); exact BK450.out) hb); have n5_ := Aside0.mk (below_step (by repeat (first | (with_reducible first | exact HB.out | apply below_alloc | apply pw_below_drewN | apply below_drew1 | refine below_set ?_ GE450.out) | exact HB.out)) hb); clear HO447; clear HO453; clear HO457; clear HO462; clear BK450; clear HB; have HO447 := n0_; have HO453 := n1_; have HO457 := n2_; have HO462 := n3_; have BK450 := n4_; have HB := n5_; clear n0_ n1_ n2_ n3_ n4_ n5_; (try clear hb); (try clear hb2); (try clear hk); (try clear hi)))
              go_meet
              case rel => exact ⟨_, (true), (by first | rfl | (simp; done) | (simp [*]; done)), H', ⟨by first | omega | exact Nat.le_refl _⟩, ⟨by (with_reducible repeat (first | apply Kd.R_alloc | apply Kd.R_drewN | apply Kd.R_drew)); exact Kd.R_mono HO447.out (fun _ hk => hk.1.1.2)⟩, ⟨by (with_reducible repeat (first | apply Kd.R_alloc | apply Kd.R_drewN | apply Kd.R_drew)); exact Kd.R_mono HO453.out (fun _ hk => hk.1.1.2)⟩, ⟨by (with_reducible repeat (first | refine blk_drewN ?_ _ | refine blk_drew ?_ | refine blk_alloc ?_ _)); exact BK450.out⟩, ⟨by repeat (first | (with_reducible first | exact HB.out | apply below_alloc | apply pw_below_drewN | apply below_drew1 | refine below_set ?_ GE450.out) | exact HB.out)⟩⟩
          · replace c21 := Bool.eq_false_iff.mpr c21
            subst c21
            rw [if_neg (show ¬ (false = true) by decide)] at H
            have H' := Aside0.mk H
            clear H
            go_wp2
            go_meet
            case rel => exact ⟨_, (true), (by first | rfl | (simp; done) | (simp [*]; done)), H', ⟨by first | omega | exact Nat.le_refl _⟩, ⟨by (with_reducible repeat (first | apply Kd.R_alloc | apply Kd.R_drewN | apply Kd.R_drew)); exact Kd.R_mono HO447.out (fun _ hk => hk.1.1.2)⟩, ⟨by (with_reducible repeat (first | apply Kd.R_alloc | apply Kd.R_drewN | apply Kd.R_drew)); exact Kd.R_mono HO453.out (fun _ hk => hk.1.1.2)⟩, ⟨by (with_reducible repeat (first | refine blk_drewN ?_ _ | refine blk_drew ?_ | refine blk_alloc ?_ _)); exact BK450.out⟩, ⟨by repeat (first | (with_reducible first | exact HB.out | apply below_alloc | apply pw_below_drewN | apply below_drew1 | refine below_set ?_ GE450.out) | exact HB.out)⟩⟩
        · replace c20 := Bool.eq_false_iff.mpr c20
          subst c20
          rw [if_neg (show ¬ (false = true) by decide)] at H
          have H' := Aside0.mk H
          clear H
          go_wp2
          go_meet
          case rel => exact ⟨_, (true), (by first | rfl | (simp; done) | (simp [*]; done)), H', ⟨by first | omega | exact Nat.le_refl _⟩, ⟨by (with_reducible repeat (first | apply Kd.R_alloc | apply Kd.R_drewN | apply Kd.R_drew)); exact Kd.R_mono HO447.out (fun _ hk => hk.1.1.2)⟩, ⟨by (with_reducible repeat (first | apply Kd.R_alloc | apply Kd.R_drewN | apply Kd.R_drew)); exact Kd.R_mono HO453.out (fun _ hk => hk.1.1.2)⟩, ⟨by (with_reducible repeat (first | refine blk_drewN ?_ _ | refine blk_drew ?_ | refine blk_alloc ?_ _)); exact BK450.out⟩, ⟨by repeat (first | (with_reducible first | exact HB.out | apply below_alloc | apply pw_below_drewN | apply below_drew1 | refine below_set ?_ GE450.out) | exact HB.out)⟩⟩
      · replace c19 := Bool.eq_false_iff.mpr c19
        subst c19
        rw [if_neg (show ¬ (false = true) by decide)] at H
        have H' := Aside0.mk H
        clear H
        go_wp2
        go_meet
        case rel => exact ⟨_, (true), (by first | rfl | (simp; done) | (simp [*]; done)), H', ⟨by first | omega | exact Nat.le_refl _⟩, ⟨by (with_reducible repeat (first | apply Kd.R_alloc | apply Kd.R_drewN | apply Kd.R_drew)); exact Kd.R_mono HO447.out (fun _ hk => hk.1.1.2)⟩, ⟨by (with_reducible repeat (first | apply Kd.R_alloc | apply Kd.R_drewN | apply Kd.R_drew)); exact Kd.R_mono HO453.out (fun _ hk => hk.1.1.2)⟩, ⟨by (with_reducible repeat (first | refine blk_drewN ?_ _ | refine blk_drew ?_ | refine blk_alloc ?_ _)); exact BK450.out⟩, ⟨by repeat (first | (with_reducible first | exact HB.out | apply below_alloc | apply pw_below_drewN | apply below_drew1 | refine below_set ?_ GE450.out) | exact HB.out)⟩⟩
    case rest =>
      clear HC8
      try clear c1
      try clear c2
      try clear c2b0
      try clear c2b1
      try clear p2
      try clear c3
      try clear c5
      try clear c14
      try clear c19
      try clear c20
      try clear c21
      try clear c23
      try clear c25
      try clear c31
      try clear hcz13_0
      try clear hcz13_1
      try clear hcz15_0
      try clear hcz15_1
      try clear hfz13_0
      try clear hfz13_1
      try clear hfz15_0
      try clear hfz15_1
      obtain ⟨kq, x71_7, rfl, HA, HJ7, HO_3, HO_5, BK450, HB⟩ := hcut
      cases kq with
      | zero => exact absurd HA.out (by simp [laws_FnMoves.j0])
      | succ kj7 =>
        have H := HA.out
        clear HA
        simp only [laws_FnMoves.j0] at H
        by_cases c33 : x71_7 = true
        · subst c33
          rw [if_pos rfl] at H
          obtain rfl := Option.some.inj H
          go_wp2
          go_ret
          exact ⟨by first | rfl | (simp [errW_none, errW_some] <;> rfl) | (simp [*, errW_none, errW_some] <;> rfl), by repeat (first | (with_reducible first | exact HB.out | apply below_alloc | apply pw_below_drewN | apply below_drew1 | refine below_set ?_ GE450.out) | exact HB.out)⟩
        · replace c33 := Bool.eq_false_iff.mpr c33
          subst c33
          rw [if_neg (show ¬ (false = true) by decide)] at H
          have H' := Aside0.mk H
          clear H
          go_wp2
          go_loopg [11, 74] kj7 (fun kq v11 v74 w' => ∃ (x11_2 : Int) (x74_2 : Int), v11 = .int .i64 x11_2 ∧ v74 = .int .i64 x74_2 ∧ Aside0 (laws_FnMoves.l0 kq t451 x11_2 t445 (t445.length : Int) x74_2 t448 t449 = some r) ∧ Aside0 (kq ≤ kj7) ∧ Aside0 (Kd.R (Kd.int .i64) 3 w' w.heap.size (fun k_ => some k_ ≠ ((.slice Ao10 t445.length co10) : Value).ownBlock) (.slice Ao17 t451.length co17) t451) ∧ Aside0 (Kd.R (Kd.int .i64) 3 w' w.heap.size (fun k_ => some k_ ≠ ((.slice Ao17 t451.length co17) : Value).ownBlock) (.slice Ao10 t445.length co10) t445) ∧ Aside0 (w'.heap[gb450]? = some (.cells #[.int .i64 t448, .int .i64 t449] 50 (0, 0))) ∧ Aside0 (Below w.heap.size w w'))
          case atStart => exact ⟨(0), (0), (by first | rfl | (simp; done) | (simp [*]; done)), (by first | rfl | (simp; done) | (simp [*]; done)), H', ⟨Nat.le_refl _⟩, ⟨by (with_reducible repeat (first | apply Kd.R_alloc | apply Kd.R_drewN | apply Kd.R_drew)); exact HO_5.out⟩, ⟨by (with_reducible repeat (first | apply Kd.R_alloc | apply Kd.R_drewN | apply Kd.R_drew)); exact HO_3.out⟩, ⟨by (with_reducible repeat (first | refine blk_drewN ?_ _ | refine blk_drew ?_ | refine blk_alloc ?_ _)); exact BK450.out⟩, ⟨by repeat (first | (with_reducible first | exact HB.out | apply below_alloc | apply pw_below_drewN | apply below_drew1 | refine below_set ?_ GE450.out) | exact HB.out)⟩⟩
          case round =>
            clear H'
            try clear c1
            try clear c2
            try clear c2b0
            try clear c2b1
            try clear p2
            try clear c3
            try clear c5
            try clear c14
            try clear c19
            try clear c20
            try clear c21
            try clear c23
            try clear c25
            try clear c31
            try clear c33
            try clear hcz13_0
            try clear hcz13_1
            try clear hcz15_0
            try clear hcz15_1
            try clear hfz13_0
            try clear hfz13_1
            try clear hfz15_0
            try clear hfz15_1
            try clear p2
            obtain ⟨x11_2, x74_2, rfl, rfl, HA, HK2, HO_5, HO_72, BK450, HB⟩ := hrel
            cases gk with
            | zero => exact absurd HA.out (by simp [laws_FnMoves.l0])
            | succ k2 =>
              have H := HA.out
              clear HA
              simp only [laws_FnMoves.l0] at H
              by_cases c34 : x74_2 < (t445.length : Int)
              · rw [if_pos c34] at H
                have c34b0 : decide (x74_2 < (t445.length : Int)) = true := decide_eq_true c34
                clear c34
                by_cases c35 : 0 ≤ x74_2
                · rw [if_pos c35] at H
                  have c35b0 : decide (0 ≤ x74_2) = true := decide_eq_true c35
                  clear c35
                  by_cases c36 : x74_2 < (t445.length : Int)
                  · rw [if_pos c36] at H
                    have c36b0 : decide (x74_2 < (t445.length : Int)) = true := decide_eq_true c36
                    clear c36
                    replace H := Option.bind_eq_some_iff.mp H
                    obtain ⟨t466, A370, H⟩ := H
                    replace H : ((impl_PositionOf.f t451 t466).bind fun t467 => (if t467 < 0 then (laws_FnMoves.j2 k2 t451 x11_2 x74_2 (rd t445 x74_2) t467 t445 (t445.length : Int) x74_2 true t448 t449) else (laws_FnMoves.j2 k2 t451 x11_2 x74_2 (rd t445 x74_2) t467 t445 (t445.length : Int) x74_2 (decide (t467 ≥ (t451.length : Int))) t448 t449))) = some r := H
                    have A37 := Aside0.mk A370
                    clear A370
                    replace H := Option.bind_eq_some_iff.mp H
                    obtain ⟨t467, A380, H⟩ := H
                    replace H : (if t467 < 0 then (laws_FnMoves.j2 k2 t451 x11_2 x74_2 (rd t445 x74_2) t467 t445 (t445.length : Int) x74_2 true t448 t449) else (laws_FnMoves.j2 k2 t451 x11_2 x74_2 (rd t445 x74_2) t467 t445 (t445.length : Int) x74_2 (decide (t467 ≥ (t451.length : Int))) t448 t449)) = some r := H
                    have A38 := Aside0.mk A380
                    clear A380
                    have HC39 := Aside0.mk H
                    clear H
                    have p465 : 0 ≤ (x74_2 : Int) := of_decide_eq_true (by first | (with_reducible assumption) | assumption)
                    have q465 : x74_2 < (t445.length : Int) := of_decide_eq_true (by first | (with_reducible assumption) | assumption)
                    obtain ⟨ad465, e465, hx465_0⟩ := Kd.at_int (Kd.R_reads' HO_72.out).2.2 x74_2 p465 q465
                    cases e465
                    replace p465 := eq_true p465
                    replace q465 := eq_true q465
                    go_upto_region 15 with (first | ((with_reducible refine gate_callee (f := 61) rfl ?_); refine goesL_ (some 81) rfl rfl Try.func61 (by kernel_rfl) rfl #[.int .i64 (rd t445 x74_2)] rfl (by (try simp only [List.map_toArray, List.map_cons, List.map_nil]); first | done | rfl | (simp only [List.length_drop, List.length_take]; rfl)) ?_; (with_reducible refine (impl_CardOf.calls (rd t445 x74_2) t466 _ A37.out).mono ?_); rintro e w' ⟨rfl, ⟨nd, rfl⟩⟩; refine ⟨_, rfl, ?_⟩) | ((with_reducible refine gate_callee (f := 60) rfl ?_); refine goesL_ (some 82) rfl rfl Try.func60 (by kernel_rfl) rfl #[.slice Ao17 t451.length co17, .int .i64 t466] rfl (by (try simp only [List.map_toArray, List.map_cons, List.map_nil]); first | done | rfl | (simp only [List.length_drop, List.length_take]; rfl)) ?_; (with_reducible refine (impl_PositionOf.calls _ _ t451 t466 t467 _ ?side1 ?side2 A38.out).mono ?_); (case side1 => repeat (first | exact (Kd.R_reads' HO_5.out).2.2 | (with_reducible refine Kd.C_alloc ?_ _) | (with_reducible refine Kd.C_drewN ?_ _) | (with_reducible refine Kd.C_drew ?_))); (case side2 => exact (Kd.R_reads' HO_5.out).2.1); rintro e w40 ⟨rfl, hb⟩; refine ⟨_, rfl, ?_⟩; have n0_ := Aside0.mk (Kd.R_below (by (with_reducible repeat (first | apply Kd.R_alloc | apply Kd.R_drewN | apply Kd.R_drew)); exact HO_5.out) hb); have n1_ := Aside0.mk (Kd.R_below (by (with_reducible repeat (first | apply Kd.R_alloc | apply Kd.R_drewN | apply Kd.R_drew)); exact HO_72.out) hb); have n2_ := Aside0.mk (blk_below (g := gb450) (o := .cells #[.int .i64 t448, .int .i64 t449] 50 (0, 0)) (by (with_reducible repeat (first | refine blk_drewN ?_ _ | refine blk_drew ?_ | refine blk_alloc ?_ _)); exact BK450.out) hb); have n3_ := Aside0.mk (below_step (by repeat (first | (with_reducible first | exact HB.out | apply below_alloc | apply pw_below_drewN | apply below_drew1 | refine below_set ?_ GE450.out) | exact HB.out)) hb); clear HO_5; clear HO_72; clear BK450; clear HB; have HO_5 := n0_; have HO_72 := n1_; have BK450 := n2_; have HB := n3_; clear n0_ n1_ n2_ n3_; (try clear hb); (try clear hb2); (try clear hk); (try clear hi)))
                    (try simp only [Act.put, List.setIfInBounds_toArray, List.set_cons_zero, List.set_cons_succ])
                    go_cut [90] (fun v90 wc => ∃ (kq : Nat) (x90_38 : Bool), v90 = .bool x90_38 ∧ Aside0 (laws_FnMoves.j2 kq t451 x11_2 x74_2 (rd t445 x74_2) t467 t445 (t445.length : Int) x74_2 x90_38 t448 t449 = some r) ∧ Aside0 (kq ≤ k2) ∧ Aside0 (Kd.R (Kd.int .i64) 3 wc w.heap.size (fun k_ => some k_ ≠ ((.slice (some ad465) t445.length co10) : Value).ownBlock) (.slice Ao17 t451.length co17) t451) ∧ Aside0 (Kd.R (Kd.int .i64) 3 wc w.heap.size (fun k_ => some k_ ≠ ((.slice Ao17 t451.length co17) : Value).ownBlock) (.slice (some ad465) t445.length co10) t445) ∧ Aside0 (wc.heap[gb450]? = some (.cells #[.int .i64 t448, .int .i64 t449] 50 (0, 0))) ∧ Aside0 (Below w.heap.size w wc))
                    case first =>
                      have H := HC39.out
                      clear HC39
                      by_cases c41 : t467 < 0
                      · rw [if_pos c41] at H
                        have c41b0 : decide (t467 < 0) = true := decide_eq_true c41
                        clear c41
                        (first | rw [c41b0] | (simp only [i64_w, i32_w]; rw [c41b0]) | skip)
                        have H' := Aside0.mk H
                        clear H
                        go_wp2
                        go_meet
                        case rel => exact ⟨_, (true), (by first | rfl | (simp; done) | (simp [*]; done)), H', ⟨by have := HJ7.out; have := HK2.out; first | omega | exact Nat.le_refl _⟩, ⟨by (with_reducible repeat (first | apply Kd.R_alloc | apply Kd.R_drewN | apply Kd.R_drew)); exact HO_5.out⟩, ⟨by (with_reducible repeat (first | apply Kd.R_alloc | apply Kd.R_drewN | apply Kd.R_drew)); exact HO_72.out⟩, ⟨by (with_reducible repeat (first | refine blk_drewN ?_ _ | refine blk_drew ?_ | refine blk_alloc ?_ _)); exact BK450.out⟩, ⟨by repeat (first | (with_reducible first | exact HB.out | apply below_alloc | apply pw_below_drewN | apply below_drew1 | refine below_set ?_ GE450.out) | exact HB.out)⟩⟩
                      · rw [if_neg c41] at H
                        have c41b0 : decide (t467 < 0) = false := decide_eq_false c41
                        clear c41
                        (first | rw [c41b0] | (simp only [i64_w, i32_w]; rw [c41b0]) | skip)
                        have H' := Aside0.mk H
                        clear H
                        go_wp2
                        go_meet
                        case rel => exact ⟨_, (decide (t467 ≥ (t451.length : Int))), (by first | rfl | (simp; done) | (simp [*]; done)), H', ⟨by have := HJ7.out; have := HK2.out; first | omega | exact Nat.le_refl _⟩, ⟨by (with_reducible repeat (first | apply Kd.R_alloc | apply Kd.R_drewN | apply Kd.R_drew)); exact HO_5.out⟩, ⟨by (with_reducible repeat (first | apply Kd.R_alloc | apply Kd.R_drewN | apply Kd.R_drew)); exact HO_72.out⟩, ⟨by (with_reducible repeat (first | refine blk_drewN ?_ _ | refine blk_drew ?_ | refine blk_alloc ?_ _)); exact BK450.out⟩, ⟨by repeat (first | (with_reducible first | exact HB.out | apply below_alloc | apply pw_below_drewN | apply below_drew1 | refine below_set ?_ GE450.out) | exact HB.out)⟩⟩
                    case rest =>
                      clear HC39
                      try clear c1
                      try clear c2
                      try clear c2b0
                      try clear c2b1
                      try clear p2
                      try clear c3
                      try clear c4
                      try clear p4
                      try clear q4
                      try clear hx4
                      try clear c5
                      try clear c6
                      try clear c14
                      try clear c19
                      try clear c20
                      try clear c21
                      try clear c23
                      try clear c25
                      try clear c31
                      try clear c33
                      try clear c34
                      try clear c34b0
                      try clear c35
                      try clear c35b0
                      try clear c36
                      try clear c36b0
                      try clear c41
                      try clear c41b0
                      try clear hcz13_0
                      try clear hcz13_1
                      try clear hcz15_0
                      try clear hcz15_1
                      try clear hfz13_0
                      try clear hfz13_1
                      try clear hfz15_0
                      try clear hfz15_1
                      try clear hx465_0
                      try clear p2
                      try clear p465
                      try clear q465
                      obtain ⟨kq, x90_38, rfl, HA, HJ38, HO_5, HO_72, BK450, HB⟩ := hcut
                      cases kq with
                      | zero => exact absurd HA.out (by simp [laws_FnMoves.j2])
                      | succ kj38 =>
                        have H := HA.out
                        clear HA
                        simp only [laws_FnMoves.j2] at H
                        by_cases c42 : x90_38 = true
                        · subst c42
                          rw [if_pos rfl] at H
                          obtain rfl := Option.some.inj H
                          go_wp2
                          go_ret
                          exact ⟨by first | rfl | (simp [errW_none, errW_some] <;> rfl) | (simp [*, errW_none, errW_some] <;> rfl), by repeat (first | (with_reducible first | exact HB.out | apply below_alloc | apply pw_below_drewN | apply below_drew1 | refine below_set ?_ GE450.out) | exact HB.out)⟩
                        · replace c42 := Bool.eq_false_iff.mpr c42
                          subst c42
                          rw [if_neg (show ¬ (false = true) by decide)] at H
                          by_cases c43 : 0 ≤ t467
                          · rw [if_pos c43] at H
                            have c43b0 : decide (0 ≤ t467) = true := decide_eq_true c43
                            clear c43
                            by_cases c44 : t467 < (t451.length : Int)
                            · rw [if_pos c44] at H
                              have c44b0 : decide (t467 < (t451.length : Int)) = true := decide_eq_true c44
                              clear c44
                              replace H := Option.bind_eq_some_iff.mp H
                              obtain ⟨t469, A450, H⟩ := H
                              replace H : ((impl_IsUp.f (rd t445 x74_2)).bind fun t470 => (if (t469 != t470) = true then (if t448 = 3 then (if t448 = 8 then (if x74_2 = t449 then (if x74_2 ≥ t449 then (some false) else (laws_FnMoves.l0 kj38 t451 (wrap64 (x11_2 + 1)) t445 (t445.length : Int) (wrap64 (x74_2 + 1)) t448 t449)) else (some false)) else (if x74_2 ≥ t449 then (some false) else (laws_FnMoves.l0 kj38 t451 (wrap64 (x11_2 + 1)) t445 (t445.length : Int) (wrap64 (x74_2 + 1)) t448 t449))) else (if t448 = 8 then (if x74_2 = t449 then (laws_FnMoves.l0 kj38 t451 (wrap64 (x11_2 + 1)) t445 (t445.length : Int) (wrap64 (x74_2 + 1)) t448 t449) else (some false)) else (some false))) else (laws_FnMoves.l0 kj38 t451 x11_2 t445 (t445.length : Int) (wrap64 (x74_2 + 1)) t448 t449))) = some r := H
                              have A45 := Aside0.mk A450
                              clear A450
                              replace H := Option.bind_eq_some_iff.mp H
                              obtain ⟨t470, A460, H⟩ := H
                              replace H : (if (t469 != t470) = true then (if t448 = 3 then (if t448 = 8 then (if x74_2 = t449 then (if x74_2 ≥ t449 then (some false) else (laws_FnMoves.l0 kj38 t451 (wrap64 (x11_2 + 1)) t445 (t445.length : Int) (wrap64 (x74_2 + 1)) t448 t449)) else (some false)) else (if x74_2 ≥ t449 then (some false) else (laws_FnMoves.l0 kj38 t451 (wrap64 (x11_2 + 1)) t445 (t445.length : Int) (wrap64 (x74_2 + 1)) t448 t449))) else (if t448 = 8 then (if x74_2 = t449 then (laws_FnMoves.l0 kj38 t451 (wrap64 (x11_2 + 1)) t445 (t445.length : Int) (wrap64 (x74_2 + 1)) t448 t449) else (some false)) else (some false))) else (laws_FnMoves.l0 kj38 t451 x11_2 t445 (t445.length : Int) (wrap64 (x74_2 + 1)) t448 t449)) = some r := H
                              have A46 := Aside0.mk A460
                              clear A460
                              by_cases c47 : (t469 != t470) = true
                              · rw [if_pos c47] at H
                                have c47b0 : (t469 != t470) = true := c47
                                (try (have c47b1 : decide (t469 = t470) = false := by simpa using c47))
                                (try (have c47b2 : (t469 == t470) = false := by simpa using c47))
                                (try (have c47b3 : ¬ (t469 = t470) := by simpa using c47))
                                clear c47
                                by_cases c48 : t448 = 3
                                · rw [if_pos c48] at H
                                  have c48b0 : (t448 == 3) = true := beq_iff_eq.mpr c48
                                  have c48b1 : (t448 != 3) = false := bne_eq_false_iff_eq.mpr c48
                                  clear c48
                                  by_cases c49 : t448 = 8
                                  · rw [if_pos c49] at H
                                    have c49b0 : (t448 == 8) = true := beq_iff_eq.mpr c49
                                    have c49b1 : (t448 != 8) = false := bne_eq_false_iff_eq.mpr c49
                                    clear c49
                                    by_cases c50 : x74_2 = t449
                                    · rw [if_pos c50] at H
                                      have c50b0 : (x74_2 == t449) = true := beq_iff_eq.mpr c50
                                      have c50b1 : (x74_2 != t449) = false := bne_eq_false_iff_eq.mpr c50
                                      clear c50
                                      by_cases c51 : x74_2 ≥ t449
                                      · rw [if_pos c51] at H
                                        have c51b0 : decide (t449 ≤ x74_2) = true := decide_eq_true c51
                                        clear c51
                                        obtain rfl := Option.some.inj H
                                        have p468 : 0 ≤ (t467 : Int) := of_decide_eq_true (by first | (with_reducible assumption) | assumption)
                                        have q468 : t467 < (t451.length : Int) := of_decide_eq_true (by first | (with_reducible assumption) | assumption)
                                        obtain ⟨ad468, e468, hx468_0⟩ := Kd.at_int (Kd.R_reads' HO_5.out).2.2 t467 p468 q468
                                        cases e468
                                        replace p468 := eq_true p468
                                        replace q468 := eq_true q468
                                        go_wp2_with (first | ((with_reducible refine gate_callee (f := 62) rfl ?_); refine goesL_ (some 95) rfl rfl Try.func62 (by kernel_rfl) rfl #[.int .i64 (rd t451 t467)] rfl (by (try simp only [List.map_toArray, List.map_cons, List.map_nil]); first | done | rfl | (simp only [List.length_drop, List.length_take]; rfl)) ?_; (with_reducible refine (impl_IsUp.calls (rd t451 t467) t469 _ A45.out).mono ?_); rintro e w' ⟨rfl, ⟨nd, rfl⟩⟩; refine ⟨_, rfl, ?_⟩) | ((with_reducible refine gate_callee (f := 62) rfl ?_); refine goesL_ (some 97) rfl rfl Try.func62 (by kernel_rfl) rfl #[.int .i64 (rd t445 x74_2)] rfl (by (try simp only [List.map_toArray, List.map_cons, List.map_nil]); first | done | rfl | (simp only [List.length_drop, List.length_take]; rfl)) ?_; (with_reducible refine (impl_IsUp.calls (rd t445 x74_2) t470 _ A46.out).mono ?_); rintro e w' ⟨rfl, ⟨nd, rfl⟩⟩; refine ⟨_, rfl, ?_⟩; have hcz52_0 : wc.cell? ⟨gb450, 0, none⟩ = some (.int .i64 t448) := (blk_cell BK450.out 0).trans rfl; have hcz52_1 : wc.cell? ⟨gb450, 1, none⟩ = some (.int .i64 t449) := (blk_cell BK450.out 1).trans rfl; have hfz52_0 := blk_frozen BK450.out 0; have hfz52_1 := blk_frozen BK450.out 1))
                                        go_ret
                                        exact ⟨by first | rfl | (simp [errW_none, errW_some] <;> rfl) | (simp [*, errW_none, errW_some] <;> rfl), by repeat (first | (with_reducible first | exact HB.out | apply below_alloc | apply pw_below_drewN | apply below_drew1 | refine below_set ?_ GE450.out) | exact HB.out)⟩
                                      · rw [if_neg c51] at H
                                        have c51b0 : decide (t449 ≤ x74_2) = false := decide_eq_false c51
                                        clear c51
                                        have H' := Aside0.mk H
                                        clear H
                                        have p468 : 0 ≤ (t467 : Int) := of_decide_eq_true (by first | (with_reducible assumption) | assumption)
                                        have q468 : t467 < (t451.length : Int) := of_decide_eq_true (by first | (with_reducible assumption) | assumption)
                                        obtain ⟨ad468, e468, hx468_0⟩ := Kd.at_int (Kd.R_reads' HO_5.out).2.2 t467 p468 q468
                                        cases e468
                                        replace p468 := eq_true p468
                                        replace q468 := eq_true q468
                                        go_wp2_with (first | ((with_reducible refine gate_callee (f := 62) rfl ?_); refine goesL_ (some 95) rfl rfl Try.func62 (by kernel_rfl) rfl #[.int .i64 (rd t451 t467)] rfl (by (try simp only [List.map_toArray, List.map_cons, List.map_nil]); first | done | rfl | (simp only [List.length_drop, List.length_take]; rfl)) ?_; (with_reducible refine (impl_IsUp.calls (rd t451 t467) t469 _ A45.out).mono ?_); rintro e w' ⟨rfl, ⟨nd, rfl⟩⟩; refine ⟨_, rfl, ?_⟩) | ((with_reducible refine gate_callee (f := 62) rfl ?_); refine goesL_ (some 97) rfl rfl Try.func62 (by kernel_rfl) rfl #[.int .i64 (rd t445 x74_2)] rfl (by (try simp only [List.map_toArray, List.map_cons, List.map_nil]); first | done | rfl | (simp only [List.length_drop, List.length_take]; rfl)) ?_; (with_reducible refine (impl_IsUp.calls (rd t445 x74_2) t470 _ A46.out).mono ?_); rintro e w' ⟨rfl, ⟨nd, rfl⟩⟩; refine ⟨_, rfl, ?_⟩; have hcz53_0 : wc.cell? ⟨gb450, 0, none⟩ = some (.int .i64 t448) := (blk_cell BK450.out 0).trans rfl; have hcz53_1 : wc.cell? ⟨gb450, 1, none⟩ = some (.int .i64 t449) := (blk_cell BK450.out 1).trans rfl; have hfz53_0 := blk_frozen BK450.out 0; have hfz53_1 := blk_frozen BK450.out 1))
                                        go_roundg kj38
                                        case measure => have := HJ7.out; have := HK2.out; have := HJ38.out; omega
                                        case rel => exact ⟨(wrap64 (x11_2 + 1)), (wrap64 (x74_2 + 1)), (by first | rfl | (simp; done) | (simp [*]; done)), (by first | rfl | (simp; done) | (simp [*]; done)), H', ⟨by have := HJ7.out; have := HK2.out; have := HJ38.out; omega⟩, ⟨by (with_reducible repeat (first | apply Kd.R_alloc | apply Kd.R_drewN | apply Kd.R_drew)); exact HO_5.out⟩, ⟨by (with_reducible repeat (first | apply Kd.R_alloc | apply Kd.R_drewN | apply Kd.R_drew)); exact HO_72.out⟩, ⟨by (with_reducible repeat (first | refine blk_drewN ?_ _ | refine blk_drew ?_ | refine blk_alloc ?_ _)); exact BK450.out⟩, ⟨by repeat (first | (with_reducible first | exact HB.out | apply below_alloc | apply pw_below_drewN | apply below_drew1 | refine below_set ?_ GE450.out) | exact HB.out)⟩⟩
                                    · rw [if_neg c50] at H
                                      have c50b0 : (x74_2 == t449) = false := beq_eq_false_iff_ne.mpr c50
                                      have c50b1 : (x74_2 != t449) = true := bne_iff_ne.mpr c50
                                      obtain rfl := Option.some.inj H
                                      have p468 : 0 ≤ (t467 : Int) := of_decide_eq_true (by first | (with_reducible assumption) | assumption)
                                      have q468 : t467 < (t451.length : Int) := of_decide_eq_true (by first | (with_reducible assumption) | assumption)
                                      obtain ⟨ad468, e468, hx468_0⟩ := Kd.at_int (Kd.R_reads' HO_5.out).2.2 t467 p468 q468
                                      cases e468
                                      replace p468 := eq_true p468
                                      replace q468 := eq_true q468
                                      go_wp2_with (first | ((with_reducible refine gate_callee (f := 62) rfl ?_); refine goesL_ (some 95) rfl rfl Try.func62 (by kernel_rfl) rfl #[.int .i64 (rd t451 t467)] rfl (by (try simp only [List.map_toArray, List.map_cons, List.map_nil]); first | done | rfl | (simp only [List.length_drop, List.length_take]; rfl)) ?_; (with_reducible refine (impl_IsUp.calls (rd t451 t467) t469 _ A45.out).mono ?_); rintro e w' ⟨rfl, ⟨nd, rfl⟩⟩; refine ⟨_, rfl, ?_⟩) | ((with_reducible refine gate_callee (f := 62) rfl ?_); refine goesL_ (some 97) rfl rfl Try.func62 (by kernel_rfl) rfl #[.int .i64 (rd t445 x74_2)] rfl (by (try simp only [List.map_toArray, List.map_cons, List.map_nil]); first | done | rfl | (simp only [List.length_drop, List.length_take]; rfl)) ?_; (with_reducible refine (impl_IsUp.calls (rd t445 x74_2) t470 _ A46.out).mono ?_); rintro e w' ⟨rfl, ⟨nd, rfl⟩⟩; refine ⟨_, rfl, ?_⟩; have hcz54_0 : wc.cell? ⟨gb450, 0, none⟩ = some (.int .i64 t448) := (blk_cell BK450.out 0).trans rfl; have hcz54_1 : wc.cell? ⟨gb450, 1, none⟩ = some (.int .i64 t449) := (blk_cell BK450.out 1).trans rfl; have hfz54_0 := blk_frozen BK450.out 0; have hfz54_1 := blk_frozen BK450.out 1))
                                      go_ret
                                      exact ⟨by first | rfl | (simp [errW_none, errW_some] <;> rfl) | (simp [*, errW_none, errW_some] <;> rfl), by repeat (first | (with_reducible first | exact HB.out | apply below_alloc | apply pw_below_drewN | apply below_drew1 | refine below_set ?_ GE450.out) | exact HB.out)⟩
                                  · rw [if_neg c49] at H
                                    have c49b0 : (t448 == 8) = false := beq_eq_false_iff_ne.mpr c49
                                    have c49b1 : (t448 != 8) = true := bne_iff_ne.mpr c49
                                    by_cases c55 : x74_2 ≥ t449
                                    · rw [if_pos c55] at H
                                      have c55b0 : decide (t449 ≤ x74_2) = true := decide_eq_true c55
                                      clear c55
                                      obtain rfl := Option.some.inj H
                                      have p468 : 0 ≤ (t467 : Int) := of_decide_eq_true (by first | (with_reducible assumption) | assumption)
                                      have q468 : t467 < (t451.length : Int) := of_decide_eq_true (by first | (with_reducible assumption) | assumption)
                                      obtain ⟨ad468, e468, hx468_0⟩ := Kd.at_int (Kd.R_reads' HO_5.out).2.2 t467 p468 q468
                                      cases e468
                                      replace p468 := eq_true p468
                                      replace q468 := eq_true q468
                                      go_wp2_with (first | ((with_reducible refine gate_callee (f := 62) rfl ?_); refine goesL_ (some 95) rfl rfl Try.func62 (by kernel_rfl) rfl #[.int .i64 (rd t451 t467)] rfl (by (try simp only [List.map_toArray, List.map_cons, List.map_nil]); first | done | rfl | (simp only [List.length_drop, List.length_take]; rfl)) ?_; (with_reducible refine (impl_IsUp.calls (rd t451 t467) t469 _ A45.out).mono ?_); rintro e w' ⟨rfl, ⟨nd, rfl⟩⟩; refine ⟨_, rfl, ?_⟩) | ((with_reducible refine gate_callee (f := 62) rfl ?_); refine goesL_ (some 97) rfl rfl Try.func62 (by kernel_rfl) rfl #[.int .i64 (rd t445 x74_2)] rfl (by (try simp only [List.map_toArray, List.map_cons, List.map_nil]); first | done | rfl | (simp only [List.length_drop, List.length_take]; rfl)) ?_; (with_reducible refine (impl_IsUp.calls (rd t445 x74_2) t470 _ A46.out).mono ?_); rintro e w' ⟨rfl, ⟨nd, rfl⟩⟩; refine ⟨_, rfl, ?_⟩; have hcz56_0 : wc.cell? ⟨gb450, 0, none⟩ = some (.int .i64 t448) := (blk_cell BK450.out 0).trans rfl; have hcz56_1 : wc.cell? ⟨gb450, 1, none⟩ = some (.int .i64 t449) := (blk_cell BK450.out 1).trans rfl; have hfz56_0 := blk_frozen BK450.out 0; have hfz56_1 := blk_frozen BK450.out 1))
                                      go_ret
                                      exact ⟨by first | rfl | (simp [errW_none, errW_some] <;> rfl) | (simp [*, errW_none, errW_some] <;> rfl), by repeat (first | (with_reducible first | exact HB.out | apply below_alloc | apply pw_below_drewN | apply below_drew1 | refine below_set ?_ GE450.out) | exact HB.out)⟩
                                    · rw [if_neg c55] at H
                                      have c55b0 : decide (t449 ≤ x74_2) = false := decide_eq_false c55
                                      clear c55
                                      have H' := Aside0.mk H
                                      clear H
                                      have p468 : 0 ≤ (t467 : Int) := of_decide_eq_true (by first | (with_reducible assumption) | assumption)
                                      have q468 : t467 < (t451.length : Int) := of_decide_eq_true (by first | (with_reducible assumption) | assumption)
                                      obtain ⟨ad468, e468, hx468_0⟩ := Kd.at_int (Kd.R_reads' HO_5.out).2.2 t467 p468 q468
                                      cases e468
                                      replace p468 := eq_true p468
                                      replace q468 := eq_true q468
                                      go_wp2_with (first | ((with_reducible refine gate_callee (f := 62) rfl ?_); refine goesL_ (some 95) rfl rfl Try.func62 (by kernel_rfl) rfl #[.int .i64 (rd t451 t467)] rfl (by (try simp only [List.map_toArray, List.map_cons, List.map_nil]); first | done | rfl | (simp only [List.length_drop, List.length_take]; rfl)) ?_; (with_reducible refine (impl_IsUp.calls (rd t451 t467) t469 _ A45.out).mono ?_); rintro e w' ⟨rfl, ⟨nd, rfl⟩⟩; refine ⟨_, rfl, ?_⟩) | ((with_reducible refine gate_callee (f := 62) rfl ?_); refine goesL_ (some 97) rfl rfl Try.func62 (by kernel_rfl) rfl #[.int .i64 (rd t445 x74_2)] rfl (by (try simp only [List.map_toArray, List.map_cons, List.map_nil]); first | done | rfl | (simp only [List.length_drop, List.length_take]; rfl)) ?_; (with_reducible refine (impl_IsUp.calls (rd t445 x74_2) t470 _ A46.out).mono ?_); rintro e w' ⟨rfl, ⟨nd, rfl⟩⟩; refine ⟨_, rfl, ?_⟩; have hcz57_0 : wc.cell? ⟨gb450, 0, none⟩ = some (.int .i64 t448) := (blk_cell BK450.out 0).trans rfl; have hcz57_1 : wc.cell? ⟨gb450, 1, none⟩ = some (.int .i64 t449) := (blk_cell BK450.out 1).trans rfl; have hfz57_0 := blk_frozen BK450.out 0; have hfz57_1 := blk_frozen BK450.out 1))
                                      go_roundg kj38
                                      case measure => have := HJ7.out; have := HK2.out; have := HJ38.out; omega
                                      case rel => exact ⟨(wrap64 (x11_2 + 1)), (wrap64 (x74_2 + 1)), (by first | rfl | (simp; done) | (simp [*]; done)), (by first | rfl | (simp; done) | (simp [*]; done)), H', ⟨by have := HJ7.out; have := HK2.out; have := HJ38.out; omega⟩, ⟨by (with_reducible repeat (first | apply Kd.R_alloc | apply Kd.R_drewN | apply Kd.R_drew)); exact HO_5.out⟩, ⟨by (with_reducible repeat (first | apply Kd.R_alloc | apply Kd.R_drewN | apply Kd.R_drew)); exact HO_72.out⟩, ⟨by (with_reducible repeat (first | refine blk_drewN ?_ _ | refine blk_drew ?_ | refine blk_alloc ?_ _)); exact BK450.out⟩, ⟨by repeat (first | (with_reducible first | exact HB.out | apply below_alloc | apply pw_below_drewN | apply below_drew1 | refine below_set ?_ GE450.out) | exact HB.out)⟩⟩
                                · rw [if_neg c48] at H
                                  have c48b0 : (t448 == 3) = false := beq_eq_false_iff_ne.mpr c48
                                  have c48b1 : (t448 != 3) = true := bne_iff_ne.mpr c48
                                  by_cases c58 : t448 = 8
                                  · rw [if_pos c58] at H
                                    have c58b0 : (t448 == 8) = true := beq_iff_eq.mpr c58
                                    have c58b1 : (t448 != 8) = false := bne_eq_false_iff_eq.mpr c58
                                    clear c58
                                    by_cases c59 : x74_2 = t449
                                    · rw [if_pos c59] at H
                                      have c59b0 : (x74_2 == t449) = true := beq_iff_eq.mpr c59
                                      have c59b1 : (x74_2 != t449) = false := bne_eq_false_iff_eq.mpr c59
                                      clear c59
                                      have H' := Aside0.mk H
                                      clear H
                                      have p468 : 0 ≤ (t467 : Int) := of_decide_eq_true (by first | (with_reducible assumption) | assumption)
                                      have q468 : t467 < (t451.length : Int) := of_decide_eq_true (by first | (with_reducible assumption) | assumption)
                                      obtain ⟨ad468, e468, hx468_0⟩ := Kd.at_int (Kd.R_reads' HO_5.out).2.2 t467 p468 q468
                                      cases e468
                                      replace p468 := eq_true p468
                                      replace q468 := eq_true q468
                                      go_wp2_with (first | ((with_reducible refine gate_callee (f := 62) rfl ?_); refine goesL_ (some 95) rfl rfl Try.func62 (by kernel_rfl) rfl #[.int .i64 (rd t451 t467)] rfl (by (try simp only [List.map_toArray, List.map_cons, List.map_nil]); first | done | rfl | (simp only [List.length_drop, List.length_take]; rfl)) ?_; (with_reducible refine (impl_IsUp.calls (rd t451 t467) t469 _ A45.out).mono ?_); rintro e w' ⟨rfl, ⟨nd, rfl⟩⟩; refine ⟨_, rfl, ?_⟩) | ((with_reducible refine gate_callee (f := 62) rfl ?_); refine goesL_ (some 97) rfl rfl Try.func62 (by kernel_rfl) rfl #[.int .i64 (rd t445 x74_2)] rfl (by (try simp only [List.map_toArray, List.map_cons, List.map_nil]); first | done | rfl | (simp only [List.length_drop, List.length_take]; rfl)) ?_; (with_reducible refine (impl_IsUp.calls (rd t445 x74_2) t470 _ A46.out).mono ?_); rintro e w' ⟨rfl, ⟨nd, rfl⟩⟩; refine ⟨_, rfl, ?_⟩; have hcz60_0 : wc.cell? ⟨gb450, 0, none⟩ = some (.int .i64 t448) := (blk_cell BK450.out 0).trans rfl; have hcz60_1 : wc.cell? ⟨gb450, 1, none⟩ = some (.int .i64 t449) := (blk_cell BK450.out 1).trans rfl; have hfz60_0 := blk_frozen BK450.out 0; have hfz60_1 := blk_frozen BK450.out 1))
                                      go_roundg kj38
                                      case measure => have := HJ7.out; have := HK2.out; have := HJ38.out; omega
                                      case rel => exact ⟨(wrap64 (x11_2 + 1)), (wrap64 (x74_2 + 1)), (by first | rfl | (simp; done) | (simp [*]; done)), (by first | rfl | (simp; done) | (simp [*]; done)), H', ⟨by have := HJ7.out; have := HK2.out; have := HJ38.out; omega⟩, ⟨by (with_reducible repeat (first | apply Kd.R_alloc | apply Kd.R_drewN | apply Kd.R_drew)); exact HO_5.out⟩, ⟨by (with_reducible repeat (first | apply Kd.R_alloc | apply Kd.R_drewN | apply Kd.R_drew)); exact HO_72.out⟩, ⟨by (with_reducible repeat (first | refine blk_drewN ?_ _ | refine blk_drew ?_ | refine blk_alloc ?_ _)); exact BK450.out⟩, ⟨by repeat (first | (with_reducible first | exact HB.out | apply below_alloc | apply pw_below_drewN | apply below_drew1 | refine below_set ?_ GE450.out) | exact HB.out)⟩⟩
                                    · rw [if_neg c59] at H
                                      have c59b0 : (x74_2 == t449) = false := beq_eq_false_iff_ne.mpr c59
                                      have c59b1 : (x74_2 != t449) = true := bne_iff_ne.mpr c59
                                      obtain rfl := Option.some.inj H
                                      have p468 : 0 ≤ (t467 : Int) := of_decide_eq_true (by first | (with_reducible assumption) | assumption)
                                      have q468 : t467 < (t451.length : Int) := of_decide_eq_true (by first | (with_reducible assumption) | assumption)
                                      obtain ⟨ad468, e468, hx468_0⟩ := Kd.at_int (Kd.R_reads' HO_5.out).2.2 t467 p468 q468
                                      cases e468
                                      replace p468 := eq_true p468
                                      replace q468 := eq_true q468
                                      go_wp2_with (first | ((with_reducible refine gate_callee (f := 62) rfl ?_); refine goesL_ (some 95) rfl rfl Try.func62 (by kernel_rfl) rfl #[.int .i64 (rd t451 t467)] rfl (by (try simp only [List.map_toArray, List.map_cons, List.map_nil]); first | done | rfl | (simp only [List.length_drop, List.length_take]; rfl)) ?_; (with_reducible refine (impl_IsUp.calls (rd t451 t467) t469 _ A45.out).mono ?_); rintro e w' ⟨rfl, ⟨nd, rfl⟩⟩; refine ⟨_, rfl, ?_⟩) | ((with_reducible refine gate_callee (f := 62) rfl ?_); refine goesL_ (some 97) rfl rfl Try.func62 (by kernel_rfl) rfl #[.int .i64 (rd t445 x74_2)] rfl (by (try simp only [List.map_toArray, List.map_cons, List.map_nil]); first | done | rfl | (simp only [List.length_drop, List.length_take]; rfl)) ?_; (with_reducible refine (impl_IsUp.calls (rd t445 x74_2) t470 _ A46.out).mono ?_); rintro e w' ⟨rfl, ⟨nd, rfl⟩⟩; refine ⟨_, rfl, ?_⟩; have hcz61_0 : wc.cell? ⟨gb450, 0, none⟩ = some (.int .i64 t448) := (blk_cell BK450.out 0).trans rfl; have hcz61_1 : wc.cell? ⟨gb450, 1, none⟩ = some (.int .i64 t449) := (blk_cell BK450.out 1).trans rfl; have hfz61_0 := blk_frozen BK450.out 0; have hfz61_1 := blk_frozen BK450.out 1))
                                      go_ret
                                      exact ⟨by first | rfl | (simp [errW_none, errW_some] <;> rfl) | (simp [*, errW_none, errW_some] <;> rfl), by repeat (first | (with_reducible first | exact HB.out | apply below_alloc | apply pw_below_drewN | apply below_drew1 | refine below_set ?_ GE450.out) | exact HB.out)⟩
                                  · rw [if_neg c58] at H
                                    have c58b0 : (t448 == 8) = false := beq_eq_false_iff_ne.mpr c58
                                    have c58b1 : (t448 != 8) = true := bne_iff_ne.mpr c58
                                    obtain rfl := Option.some.inj H
                                    have p468 : 0 ≤ (t467 : Int) := of_decide_eq_true (by first | (with_reducible assumption) | assumption)
                                    have q468 : t467 < (t451.length : Int) := of_decide_eq_true (by first | (with_reducible assumption) | assumption)
                                    obtain ⟨ad468, e468, hx468_0⟩ := Kd.at_int (Kd.R_reads' HO_5.out).2.2 t467 p468 q468
                                    cases e468
                                    replace p468 := eq_true p468
                                    replace q468 := eq_true q468
                                    go_wp2_with (first | ((with_reducible refine gate_callee (f := 62) rfl ?_); refine goesL_ (some 95) rfl rfl Try.func62 (by kernel_rfl) rfl #[.int .i64 (rd t451 t467)] rfl (by (try simp only [List.map_toArray, List.map_cons, List.map_nil]); first | done | rfl | (simp only [List.length_drop, List.length_take]; rfl)) ?_; (with_reducible refine (impl_IsUp.calls (rd t451 t467) t469 _ A45.out).mono ?_); rintro e w' ⟨rfl, ⟨nd, rfl⟩⟩; refine ⟨_, rfl, ?_⟩) | ((with_reducible refine gate_callee (f := 62) rfl ?_); refine goesL_ (some 97) rfl rfl Try.func62 (by kernel_rfl) rfl #[.int .i64 (rd t445 x74_2)] rfl (by (try simp only [List.map_toArray, List.map_cons, List.map_nil]); first | done | rfl | (simp only [List.length_drop, List.length_take]; rfl)) ?_; (with_reducible refine (impl_IsUp.calls (rd t445 x74_2) t470 _ A46.out).mono ?_); rintro e w' ⟨rfl, ⟨nd, rfl⟩⟩; refine ⟨_, rfl, ?_⟩; have hcz62_0 : wc.cell? ⟨gb450, 0, none⟩ = some (.int .i64 t448) := (blk_cell BK450.out 0).trans rfl; have hcz62_1 : wc.cell? ⟨gb450, 1, none⟩ = some (.int .i64 t449) := (blk_cell BK450.out 1).trans rfl; have hfz62_0 := blk_frozen BK450.out 0; have hfz62_1 := blk_frozen BK450.out 1))
                                    go_ret
                                    exact ⟨by first | rfl | (simp [errW_none, errW_some] <;> rfl) | (simp [*, errW_none, errW_some] <;> rfl), by repeat (first | (with_reducible first | exact HB.out | apply below_alloc | apply pw_below_drewN | apply below_drew1 | refine below_set ?_ GE450.out) | exact HB.out)⟩
                              · rw [if_neg c47] at H
                                have c47b0 : (t469 != t470) = false := by simpa using c47
                                (try (have c47b1 : decide (t469 = t470) = true := by simpa using c47))
                                (try (have c47b2 : (t469 == t470) = true := by simpa using c47))
                                clear c47
                                have H' := Aside0.mk H
                                clear H
                                have p468 : 0 ≤ (t467 : Int) := of_decide_eq_true (by first | (with_reducible assumption) | assumption)
                                have q468 : t467 < (t451.length : Int) := of_decide_eq_true (by first | (with_reducible assumption) | assumption)
                                obtain ⟨ad468, e468, hx468_0⟩ := Kd.at_int (Kd.R_reads' HO_5.out).2.2 t467 p468 q468
                                cases e468
                                replace p468 := eq_true p468
                                replace q468 := eq_true q468
                                go_wp2_with (first | ((with_reducible refine gate_callee (f := 62) rfl ?_); refine goesL_ (some 95) rfl rfl Try.func62 (by kernel_rfl) rfl #[.int .i64 (rd t451 t467)] rfl (by (try simp only [List.map_toArray, List.map_cons, List.map_nil]); first | done | rfl | (simp only [List.length_drop, List.length_take]; rfl)) ?_; (with_reducible refine (impl_IsUp.calls (rd t451 t467) t469 _ A45.out).mono ?_); rintro e w' ⟨rfl, ⟨nd, rfl⟩⟩; refine ⟨_, rfl, ?_⟩) | ((with_reducible refine gate_callee (f := 62) rfl ?_); refine goesL_ (some 97) rfl rfl Try.func62 (by kernel_rfl) rfl #[.int .i64 (rd t445 x74_2)] rfl (by (try simp only [List.map_toArray, List.map_cons, List.map_nil]); first | done | rfl | (simp only [List.length_drop, List.length_take]; rfl)) ?_; (with_reducible refine (impl_IsUp.calls (rd t445 x74_2) t470 _ A46.out).mono ?_); rintro e w' ⟨rfl, ⟨nd, rfl⟩⟩; refine ⟨_, rfl, ?_⟩))
                                go_roundg kj38
                                case measure => have := HJ7.out; have := HK2.out; have := HJ38.out; omega
                                case rel => exact ⟨(x11_2), (wrap64 (x74_2 + 1)), (by first | rfl | (simp; done) | (simp [*]; done)), (by first | rfl | (simp; done) | (simp [*]; done)), H', ⟨by have := HJ7.out; have := HK2.out; have := HJ38.out; omega⟩, ⟨by (with_reducible repeat (first | apply Kd.R_alloc | apply Kd.R_drewN | apply Kd.R_drew)); exact HO_5.out⟩, ⟨by (with_reducible repeat (first | apply Kd.R_alloc | apply Kd.R_drewN | apply Kd.R_drew)); exact HO_72.out⟩, ⟨by (with_reducible repeat (first | refine blk_drewN ?_ _ | refine blk_drew ?_ | refine blk_alloc ?_ _)); exact BK450.out⟩, ⟨by repeat (first | (with_reducible first | exact HB.out | apply below_alloc | apply pw_below_drewN | apply below_drew1 | refine below_set ?_ GE450.out) | exact HB.out)⟩⟩
                            · rw [if_neg c44] at H
                              exact absurd H (by simp)
                          · rw [if_neg c43] at H
                            exact absurd H (by simp)
                  · rw [if_neg c36] at H
                    exact absurd H (by simp)
                · rw [if_neg c35] at H
                  exact absurd H (by simp)
              · rw [if_neg c34] at H
                have c34b0 : decide (x74_2 < (t445.length : Int)) = false := decide_eq_false c34
                clear c34
                by_cases c63 : t448 = 3
                · rw [if_pos c63] at H
                  have c63b0 : (t448 == 3) = true := beq_iff_eq.mpr c63
                  have c63b1 : (t448 != 3) = false := bne_eq_false_iff_eq.mpr c63
                  clear c63
                  by_cases c64 : x11_2 = t449
                  · rw [if_pos c64] at H
                    have c64b0 : (x11_2 == t449) = true := beq_iff_eq.mpr c64
                    have c64b1 : (x11_2 != t449) = false := bne_eq_false_iff_eq.mpr c64
                    clear c64
                    obtain rfl := Option.some.inj H
                    have hcz65_0 : wr.cell? ⟨gb450, 0, none⟩ = some (.int .i64 t448) := (blk_cell BK450.out 0).trans rfl
                    have hcz65_1 : wr.cell? ⟨gb450, 1, none⟩ = some (.int .i64 t449) := (blk_cell BK450.out 1).trans rfl
                    have hfz65_0 := blk_frozen BK450.out 0
                    have hfz65_1 := blk_frozen BK450.out 1
                    go_wp2
                    go_ret
                    exact ⟨by first | rfl | (simp [errW_none, errW_some] <;> rfl) | (simp [*, errW_none, errW_some] <;> rfl), by repeat (first | (with_reducible first | exact HB.out | apply below_alloc | apply pw_below_drewN | apply below_drew1 | refine below_set ?_ GE450.out) | exact HB.out)⟩
                  · rw [if_neg c64] at H
                    have c64b0 : (x11_2 == t449) = false := beq_eq_false_iff_ne.mpr c64
                    have c64b1 : (x11_2 != t449) = true := bne_iff_ne.mpr c64
                    by_cases c66 : t448 = 8
                    · rw [if_pos c66] at H
                      have c66b0 : (t448 == 8) = true := beq_iff_eq.mpr c66
                      have c66b1 : (t448 != 8) = false := bne_eq_false_iff_eq.mpr c66
                      clear c66
                      by_cases c67 : x11_2 = 1
                      · rw [if_pos c67] at H
                        have c67b0 : (x11_2 == 1) = true := beq_iff_eq.mpr c67
                        have c67b1 : (x11_2 != 1) = false := bne_eq_false_iff_eq.mpr c67
                        clear c67
                        obtain rfl := Option.some.inj H
                        have hcz68_0 : wr.cell? ⟨gb450, 0, none⟩ = some (.int .i64 t448) := (blk_cell BK450.out 0).trans rfl
                        have hcz68_1 : wr.cell? ⟨gb450, 1, none⟩ = some (.int .i64 t449) := (blk_cell BK450.out 1).trans rfl
                        have hfz68_0 := blk_frozen BK450.out 0
                        have hfz68_1 := blk_frozen BK450.out 1
                        go_wp2
                        go_ret
                        exact ⟨by first | rfl | (simp [errW_none, errW_some] <;> rfl) | (simp [*, errW_none, errW_some] <;> rfl), by repeat (first | (with_reducible first | exact HB.out | apply below_alloc | apply pw_below_drewN | apply below_drew1 | refine below_set ?_ GE450.out) | exact HB.out)⟩
                      · rw [if_neg c67] at H
                        have c67b0 : (x11_2 == 1) = false := beq_eq_false_iff_ne.mpr c67
                        have c67b1 : (x11_2 != 1) = true := bne_iff_ne.mpr c67
                        obtain rfl := Option.some.inj H
                        have hcz69_0 : wr.cell? ⟨gb450, 0, none⟩ = some (.int .i64 t448) := (blk_cell BK450.out 0).trans rfl
                        have hcz69_1 : wr.cell? ⟨gb450, 1, none⟩ = some (.int .i64 t449) := (blk_cell BK450.out 1).trans rfl
                        have hfz69_0 := blk_frozen BK450.out 0
                        have hfz69_1 := blk_frozen BK450.out 1
                        go_wp2
                        go_ret
                        exact ⟨by first | rfl | (simp [errW_none, errW_some] <;> rfl) | (simp [*, errW_none, errW_some] <;> rfl), by repeat (first | (with_reducible first | exact HB.out | apply below_alloc | apply pw_below_drewN | apply below_drew1 | refine below_set ?_ GE450.out) | exact HB.out)⟩
                    · rw [if_neg c66] at H
                      have c66b0 : (t448 == 8) = false := beq_eq_false_iff_ne.mpr c66
                      have c66b1 : (t448 != 8) = true := bne_iff_ne.mpr c66
                      obtain rfl := Option.some.inj H
                      have hcz70_0 : wr.cell? ⟨gb450, 0, none⟩ = some (.int .i64 t448) := (blk_cell BK450.out 0).trans rfl
                      have hcz70_1 : wr.cell? ⟨gb450, 1, none⟩ = some (.int .i64 t449) := (blk_cell BK450.out 1).trans rfl
                      have hfz70_0 := blk_frozen BK450.out 0
                      have hfz70_1 := blk_frozen BK450.out 1
                      go_wp2
                      go_ret
                      exact ⟨by first | rfl | (simp [errW_none, errW_some] <;> rfl) | (simp [*, errW_none, errW_some] <;> rfl), by repeat (first | (with_reducible first | exact HB.out | apply below_alloc | apply pw_below_drewN | apply below_drew1 | refine below_set ?_ GE450.out) | exact HB.out)⟩
                · rw [if_neg c63] at H
                  have c63b0 : (t448 == 3) = false := beq_eq_false_iff_ne.mpr c63
                  have c63b1 : (t448 != 3) = true := bne_iff_ne.mpr c63
                  by_cases c71 : t448 = 8
                  · rw [if_pos c71] at H
                    have c71b0 : (t448 == 8) = true := beq_iff_eq.mpr c71
                    have c71b1 : (t448 != 8) = false := bne_eq_false_iff_eq.mpr c71
                    clear c71
                    by_cases c72 : x11_2 = 1
                    · rw [if_pos c72] at H
                      have c72b0 : (x11_2 == 1) = true := beq_iff_eq.mpr c72
                      have c72b1 : (x11_2 != 1) = false := bne_eq_false_iff_eq.mpr c72
                      clear c72
                      obtain rfl := Option.some.inj H
                      have hcz73_0 : wr.cell? ⟨gb450, 0, none⟩ = some (.int .i64 t448) := (blk_cell BK450.out 0).trans rfl
                      have hcz73_1 : wr.cell? ⟨gb450, 1, none⟩ = some (.int .i64 t449) := (blk_cell BK450.out 1).trans rfl
                      have hfz73_0 := blk_frozen BK450.out 0
                      have hfz73_1 := blk_frozen BK450.out 1
                      go_wp2
                      go_ret
                      exact ⟨by first | rfl | (simp [errW_none, errW_some] <;> rfl) | (simp [*, errW_none, errW_some] <;> rfl), by repeat (first | (with_reducible first | exact HB.out | apply below_alloc | apply pw_below_drewN | apply below_drew1 | refine below_set ?_ GE450.out) | exact HB.out)⟩
                    · rw [if_neg c72] at H
                      have c72b0 : (x11_2 == 1) = false := beq_eq_false_iff_ne.mpr c72
                      have c72b1 : (x11_2 != 1) = true := bne_iff_ne.mpr c72
                      obtain rfl := Option.some.inj H
                      have hcz74_0 : wr.cell? ⟨gb450, 0, none⟩ = some (.int .i64 t448) := (blk_cell BK450.out 0).trans rfl
                      have hcz74_1 : wr.cell? ⟨gb450, 1, none⟩ = some (.int .i64 t449) := (blk_cell BK450.out 1).trans rfl
                      have hfz74_0 := blk_frozen BK450.out 0
                      have hfz74_1 := blk_frozen BK450.out 1
                      go_wp2
                      go_ret
                      exact ⟨by first | rfl | (simp [errW_none, errW_some] <;> rfl) | (simp [*, errW_none, errW_some] <;> rfl), by repeat (first | (with_reducible first | exact HB.out | apply below_alloc | apply pw_below_drewN | apply below_drew1 | refine below_set ?_ GE450.out) | exact HB.out)⟩
                  · rw [if_neg c71] at H
                    have c71b0 : (t448 == 8) = false := beq_eq_false_iff_ne.mpr c71
                    have c71b1 : (t448 != 8) = true := bne_iff_ne.mpr c71
                    obtain rfl := Option.some.inj H
                    have hcz75_0 : wr.cell? ⟨gb450, 0, none⟩ = some (.int .i64 t448) := (blk_cell BK450.out 0).trans rfl
                    have hcz75_1 : wr.cell? ⟨gb450, 1, none⟩ = some (.int .i64 t449) := (blk_cell BK450.out 1).trans rfl
                    have hfz75_0 := blk_frozen BK450.out 0
                    have hfz75_1 := blk_frozen BK450.out 1
                    go_wp2
                    go_ret
                    exact ⟨by first | rfl | (simp [errW_none, errW_some] <;> rfl) | (simp [*, errW_none, errW_some] <;> rfl), by repeat (first | (with_reducible first | exact HB.out | apply below_alloc | apply pw_below_drewN | apply below_drew1 | refine below_set ?_ GE450.out) | exact HB.out)⟩

/-- THE ONE PURE STATEMENT of laws_FnMoves: yours. -/
def laws_FnMoves.Pure : Prop := ∀ (l0 : List Int), l0.length ≤ maxLen → l0.length * 1 ≤ 140737488351232 → (∀ x ∈ l0, (Lit.int .u8 x).wf = true) → ∃ k, laws_FnMoves.f k l0 = some true
theorem laws_FnMoves.walk (P : laws_FnMoves.Pure) (a0 : Option Addr) (len0 cap0 : Nat) (z0 : List Int) (w : World) (w0 : (a0 = none ∧ len0 = 0 ∧ cap0 = 0 ∧ z0 = []) ∨ ∃ x, a0 = some x ∧ len0 ≤ cap0 ∧ cap0 ≤ maxLen ∧ z0.length = cap0 ∧ (∀ i, i < z0.length → w.cell? (x.add i) = some (.int .u8 (z0.getD i 0))) ∧ ∀ n ∈ z0, (Lit.int .u8 n).wf = true) (y0 : len0 * 1 ≤ 140737488351232) :
    Calls Try.prog 14 #[.slice a0 len0 cap0] w fun e w' => e = .returned (.bool true) ∧ Below w.heap.size w w' := by
  obtain ⟨l0, rfl, hr0, hm0, hw0, hc0⟩ := ReadsInt.ofRowC w0
  obtain ⟨k, h⟩ := P l0 hm0 y0 hw0
  refine (laws_FnMoves.calls k _ _ l0 true w (Kd.C_of_reads (d := (0 : Int)) (h1 := fun _ => rfl) hr0) hc0 h).mono ?_
  rintro e w' ⟨rfl, hd⟩
  exact ⟨rfl, hd⟩

end Go.Proofs.Ytojbjofngpcjaaa.MFnMoves
