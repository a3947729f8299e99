-- Written by this session's own program (wip/tools/myprint.py), over the kit's printer.
import Derived.Test.YtojbjofngpcjaaaMFnPermsx0
import Derived.Test.YtojbjofngpcjaaaMFnPermsx1
import Derived.Test.YtojbjofngpcjaaaMFnPermsx2
import Derived.Test.YtojbjofngpcjaaaMFnPermsx3
import Derived.Test.YtojbjofngpcjaaaMFnPermsx4
namespace Go.Proofs.Ytojbjofngpcjaaa.MFnPerms
open Go.RowKit Go.Proofs.YtojbjofngpcjaaaW.PrintWords Go.Proofs.YtojbjofngpcjaaaW.PrintLast Go.Proofs.YtojbjofngpcjaaaW.PrintMore
attribute [local go_sem] max2_int min2_int max_two min_two max_three min_three max_four min_four   -- for this text's walks alone
set_option linter.unusedVariables false
set_option linter.unusedSimpArgs false

/-! ### laws_FnPerms: function 10 -/
mutual
def laws_FnPerms.j0 : Nat → Int → List Int → List Int → List Int → Bool → Option (Bool)
  | 0, _, _, _, _, _ => none
  | k + 1, x3, x4, x5, x6, x104 => if x104 = true then (some false) else ((impl_OrderOfPerm.f k x4).bind fun t262 => ((impl_PowerPerm.f k x4 t262).bind fun bt263 => ((impl_CyclesOf.f k x4).bind fun t267 => (laws_FnPerms.l0 k x3 x4 x5 x6 t262 bt263.1 bt263.2 0 t267 (t267.length : Int) 0))))
def laws_FnPerms.l0 : Nat → Int → List Int → List Int → List Int → Int → List Int → Bool → Int → List (List Int) → Int → Int → Option (Bool)
  | 0, _, _, _, _, _, _, _, _, _, _, _ => none
  | k + 1, x3, x4, x5, x6, x18, x19, x20, x21, x114, x115, x116 => if x116 < x115 then (if 0 ≤ x116 then (if x116 < (x114.length : Int) then (if ((rd_L1 x114 x116).length : Int) = 0 then (some false) else (if (Int.tmod x18 ((rd_L1 x114 x116).length : Int)) = 0 then (laws_FnPerms.l0 k x3 x4 x5 x6 x18 x19 x20 (wrap64 (x21 + ((rd_L1 x114 x116).length : Int))) x114 x115 (wrap64 (x116 + 1))) else (some false))) else (none)) else (none)) else (if x18 ≥ 1 then (if x20 = true then ((impl_IdentityPerm.f k x3).bind fun t271 => ((laws_same.f k x19 t271).bind fun t274 => (if t274 = true then (if x21 = x3 then ((impl_IsEven.f k x6).bind fun t275 => ((impl_IsEven.f k x4).bind fun t276 => ((impl_IsEven.f k x5).bind fun t277 => (some (t275 == (t276 == t277)))))) else (some false)) else (some false)))) else (some false)) else (some false))
end
def laws_FnPerms.f (k : Nat) (l0 : List Int) : Option (Bool) := if (l0.length : Int) > 1048576 then (some true) else ((spec_MakeNum.f k l0 1).bind fun t226 => ((spec_MakePerm.f k l0 3 (wrap64 (1 + (Int.tmod t226 8)))).bind fun t227 => ((spec_MakePerm.f k l0 20 (wrap64 (1 + (Int.tmod t226 8)))).bind fun t230 => ((impl_ComposePerms.f k t227 t230).bind fun bt233 => ((impl_InversePerm.f k bt233.1).bind fun bt237 => ((impl_InversePerm.f k t227).bind fun bt241 => ((impl_InversePerm.f k t230).bind fun bt245 => ((impl_ComposePerms.f k bt245.1 bt241.1).bind fun bt249 => ((impl_ComposePerms.f k bt233.1 bt237.1).bind fun bt253 => (if bt233.2 = true then (if bt237.2 = true then (if bt241.2 = true then (if bt245.2 = true then (if bt249.2 = true then (if bt253.2 = true then ((laws_same.f k bt237.1 bt249.1).bind fun t257 => (if t257 = true then ((impl_IdentityPerm.f k (wrap64 (1 + (Int.tmod t226 8)))).bind fun t258 => ((laws_same.f k bt253.1 t258).bind fun t261 => (laws_FnPerms.j0 k (wrap64 (1 + (Int.tmod t226 8))) t227 t230 bt233.1 (!t261)))) else (laws_FnPerms.j0 k (wrap64 (1 + (Int.tmod t226 8))) t227 t230 bt233.1 true))) else (laws_FnPerms.j0 k (wrap64 (1 + (Int.tmod t226 8))) t227 t230 bt233.1 true)) else (laws_FnPerms.j0 k (wrap64 (1 + (Int.tmod t226 8))) t227 t230 bt233.1 true)) else (laws_FnPerms.j0 k (wrap64 (1 + (Int.tmod t226 8))) t227 t230 bt233.1 true)) else (laws_FnPerms.j0 k (wrap64 (1 + (Int.tmod t226 8))) t227 t230 bt233.1 true)) else (laws_FnPerms.j0 k (wrap64 (1 + (Int.tmod t226 8))) t227 t230 bt233.1 true)) else (laws_FnPerms.j0 k (wrap64 (1 + (Int.tmod t226 8))) t227 t230 bt233.1 true)))))))))))
theorem laws_FnPerms.mono_l : ∀ k, (∀ y0 y1 y2 y3 y4, LeO (laws_FnPerms.j0 k y0 y1 y2 y3 y4) (laws_FnPerms.j0 (k + 1) y0 y1 y2 y3 y4)) ∧ (∀ y0 y1 y2 y3 y4 y5 y6 y7 y8 y9 y10, LeO (laws_FnPerms.l0 k y0 y1 y2 y3 y4 y5 y6 y7 y8 y9 y10) (laws_FnPerms.l0 (k + 1) y0 y1 y2 y3 y4 y5 y6 y7 y8 y9 y10))
  | 0 => ⟨fun _ _ _ _ _ r h => by simp [laws_FnPerms.j0] at h, fun _ _ _ _ _ _ _ _ _ _ _ r h => by simp [laws_FnPerms.l0] at h⟩
  | k + 1 => by
    obtain ⟨ih0, ih1⟩ := laws_FnPerms.mono_l k
    refine ⟨?_, ?_⟩
    · intro y0 y1 y2 y3 y4
      unfold laws_FnPerms.j0
      repeat' first
      | (with_reducible exact ih0 _ _ _ _ _)
      | (with_reducible exact ih1 _ _ _ _ _ _ _ _ _ _ _)
      | (with_reducible exact impl_ComposePerms.mono _ _ _)
      | (with_reducible exact impl_CyclesOf.mono _ _)
      | (with_reducible exact impl_IdentityPerm.mono _ _)
      | (with_reducible exact impl_InversePerm.mono _ _)
      | (with_reducible exact impl_IsEven.mono _ _)
      | (with_reducible exact impl_OrderOfPerm.mono _ _)
      | (with_reducible exact impl_PowerPerm.mono _ _ _)
      | (with_reducible exact laws_same.mono _ _ _)
      | (with_reducible exact spec_MakeNum.mono _ _ _)
      | (with_reducible exact spec_MakePerm.mono _ _ _ _)
      | (with_reducible exact LeO.refl _)
      | (with_reducible exact LeO.none _)
      | (with_reducible refine LeO.ite ?_ ?_)
      | (with_reducible refine LeO.bind ?_ (fun _ => ?_))
      | exact ih0 _ _ _ _ _
      | exact ih1 _ _ _ _ _ _ _ _ _ _ _
      | exact impl_ComposePerms.mono _ _ _
      | exact impl_CyclesOf.mono _ _
      | exact impl_IdentityPerm.mono _ _
      | exact impl_InversePerm.mono _ _
      | exact impl_IsEven.mono _ _
      | exact impl_OrderOfPerm.mono _ _
      | exact impl_PowerPerm.mono _ _ _
      | exact laws_same.mono _ _ _
      | exact spec_MakeNum.mono _ _ _
      | exact spec_MakePerm.mono _ _ _ _
      | exact LeO.none _
      | refine LeO.ite ?_ ?_
      | refine LeO.bind ?_ (fun _ => ?_)
    · intro y0 y1 y2 y3 y4 y5 y6 y7 y8 y9 y10
      unfold laws_FnPerms.l0
      repeat' first
      | (with_reducible exact ih0 _ _ _ _ _)
      | (with_reducible exact ih1 _ _ _ _ _ _ _ _ _ _ _)
      | (with_reducible exact impl_ComposePerms.mono _ _ _)
      | (with_reducible exact impl_CyclesOf.mono _ _)
      | (with_reducible exact impl_IdentityPerm.mono _ _)
      | (with_reducible exact impl_InversePerm.mono _ _)
      | (with_reducible exact impl_IsEven.mono _ _)
      | (with_reducible exact impl_OrderOfPerm.mono _ _)
      | (with_reducible exact impl_PowerPerm.mono _ _ _)
      | (with_reducible exact laws_same.mono _ _ _)
      | (with_reducible exact spec_MakeNum.mono _ _ _)
      | (with_reducible exact spec_MakePerm.mono _ _ _ _)
      | (with_reducible exact LeO.refl _)
      | (with_reducible exact LeO.none _)
      | (with_reducible refine LeO.ite ?_ ?_)
      | (with_reducible refine LeO.bind ?_ (fun _ => ?_))
      | exact ih0 _ _ _ _ _
      | exact ih1 _ _ _ _ _ _ _ _ _ _ _
      | exact impl_ComposePerms.mono _ _ _
      | exact impl_CyclesOf.mono _ _
      | exact impl_IdentityPerm.mono _ _
      | exact impl_InversePerm.mono _ _
      | exact impl_IsEven.mono _ _
      | exact impl_OrderOfPerm.mono _ _
      | exact impl_PowerPerm.mono _ _ _
      | exact laws_same.mono _ _ _
      | exact spec_MakeNum.mono _ _ _
      | exact spec_MakePerm.mono _ _ _ _
      | exact LeO.none _
      | refine LeO.ite ?_ ?_
      | refine LeO.bind ?_ (fun _ => ?_)
theorem laws_FnPerms.mono : ∀ a0 k, LeO (laws_FnPerms.f k a0) (laws_FnPerms.f (k + 1) a0) := by
  intro a0 k
  obtain ⟨ih0, ih1⟩ := laws_FnPerms.mono_l k
  unfold laws_FnPerms.f
  repeat' first
      | (with_reducible exact ih0 _ _ _ _ _)
      | (with_reducible exact ih1 _ _ _ _ _ _ _ _ _ _ _)
      | (with_reducible exact impl_ComposePerms.mono _ _ _)
      | (with_reducible exact impl_CyclesOf.mono _ _)
      | (with_reducible exact impl_IdentityPerm.mono _ _)
      | (with_reducible exact impl_InversePerm.mono _ _)
      | (with_reducible exact impl_IsEven.mono _ _)
      | (with_reducible exact impl_OrderOfPerm.mono _ _)
      | (with_reducible exact impl_PowerPerm.mono _ _ _)
      | (with_reducible exact laws_same.mono _ _ _)
      | (with_reducible exact spec_MakeNum.mono _ _ _)
      | (with_reducible exact spec_MakePerm.mono _ _ _ _)
      | (with_reducible exact LeO.refl _)
      | (with_reducible exact LeO.none _)
      | (with_reducible refine LeO.ite ?_ ?_)
      | (with_reducible refine LeO.bind ?_ (fun _ => ?_))
      | exact ih0 _ _ _ _ _
      | exact ih1 _ _ _ _ _ _ _ _ _ _ _
      | exact impl_ComposePerms.mono _ _ _
      | exact impl_CyclesOf.mono _ _
      | exact impl_IdentityPerm.mono _ _
      | exact impl_InversePerm.mono _ _
      | exact impl_IsEven.mono _ _
      | exact impl_OrderOfPerm.mono _ _
      | exact impl_PowerPerm.mono _ _ _
      | exact laws_same.mono _ _ _
      | exact spec_MakeNum.mono _ _ _
      | exact spec_MakePerm.mono _ _ _ _
      | exact LeO.none _
      | refine LeO.ite ?_ ?_
      | refine LeO.bind ?_ (fun _ => ?_)
set_option maxHeartbeats 8000000 in
set_option maxRecDepth 100000 in
theorem laws_FnPerms.calls (k : Nat) (A0 : Option Addr) (c0 : Nat) (l0 : List Int) (r : Bool) (w : World) (hr0 : Kd.C (Kd.int .u8) w A0 l0.length l0) (hc0 : l0.length ≤ c0) (h : laws_FnPerms.f k l0 = some r) :
    Calls Try.prog 10 #[.slice A0 l0.length c0] w fun e w' => e = .returned (.bool r) ∧ Below w.heap.size w w' := by
  have HR0 := Aside0.mk hr0
  have HC0 := Aside0.mk hc0
  clear hr0 hc0
  have HB := Aside0.mk (Below.refl w.heap.size w)
  have H : (if (l0.length : Int) > 1048576 then (some true) else ((spec_MakeNum.f k l0 1).bind fun t226 => ((spec_MakePerm.f k l0 3 (wrap64 (1 + (Int.tmod t226 8)))).bind fun t227 => ((spec_MakePerm.f k l0 20 (wrap64 (1 + (Int.tmod t226 8)))).bind fun t230 => ((impl_ComposePerms.f k t227 t230).bind fun bt233 => ((impl_InversePerm.f k bt233.1).bind fun bt237 => ((impl_InversePerm.f k t227).bind fun bt241 => ((impl_InversePerm.f k t230).bind fun bt245 => ((impl_ComposePerms.f k bt245.1 bt241.1).bind fun bt249 => ((impl_ComposePerms.f k bt233.1 bt237.1).bind fun bt253 => (if bt233.2 = true then (if bt237.2 = true then (if bt241.2 = true then (if bt245.2 = true then (if bt249.2 = true then (if bt253.2 = true then ((laws_same.f k bt237.1 bt249.1).bind fun t257 => (if t257 = true then ((impl_IdentityPerm.f k (wrap64 (1 + (Int.tmod t226 8)))).bind fun t258 => ((laws_same.f k bt253.1 t258).bind fun t261 => (laws_FnPerms.j0 k (wrap64 (1 + (Int.tmod t226 8))) t227 t230 bt233.1 (!t261)))) else (laws_FnPerms.j0 k (wrap64 (1 + (Int.tmod t226 8))) t227 t230 bt233.1 true))) else (laws_FnPerms.j0 k (wrap64 (1 + (Int.tmod t226 8))) t227 t230 bt233.1 true)) else (laws_FnPerms.j0 k (wrap64 (1 + (Int.tmod t226 8))) t227 t230 bt233.1 true)) else (laws_FnPerms.j0 k (wrap64 (1 + (Int.tmod t226 8))) t227 t230 bt233.1 true)) else (laws_FnPerms.j0 k (wrap64 (1 + (Int.tmod t226 8))) t227 t230 bt233.1 true)) else (laws_FnPerms.j0 k (wrap64 (1 + (Int.tmod t226 8))) t227 t230 bt233.1 true)) else (laws_FnPerms.j0 k (wrap64 (1 + (Int.tmod t226 8))) t227 t230 bt233.1 true)))))))))))) = some r := h
  clear h
  by_cases c2 : (l0.length : Int) > 1048576
  · rw [if_pos c2] at H
    have c2b0 : decide (1048576 < (l0.length : Int)) = true := decide_eq_true c2
    have c2b1 : decide (1048576 < l0.length) = true := decide_eq_true (by omega)
    clear c2
    obtain rfl := Option.some.inj H
    go_enter Try.func10, Try.ntmps10
    go_wp2
    go_ret
    exact ⟨by first | rfl | (simp [errW_none, errW_some] <;> rfl) | (simp [*, errW_none, errW_some] <;> rfl), by repeat (first | (with_reducible first | exact HB.out | apply below_alloc | apply pw_below_drewN | apply below_drew1) | exact HB.out)⟩
  · rw [if_neg c2] at H
    have c2b0 : decide (1048576 < (l0.length : Int)) = false := decide_eq_false c2
    have c2b1 : decide (1048576 < l0.length) = false := decide_eq_false (by omega)
    clear c2
    replace H := Option.bind_eq_some_iff.mp H
    obtain ⟨t226, A30, H⟩ := H
    replace H : ((spec_MakePerm.f k l0 3 (wrap64 (1 + (Int.tmod t226 8)))).bind fun t227 => ((spec_MakePerm.f k l0 20 (wrap64 (1 + (Int.tmod t226 8)))).bind fun t230 => ((impl_ComposePerms.f k t227 t230).bind fun bt233 => ((impl_InversePerm.f k bt233.1).bind fun bt237 => ((impl_InversePerm.f k t227).bind fun bt241 => ((impl_InversePerm.f k t230).bind fun bt245 => ((impl_ComposePerms.f k bt245.1 bt241.1).bind fun bt249 => ((impl_ComposePerms.f k bt233.1 bt237.1).bind fun bt253 => (if bt233.2 = true then (if bt237.2 = true then (if bt241.2 = true then (if bt245.2 = true then (if bt249.2 = true then (if bt253.2 = true then ((laws_same.f k bt237.1 bt249.1).bind fun t257 => (if t257 = true then ((impl_IdentityPerm.f k (wrap64 (1 + (Int.tmod t226 8)))).bind fun t258 => ((laws_same.f k bt253.1 t258).bind fun t261 => (laws_FnPerms.j0 k (wrap64 (1 + (Int.tmod t226 8))) t227 t230 bt233.1 (!t261)))) else (laws_FnPerms.j0 k (wrap64 (1 + (Int.tmod t226 8))) t227 t230 bt233.1 true))) else (laws_FnPerms.j0 k (wrap64 (1 + (Int.tmod t226 8))) t227 t230 bt233.1 true)) else (laws_FnPerms.j0 k (wrap64 (1 + (Int.tmod t226 8))) t227 t230 bt233.1 true)) else (laws_FnPerms.j0 k (wrap64 (1 + (Int.tmod t226 8))) t227 t230 bt233.1 true)) else (laws_FnPerms.j0 k (wrap64 (1 + (Int.tmod t226 8))) t227 t230 bt233.1 true)) else (laws_FnPerms.j0 k (wrap64 (1 + (Int.tmod t226 8))) t227 t230 bt233.1 true)) else (laws_FnPerms.j0 k (wrap64 (1 + (Int.tmod t226 8))) t227 t230 bt233.1 true)))))))))) = some r := H
    have A3 := Aside0.mk A30
    clear A30
    replace H := Option.bind_eq_some_iff.mp H
    obtain ⟨t227, A40, H⟩ := H
    replace H : ((spec_MakePerm.f k l0 20 (wrap64 (1 + (Int.tmod t226 8)))).bind fun t230 => ((impl_ComposePerms.f k t227 t230).bind fun bt233 => ((impl_InversePerm.f k bt233.1).bind fun bt237 => ((impl_InversePerm.f k t227).bind fun bt241 => ((impl_InversePerm.f k t230).bind fun bt245 => ((impl_ComposePerms.f k bt245.1 bt241.1).bind fun bt249 => ((impl_ComposePerms.f k bt233.1 bt237.1).bind fun bt253 => (if bt233.2 = true then (if bt237.2 = true then (if bt241.2 = true then (if bt245.2 = true then (if bt249.2 = true then (if bt253.2 = true then ((laws_same.f k bt237.1 bt249.1).bind fun t257 => (if t257 = true then ((impl_IdentityPerm.f k (wrap64 (1 + (Int.tmod t226 8)))).bind fun t258 => ((laws_same.f k bt253.1 t258).bind fun t261 => (laws_FnPerms.j0 k (wrap64 (1 + (Int.tmod t226 8))) t227 t230 bt233.1 (!t261)))) else (laws_FnPerms.j0 k (wrap64 (1 + (Int.tmod t226 8))) t227 t230 bt233.1 true))) else (laws_FnPerms.j0 k (wrap64 (1 + (Int.tmod t226 8))) t227 t230 bt233.1 true)) else (laws_FnPerms.j0 k (wrap64 (1 + (Int.tmod t226 8))) t227 t230 bt233.1 true)) else (laws_FnPerms.j0 k (wrap64 (1 + (Int.tmod t226 8))) t227 t230 bt233.1 true)) else (laws_FnPerms.j0 k (wrap64 (1 + (Int.tmod t226 8))) t227 t230 bt233.1 true)) else (laws_FnPerms.j0 k (wrap64 (1 + (Int.tmod t226 8))) t227 t230 bt233.1 true)) else (laws_FnPerms.j0 k (wrap64 (1 + (Int.tmod t226 8))) t227 t230 bt233.1 true))))))))) = some r := H
    have A4 := Aside0.mk A40
    clear A40
    replace H := Option.bind_eq_some_iff.mp H
    obtain ⟨t230, A50, H⟩ := H
    replace H : ((impl_ComposePerms.f k t227 t230).bind fun bt233 => ((impl_InversePerm.f k bt233.1).bind fun bt237 => ((impl_InversePerm.f k t227).bind fun bt241 => ((impl_InversePerm.f k t230).bind fun bt245 => ((impl_ComposePerms.f k bt245.1 bt241.1).bind fun bt249 => ((impl_ComposePerms.f k bt233.1 bt237.1).bind fun bt253 => (if bt233.2 = true then (if bt237.2 = true then (if bt241.2 = true then (if bt245.2 = true then (if bt249.2 = true then (if bt253.2 = true then ((laws_same.f k bt237.1 bt249.1).bind fun t257 => (if t257 = true then ((impl_IdentityPerm.f k (wrap64 (1 + (Int.tmod t226 8)))).bind fun t258 => ((laws_same.f k bt253.1 t258).bind fun t261 => (laws_FnPerms.j0 k (wrap64 (1 + (Int.tmod t226 8))) t227 t230 bt233.1 (!t261)))) else (laws_FnPerms.j0 k (wrap64 (1 + (Int.tmod t226 8))) t227 t230 bt233.1 true))) else (laws_FnPerms.j0 k (wrap64 (1 + (Int.tmod t226 8))) t227 t230 bt233.1 true)) else (laws_FnPerms.j0 k (wrap64 (1 + (Int.tmod t226 8))) t227 t230 bt233.1 true)) else (laws_FnPerms.j0 k (wrap64 (1 + (Int.tmod t226 8))) t227 t230 bt233.1 true)) else (laws_FnPerms.j0 k (wrap64 (1 + (Int.tmod t226 8))) t227 t230 bt233.1 true)) else (laws_FnPerms.j0 k (wrap64 (1 + (Int.tmod t226 8))) t227 t230 bt233.1 true)) else (laws_FnPerms.j0 k (wrap64 (1 + (Int.tmod t226 8))) t227 t230 bt233.1 true)))))))) = some r := H
    have A5 := Aside0.mk A50
    clear A50
    replace H := Option.bind_eq_some_iff.mp H
    obtain ⟨⟨t233, t234⟩, A60, H⟩ := H
    replace H : ((impl_InversePerm.f k t233).bind fun bt237 => ((impl_InversePerm.f k t227).bind fun bt241 => ((impl_InversePerm.f k t230).bind fun bt245 => ((impl_ComposePerms.f k bt245.1 bt241.1).bind fun bt249 => ((impl_ComposePerms.f k t233 bt237.1).bind fun bt253 => (if t234 = true then (if bt237.2 = true then (if bt241.2 = true then (if bt245.2 = true then (if bt249.2 = true then (if bt253.2 = true then ((laws_same.f k bt237.1 bt249.1).bind fun t257 => (if t257 = true then ((impl_IdentityPerm.f k (wrap64 (1 + (Int.tmod t226 8)))).bind fun t258 => ((laws_same.f k bt253.1 t258).bind fun t261 => (laws_FnPerms.j0 k (wrap64 (1 + (Int.tmod t226 8))) t227 t230 t233 (!t261)))) else (laws_FnPerms.j0 k (wrap64 (1 + (Int.tmod t226 8))) t227 t230 t233 true))) else (laws_FnPerms.j0 k (wrap64 (1 + (Int.tmod t226 8))) t227 t230 t233 true)) else (laws_FnPerms.j0 k (wrap64 (1 + (Int.tmod t226 8))) t227 t230 t233 true)) else (laws_FnPerms.j0 k (wrap64 (1 + (Int.tmod t226 8))) t227 t230 t233 true)) else (laws_FnPerms.j0 k (wrap64 (1 + (Int.tmod t226 8))) t227 t230 t233 true)) else (laws_FnPerms.j0 k (wrap64 (1 + (Int.tmod t226 8))) t227 t230 t233 true)) else (laws_FnPerms.j0 k (wrap64 (1 + (Int.tmod t226 8))) t227 t230 t233 true))))))) = some r := H
    have A6 := Aside0.mk A60
    clear A60
    replace H := Option.bind_eq_some_iff.mp H
    obtain ⟨⟨t237, t238⟩, A70, H⟩ := H
    replace H : ((impl_InversePerm.f k t227).bind fun bt241 => ((impl_InversePerm.f k t230).bind fun bt245 => ((impl_ComposePerms.f k bt245.1 bt241.1).bind fun bt249 => ((impl_ComposePerms.f k t233 t237).bind fun bt253 => (if t234 = true then (if t238 = true then (if bt241.2 = true then (if bt245.2 = true then (if bt249.2 = true then (if bt253.2 = true then ((laws_same.f k t237 bt249.1).bind fun t257 => (if t257 = true then ((impl_IdentityPerm.f k (wrap64 (1 + (Int.tmod t226 8)))).bind fun t258 => ((laws_same.f k bt253.1 t258).bind fun t261 => (laws_FnPerms.j0 k (wrap64 (1 + (Int.tmod t226 8))) t227 t230 t233 (!t261)))) else (laws_FnPerms.j0 k (wrap64 (1 + (Int.tmod t226 8))) t227 t230 t233 true))) else (laws_FnPerms.j0 k (wrap64 (1 + (Int.tmod t226 8))) t227 t230 t233 true)) else (laws_FnPerms.j0 k (wrap64 (1 + (Int.tmod t226 8))) t227 t230 t233 true)) else (laws_FnPerms.j0 k (wrap64 (1 + (Int.tmod t226 8))) t227 t230 t233 true)) else (laws_FnPerms.j0 k (wrap64 (1 + (Int.tmod t226 8))) t227 t230 t233 true)) else (laws_FnPerms.j0 k (wrap64 (1 + (Int.tmod t226 8))) t227 t230 t233 true)) else (laws_FnPerms.j0 k (wrap64 (1 + (Int.tmod t226 8))) t227 t230 t233 true)))))) = some r := H
    have A7 := Aside0.mk A70
    clear A70
    replace H := Option.bind_eq_some_iff.mp H
    obtain ⟨⟨t241, t242⟩, A80, H⟩ := H
    replace H : ((impl_InversePerm.f k t230).bind fun bt245 => ((impl_ComposePerms.f k bt245.1 t241).bind fun bt249 => ((impl_ComposePerms.f k t233 t237).bind fun bt253 => (if t234 = true then (if t238 = true then (if t242 = true then (if bt245.2 = true then (if bt249.2 = true then (if bt253.2 = true then ((laws_same.f k t237 bt249.1).bind fun t257 => (if t257 = true then ((impl_IdentityPerm.f k (wrap64 (1 + (Int.tmod t226 8)))).bind fun t258 => ((laws_same.f k bt253.1 t258).bind fun t261 => (laws_FnPerms.j0 k (wrap64 (1 + (Int.tmod t226 8))) t227 t230 t233 (!t261)))) else (laws_FnPerms.j0 k (wrap64 (1 + (Int.tmod t226 8))) t227 t230 t233 true))) else (laws_FnPerms.j0 k (wrap64 (1 + (Int.tmod t226 8))) t227 t230 t233 true)) else (laws_FnPerms.j0 k (wrap64 (1 + (Int.tmod t226 8))) t227 t230 t233 true)) else (laws_FnPerms.j0 k (wrap64 (1 + (Int.tmod t226 8))) t227 t230 t233 true)) else (laws_FnPerms.j0 k (wrap64 (1 + (Int.tmod t226 8))) t227 t230 t233 true)) else (laws_FnPerms.j0 k (wrap64 (1 + (Int.tmod t226 8))) t227 t230 t233 true)) else (laws_FnPerms.j0 k (wrap64 (1 + (Int.tmod t226 8))) t227 t230 t233 true))))) = some r := H
    have A8 := Aside0.mk A80
    clear A80
    replace H := Option.bind_eq_some_iff.mp H
    obtain ⟨⟨t245, t246⟩, A90, H⟩ := H
    replace H : ((impl_ComposePerms.f k t245 t241).bind fun bt249 => ((impl_ComposePerms.f k t233 t237).bind fun bt253 => (if t234 = true then (if t238 = true then (if t242 = true then (if t246 = true then (if bt249.2 = true then (if bt253.2 = true then ((laws_same.f k t237 bt249.1).bind fun t257 => (if t257 = true then ((impl_IdentityPerm.f k (wrap64 (1 + (Int.tmod t226 8)))).bind fun t258 => ((laws_same.f k bt253.1 t258).bind fun t261 => (laws_FnPerms.j0 k (wrap64 (1 + (Int.tmod t226 8))) t227 t230 t233 (!t261)))) else (laws_FnPerms.j0 k (wrap64 (1 + (Int.tmod t226 8))) t227 t230 t233 true))) else (laws_FnPerms.j0 k (wrap64 (1 + (Int.tmod t226 8))) t227 t230 t233 true)) else (laws_FnPerms.j0 k (wrap64 (1 + (Int.tmod t226 8))) t227 t230 t233 true)) else (laws_FnPerms.j0 k (wrap64 (1 + (Int.tmod t226 8))) t227 t230 t233 true)) else (laws_FnPerms.j0 k (wrap64 (1 + (Int.tmod t226 8))) t227 t230 t233 true)) else (laws_FnPerms.j0 k (wrap64 (1 + (Int.tmod t226 8))) t227 t230 t233 true)) else (laws_FnPerms.j0 k (wrap64 (1 + (Int.tmod t226 8))) t227 t230 t233 true)))) = some r := H
    have A9 := Aside0.mk A90
    clear A90
    replace H := Option.bind_eq_some_iff.mp H
    obtain ⟨⟨t249, t250⟩, A100, H⟩ := H
    replace H : ((impl_ComposePerms.f k t233 t237).bind fun bt253 => (if t234 = true then (if t238 = true then (if t242 = true then (if t246 = true then (if t250 = true then (if bt253.2 = true then ((laws_same.f k t237 t249).bind fun t257 => (if t257 = true then ((impl_IdentityPerm.f k (wrap64 (1 + (Int.tmod t226 8)))).bind fun t258 => ((laws_same.f k bt253.1 t258).bind fun t261 => (laws_FnPerms.j0 k (wrap64 (1 + (Int.tmod t226 8))) t227 t230 t233 (!t261)))) else (laws_FnPerms.j0 k (wrap64 (1 + (Int.tmod t226 8))) t227 t230 t233 true))) else (laws_FnPerms.j0 k (wrap64 (1 + (Int.tmod t226 8))) t227 t230 t233 true)) else (laws_FnPerms.j0 k (wrap64 (1 + (Int.tmod t226 8))) t227 t230 t233 true)) else (laws_FnPerms.j0 k (wrap64 (1 + (Int.tmod t226 8))) t227 t230 t233 true)) else (laws_FnPerms.j0 k (wrap64 (1 + (Int.tmod t226 8))) t227 t230 t233 true)) else (laws_FnPerms.j0 k (wrap64 (1 + (Int.tmod t226 8))) t227 t230 t233 true)) else (laws_FnPerms.j0 k (wrap64 (1 + (Int.tmod t226 8))) t227 t230 t233 true))) = some r := H
    have A10 := Aside0.mk A100
    clear A100
    replace H := Option.bind_eq_some_iff.mp H
    obtain ⟨⟨t253, t254⟩, A110, H⟩ := H
    replace H : (if t234 = true then (if t238 = true then (if t242 = true then (if t246 = true then (if t250 = true then (if t254 = true then ((laws_same.f k t237 t249).bind fun t257 => (if t257 = true then ((impl_IdentityPerm.f k (wrap64 (1 + (Int.tmod t226 8)))).bind fun t258 => ((laws_same.f k t253 t258).bind fun t261 => (laws_FnPerms.j0 k (wrap64 (1 + (Int.tmod t226 8))) t227 t230 t233 (!t261)))) else (laws_FnPerms.j0 k (wrap64 (1 + (Int.tmod t226 8))) t227 t230 t233 true))) else (laws_FnPerms.j0 k (wrap64 (1 + (Int.tmod t226 8))) t227 t230 t233 true)) else (laws_FnPerms.j0 k (wrap64 (1 + (Int.tmod t226 8))) t227 t230 t233 true)) else (laws_FnPerms.j0 k (wrap64 (1 + (Int.tmod t226 8))) t227 t230 t233 true)) else (laws_FnPerms.j0 k (wrap64 (1 + (Int.tmod t226 8))) t227 t230 t233 true)) else (laws_FnPerms.j0 k (wrap64 (1 + (Int.tmod t226 8))) t227 t230 t233 true)) else (laws_FnPerms.j0 k (wrap64 (1 + (Int.tmod t226 8))) t227 t230 t233 true)) = some r := H
    have A11 := Aside0.mk A110
    clear A110
    have HC12 := Aside0.mk H
    clear H
    go_enter Try.func10, Try.ntmps10
    go_upto_region 12 with (first | ((with_reducible refine gate_callee (f := 36) rfl ?_); refine goesL_ (some 28) rfl rfl Try.func36 (by kernel_rfl) rfl #[.slice A0 l0.length c0, .int .i64 1] rfl (by (try simp only [List.map_toArray, List.map_cons, List.map_nil]); first | done | rfl | (simp only [List.length_drop, List.length_take]; rfl)) ?_; (with_reducible refine (spec_MakeNum.calls k _ _ l0 1 t226 _ ?side1 ?side2 A3.out).mono ?_); (case side1 => repeat (first | exact HR0.out | (with_reducible refine Kd.C_alloc ?_ _) | (with_reducible refine Kd.C_drewN ?_ _) | (with_reducible refine Kd.C_drew ?_))); (case side2 => exact HC0.out); rintro e w13 ⟨rfl, hb⟩; refine ⟨_, rfl, ?_⟩; have n0_ := Aside0.mk (below_step (by repeat (first | (with_reducible first | exact HB.out | apply below_alloc | apply pw_below_drewN | apply below_drew1) | exact HB.out)) hb); clear HB; have HB := n0_; clear n0_; (try clear hb); (try clear hb2); (try clear hk); (try clear hi)) | ((with_reducible refine gate_callee (f := 37) rfl ?_); refine goesL_ (some 33) rfl rfl Try.func37 (by kernel_rfl) rfl #[.slice A0 l0.length c0, .int .i64 3, .int .i64 (wrap64 (1 + (Int.tmod t226 8)))] rfl (by (try simp only [List.map_toArray, List.map_cons, List.map_nil]); first | done | rfl | (simp only [List.length_drop, List.length_take]; rfl)) ?_; (with_reducible refine (spec_MakePerm.calls k _ _ l0 3 (wrap64 (1 + (Int.tmod t226 8))) t227 _ ?side1 ?side2 A4.out).mono ?_); (case side1 => repeat (first | exact (Kd.C_below HR0.out HB.out) | (with_reducible refine Kd.C_alloc ?_ _) | (with_reducible refine Kd.C_drewN ?_ _) | (with_reducible refine Kd.C_drew ?_))); (case side2 => exact HC0.out); rintro e w14 ⟨v228, rfl, ho0, hb⟩; refine ⟨_, rfl, ?_⟩; have n0_ := Aside0.mk (Kd.R_lower ho0 (below_size (by repeat (first | (with_reducible first | exact HB.out | apply below_alloc | apply pw_below_drewN | apply below_drew1) | exact HB.out)))); have n1_ := Aside0.mk (below_step (by repeat (first | (with_reducible first | exact HB.out | apply below_alloc | apply pw_below_drewN | apply below_drew1) | exact HB.out)) hb); clear HB; have HO229 := n0_; have HB := n1_; clear n0_ n1_; (try clear hb); (try clear hb2); (try clear hk); (try clear hi); (try clear ho0)) | ((with_reducible refine gate_callee (f := 37) rfl ?_); refine goesL_ (some 36) rfl rfl Try.func37 (by kernel_rfl) rfl #[.slice A0 l0.length c0, .int .i64 20, .int .i64 (wrap64 (1 + (Int.tmod t226 8)))] rfl (by (try simp only [List.map_toArray, List.map_cons, List.map_nil]); first | done | rfl | (simp only [List.length_drop, List.length_take]; rfl)) ?_; (with_reducible refine (spec_MakePerm.calls k _ _ l0 20 (wrap64 (1 + (Int.tmod t226 8))) t230 _ ?side1 ?side2 A5.out).mono ?_); (case side1 => repeat (first | exact (Kd.C_below HR0.out HB.out) | (with_reducible refine Kd.C_alloc ?_ _) | (with_reducible refine Kd.C_drewN ?_ _) | (with_reducible refine Kd.C_drew ?_))); (case side2 => exact HC0.out); rintro e w15 ⟨v231, rfl, ho0, hb⟩; refine ⟨_, rfl, ?_⟩; have n0_ := Aside0.mk (Kd.R_elder' (by (with_reducible repeat (first | apply Kd.R_alloc | apply Kd.R_drewN | apply Kd.R_drew)); exact HO229.out) (Kd.R_base ho0) hb); have n1_ := Aside0.mk (Kd.R_lower (Kd.R_new' ho0 (Kd.R_lt (by (with_reducible repeat (first | apply Kd.R_alloc | apply Kd.R_drewN | apply Kd.R_drew)); exact HO229.out))) (below_size (by repeat (first | (with_reducible first | exact HB.out | apply below_alloc | apply pw_below_drewN | apply below_drew1) | exact HB.out)))); have n2_ := Aside0.mk (below_step (by repeat (first | (with_reducible first | exact HB.out | apply below_alloc | apply pw_below_drewN | apply below_drew1) | exact HB.out)) hb); clear HO229; clear HB; have HO229 := n0_; have HO232 := n1_; have HB := n2_; clear n0_ n1_ n2_; (try clear hb); (try clear hb2); (try clear hk); (try clear hi); (try clear ho0); obtain ⟨Ao16, co16, eo16⟩ := Kd.R_slice HO229.out; subst eo16; obtain ⟨Ao17, co17, eo17⟩ := Kd.R_slice HO232.out; subst eo17) | ((with_reducible refine gate_callee (f := 38) rfl ?_); refine goesL_ (some 40) rfl rfl Try.func38 (by kernel_rfl) rfl #[.slice Ao16 t227.length co16, .slice Ao17 t230.length co17] rfl (by (try simp only [List.map_toArray, List.map_cons, List.map_nil]); first | done | rfl | (simp only [List.length_drop, List.length_take]; rfl)) ?_; (with_reducible refine (impl_ComposePerms.calls k _ _ t227 _ _ t230 t233 t234 _ ?side1 ?side2 ?side3 ?side4 A6.out).mono ?_); (case side1 => repeat (first | exact (Kd.R_reads' HO229.out).2.2 | (with_reducible refine Kd.C_alloc ?_ _) | (with_reducible refine Kd.C_drewN ?_ _) | (with_reducible refine Kd.C_drew ?_))); (case side2 => exact (Kd.R_reads' HO229.out).2.1); (case side3 => repeat (first | exact (Kd.R_reads' HO232.out).2.2 | (with_reducible refine Kd.C_alloc ?_ _) | (with_reducible refine Kd.C_drewN ?_ _) | (with_reducible refine Kd.C_drew ?_))); (case side4 => exact (Kd.R_reads' HO232.out).2.1); rintro e w18 ⟨v235, rfl, ho0, hb⟩; refine ⟨_, rfl, ?_⟩; have n0_ := Aside0.mk (Kd.R_elder' (by (with_reducible repeat (first | apply Kd.R_alloc | apply Kd.R_drewN | apply Kd.R_drew)); exact HO229.out) (Kd.R_base ho0) hb); have n1_ := Aside0.mk (Kd.R_elder' (by (with_reducible repeat (first | apply Kd.R_alloc | apply Kd.R_drewN | apply Kd.R_drew)); exact HO232.out) (Kd.R_base ho0) hb); have n2_ := Aside0.mk (Kd.R_lower (Kd.R_new' (Kd.R_new' ho0 (Kd.R_lt (by (with_reducible repeat (first | apply Kd.R_alloc | apply Kd.R_drewN | apply Kd.R_drew)); exact HO229.out))) (Kd.R_lt (by (with_reducible repeat (first | apply Kd.R_alloc | apply Kd.R_drewN | apply Kd.R_drew)); exact HO232.out))) (below_size (by repeat (first | (with_reducible first | exact HB.out | apply below_alloc | apply pw_below_drewN | apply below_drew1) | exact HB.out)))); have n3_ := Aside0.mk (below_step (by repeat (first | (with_reducible first | exact HB.out | apply below_alloc | apply pw_below_drewN | apply below_drew1) | exact HB.out)) hb); clear HO229; clear HO232; clear HB; have HO229 := n0_; have HO232 := n1_; have HO236 := n2_; have HB := n3_; clear n0_ n1_ n2_ n3_; (try clear hb); (try clear hb2); (try clear hk); (try clear hi); (try clear ho0); obtain ⟨Ao19, co19, eo19⟩ := Kd.R_slice HO236.out; subst eo19) | ((with_reducible refine gate_callee (f := 39) rfl ?_); refine goesL_ (some 45) rfl rfl Try.func39 (by kernel_rfl) rfl #[.slice Ao19 t233.length co19] rfl (by (try simp only [List.map_toArray, List.map_cons, List.map_nil]); first | done | rfl | (simp only [List.length_drop, List.length_take]; rfl)) ?_; (with_reducible refine (impl_InversePerm.calls k _ _ t233 t237 t238 _ ?side1 ?side2 A7.out).mono ?_); (case side1 => repeat (first | exact (Kd.R_reads' HO236.out).2.2 | (with_reducible refine Kd.C_alloc ?_ _) | (with_reducible refine Kd.C_drewN ?_ _) | (with_reducible refine Kd.C_drew ?_))); (case side2 => exact (Kd.R_reads' HO236.out).2.1); rintro e w20 ⟨v239, rfl, ho0, hb⟩; refine ⟨_, rfl, ?_⟩; have n0_ := Aside0.mk (Kd.R_elder' (by (with_reducible repeat (first | apply Kd.R_alloc | apply Kd.R_drewN | apply Kd.R_drew)); exact HO229.out) (Kd.R_base ho0) hb); have n1_ := Aside0.mk (Kd.R_elder' (by (with_reducible repeat (first | apply Kd.R_alloc | apply Kd.R_drewN | apply Kd.R_drew)); exact HO232.out) (Kd.R_base ho0) hb); have n2_ := Aside0.mk (Kd.R_elder' (by (with_reducible repeat (first | apply Kd.R_alloc | apply Kd.R_drewN | apply Kd.R_drew)); exact HO236.out) (Kd.R_base ho0) hb); have n3_ := Aside0.mk (Kd.R_lower (Kd.R_new' (Kd.R_new' (Kd.R_new' ho0 (Kd.R_lt (by (with_reducible repeat (first | apply Kd.R_alloc | apply Kd.R_drewN | apply Kd.R_drew)); exact HO229.out))) (Kd.R_lt (by (with_reducible repeat (first | apply Kd.R_alloc | apply Kd.R_drewN | apply Kd.R_drew)); exact HO232.out))) (Kd.R_lt (by (with_reducible repeat (first | apply Kd.R_alloc | apply Kd.R_drewN | apply Kd.R_drew)); exact HO236.out))) (below_size (by repeat (first | (with_reducible first | exact HB.out | apply below_alloc | apply pw_below_drewN | apply below_drew1) | exact HB.out)))); have n4_ := Aside0.mk (below_step (by repeat (first | (with_reducible first | exact HB.out | apply below_alloc | apply pw_below_drewN | apply below_drew1) | exact HB.out)) hb); clear HO229; clear HO232; clear HO236; clear HB; have HO229 := n0_; have HO232 := n1_; have HO236 := n2_; have HO240 := n3_; have HB := n4_; clear n0_ n1_ n2_ n3_ n4_; (try clear hb); (try clear hb2); (try clear hk); (try clear hi); (try clear ho0)) | ((with_reducible refine gate_callee (f := 39) rfl ?_); refine goesL_ (some 50) rfl rfl Try.func39 (by kernel_rfl) rfl #[.slice Ao16 t227.length co16] rfl (by (try simp only [List.map_toArray, List.map_cons, List.map_nil]); first | done | rfl | (simp only [List.length_drop, List.length_take]; rfl)) ?_; (with_reducible refine (impl_InversePerm.calls k _ _ t227 t241 t242 _ ?side1 ?side2 A8.out).mono ?_); (case side1 => repeat (first | exact (Kd.R_reads' HO229.out).2.2 | (with_reducible refine Kd.C_alloc ?_ _) | (with_reducible refine Kd.C_drewN ?_ _) | (with_reducible refine Kd.C_drew ?_))); (case side2 => exact (Kd.R_reads' HO229.out).2.1); rintro e w21 ⟨v243, rfl, ho0, hb⟩; refine ⟨_, rfl, ?_⟩; have n0_ := Aside0.mk (Kd.R_elder' (by (with_reducible repeat (first | apply Kd.R_alloc | apply Kd.R_drewN | apply Kd.R_drew)); exact HO229.out) (Kd.R_base ho0) hb); have n1_ := Aside0.mk (Kd.R_elder' (by (with_reducible repeat (first | apply Kd.R_alloc | apply Kd.R_drewN | apply Kd.R_drew)); exact HO232.out) (Kd.R_base ho0) hb); have n2_ := Aside0.mk (Kd.R_elder' (by (with_reducible repeat (first | apply Kd.R_alloc | apply Kd.R_drewN | apply Kd.R_drew)); exact HO236.out) (Kd.R_base ho0) hb); have n3_ := Aside0.mk (Kd.R_elder' (by (with_reducible repeat (first | apply Kd.R_alloc | apply Kd.R_drewN | apply Kd.R_drew)); exact HO240.out) (Kd.R_base ho0) hb); have n4_ := Aside0.mk (Kd.R_lower (Kd.R_new' (Kd.R_new' (Kd.R_new' (Kd.R_new' ho0 (Kd.R_lt (by (with_reducible repeat (first | apply Kd.R_alloc | apply Kd.R_drewN | apply Kd.R_drew)); exact HO229.out))) (Kd.R_lt (by (with_reducible repeat (first | apply Kd.R_alloc | apply Kd.R_drewN | apply Kd.R_drew)); exact HO232.out))) (Kd.R_lt (by (with_reducible repeat (first | apply Kd.R_alloc | apply Kd.R_drewN | apply Kd.R_drew)); exact HO236.out))) (Kd.R_lt (by (with_reducible repeat (first | apply Kd.R_alloc | apply Kd.R_drewN | apply Kd.R_drew)); exact HO240.out))) (below_size (by repeat (first | (with_reducible first | exact HB.out | apply below_alloc | apply pw_below_drewN | apply below_drew1) | exact HB.out)))); have n5_ := Aside0.mk (below_step (by repeat (first | (with_reducible first | exact HB.out | apply below_alloc | apply pw_below_drewN | apply below_drew1) | exact HB.out)) hb); clear HO229; clear HO232; clear HO236; clear HO240; clear HB; have HO229 := n0_; have HO232 := n1_; have HO236 := n2_; have HO240 := n3_; have HO244 := n4_; have HB := n5_; clear n0_ n1_ n2_ n3_ n4_ n5_; (try clear hb); (try clear hb2); (try clear hk); (try clear hi); (try clear ho0)) | ((with_reducible refine gate_callee (f := 39) rfl ?_); refine goesL_ (some 55) rfl rfl Try.func39 (by kernel_rfl) rfl #[.slice Ao17 t230.length co17] rfl (by (try simp only [List.map_toArray, List.map_cons, List.map_nil]); first | done | rfl | (simp only [List.length_drop, List.length_take]; rfl)) ?_; (with_reducible refine (impl_InversePerm.calls k _ _ t230 t245 t246 _ ?side1 ?side2 A9.out).mono ?_); (case side1 => repeat (first | exact (Kd.R_reads' HO232.out).2.2 | (with_reducible refine Kd.C_alloc ?_ _) | (with_reducible refine Kd.C_drewN ?_ _) | (with_reducible refine Kd.C_drew ?_))); (case side2 => exact (Kd.R_reads' HO232.out).2.1); rintro e w22 ⟨v247, rfl, ho0, hb⟩; refine ⟨_, rfl, ?_⟩; have n0_ := Aside0.mk (Kd.R_elder' (by (with_reducible repeat (first | apply Kd.R_alloc | apply Kd.R_drewN | apply Kd.R_drew)); exact HO229.out) (Kd.R_base ho0) hb); have n1_ := Aside0.mk (Kd.R_elder' (by (with_reducible repeat (first | apply Kd.R_alloc | apply Kd.R_drewN | apply Kd.R_drew)); exact HO232.out) (Kd.R_base ho0) hb); have n2_ := Aside0.mk (Kd.R_elder' (by (with_reducible repeat (first | apply Kd.R_alloc | apply Kd.R_drewN | apply Kd.R_drew)); exact HO236.out) (Kd.R_base ho0) hb); have n3_ := Aside0.mk (Kd.R_elder' (by (with_reducible repeat (first | apply Kd.R_alloc | apply Kd.R_drewN | apply Kd.R_drew)); exact HO240.out) (Kd.R_base ho0) hb); have n4_ := Aside0.mk (Kd.R_elder' (by (with_reducible repeat (first | apply Kd.R_alloc | apply Kd.R_drewN | apply Kd.R_drew)); exact HO244.out) (Kd.R_base ho0) hb); have n5_ := Aside0.mk (Kd.R_lower (Kd.R_new' (Kd.R_new' (Kd.R_new' (Kd.R_new' (Kd.R_new' ho0 (Kd.R_lt (by (with_reducible repeat (first | apply Kd.R_alloc | apply Kd.R_drewN | apply Kd.R_drew)); exact HO229.out))) (Kd.R_lt (by (with_reducible repeat (first | apply Kd.R_alloc | apply Kd.R_drewN | apply Kd.R_drew)); exact HO232.out))) (Kd.R_lt (by (with_reducible repeat (first | apply Kd.R_alloc | apply Kd.R_drewN | apply Kd.R_drew)); exact HO236.out))) (Kd.R_lt (by (with_reducible repeat (first | apply Kd.R_alloc | apply Kd.R_drewN | apply Kd.R_drew)); exact HO240.out))) (Kd.R_lt (by (with_reducible repeat (first | apply Kd.R_alloc | apply Kd.R_drewN | apply Kd.R_drew)); exact HO244.out))) (below_size (by repeat (first | (with_reducible first | exact HB.out | apply below_alloc | apply pw_below_drewN | apply below_drew1) | exact HB.out)))); have n6_ := Aside0.mk (below_step (by repeat (first | (with_reducible first | exact HB.out | apply below_alloc | apply pw_below_drewN | apply below_drew1) | exact HB.out)) hb); clear HO229; clear HO232; clear HO236; clear HO240; clear HO244; clear HB; have HO229 := n0_; have HO232 := n1_; have HO236 := n2_; have HO240 := n3_; have HO244 := n4_; have HO248 := n5_; have HB := n6_; clear n0_ n1_ n2_ n3_ n4_ n5_ n6_; (try clear hb); (try clear hb2); (try clear hk); (try clear hi); (try clear ho0); obtain ⟨Ao23, co23, eo23⟩ := Kd.R_slice HO248.out; subst eo23; obtain ⟨Ao24, co24, eo24⟩ := Kd.R_slice HO244.out; subst eo24) | ((with_reducible refine gate_callee (f := 38) rfl ?_); refine goesL_ (some 61) rfl rfl Try.func38 (by kernel_rfl) rfl #[.slice Ao23 t245.length co23, .slice Ao24 t241.length co24] rfl (by (try simp only [List.map_toArray, List.map_cons, List.map_nil]); first | done | rfl | (simp only [List.length_drop, List.length_take]; rfl)) ?_; (with_reducible refine (impl_ComposePerms.calls k _ _ t245 _ _ t241 t249 t250 _ ?side1 ?side2 ?side3 ?side4 A10.out).mono ?_); (case side1 => repeat (first | exact (Kd.R_reads' HO248.out).2.2 | (with_reducible refine Kd.C_alloc ?_ _) | (with_reducible refine Kd.C_drewN ?_ _) | (with_reducible refine Kd.C_drew ?_))); (case side2 => exact (Kd.R_reads' HO248.out).2.1); (case side3 => repeat (first | exact (Kd.R_reads' HO244.out).2.2 | (with_reducible refine Kd.C_alloc ?_ _) | (with_reducible refine Kd.C_drewN ?_ _) | (with_reducible refine Kd.C_drew ?_))); (case side4 => exact (Kd.R_reads' HO244.out).2.1); rintro e w25 ⟨v251, rfl, ho0, hb⟩; refine ⟨_, rfl, ?_⟩; have n0_ := Aside0.mk (Kd.R_elder' (by (with_reducible repeat (first | apply Kd.R_alloc | apply Kd.R_drewN | apply Kd.R_drew)); exact HO229.out) (Kd.R_base ho0) hb); have n1_ := Aside0.mk (Kd.R_elder' (by (with_reducible repeat (first | apply Kd.R_alloc | apply Kd.R_drewN | apply Kd.R_drew)); exact HO232.out) (Kd.R_base ho0) hb); have n2_ := Aside0.mk (Kd.R_elder' (by (with_reducible repeat (first | apply Kd.R_alloc | apply Kd.R_drewN | apply Kd.R_drew)); exact HO236.out) (Kd.R_base ho0) hb); have n3_ := Aside0.mk (Kd.R_elder' (by (with_reducible repeat (first | apply Kd.R_alloc | apply Kd.R_drewN | apply Kd.R_drew)); exact HO240.out) (Kd.R_base ho0) hb); have n4_ := Aside0.mk (Kd.R_elder' (by (with_reducible repeat (first | apply Kd.R_alloc | apply Kd.R_drewN | apply Kd.R_drew)); exact HO244.out) (Kd.R_base ho0) hb); have n5_ := Aside0.mk (Kd.R_elder' (by (with_reducible repeat (first | apply Kd.R_alloc | apply Kd.R_drewN | apply Kd.R_drew)); exact HO248.out) (Kd.R_base ho0) hb); have n6_ := Aside0.mk (Kd.R_lower (Kd.R_new' (Kd.R_new' (Kd.R_new' (Kd.R_new' (Kd.R_new' (Kd.R_new' ho0 (Kd.R_lt (by (with_reducible repeat (first | apply Kd.R_alloc | apply Kd.R_drewN | apply Kd.R_drew)); exact HO229.out))) (Kd.R_lt (by (with_reducible repeat (first | apply Kd.R_alloc | apply Kd.R_drewN | apply Kd.R_drew)); exact HO232.out))) (Kd.R_lt (by (with_reducible repeat (first | apply Kd.R_alloc | apply Kd.R_drewN | apply Kd.R_drew)); exact HO236.out))) (Kd.R_lt (by (with_reducible repeat (first | apply Kd.R_alloc | apply Kd.R_drewN | apply Kd.R_drew)); exact HO240.out))) (Kd.R_lt (by (with_reducible repeat (first | apply Kd.R_alloc | apply Kd.R_drewN | apply Kd.R_drew)); exact HO244.out))) (Kd.R_lt (by (with_reducible repeat (first | apply Kd.R_alloc | apply Kd.R_drewN | apply Kd.R_drew)); exact HO248.out))) (below_size (by repeat (first | (with_reducible first | exact HB.out | apply below_alloc | apply pw_below_drewN | apply below_drew1) | exact HB.out)))); have n7_ := Aside0.mk (below_step (by repeat (first | (with_reducible first | exact HB.out | apply below_alloc | apply pw_below_drewN | apply below_drew1) | exact HB.out)) hb); clear HO229; clear HO232; clear HO236; clear HO240; clear HO244; clear HO248; clear HB; have HO229 := n0_; have HO232 := n1_; have HO236 := n2_; have HO240 := n3_; have HO244 := n4_; have HO248 := n5_; have HO252 := n6_; have HB := n7_; clear n0_ n1_ n2_ n3_ n4_ n5_ n6_ n7_; (try clear hb); (try clear hb2); (try clear hk); (try clear hi); (try clear ho0); obtain ⟨Ao26, co26, eo26⟩ := Kd.R_slice HO240.out; subst eo26) | ((with_reducible refine gate_callee (f := 38) rfl ?_); refine goesL_ (some 67) rfl rfl Try.func38 (by kernel_rfl) rfl #[.slice Ao19 t233.length co19, .slice Ao26 t237.length co26] rfl (by (try simp only [List.map_toArray, List.map_cons, List.map_nil]); first | done | rfl | (simp only [List.length_drop, List.length_take]; rfl)) ?_; (with_reducible refine (impl_ComposePerms.calls k _ _ t233 _ _ t237 t253 t254 _ ?side1 ?side2 ?side3 ?side4 A11.out).mono ?_); (case side1 => repeat (first | exact (Kd.R_reads' HO236.out).2.2 | (with_reducible refine Kd.C_alloc ?_ _) | (with_reducible refine Kd.C_drewN ?_ _) | (with_reducible refine Kd.C_drew ?_))); (case side2 => exact (Kd.R_reads' HO236.out).2.1); (case side3 => repeat (first | exact (Kd.R_reads' HO240.out).2.2 | (with_reducible refine Kd.C_alloc ?_ _) | (with_reducible refine Kd.C_drewN ?_ _) | (with_reducible refine Kd.C_drew ?_))); (case side4 => exact (Kd.R_reads' HO240.out).2.1); rintro e w27 ⟨v255, rfl, ho0, hb⟩; refine ⟨_, rfl, ?_⟩; have n0_ := Aside0.mk (Kd.R_elder' (by (with_reducible repeat (first | apply Kd.R_alloc | apply Kd.R_drewN | apply Kd.R_drew)); exact HO229.out) (Kd.R_base ho0) hb); have n1_ := Aside0.mk (Kd.R_elder' (by (with_reducible repeat (first | apply Kd.R_alloc | apply Kd.R_drewN | apply Kd.R_drew)); exact HO232.out) (Kd.R_base ho0) hb); have n2_ := Aside0.mk (Kd.R_elder' (by (with_reducible repeat (first | apply Kd.R_alloc | apply Kd.R_drewN | apply Kd.R_drew)); exact HO236.out) (Kd.R_base ho0) hb); have n3_ := Aside0.mk (Kd.R_elder' (by (with_reducible repeat (first | apply Kd.R_alloc | apply Kd.R_drewN | apply Kd.R_drew)); exact HO240.out) (Kd.R_base ho0) hb); have n4_ := Aside0.mk (Kd.R_elder' (by (with_reducible repeat (first | apply Kd.R_alloc | apply Kd.R_drewN | apply Kd.R_drew)); exact HO244.out) (Kd.R_base ho0) hb); have n5_ := Aside0.mk (Kd.R_elder' (by (with_reducible repeat (first | apply Kd.R_alloc | apply Kd.R_drewN | apply Kd.R_drew)); exact HO248.out) (Kd.R_base ho0) hb); have n6_ := Aside0.mk (Kd.R_elder' (by (with_reducible repeat (first | apply Kd.R_alloc | apply Kd.R_drewN | apply Kd.R_drew)); exact HO252.out) (Kd.R_base ho0) hb); have n7_ := Aside0.mk (Kd.R_lower (Kd.R_new' (Kd.R_new' (Kd.R_new' (Kd.R_new' (Kd.R_new' (Kd.R_new' (Kd.R_new' ho0 (Kd.R_lt (by (with_reducible repeat (first | apply Kd.R_alloc | apply Kd.R_drewN | apply Kd.R_drew)); exact HO229.out))) (Kd.R_lt (by (with_reducible repeat (first | apply Kd.R_alloc | apply Kd.R_drewN | apply Kd.R_drew)); exact HO232.out))) (Kd.R_lt (by (with_reducible repeat (first | apply Kd.R_alloc | apply Kd.R_drewN | apply Kd.R_drew)); exact HO236.out))) (Kd.R_lt (by (with_reducible repeat (first | apply Kd.R_alloc | apply Kd.R_drewN | apply Kd.R_drew)); exact HO240.out))) (Kd.R_lt (by (with_reducible repeat (first | apply Kd.R_alloc | apply Kd.R_drewN | apply Kd.R_drew)); exact HO244.out))) (Kd.R_lt (by (with_reducible repeat (first | apply Kd.R_alloc | apply Kd.R_drewN | apply Kd.R_drew)); exact HO248.out))) (Kd.R_lt (by (with_reducible repeat (first | apply Kd.R_alloc | apply Kd.R_drewN | apply Kd.R_drew)); exact HO252.out))) (below_size (by repeat (first | (with_reducible first | exact HB.out | apply below_alloc | apply pw_below_drewN | apply below_drew1) | exact HB.out)))); have n8_ := Aside0.mk (below_step (by repeat (first | (with_reducible first | exact HB.out | apply below_alloc | apply pw_below_drewN | apply below_drew1) | exact HB.out)) hb); clear HO229; clear HO232; clear HO236; clear HO240; clear HO244; clear HO248; clear HO252; clear HB; have HO229 := n0_; have HO232 := n1_; have HO236 := n2_; have HO240 := n3_; have HO244 := n4_; have HO248 := n5_; have HO252 := n6_; have HO256 := n7_; have HB := n8_; clear n0_ n1_ n2_ n3_ n4_ n5_ n6_ n7_ n8_; (try clear hb); (try clear hb2); (try clear hk); (try clear hi); (try clear ho0)))
    (try simp only [Act.put, List.setIfInBounds_toArray, List.set_cons_zero, List.set_cons_succ])
    go_cut [104] (fun v104 wc => ∃ (kq : Nat) (x104_11 : Bool), v104 = .bool x104_11 ∧ Aside0 (laws_FnPerms.j0 kq (wrap64 (1 + (Int.tmod t226 8))) t227 t230 t233 x104_11 = some r) ∧ Aside0 (kq ≤ k) ∧ Aside0 (Kd.R (Kd.int .i64) 3 wc w.heap.size (fun k_ => some k_ ≠ ((.slice Ao17 t230.length co17) : Value).ownBlock ∧ some k_ ≠ ((.slice Ao19 t233.length co19) : Value).ownBlock) (.slice Ao16 t227.length co16) t227) ∧ Aside0 (Kd.R (Kd.int .i64) 3 wc w.heap.size (fun k_ => some k_ ≠ ((.slice Ao16 t227.length co16) : Value).ownBlock ∧ some k_ ≠ ((.slice Ao19 t233.length co19) : Value).ownBlock) (.slice Ao17 t230.length co17) t230) ∧ Aside0 (Kd.R (Kd.int .i64) 3 wc w.heap.size (fun k_ => some k_ ≠ ((.slice Ao16 t227.length co16) : Value).ownBlock ∧ some k_ ≠ ((.slice Ao17 t230.length co17) : Value).ownBlock) (.slice Ao19 t233.length co19) t233) ∧ Aside0 (Below w.heap.size w wc))
    case first =>
      have H := HC12.out
      clear HC12
      by_cases c28 : t234 = true
      · subst c28
        rw [if_pos rfl] at H
        by_cases c29 : t238 = true
        · subst c29
          rw [if_pos rfl] at H
          by_cases c30 : t242 = true
          · subst c30
            rw [if_pos rfl] at H
            by_cases c31 : t246 = true
            · subst c31
              rw [if_pos rfl] at H
              by_cases c32 : t250 = true
              · subst c32
                rw [if_pos rfl] at H
                by_cases c33 : t254 = true
                · subst c33
                  rw [if_pos rfl] at H
                  replace H := Option.bind_eq_some_iff.mp H
                  obtain ⟨t257, A340, H⟩ := H
                  replace H : (if t257 = true then ((impl_IdentityPerm.f k (wrap64 (1 + (Int.tmod t226 8)))).bind fun t258 => ((laws_same.f k t253 t258).bind fun t261 => (laws_FnPerms.j0 k (wrap64 (1 + (Int.tmod t226 8))) t227 t230 t233 (!t261)))) else (laws_FnPerms.j0 k (wrap64 (1 + (Int.tmod t226 8))) t227 t230 t233 true)) = some r := H
                  have A34 := Aside0.mk A340
                  clear A340
                  by_cases c35 : t257 = true
                  · subst c35
                    rw [if_pos rfl] at H
                    replace H := Option.bind_eq_some_iff.mp H
                    obtain ⟨t258, A360, H⟩ := H
                    replace H : ((laws_same.f k t253 t258).bind fun t261 => (laws_FnPerms.j0 k (wrap64 (1 + (Int.tmod t226 8))) t227 t230 t233 (!t261))) = some r := H
                    have A36 := Aside0.mk A360
                    clear A360
                    replace H := Option.bind_eq_some_iff.mp H
                    obtain ⟨t261, A370, H⟩ := H
                    replace H : (laws_FnPerms.j0 k (wrap64 (1 + (Int.tmod t226 8))) t227 t230 t233 (!t261)) = some r := H
                    have A37 := Aside0.mk A370
                    clear A370
                    have H' := Aside0.mk H
                    clear H
                    obtain ⟨Ao38, co38, eo38⟩ := Kd.R_slice HO252.out
                    subst eo38
                    go_wp2_with (first | (go_at_call 40; (with_reducible refine (laws_same.calls k _ _ t237 _ _ t249 true _ ?side1 ?side2 ?side3 ?side4 A34.out).mono ?_); (case side1 => repeat (first | exact (Kd.R_reads' HO240.out).2.2 | (with_reducible refine Kd.C_alloc ?_ _) | (with_reducible refine Kd.C_drewN ?_ _) | (with_reducible refine Kd.C_drew ?_))); (case side2 => exact (Kd.R_reads' HO240.out).2.1); (case side3 => repeat (first | exact (Kd.R_reads' HO252.out).2.2 | (with_reducible refine Kd.C_alloc ?_ _) | (with_reducible refine Kd.C_drewN ?_ _) | (with_reducible refine Kd.C_drew ?_))); (case side4 => exact (Kd.R_reads' HO252.out).2.1); rintro e w' ⟨rfl, ⟨nd, rfl⟩⟩) | (go_at_call 41; (with_reducible refine (impl_IdentityPerm.calls k (wrap64 (1 + (Int.tmod t226 8))) t258 _ A36.out).mono ?_); rintro e w39 ⟨v259, rfl, ho0, hb⟩; have n0_ := Aside0.mk (Kd.R_elder' (by (with_reducible repeat (first | apply Kd.R_alloc | apply Kd.R_drewN | apply Kd.R_drew)); exact HO229.out) (Kd.R_base ho0) hb); have n1_ := Aside0.mk (Kd.R_elder' (by (with_reducible repeat (first | apply Kd.R_alloc | apply Kd.R_drewN | apply Kd.R_drew)); exact HO232.out) (Kd.R_base ho0) hb); have n2_ := Aside0.mk (Kd.R_elder' (by (with_reducible repeat (first | apply Kd.R_alloc | apply Kd.R_drewN | apply Kd.R_drew)); exact HO236.out) (Kd.R_base ho0) hb); have n3_ := Aside0.mk (Kd.R_elder' (by (with_reducible repeat (first | apply Kd.R_alloc | apply Kd.R_drewN | apply Kd.R_drew)); exact HO240.out) (Kd.R_base ho0) hb); have n4_ := Aside0.mk (Kd.R_elder' (by (with_reducible repeat (first | apply Kd.R_alloc | apply Kd.R_drewN | apply Kd.R_drew)); exact HO244.out) (Kd.R_base ho0) hb); have n5_ := Aside0.mk (Kd.R_elder' (by (with_reducible repeat (first | apply Kd.R_alloc | apply Kd.R_drewN | apply Kd.R_drew)); exact HO248.out) (Kd.R_base ho0) hb); have n6_ := Aside0.mk (Kd.R_elder' (by (with_reducible repeat (first | apply Kd.R_alloc | apply Kd.R_drewN | apply Kd.R_drew)); exact HO252.out) (Kd.R_base ho0) hb); have n7_ := Aside0.mk (Kd.R_elder' (by (with_reducible repeat (first | apply Kd.R_alloc | apply Kd.R_drewN | apply Kd.R_drew)); exact HO256.out) (Kd.R_base ho0) hb); have n8_ := Aside0.mk (Kd.R_lower (Kd.R_new' (Kd.R_new' (Kd.R_new' (Kd.R_new' (Kd.R_new' (Kd.R_new' (Kd.R_new' (Kd.R_new' ho0 (Kd.R_lt (by (with_reducible repeat (first | apply Kd.R_alloc | apply Kd.R_drewN | apply Kd.R_drew)); exact HO229.out))) (Kd.R_lt (by (with_reducible repeat (first | apply Kd.R_alloc | apply Kd.R_drewN | apply Kd.R_drew)); exact HO232.out))) (Kd.R_lt (by (with_reducible repeat (first | apply Kd.R_alloc | apply Kd.R_drewN | apply Kd.R_drew)); exact HO236.out))) (Kd.R_lt (by (with_reducible repeat (first | apply Kd.R_alloc | apply Kd.R_drewN | apply Kd.R_drew)); exact HO240.out))) (Kd.R_lt (by (with_reducible repeat (first | apply Kd.R_alloc | apply Kd.R_drewN | apply Kd.R_drew)); exact HO244.out))) (Kd.R_lt (by (with_reducible repeat (first | apply Kd.R_alloc | apply Kd.R_drewN | apply Kd.R_drew)); exact HO248.out))) (Kd.R_lt (by (with_reducible repeat (first | apply Kd.R_alloc | apply Kd.R_drewN | apply Kd.R_drew)); exact HO252.out))) (Kd.R_lt (by (with_reducible repeat (first | apply Kd.R_alloc | apply Kd.R_drewN | apply Kd.R_drew)); exact HO256.out))) (below_size (by repeat (first | (with_reducible first | exact HB.out | apply below_alloc | apply pw_below_drewN | apply below_drew1) | exact HB.out)))); have n9_ := Aside0.mk (below_step (by repeat (first | (with_reducible first | exact HB.out | apply below_alloc | apply pw_below_drewN | apply below_drew1) | exact HB.out)) hb); clear HO229; clear HO232; clear HO236; clear HO240; clear HO244; clear HO248; clear HO252; clear HO256; clear HB; have HO229 := n0_; have HO232 := n1_; have HO236 := n2_; have HO240 := n3_; have HO244 := n4_; have HO248 := n5_; have HO252 := n6_; have HO256 := n7_; have HO260 := n8_; have HB := n9_; clear n0_ n1_ n2_ n3_ n4_ n5_ n6_ n7_ n8_ n9_; (try clear hb); (try clear hb2); (try clear hk); (try clear hi); (try clear ho0); obtain ⟨Ao40, co40, eo40⟩ := Kd.R_slice HO256.out; subst eo40; obtain ⟨Ao41, co41, eo41⟩ := Kd.R_slice HO260.out; subst eo41) | (go_at_call 40; (with_reducible refine (laws_same.calls k _ _ t253 _ _ t258 t261 _ ?side1 ?side2 ?side3 ?side4 A37.out).mono ?_); (case side1 => repeat (first | exact (Kd.R_reads' HO256.out).2.2 | (with_reducible refine Kd.C_alloc ?_ _) | (with_reducible refine Kd.C_drewN ?_ _) | (with_reducible refine Kd.C_drew ?_))); (case side2 => exact (Kd.R_reads' HO256.out).2.1); (case side3 => repeat (first | exact (Kd.R_reads' HO260.out).2.2 | (with_reducible refine Kd.C_alloc ?_ _) | (with_reducible refine Kd.C_drewN ?_ _) | (with_reducible refine Kd.C_drew ?_))); (case side4 => exact (Kd.R_reads' HO260.out).2.1); rintro e w' ⟨rfl, ⟨nd, rfl⟩⟩))
                    go_meet
                    case rel => exact ⟨_, (!t261), (by first | rfl | (simp; done) | (simp [*]; done)), H', ⟨by first | omega | exact Nat.le_refl _⟩, ⟨by (with_reducible repeat (first | apply Kd.R_alloc | apply Kd.R_drewN | apply Kd.R_drew)); exact Kd.R_mono HO229.out (fun _ hk => ⟨hk.1.1.1.1.1.1.1.2, hk.1.1.1.1.1.1.2⟩)⟩, ⟨by (with_reducible repeat (first | apply Kd.R_alloc | apply Kd.R_drewN | apply Kd.R_drew)); exact Kd.R_mono HO232.out (fun _ hk => ⟨hk.1.1.1.1.1.1.1.2, hk.1.1.1.1.1.1.2⟩)⟩, ⟨by (with_reducible repeat (first | apply Kd.R_alloc | apply Kd.R_drewN | apply Kd.R_drew)); exact Kd.R_mono HO236.out (fun _ hk => ⟨hk.1.1.1.1.1.1.1.2, hk.1.1.1.1.1.1.2⟩)⟩, ⟨by repeat (first | (with_reducible first | exact HB.out | apply below_alloc | apply pw_below_drewN | apply below_drew1) | exact HB.out)⟩⟩
                  · replace c35 := Bool.eq_false_iff.mpr c35
                    subst c35
                    rw [if_neg (show ¬ (false = true) by decide)] at H
                    have H' := Aside0.mk H
                    clear H
                    obtain ⟨Ao42, co42, eo42⟩ := Kd.R_slice HO252.out
                    subst eo42
                    go_wp2_with (first | (go_at_call 40; (with_reducible refine (laws_same.calls k _ _ t237 _ _ t249 false _ ?side1 ?side2 ?side3 ?side4 A34.out).mono ?_); (case side1 => repeat (first | exact (Kd.R_reads' HO240.out).2.2 | (with_reducible refine Kd.C_alloc ?_ _) | (with_reducible refine Kd.C_drewN ?_ _) | (with_reducible refine Kd.C_drew ?_))); (case side2 => exact (Kd.R_reads' HO240.out).2.1); (case side3 => repeat (first | exact (Kd.R_reads' HO252.out).2.2 | (with_reducible refine Kd.C_alloc ?_ _) | (with_reducible refine Kd.C_drewN ?_ _) | (with_reducible refine Kd.C_drew ?_))); (case side4 => exact (Kd.R_reads' HO252.out).2.1); rintro e w' ⟨rfl, ⟨nd, rfl⟩⟩))
                    go_meet
                    case rel => exact ⟨_, (true), (by first | rfl | (simp; done) | (simp [*]; done)), H', ⟨by first | omega | exact Nat.le_refl _⟩, ⟨by (with_reducible repeat (first | apply Kd.R_alloc | apply Kd.R_drewN | apply Kd.R_drew)); exact Kd.R_mono HO229.out (fun _ hk => ⟨hk.1.1.1.1.1.1.2, hk.1.1.1.1.1.2⟩)⟩, ⟨by (with_reducible repeat (first | apply Kd.R_alloc | apply Kd.R_drewN | apply Kd.R_drew)); exact Kd.R_mono HO232.out (fun _ hk => ⟨hk.1.1.1.1.1.1.2, hk.1.1.1.1.1.2⟩)⟩, ⟨by (with_reducible repeat (first | apply Kd.R_alloc | apply Kd.R_drewN | apply Kd.R_drew)); exact Kd.R_mono HO236.out (fun _ hk => ⟨hk.1.1.1.1.1.1.2, hk.1.1.1.1.1.2⟩)⟩, ⟨by repeat (first | (with_reducible first | exact HB.out | apply below_alloc | apply pw_below_drewN | apply below_drew1) | exact HB.out)⟩⟩
                · replace c33 := Bool.eq_false_iff.mpr c33
                  subst c33
                  rw [if_neg (show ¬ (false = true) by decide)] at H
                  have H' := Aside0.mk H
                  clear H
                  go_wp2
                  go_meet
                  case rel => exact ⟨_, (true), (by first | rfl | (simp; done) | (simp [*]; done)), H', ⟨by first | omega | exact Nat.le_refl _⟩, ⟨by (with_reducible repeat (first | apply Kd.R_alloc | apply Kd.R_drewN | apply Kd.R_drew)); exact Kd.R_mono HO229.out (fun _ hk => ⟨hk.1.1.1.1.1.1.2, hk.1.1.1.1.1.2⟩)⟩, ⟨by (with_reducible repeat (first | apply Kd.R_alloc | apply Kd.R_drewN | apply Kd.R_drew)); exact Kd.R_mono HO232.out (fun _ hk => ⟨hk.1.1.1.1.1.1.2, hk.1.1.1.1.1.2⟩)⟩, ⟨by (with_reducible repeat (first | apply Kd.R_alloc | apply Kd.R_drewN | apply Kd.R_drew)); exact Kd.R_mono HO236.out (fun _ hk => ⟨hk.1.1.1.1.1.1.2, hk.1.1.1.1.1.2⟩)⟩, ⟨by repeat (first | (with_reducible first | exact HB.out | apply below_alloc | apply pw_below_drewN | apply below_drew1) | exact HB.out)⟩⟩
              · replace c32 := Bool.eq_false_iff.mpr c32
                subst c32
                rw [if_neg (show ¬ (false = true) by decide)] at H
                have H' := Aside0.mk H
                clear H
                go_wp2
                go_meet
                case rel => exact ⟨_, (true), (by first | rfl | (simp; done) | (simp [*]; done)), H', ⟨by first | omega | exact Nat.le_refl _⟩, ⟨by (with_reducible repeat (first | apply Kd.R_alloc | apply Kd.R_drewN | apply Kd.R_drew)); exact Kd.R_mono HO229.out (fun _ hk => ⟨hk.1.1.1.1.1.1.2, hk.1.1.1.1.1.2⟩)⟩, ⟨by (with_reducible repeat (first | apply Kd.R_alloc | apply Kd.R_drewN | apply Kd.R_drew)); exact Kd.R_mono HO232.out (fun _ hk => ⟨hk.1.1.1.1.1.1.2, hk.1.1.1.1.1.2⟩)⟩, ⟨by (with_reducible repeat (first | apply Kd.R_alloc | apply Kd.R_drewN | apply Kd.R_drew)); exact Kd.R_mono HO236.out (fun _ hk => ⟨hk.1.1.1.1.1.1.2, hk.1.1.1.1.1.2⟩)⟩, ⟨by repeat (first | (with_reducible first | exact HB.out | apply below_alloc | apply pw_below_drewN | apply below_drew1) | exact HB.out)⟩⟩
            · replace c31 := Bool.eq_false_iff.mpr c31
              subst c31
              rw [if_neg (show ¬ (false = true) by decide)] at H
              have H' := Aside0.mk H
              clear H
              go_wp2
              go_meet
              case rel => exact ⟨_, (true), (by first | rfl | (simp; done) | (simp [*]; done)), H', ⟨by first | omega | exact Nat.le_refl _⟩, ⟨by (with_reducible repeat (first | apply Kd.R_alloc | apply Kd.R_drewN | apply Kd.R_drew)); exact Kd.R_mono HO229.out (fun _ hk => ⟨hk.1.1.1.1.1.1.2, hk.1.1.1.1.1.2⟩)⟩, ⟨by (with_reducible repeat (first | apply Kd.R_alloc | apply Kd.R_drewN | apply Kd.R_drew)); exact Kd.R_mono HO232.out (fun _ hk => ⟨hk.1.1.1.1.1.1.2, hk.1.1.1.1.1.2⟩)⟩, ⟨by (with_reducible repeat (first | apply Kd.R_alloc | apply Kd.R_drewN | apply Kd.R_drew)); exact Kd.R_mono HO236.out (fun _ hk => ⟨hk.1.1.1.1.1.1.2, hk.1.1.1.1.1.2⟩)⟩, ⟨by repeat (first | (with_reducible first | exact HB.out | apply below_alloc | apply pw_below_drewN | apply below_drew1) | exact HB.out)⟩⟩
          · replace c30 := Bool.eq_false_iff.mpr c30
            subst c30
            rw [if_neg (show ¬ (false = true) by decide)] at H
            have H' := Aside0.mk H
            clear H
            go_wp2
            go_meet
            case rel => exact ⟨_, (true), (by first | rfl | (simp; done) | (simp [*]; done)), H', ⟨by first | omega | exact Nat.le_refl _⟩, ⟨by (with_reducible repeat (first | apply Kd.R_alloc | apply Kd.R_drewN | apply Kd.R_drew)); exact Kd.R_mono HO229.out (fun _ hk => ⟨hk.1.1.1.1.1.1.2, hk.1.1.1.1.1.2⟩)⟩, ⟨by (with_reducible repeat (first | apply Kd.R_alloc | apply Kd.R_drewN | apply Kd.R_drew)); exact Kd.R_mono HO232.out (fun _ hk => ⟨hk.1.1.1.1.1.1.2, hk.1.1.1.1.1.2⟩)⟩, ⟨by (with_reducible repeat (first | apply Kd.R_alloc | apply Kd.R_drewN | apply Kd.R_drew)); exact Kd.R_mono HO236.out (fun _ hk => ⟨hk.1.1.1.1.1.1.2, hk.1.1.1.1.1.2⟩)⟩, ⟨by repeat (first | (with_reducible first | exact HB.out | apply below_alloc | apply pw_below_drewN | apply below_drew1) | exact HB.out)⟩⟩
        · replace c29 := Bool.eq_false_iff.mpr c29
          subst c29
          rw [if_neg (show ¬ (false = true) by decide)] at H
          have H' := Aside0.mk H
          clear H
          go_wp2
          go_meet
          case rel => exact ⟨_, (true), (by first | rfl | (simp; done) | (simp [*]; done)), H', ⟨by first | omega | exact Nat.le_refl _⟩, ⟨by (with_reducible repeat (first | apply Kd.R_alloc | apply Kd.R_drewN | apply Kd.R_drew)); exact Kd.R_mono HO229.out (fun _ hk => ⟨hk.1.1.1.1.1.1.2, hk.1.1.1.1.1.2⟩)⟩, ⟨by (with_reducible repeat (first | apply Kd.R_alloc | apply Kd.R_drewN | apply Kd.R_drew)); exact Kd.R_mono HO232.out (fun _ hk => ⟨hk.1.1.1.1.1.1.2, hk.1.1.1.1.1.2⟩)⟩, ⟨by (with_reducible repeat (first | apply Kd.R_alloc | apply Kd.R_drewN | apply Kd.R_drew)); exact Kd.R_mono HO236.out (fun _ hk => ⟨hk.1.1.1.1.1.1.2, hk.1.1.1.1.1.2⟩)⟩, ⟨by repeat (first | (with_reducible first | exact HB.out | apply below_alloc | apply pw_below_drewN | apply below_drew1) | exact HB.out)⟩⟩
      · replace c28 := Bool.eq_false_iff.mpr c28
        subst c28
        rw [if_neg (show ¬ (false = true) by decide)] at H
        have H' := Aside0.mk H
        clear H
        go_wp2
        go_meet
        case rel => exact ⟨_, (true), (by first | rfl | (simp; done) | (simp [*]; done)), H', ⟨by first | omega | exact Nat.le_refl _⟩, ⟨by (with_reducible repeat (first | apply Kd.R_alloc | apply Kd.R_drewN | apply Kd.R_drew)); exact Kd.R_mono HO229.out (fun _ hk => ⟨hk.1.1.1.1.1.1.2, hk.1.1.1.1.1.2⟩)⟩, ⟨by (with_reducible repeat (first | apply Kd.R_alloc | apply Kd.R_drewN | apply Kd.R_drew)); exact Kd.R_mono HO232.out (fun _ hk => ⟨hk.1.1.1.1.1.1.2, hk.1.1.1.1.1.2⟩)⟩, ⟨by (with_reducible repeat (first | apply Kd.R_alloc | apply Kd.R_drewN | apply Kd.R_drew)); exact Kd.R_mono HO236.out (fun _ hk => ⟨hk.1.1.1.1.1.1.2, hk.1.1.1.1.1.2⟩)⟩, ⟨by repeat (first | (with_reducible first | exact HB.out | apply below_alloc | apply pw_below_drewN | apply below_drew1) | exact HB.out)⟩⟩
    case rest =>
      clear HC12
      try clear c1
      try clear c2
      try clear c2b0
      try clear c2b1
      try clear p2
      try clear c3
      try clear p6
      try clear c10
      try clear c28
      try clear c29
      try clear c30
      try clear c31
      try clear c32
      try clear c33
      try clear c35
      try clear c36
      try clear c37
      try clear c38
      try clear c39
      obtain ⟨kq, x104_11, rfl, HA, HJ11, HO_4, HO_5, HO_6, HB⟩ := hcut
      cases kq with
      | zero => exact absurd HA.out (by simp [laws_FnPerms.j0])
      | succ kj11 =>
        have H := HA.out
        clear HA
        simp only [laws_FnPerms.j0] at H
        by_cases c43 : x104_11 = true
        · subst c43
          rw [if_pos rfl] at H
          obtain rfl := Option.some.inj H
          go_wp2
          go_ret
          exact ⟨by first | rfl | (simp [errW_none, errW_some] <;> rfl) | (simp [*, errW_none, errW_some] <;> rfl), by repeat (first | (with_reducible first | exact HB.out | apply below_alloc | apply pw_below_drewN | apply below_drew1) | exact HB.out)⟩
        · replace c43 := Bool.eq_false_iff.mpr c43
          subst c43
          rw [if_neg (show ¬ (false = true) by decide)] at H
          replace H := Option.bind_eq_some_iff.mp H
          obtain ⟨t262, A440, H⟩ := H
          replace H : ((impl_PowerPerm.f kj11 t227 t262).bind fun bt263 => ((impl_CyclesOf.f kj11 t227).bind fun t267 => (laws_FnPerms.l0 kj11 (wrap64 (1 + (Int.tmod t226 8))) t227 t230 t233 t262 bt263.1 bt263.2 0 t267 (t267.length : Int) 0))) = some r := H
          have A44 := Aside0.mk A440
          clear A440
          replace H := Option.bind_eq_some_iff.mp H
          obtain ⟨⟨t263, t264⟩, A450, H⟩ := H
          replace H : ((impl_CyclesOf.f kj11 t227).bind fun t267 => (laws_FnPerms.l0 kj11 (wrap64 (1 + (Int.tmod t226 8))) t227 t230 t233 t262 t263 t264 0 t267 (t267.length : Int) 0)) = some r := H
          have A45 := Aside0.mk A450
          clear A450
          replace H := Option.bind_eq_some_iff.mp H
          obtain ⟨t267, A460, H⟩ := H
          replace H : (laws_FnPerms.l0 kj11 (wrap64 (1 + (Int.tmod t226 8))) t227 t230 t233 t262 t263 t264 0 t267 (t267.length : Int) 0) = some r := H
          have A46 := Aside0.mk A460
          clear A460
          have H' := Aside0.mk H
          clear H
          go_wp2_with (first | ((with_reducible refine gate_callee (f := 26) rfl ?_); refine goesL_ (some 106) rfl rfl Try.func26 (by kernel_rfl) rfl #[.slice Ao16 t227.length co16] rfl (by (try simp only [List.map_toArray, List.map_cons, List.map_nil]); first | done | rfl | (simp only [List.length_drop, List.length_take]; rfl)) ?_; (with_reducible refine (impl_OrderOfPerm.calls kj11 _ _ t227 t262 _ ?side1 ?side2 A44.out).mono ?_); (case side1 => repeat (first | exact (Kd.R_reads' HO_4.out).2.2 | (with_reducible refine Kd.C_alloc ?_ _) | (with_reducible refine Kd.C_drewN ?_ _) | (with_reducible refine Kd.C_drew ?_))); (case side2 => exact (Kd.R_reads' HO_4.out).2.1); rintro e w47 ⟨rfl, hb⟩; refine ⟨_, rfl, ?_⟩; have n0_ := Aside0.mk (Kd.R_below (by (with_reducible repeat (first | apply Kd.R_alloc | apply Kd.R_drewN | apply Kd.R_drew)); exact HO_4.out) hb); have n1_ := Aside0.mk (Kd.R_below (by (with_reducible repeat (first | apply Kd.R_alloc | apply Kd.R_drewN | apply Kd.R_drew)); exact HO_5.out) hb); have n2_ := Aside0.mk (Kd.R_below (by (with_reducible repeat (first | apply Kd.R_alloc | apply Kd.R_drewN | apply Kd.R_drew)); exact HO_6.out) hb); have n3_ := Aside0.mk (below_step (by repeat (first | (with_reducible first | exact HB.out | apply below_alloc | apply pw_below_drewN | apply below_drew1) | exact HB.out)) hb); clear HO_4; clear HO_5; clear HO_6; clear HB; have HO_4 := n0_; have HO_5 := n1_; have HO_6 := n2_; have HB := n3_; clear n0_ n1_ n2_ n3_; (try clear hb); (try clear hb2); (try clear hk); (try clear hi)) | ((with_reducible refine gate_callee (f := 42) rfl ?_); refine goesL_ (some 110) rfl rfl Try.func42 (by kernel_rfl) rfl #[.slice Ao16 t227.length co16, .int .i64 t262] rfl (by (try simp only [List.map_toArray, List.map_cons, List.map_nil]); first | done | rfl | (simp only [List.length_drop, List.length_take]; rfl)) ?_; (with_reducible refine (impl_PowerPerm.calls kj11 _ _ t227 t262 t263 t264 _ ?side1 ?side2 A45.out).mono ?_); (case side1 => repeat (first | exact (Kd.R_reads' HO_4.out).2.2 | (with_reducible refine Kd.C_alloc ?_ _) | (with_reducible refine Kd.C_drewN ?_ _) | (with_reducible refine Kd.C_drew ?_))); (case side2 => exact (Kd.R_reads' HO_4.out).2.1); rintro e w48 ⟨v265, rfl, ho0, hb⟩; refine ⟨_, rfl, ?_⟩; have n0_ := Aside0.mk (Kd.R_elder' (by (with_reducible repeat (first | apply Kd.R_alloc | apply Kd.R_drewN | apply Kd.R_drew)); exact HO_4.out) (Kd.R_base ho0) hb); have n1_ := Aside0.mk (Kd.R_elder' (by (with_reducible repeat (first | apply Kd.R_alloc | apply Kd.R_drewN | apply Kd.R_drew)); exact HO_5.out) (Kd.R_base ho0) hb); have n2_ := Aside0.mk (Kd.R_elder' (by (with_reducible repeat (first | apply Kd.R_alloc | apply Kd.R_drewN | apply Kd.R_drew)); exact HO_6.out) (Kd.R_base ho0) hb); have n3_ := Aside0.mk (Kd.R_lower (Kd.R_new' (Kd.R_new' (Kd.R_new' ho0 (Kd.R_lt (by (with_reducible repeat (first | apply Kd.R_alloc | apply Kd.R_drewN | apply Kd.R_drew)); exact HO_4.out))) (Kd.R_lt (by (with_reducible repeat (first | apply Kd.R_alloc | apply Kd.R_drewN | apply Kd.R_drew)); exact HO_5.out))) (Kd.R_lt (by (with_reducible repeat (first | apply Kd.R_alloc | apply Kd.R_drewN | apply Kd.R_drew)); exact HO_6.out))) (below_size (by repeat (first | (with_reducible first | exact HB.out | apply below_alloc | apply pw_below_drewN | apply below_drew1) | exact HB.out)))); have n4_ := Aside0.mk (below_step (by repeat (first | (with_reducible first | exact HB.out | apply below_alloc | apply pw_below_drewN | apply below_drew1) | exact HB.out)) hb); clear HO_4; clear HO_5; clear HO_6; clear HB; have HO_4 := n0_; have HO_5 := n1_; have HO_6 := n2_; have HO266 := n3_; have HB := n4_; clear n0_ n1_ n2_ n3_ n4_; (try clear hb); (try clear hb2); (try clear hk); (try clear hi); (try clear ho0)) | ((with_reducible refine gate_callee (f := 20) rfl ?_); refine goesL_ (some 114) rfl rfl Try.func20 (by kernel_rfl) rfl #[.slice Ao16 t227.length co16] rfl (by (try simp only [List.map_toArray, List.map_cons, List.map_nil]); first | done | rfl | (simp only [List.length_drop, List.length_take]; rfl)) ?_; (with_reducible refine (impl_CyclesOf.calls kj11 _ _ t227 t267 _ ?side1 ?side2 A46.out).mono ?_); (case side1 => repeat (first | exact (Kd.R_reads' HO_4.out).2.2 | (with_reducible refine Kd.C_alloc ?_ _) | (with_reducible refine Kd.C_drewN ?_ _) | (with_reducible refine Kd.C_drew ?_))); (case side2 => exact (Kd.R_reads' HO_4.out).2.1); rintro e w49 ⟨v268, rfl, ho0, hb⟩; refine ⟨_, rfl, ?_⟩; have n0_ := Aside0.mk (Kd.R_below (by (with_reducible repeat (first | apply Kd.R_alloc | apply Kd.R_drewN | apply Kd.R_drew)); exact HO_4.out) hb); have n1_ := Aside0.mk (Kd.R_below (by (with_reducible repeat (first | apply Kd.R_alloc | apply Kd.R_drewN | apply Kd.R_drew)); exact HO_5.out) hb); have n2_ := Aside0.mk (Kd.R_below (by (with_reducible repeat (first | apply Kd.R_alloc | apply Kd.R_drewN | apply Kd.R_drew)); exact HO_6.out) hb); have n3_ := Aside0.mk (Kd.R_below (by (with_reducible repeat (first | apply Kd.R_alloc | apply Kd.R_drewN | apply Kd.R_drew)); exact HO266.out) hb); have n4_ := Aside0.mk (Kd.S_lower (Kd.S_new' (Kd.S_new' (Kd.S_new' (Kd.S_new' ho0 (Kd.R_lt (by (with_reducible repeat (first | apply Kd.R_alloc | apply Kd.R_drewN | apply Kd.R_drew)); exact HO_4.out))) (Kd.R_lt (by (with_reducible repeat (first | apply Kd.R_alloc | apply Kd.R_drewN | apply Kd.R_drew)); exact HO_5.out))) (Kd.R_lt (by (with_reducible repeat (first | apply Kd.R_alloc | apply Kd.R_drewN | apply Kd.R_drew)); exact HO_6.out))) (Kd.R_lt (by (with_reducible repeat (first | apply Kd.R_alloc | apply Kd.R_drewN | apply Kd.R_drew)); exact HO266.out))) (below_size (by repeat (first | (with_reducible first | exact HB.out | apply below_alloc | apply pw_below_drewN | apply below_drew1) | exact HB.out)))); have n5_ := Aside0.mk (below_step (by repeat (first | (with_reducible first | exact HB.out | apply below_alloc | apply pw_below_drewN | apply below_drew1) | exact HB.out)) hb); clear HO_4; clear HO_5; clear HO_6; clear HO266; clear HB; have HO_4 := n0_; have HO_5 := n1_; have HO_6 := n2_; have HO266 := n3_; have HO269 := n4_; have HB := n5_; clear n0_ n1_ n2_ n3_ n4_ n5_; (try clear hb); (try clear hb2); (try clear hk); (try clear hi); (try clear ho0); obtain ⟨Ao50, co50, eo50⟩ := Kd.S_slice HO269.out; subst eo50))
          go_loopg [21, 116] kj11 (fun kq v21 v116 w' => ∃ (x21_2 : Int) (x116_2 : Int), v21 = .int .i64 x21_2 ∧ v116 = .int .i64 x116_2 ∧ Aside0 (laws_FnPerms.l0 kq (wrap64 (1 + (Int.tmod t226 8))) t227 t230 t233 t262 t263 t264 x21_2 t267 (t267.length : Int) x116_2 = some r) ∧ Aside0 (kq ≤ kj11) ∧ Aside0 (Kd.R (Kd.int .i64) 3 w' w.heap.size (fun k_ => some k_ ≠ ((.slice Ao17 t230.length co17) : Value).ownBlock ∧ some k_ ≠ ((.slice Ao19 t233.length co19) : Value).ownBlock ∧ some k_ ≠ (v265 : Value).ownBlock) (.slice Ao16 t227.length co16) t227) ∧ Aside0 (Kd.R (Kd.int .i64) 3 w' w.heap.size (fun k_ => some k_ ≠ ((.slice Ao16 t227.length co16) : Value).ownBlock ∧ some k_ ≠ ((.slice Ao19 t233.length co19) : Value).ownBlock ∧ some k_ ≠ (v265 : Value).ownBlock) (.slice Ao17 t230.length co17) t230) ∧ Aside0 (Kd.R (Kd.int .i64) 3 w' w.heap.size (fun k_ => some k_ ≠ ((.slice Ao16 t227.length co16) : Value).ownBlock ∧ some k_ ≠ ((.slice Ao17 t230.length co17) : Value).ownBlock ∧ some k_ ≠ (v265 : Value).ownBlock) (.slice Ao19 t233.length co19) t233) ∧ Aside0 (Kd.R (Kd.int .i64) 3 w' w.heap.size (fun k_ => some k_ ≠ ((.slice Ao16 t227.length co16) : Value).ownBlock ∧ some k_ ≠ ((.slice Ao17 t230.length co17) : Value).ownBlock ∧ some k_ ≠ ((.slice Ao19 t233.length co19) : Value).ownBlock) v265 t263) ∧ Aside0 (Kd.S (Kd.slice 3 (Kd.int .i64)) 22 w' w.heap.size (fun k_ => some k_ ≠ ((.slice Ao16 t227.length co16) : Value).ownBlock ∧ some k_ ≠ ((.slice Ao17 t230.length co17) : Value).ownBlock ∧ some k_ ≠ ((.slice Ao19 t233.length co19) : Value).ownBlock ∧ some k_ ≠ (v265 : Value).ownBlock) (.slice Ao50 t267.length co50) t267) ∧ Aside0 (Below w.heap.size w w'))
          case atStart => exact ⟨(0), (0), (by first | rfl | (simp; done) | (simp [*]; done)), (by first | rfl | (simp; done) | (simp [*]; done)), H', ⟨Nat.le_refl _⟩, ⟨by (with_reducible repeat (first | apply Kd.R_alloc | apply Kd.R_drewN | apply Kd.R_drew)); exact Kd.R_mono HO_4.out (fun _ hk => ⟨hk.1.1, ⟨hk.1.2, hk.2⟩⟩)⟩, ⟨by (with_reducible repeat (first | apply Kd.R_alloc | apply Kd.R_drewN | apply Kd.R_drew)); exact Kd.R_mono HO_5.out (fun _ hk => ⟨hk.1.1, ⟨hk.1.2, hk.2⟩⟩)⟩, ⟨by (with_reducible repeat (first | apply Kd.R_alloc | apply Kd.R_drewN | apply Kd.R_drew)); exact Kd.R_mono HO_6.out (fun _ hk => ⟨hk.1.1, ⟨hk.1.2, hk.2⟩⟩)⟩, ⟨by (with_reducible repeat (first | apply Kd.R_alloc | apply Kd.R_drewN | apply Kd.R_drew)); exact Kd.R_mono HO266.out (fun _ hk => ⟨hk.1.1.2, ⟨hk.1.2, hk.2⟩⟩)⟩, ⟨by (with_reducible repeat (first | apply Kd.S_alloc | apply Kd.S_drewN | apply Kd.S_drew)); exact Kd.S_mono HO269.out (fun _ hk => ⟨hk.1.1.1.2, ⟨hk.1.1.2, ⟨hk.1.2, hk.2⟩⟩⟩)⟩, ⟨by repeat (first | (with_reducible first | exact HB.out | apply below_alloc | apply pw_below_drewN | apply below_drew1) | exact HB.out)⟩⟩
          case round =>
            clear H'
            try clear c1
            try clear c2
            try clear c2b0
            try clear c2b1
            try clear p2
            try clear c3
            try clear c4
            try clear p6
            try clear c10
            try clear c20
            try clear c26
            try clear c28
            try clear c29
            try clear c30
            try clear c31
            try clear c32
            try clear c33
            try clear c35
            try clear c36
            try clear c37
            try clear c38
            try clear c39
            try clear c42
            try clear c43
            try clear p2
            try clear p6
            obtain ⟨x21_2, x116_2, rfl, rfl, HA, HK2, HO_4, HO_5, HO_6, HO_19, HO_114, HB⟩ := hrel
            cases gk with
            | zero => exact absurd HA.out (by simp [laws_FnPerms.l0])
            | succ k2 =>
              have H := HA.out
              clear HA
              simp only [laws_FnPerms.l0] at H
              by_cases c51 : x116_2 < (t267.length : Int)
              · rw [if_pos c51] at H
                have c51b0 : decide (x116_2 < (t267.length : Int)) = true := decide_eq_true c51
                clear c51
                by_cases c52 : 0 ≤ x116_2
                · rw [if_pos c52] at H
                  have c52b0 : decide (0 ≤ x116_2) = true := decide_eq_true c52
                  clear c52
                  by_cases c53 : x116_2 < (t267.length : Int)
                  · rw [if_pos c53] at H
                    have c53b0 : decide (x116_2 < (t267.length : Int)) = true := decide_eq_true c53
                    clear c53
                    by_cases c54 : ((rd_L1 t267 x116_2).length : Int) = 0
                    · rw [if_pos c54] at H
                      have c54b0 : (((rd_L1 t267 x116_2).length : Int) == 0) = true := beq_iff_eq.mpr c54
                      have c54b1 : (((rd_L1 t267 x116_2).length : Int) != 0) = false := bne_eq_false_iff_eq.mpr c54
                      clear c54
                      obtain rfl := Option.some.inj H
                      have p270 : 0 ≤ (x116_2 : Int) := of_decide_eq_true (by first | (with_reducible assumption) | assumption)
                      have q270 : x116_2 < (t267.length : Int) := of_decide_eq_true (by first | (with_reducible assumption) | assumption)
                      obtain ⟨ad270, A270_0, c270_0, e270, hx270_0, hl270_0, hi270_0⟩ := at_L1 (Kd.S_reads' HO_114.out).2.2 x116_2 p270 q270
                      cases e270
                      obtain ⟨ce270, hce270, hMe270, hcc270⟩ := Kd.S_get HO_114.out [] x116_2 p270 (by first | exact q270 | exact of_decide_eq_true (by first | (with_reducible assumption) | assumption) | (have e_ := (Kd.S_reads' HO_114.out).1; omega))
                      obtain ⟨ve270_0, rfl, ge270_0⟩ := hMe270
                      have hv270_0 := hcc270 0 _ rfl
                      rw [Nat.add_zero, show ((Kd.slice 3 (Kd.int .i64))).sz = 1 from rfl, Nat.mul_one] at hv270_0
                      replace hv270_0 := Option.some.inj (hv270_0.symm.trans hx270_0)
                      rw [hv270_0] at ge270_0
                      have HL270_0 := Aside0.mk (show Kd.R (Kd.int .i64) 3 _ _ _ _ (rd_L1 t267 x116_2) from ge270_0)
                      clear hv270_0 ge270_0
                      clear hcc270 hce270
                      have HR270_0 := Aside0.mk hi270_0
                      have HC270_0 := Aside0.mk hl270_0
                      clear hi270_0 hl270_0
                      replace p270 := eq_true p270
                      replace q270 := eq_true q270
                      go_wp2
                      go_ret
                      exact ⟨by first | rfl | (simp [errW_none, errW_some] <;> rfl) | (simp [*, errW_none, errW_some] <;> rfl), by repeat (first | (with_reducible first | exact HB.out | apply below_alloc | apply pw_below_drewN | apply below_drew1) | exact HB.out)⟩
                    · rw [if_neg c54] at H
                      have c54b0 : (((rd_L1 t267 x116_2).length : Int) == 0) = false := beq_eq_false_iff_ne.mpr c54
                      have c54b1 : (((rd_L1 t267 x116_2).length : Int) != 0) = true := bne_iff_ne.mpr c54
                      have c54b2 : ¬ ((rd_L1 t267 x116_2) = []) := fun h_ => c54 (by rw [h_]; rfl)
                      by_cases c55 : (Int.tmod t262 ((rd_L1 t267 x116_2).length : Int)) = 0
                      · rw [if_pos c55] at H
                        have c55b0 : ((Int.tmod t262 ((rd_L1 t267 x116_2).length : Int)) == 0) = true := beq_iff_eq.mpr c55
                        have c55b1 : ((Int.tmod t262 ((rd_L1 t267 x116_2).length : Int)) != 0) = false := bne_eq_false_iff_eq.mpr c55
                        clear c55
                        have H' := Aside0.mk H
                        clear H
                        have p270 : 0 ≤ (x116_2 : Int) := of_decide_eq_true (by first | (with_reducible assumption) | assumption)
                        have q270 : x116_2 < (t267.length : Int) := of_decide_eq_true (by first | (with_reducible assumption) | assumption)
                        obtain ⟨ad270, A270_0, c270_0, e270, hx270_0, hl270_0, hi270_0⟩ := at_L1 (Kd.S_reads' HO_114.out).2.2 x116_2 p270 q270
                        cases e270
                        obtain ⟨ce270, hce270, hMe270, hcc270⟩ := Kd.S_get HO_114.out [] x116_2 p270 (by first | exact q270 | exact of_decide_eq_true (by first | (with_reducible assumption) | assumption) | (have e_ := (Kd.S_reads' HO_114.out).1; omega))
                        obtain ⟨ve270_0, rfl, ge270_0⟩ := hMe270
                        have hv270_0 := hcc270 0 _ rfl
                        rw [Nat.add_zero, show ((Kd.slice 3 (Kd.int .i64))).sz = 1 from rfl, Nat.mul_one] at hv270_0
                        replace hv270_0 := Option.some.inj (hv270_0.symm.trans hx270_0)
                        rw [hv270_0] at ge270_0
                        have HL270_0 := Aside0.mk (show Kd.R (Kd.int .i64) 3 _ _ _ _ (rd_L1 t267 x116_2) from ge270_0)
                        clear hv270_0 ge270_0
                        clear hcc270 hce270
                        have HR270_0 := Aside0.mk hi270_0
                        have HC270_0 := Aside0.mk hl270_0
                        clear hi270_0 hl270_0
                        replace p270 := eq_true p270
                        replace q270 := eq_true q270
                        go_wp2
                        go_roundg k2
                        case measure => have := HJ11.out; have := HK2.out; omega
                        case rel => exact ⟨(wrap64 (x21_2 + ((rd_L1 t267 x116_2).length : Int))), (wrap64 (x116_2 + 1)), (by first | rfl | (simp; done) | (simp [*]; done)), (by first | rfl | (simp; done) | (simp [*]; done)), H', ⟨by have := HJ11.out; have := HK2.out; omega⟩, ⟨by (with_reducible repeat (first | apply Kd.R_alloc | apply Kd.R_drewN | apply Kd.R_drew)); exact HO_4.out⟩, ⟨by (with_reducible repeat (first | apply Kd.R_alloc | apply Kd.R_drewN | apply Kd.R_drew)); exact HO_5.out⟩, ⟨by (with_reducible repeat (first | apply Kd.R_alloc | apply Kd.R_drewN | apply Kd.R_drew)); exact HO_6.out⟩, ⟨by (with_reducible repeat (first | apply Kd.R_alloc | apply Kd.R_drewN | apply Kd.R_drew)); exact HO_19.out⟩, ⟨by (with_reducible repeat (first | apply Kd.S_alloc | apply Kd.S_drewN | apply Kd.S_drew)); exact HO_114.out⟩, ⟨by repeat (first | (with_reducible first | exact HB.out | apply below_alloc | apply pw_below_drewN | apply below_drew1) | exact HB.out)⟩⟩
                      · rw [if_neg c55] at H
                        have c55b0 : ((Int.tmod t262 ((rd_L1 t267 x116_2).length : Int)) == 0) = false := beq_eq_false_iff_ne.mpr c55
                        have c55b1 : ((Int.tmod t262 ((rd_L1 t267 x116_2).length : Int)) != 0) = true := bne_iff_ne.mpr c55
                        obtain rfl := Option.some.inj H
                        have p270 : 0 ≤ (x116_2 : Int) := of_decide_eq_true (by first | (with_reducible assumption) | assumption)
                        have q270 : x116_2 < (t267.length : Int) := of_decide_eq_true (by first | (with_reducible assumption) | assumption)
                        obtain ⟨ad270, A270_0, c270_0, e270, hx270_0, hl270_0, hi270_0⟩ := at_L1 (Kd.S_reads' HO_114.out).2.2 x116_2 p270 q270
                        cases e270
                        obtain ⟨ce270, hce270, hMe270, hcc270⟩ := Kd.S_get HO_114.out [] x116_2 p270 (by first | exact q270 | exact of_decide_eq_true (by first | (with_reducible assumption) | assumption) | (have e_ := (Kd.S_reads' HO_114.out).1; omega))
                        obtain ⟨ve270_0, rfl, ge270_0⟩ := hMe270
                        have hv270_0 := hcc270 0 _ rfl
                        rw [Nat.add_zero, show ((Kd.slice 3 (Kd.int .i64))).sz = 1 from rfl, Nat.mul_one] at hv270_0
                        replace hv270_0 := Option.some.inj (hv270_0.symm.trans hx270_0)
                        rw [hv270_0] at ge270_0
                        have HL270_0 := Aside0.mk (show Kd.R (Kd.int .i64) 3 _ _ _ _ (rd_L1 t267 x116_2) from ge270_0)
                        clear hv270_0 ge270_0
                        clear hcc270 hce270
                        have HR270_0 := Aside0.mk hi270_0
                        have HC270_0 := Aside0.mk hl270_0
                        clear hi270_0 hl270_0
                        replace p270 := eq_true p270
                        replace q270 := eq_true q270
                        go_wp2
                        go_ret
                        exact ⟨by first | rfl | (simp [errW_none, errW_some] <;> rfl) | (simp [*, errW_none, errW_some] <;> rfl), by repeat (first | (with_reducible first | exact HB.out | apply below_alloc | apply pw_below_drewN | apply below_drew1) | exact HB.out)⟩
                  · rw [if_neg c53] at H
                    exact absurd H (by simp)
                · rw [if_neg c52] at H
                  exact absurd H (by simp)
              · rw [if_neg c51] at H
                have c51b0 : decide (x116_2 < (t267.length : Int)) = false := decide_eq_false c51
                clear c51
                by_cases c56 : t262 ≥ 1
                · rw [if_pos c56] at H
                  have c56b0 : decide (1 ≤ t262) = true := decide_eq_true c56
                  clear c56
                  by_cases c57 : t264 = true
                  · subst c57
                    rw [if_pos rfl] at H
                    replace H := Option.bind_eq_some_iff.mp H
                    obtain ⟨t271, A580, H⟩ := H
                    replace H : ((laws_same.f k2 t263 t271).bind fun t274 => (if t274 = true then (if x21_2 = (wrap64 (1 + (Int.tmod t226 8))) then ((impl_IsEven.f k2 t233).bind fun t275 => ((impl_IsEven.f k2 t227).bind fun t276 => ((impl_IsEven.f k2 t230).bind fun t277 => (some (t275 == (t276 == t277)))))) else (some false)) else (some false))) = some r := H
                    have A58 := Aside0.mk A580
                    clear A580
                    replace H := Option.bind_eq_some_iff.mp H
                    obtain ⟨t274, A590, H⟩ := H
                    replace H : (if t274 = true then (if x21_2 = (wrap64 (1 + (Int.tmod t226 8))) then ((impl_IsEven.f k2 t233).bind fun t275 => ((impl_IsEven.f k2 t227).bind fun t276 => ((impl_IsEven.f k2 t230).bind fun t277 => (some (t275 == (t276 == t277)))))) else (some false)) else (some false)) = some r := H
                    have A59 := Aside0.mk A590
                    clear A590
                    by_cases c60 : t274 = true
                    · subst c60
                      rw [if_pos rfl] at H
                      by_cases c61 : x21_2 = (wrap64 (1 + (Int.tmod t226 8)))
                      · rw [if_pos c61] at H
                        have c61b0 : (x21_2 == (wrap64 (1 + (Int.tmod t226 8)))) = true := beq_iff_eq.mpr c61
                        have c61b1 : (x21_2 != (wrap64 (1 + (Int.tmod t226 8)))) = false := bne_eq_false_iff_eq.mpr c61
                        clear c61
                        replace H := Option.bind_eq_some_iff.mp H
                        obtain ⟨t275, A620, H⟩ := H
                        replace H : ((impl_IsEven.f k2 t227).bind fun t276 => ((impl_IsEven.f k2 t230).bind fun t277 => (some (t275 == (t276 == t277))))) = some r := H
                        have A62 := Aside0.mk A620
                        clear A620
                        replace H := Option.bind_eq_some_iff.mp H
                        obtain ⟨t276, A630, H⟩ := H
                        replace H : ((impl_IsEven.f k2 t230).bind fun t277 => (some (t275 == (t276 == t277)))) = some r := H
                        have A63 := Aside0.mk A630
                        clear A630
                        replace H := Option.bind_eq_some_iff.mp H
                        obtain ⟨t277, A640, H⟩ := H
                        replace H : (some (t275 == (t276 == t277))) = some r := H
                        have A64 := Aside0.mk A640
                        clear A640
                        obtain rfl := Option.some.inj H
                        go_wp2_with (first | (go_at_call 41; (with_reducible refine (impl_IdentityPerm.calls k2 (wrap64 (1 + (Int.tmod t226 8))) t271 _ A58.out).mono ?_); rintro e w65 ⟨v272, rfl, ho0, hb⟩; have n0_ := Aside0.mk (Kd.R_elder' (by (with_reducible repeat (first | apply Kd.R_alloc | apply Kd.R_drewN | apply Kd.R_drew)); exact HO_4.out) (Kd.R_base ho0) hb); have n1_ := Aside0.mk (Kd.R_elder' (by (with_reducible repeat (first | apply Kd.R_alloc | apply Kd.R_drewN | apply Kd.R_drew)); exact HO_5.out) (Kd.R_base ho0) hb); have n2_ := Aside0.mk (Kd.R_elder' (by (with_reducible repeat (first | apply Kd.R_alloc | apply Kd.R_drewN | apply Kd.R_drew)); exact HO_6.out) (Kd.R_base ho0) hb); have n3_ := Aside0.mk (Kd.R_elder' (by (with_reducible repeat (first | apply Kd.R_alloc | apply Kd.R_drewN | apply Kd.R_drew)); exact HO_19.out) (Kd.R_base ho0) hb); have n4_ := Aside0.mk (Kd.S_elder' (by (with_reducible repeat (first | apply Kd.S_alloc | apply Kd.S_drewN | apply Kd.S_drew)); exact HO_114.out) (Kd.R_base ho0) hb); have n5_ := Aside0.mk (Kd.R_lower (Kd.R_new' (Kd.R_new' (Kd.R_new' (Kd.R_new' ho0 (Kd.R_lt (by (with_reducible repeat (first | apply Kd.R_alloc | apply Kd.R_drewN | apply Kd.R_drew)); exact HO_4.out))) (Kd.R_lt (by (with_reducible repeat (first | apply Kd.R_alloc | apply Kd.R_drewN | apply Kd.R_drew)); exact HO_5.out))) (Kd.R_lt (by (with_reducible repeat (first | apply Kd.R_alloc | apply Kd.R_drewN | apply Kd.R_drew)); exact HO_6.out))) (Kd.R_lt (by (with_reducible repeat (first | apply Kd.R_alloc | apply Kd.R_drewN | apply Kd.R_drew)); exact HO_19.out))) (below_size (by repeat (first | (with_reducible first | exact HB.out | apply below_alloc | apply pw_below_drewN | apply below_drew1) | exact HB.out)))); have n6_ := Aside0.mk (below_step (by repeat (first | (with_reducible first | exact HB.out | apply below_alloc | apply pw_below_drewN | apply below_drew1) | exact HB.out)) hb); clear HO_4; clear HO_5; clear HO_6; clear HO_19; clear HO_114; clear HB; have HO_4 := n0_; have HO_5 := n1_; have HO_6 := n2_; have HO_19 := n3_; have HO_114 := n4_; have HO273 := n5_; have HB := n6_; clear n0_ n1_ n2_ n3_ n4_ n5_ n6_; (try clear hb); (try clear hb2); (try clear hk); (try clear hi); (try clear ho0); obtain ⟨Ao66, co66, eo66⟩ := Kd.R_slice HO_19.out; subst eo66; obtain ⟨Ao67, co67, eo67⟩ := Kd.R_slice HO273.out; subst eo67) | (go_at_call 40; (with_reducible refine (laws_same.calls k2 _ _ t263 _ _ t271 true _ ?side1 ?side2 ?side3 ?side4 A59.out).mono ?_); (case side1 => repeat (first | exact (Kd.R_reads' HO_19.out).2.2 | (with_reducible refine Kd.C_alloc ?_ _) | (with_reducible refine Kd.C_drewN ?_ _) | (with_reducible refine Kd.C_drew ?_))); (case side2 => exact (Kd.R_reads' HO_19.out).2.1); (case side3 => repeat (first | exact (Kd.R_reads' HO273.out).2.2 | (with_reducible refine Kd.C_alloc ?_ _) | (with_reducible refine Kd.C_drewN ?_ _) | (with_reducible refine Kd.C_drew ?_))); (case side4 => exact (Kd.R_reads' HO273.out).2.1); rintro e w' ⟨rfl, ⟨nd, rfl⟩⟩) | (go_at_call 43; (with_reducible refine (impl_IsEven.calls k2 _ _ t233 t275 _ ?side1 ?side2 A62.out).mono ?_); (case side1 => repeat (first | exact (Kd.R_reads' HO_6.out).2.2 | (with_reducible refine Kd.C_alloc ?_ _) | (with_reducible refine Kd.C_drewN ?_ _) | (with_reducible refine Kd.C_drew ?_))); (case side2 => exact (Kd.R_reads' HO_6.out).2.1); rintro e w68 ⟨rfl, hb⟩; have n0_ := Aside0.mk (Kd.R_below (by (with_reducible repeat (first | apply Kd.R_alloc | apply Kd.R_drewN | apply Kd.R_drew)); exact HO_4.out) hb); have n1_ := Aside0.mk (Kd.R_below (by (with_reducible repeat (first | apply Kd.R_alloc | apply Kd.R_drewN | apply Kd.R_drew)); exact HO_5.out) hb); have n2_ := Aside0.mk (Kd.R_below (by (with_reducible repeat (first | apply Kd.R_alloc | apply Kd.R_drewN | apply Kd.R_drew)); exact HO_6.out) hb); have n3_ := Aside0.mk (Kd.R_below (by (with_reducible repeat (first | apply Kd.R_alloc | apply Kd.R_drewN | apply Kd.R_drew)); exact HO_19.out) hb); have n4_ := Aside0.mk (Kd.S_below (by (with_reducible repeat (first | apply Kd.S_alloc | apply Kd.S_drewN | apply Kd.S_drew)); exact HO_114.out) hb); have n5_ := Aside0.mk (Kd.R_below (by (with_reducible repeat (first | apply Kd.R_alloc | apply Kd.R_drewN | apply Kd.R_drew)); exact HO273.out) hb); have n6_ := Aside0.mk (below_step (by repeat (first | (with_reducible first | exact HB.out | apply below_alloc | apply pw_below_drewN | apply below_drew1) | exact HB.out)) hb); clear HO_4; clear HO_5; clear HO_6; clear HO_19; clear HO_114; clear HO273; clear HB; have HO_4 := n0_; have HO_5 := n1_; have HO_6 := n2_; have HO_19 := n3_; have HO_114 := n4_; have HO273 := n5_; have HB := n6_; clear n0_ n1_ n2_ n3_ n4_ n5_ n6_; (try clear hb); (try clear hb2); (try clear hk); (try clear hi)) | (go_at_call 43; (with_reducible refine (impl_IsEven.calls k2 _ _ t227 t276 _ ?side1 ?side2 A63.out).mono ?_); (case side1 => repeat (first | exact (Kd.R_reads' HO_4.out).2.2 | (with_reducible refine Kd.C_alloc ?_ _) | (with_reducible refine Kd.C_drewN ?_ _) | (with_reducible refine Kd.C_drew ?_))); (case side2 => exact (Kd.R_reads' HO_4.out).2.1); rintro e w69 ⟨rfl, hb⟩; have n0_ := Aside0.mk (Kd.R_below (by (with_reducible repeat (first | apply Kd.R_alloc | apply Kd.R_drewN | apply Kd.R_drew)); exact HO_4.out) hb); have n1_ := Aside0.mk (Kd.R_below (by (with_reducible repeat (first | apply Kd.R_alloc | apply Kd.R_drewN | apply Kd.R_drew)); exact HO_5.out) hb); have n2_ := Aside0.mk (Kd.R_below (by (with_reducible repeat (first | apply Kd.R_alloc | apply Kd.R_drewN | apply Kd.R_drew)); exact HO_6.out) hb); have n3_ := Aside0.mk (Kd.R_below (by (with_reducible repeat (first | apply Kd.R_alloc | apply Kd.R_drewN | apply Kd.R_drew)); exact HO_19.out) hb); have n4_ := Aside0.mk (Kd.S_below (by (with_reducible repeat (first | apply Kd.S_alloc | apply Kd.S_drewN | apply Kd.S_drew)); exact HO_114.out) hb); have n5_ := Aside0.mk (Kd.R_below (by (with_reducible repeat (first | apply Kd.R_alloc | apply Kd.R_drewN | apply Kd.R_drew)); exact HO273.out) hb); have n6_ := Aside0.mk (below_step (by repeat (first | (with_reducible first | exact HB.out | apply below_alloc | apply pw_below_drewN | apply below_drew1) | exact HB.out)) hb); clear HO_4; clear HO_5; clear HO_6; clear HO_19; clear HO_114; clear HO273; clear HB; have HO_4 := n0_; have HO_5 := n1_; have HO_6 := n2_; have HO_19 := n3_; have HO_114 := n4_; have HO273 := n5_; have HB := n6_; clear n0_ n1_ n2_ n3_ n4_ n5_ n6_; (try clear hb); (try clear hb2); (try clear hk); (try clear hi)) | (go_at_call 43; (with_reducible refine (impl_IsEven.calls k2 _ _ t230 t277 _ ?side1 ?side2 A64.out).mono ?_); (case side1 => repeat (first | exact (Kd.R_reads' HO_5.out).2.2 | (with_reducible refine Kd.C_alloc ?_ _) | (with_reducible refine Kd.C_drewN ?_ _) | (with_reducible refine Kd.C_drew ?_))); (case side2 => exact (Kd.R_reads' HO_5.out).2.1); rintro e w70 ⟨rfl, hb⟩; have n0_ := Aside0.mk (Kd.R_below (by (with_reducible repeat (first | apply Kd.R_alloc | apply Kd.R_drewN | apply Kd.R_drew)); exact HO_4.out) hb); have n1_ := Aside0.mk (Kd.R_below (by (with_reducible repeat (first | apply Kd.R_alloc | apply Kd.R_drewN | apply Kd.R_drew)); exact HO_5.out) hb); have n2_ := Aside0.mk (Kd.R_below (by (with_reducible repeat (first | apply Kd.R_alloc | apply Kd.R_drewN | apply Kd.R_drew)); exact HO_6.out) hb); have n3_ := Aside0.mk (Kd.R_below (by (with_reducible repeat (first | apply Kd.R_alloc | apply Kd.R_drewN | apply Kd.R_drew)); exact HO_19.out) hb); have n4_ := Aside0.mk (Kd.S_below (by (with_reducible repeat (first | apply Kd.S_alloc | apply Kd.S_drewN | apply Kd.S_drew)); exact HO_114.out) hb); have n5_ := Aside0.mk (Kd.R_below (by (with_reducible repeat (first | apply Kd.R_alloc | apply Kd.R_drewN | apply Kd.R_drew)); exact HO273.out) hb); have n6_ := Aside0.mk (below_step (by repeat (first | (with_reducible first | exact HB.out | apply below_alloc | apply pw_below_drewN | apply below_drew1) | exact HB.out)) hb); clear HO_4; clear HO_5; clear HO_6; clear HO_19; clear HO_114; clear HO273; clear HB; have HO_4 := n0_; have HO_5 := n1_; have HO_6 := n2_; have HO_19 := n3_; have HO_114 := n4_; have HO273 := n5_; have HB := n6_; clear n0_ n1_ n2_ n3_ n4_ n5_ n6_; (try clear hb); (try clear hb2); (try clear hk); (try clear hi)))
                        go_ret
                        exact ⟨by first | rfl | (simp [errW_none, errW_some] <;> rfl) | (simp [*, errW_none, errW_some] <;> rfl), by repeat (first | (with_reducible first | exact HB.out | apply below_alloc | apply pw_below_drewN | apply below_drew1) | exact HB.out)⟩
                      · rw [if_neg c61] at H
                        have c61b0 : (x21_2 == (wrap64 (1 + (Int.tmod t226 8)))) = false := beq_eq_false_iff_ne.mpr c61
                        have c61b1 : (x21_2 != (wrap64 (1 + (Int.tmod t226 8)))) = true := bne_iff_ne.mpr c61
                        obtain rfl := Option.some.inj H
                        go_wp2_with (first | (go_at_call 41; (with_reducible refine (impl_IdentityPerm.calls k2 (wrap64 (1 + (Int.tmod t226 8))) t271 _ A58.out).mono ?_); rintro e w71 ⟨v272, rfl, ho0, hb⟩; have n0_ := Aside0.mk (Kd.R_elder' (by (with_reducible repeat (first | apply Kd.R_alloc | apply Kd.R_drewN | apply Kd.R_drew)); exact HO_4.out) (Kd.R_base ho0) hb); have n1_ := Aside0.mk (Kd.R_elder' (by (with_reducible repeat (first | apply Kd.R_alloc | apply Kd.R_drewN | apply Kd.R_drew)); exact HO_5.out) (Kd.R_base ho0) hb); have n2_ := Aside0.mk (Kd.R_elder' (by (with_reducible repeat (first | apply Kd.R_alloc | apply Kd.R_drewN | apply Kd.R_drew)); exact HO_6.out) (Kd.R_base ho0) hb); have n3_ := Aside0.mk (Kd.R_elder' (by (with_reducible repeat (first | apply Kd.R_alloc | apply Kd.R_drewN | apply Kd.R_drew)); exact HO_19.out) (Kd.R_base ho0) hb); have n4_ := Aside0.mk (Kd.S_elder' (by (with_reducible repeat (first | apply Kd.S_alloc | apply Kd.S_drewN | apply Kd.S_drew)); exact HO_114.out) (Kd.R_base ho0) hb); have n5_ := Aside0.mk (Kd.R_lower (Kd.R_new' (Kd.R_new' (Kd.R_new' (Kd.R_new' ho0 (Kd.R_lt (by (with_reducible repeat (first | apply Kd.R_alloc | apply Kd.R_drewN | apply Kd.R_drew)); exact HO_4.out))) (Kd.R_lt (by (with_reducible repeat (first | apply Kd.R_alloc | apply Kd.R_drewN | apply Kd.R_drew)); exact HO_5.out))) (Kd.R_lt (by (with_reducible repeat (first | apply Kd.R_alloc | apply Kd.R_drewN | apply Kd.R_drew)); exact HO_6.out))) (Kd.R_lt (by (with_reducible repeat (first | apply Kd.R_alloc | apply Kd.R_drewN | apply Kd.R_drew)); exact HO_19.out))) (below_size (by repeat (first | (with_reducible first | exact HB.out | apply below_alloc | apply pw_below_drewN | apply below_drew1) | exact HB.out)))); have n6_ := Aside0.mk (below_step (by repeat (first | (with_reducible first | exact HB.out | apply below_alloc | apply pw_below_drewN | apply below_drew1) | exact HB.out)) hb); clear HO_4; clear HO_5; clear HO_6; clear HO_19; clear HO_114; clear HB; have HO_4 := n0_; have HO_5 := n1_; have HO_6 := n2_; have HO_19 := n3_; have HO_114 := n4_; have HO273 := n5_; have HB := n6_; clear n0_ n1_ n2_ n3_ n4_ n5_ n6_; (try clear hb); (try clear hb2); (try clear hk); (try clear hi); (try clear ho0); obtain ⟨Ao72, co72, eo72⟩ := Kd.R_slice HO_19.out; subst eo72; obtain ⟨Ao73, co73, eo73⟩ := Kd.R_slice HO273.out; subst eo73) | (go_at_call 40; (with_reducible refine (laws_same.calls k2 _ _ t263 _ _ t271 true _ ?side1 ?side2 ?side3 ?side4 A59.out).mono ?_); (case side1 => repeat (first | exact (Kd.R_reads' HO_19.out).2.2 | (with_reducible refine Kd.C_alloc ?_ _) | (with_reducible refine Kd.C_drewN ?_ _) | (with_reducible refine Kd.C_drew ?_))); (case side2 => exact (Kd.R_reads' HO_19.out).2.1); (case side3 => repeat (first | exact (Kd.R_reads' HO273.out).2.2 | (with_reducible refine Kd.C_alloc ?_ _) | (with_reducible refine Kd.C_drewN ?_ _) | (with_reducible refine Kd.C_drew ?_))); (case side4 => exact (Kd.R_reads' HO273.out).2.1); rintro e w' ⟨rfl, ⟨nd, rfl⟩⟩))
                        go_ret
                        exact ⟨by first | rfl | (simp [errW_none, errW_some] <;> rfl) | (simp [*, errW_none, errW_some] <;> rfl), by repeat (first | (with_reducible first | exact HB.out | apply below_alloc | apply pw_below_drewN | apply below_drew1) | exact HB.out)⟩
                    · replace c60 := Bool.eq_false_iff.mpr c60
                      subst c60
                      rw [if_neg (show ¬ (false = true) by decide)] at H
                      obtain rfl := Option.some.inj H
                      go_wp2_with (first | (go_at_call 41; (with_reducible refine (impl_IdentityPerm.calls k2 (wrap64 (1 + (Int.tmod t226 8))) t271 _ A58.out).mono ?_); rintro e w74 ⟨v272, rfl, ho0, hb⟩; have n0_ := Aside0.mk (Kd.R_elder' (by (with_reducible repeat (first | apply Kd.R_alloc | apply Kd.R_drewN | apply Kd.R_drew)); exact HO_4.out) (Kd.R_base ho0) hb); have n1_ := Aside0.mk (Kd.R_elder' (by (with_reducible repeat (first | apply Kd.R_alloc | apply Kd.R_drewN | apply Kd.R_drew)); exact HO_5.out) (Kd.R_base ho0) hb); have n2_ := Aside0.mk (Kd.R_elder' (by (with_reducible repeat (first | apply Kd.R_alloc | apply Kd.R_drewN | apply Kd.R_drew)); exact HO_6.out) (Kd.R_base ho0) hb); have n3_ := Aside0.mk (Kd.R_elder' (by (with_reducible repeat (first | apply Kd.R_alloc | apply Kd.R_drewN | apply Kd.R_drew)); exact HO_19.out) (Kd.R_base ho0) hb); have n4_ := Aside0.mk (Kd.S_elder' (by (with_reducible repeat (first | apply Kd.S_alloc | apply Kd.S_drewN | apply Kd.S_drew)); exact HO_114.out) (Kd.R_base ho0) hb); have n5_ := Aside0.mk (Kd.R_lower (Kd.R_new' (Kd.R_new' (Kd.R_new' (Kd.R_new' ho0 (Kd.R_lt (by (with_reducible repeat (first | apply Kd.R_alloc | apply Kd.R_drewN | apply Kd.R_drew)); exact HO_4.out))) (Kd.R_lt (by (with_reducible repeat (first | apply Kd.R_alloc | apply Kd.R_drewN | apply Kd.R_drew)); exact HO_5.out))) (Kd.R_lt (by (with_reducible repeat (first | apply Kd.R_alloc | apply Kd.R_drewN | apply Kd.R_drew)); exact HO_6.out))) (Kd.R_lt (by (with_reducible repeat (first | apply Kd.R_alloc | apply Kd.R_drewN | apply Kd.R_drew)); exact HO_19.out))) (below_size (by repeat (first | (with_reducible first | exact HB.out | apply below_alloc | apply pw_below_drewN | apply below_drew1) | exact HB.out)))); have n6_ := Aside0.mk (below_step (by repeat (first | (with_reducible first | exact HB.out | apply below_alloc | apply pw_below_drewN | apply below_drew1) | exact HB.out)) hb); clear HO_4; clear HO_5; clear HO_6; clear HO_19; clear HO_114; clear HB; have HO_4 := n0_; have HO_5 := n1_; have HO_6 := n2_; have HO_19 := n3_; have HO_114 := n4_; have HO273 := n5_; have HB := n6_; clear n0_ n1_ n2_ n3_ n4_ n5_ n6_; (try clear hb); (try clear hb2); (try clear hk); (try clear hi); (try clear ho0); obtain ⟨Ao75, co75, eo75⟩ := Kd.R_slice HO_19.out; subst eo75; obtain ⟨Ao76, co76, eo76⟩ := Kd.R_slice HO273.out; subst eo76) | (go_at_call 40; (with_reducible refine (laws_same.calls k2 _ _ t263 _ _ t271 false _ ?side1 ?side2 ?side3 ?side4 A59.out).mono ?_); (case side1 => repeat (first | exact (Kd.R_reads' HO_19.out).2.2 | (with_reducible refine Kd.C_alloc ?_ _) | (with_reducible refine Kd.C_drewN ?_ _) | (with_reducible refine Kd.C_drew ?_))); (case side2 => exact (Kd.R_reads' HO_19.out).2.1); (case side3 => repeat (first | exact (Kd.R_reads' HO273.out).2.2 | (with_reducible refine Kd.C_alloc ?_ _) | (with_reducible refine Kd.C_drewN ?_ _) | (with_reducible refine Kd.C_drew ?_))); (case side4 => exact (Kd.R_reads' HO273.out).2.1); rintro e w' ⟨rfl, ⟨nd, rfl⟩⟩))
                      go_ret
                      exact ⟨by first | rfl | (simp [errW_none, errW_some] <;> rfl) | (simp [*, errW_none, errW_some] <;> rfl), by repeat (first | (with_reducible first | exact HB.out | apply below_alloc | apply pw_below_drewN | apply below_drew1) | exact HB.out)⟩
                  · replace c57 := Bool.eq_false_iff.mpr c57
                    subst c57
                    rw [if_neg (show ¬ (false = true) by decide)] at H
                    obtain rfl := Option.some.inj H
                    go_wp2
                    go_ret
                    exact ⟨by first | rfl | (simp [errW_none, errW_some] <;> rfl) | (simp [*, errW_none, errW_some] <;> rfl), by repeat (first | (with_reducible first | exact HB.out | apply below_alloc | apply pw_below_drewN | apply below_drew1) | exact HB.out)⟩
                · rw [if_neg c56] at H
                  have c56b0 : decide (1 ≤ t262) = false := decide_eq_false c56
                  clear c56
                  obtain rfl := Option.some.inj H
                  go_wp2
                  go_ret
                  exact ⟨by first | rfl | (simp [errW_none, errW_some] <;> rfl) | (simp [*, errW_none, errW_some] <;> rfl), by repeat (first | (with_reducible first | exact HB.out | apply below_alloc | apply pw_below_drewN | apply below_drew1) | exact HB.out)⟩

/-- THE ONE PURE STATEMENT of laws_FnPerms: yours. -/
def laws_FnPerms.Pure : Prop := ∀ (l0 : List Int), l0.length ≤ maxLen → l0.length * 1 ≤ 140737488351232 → (∀ x ∈ l0, (Lit.int .u8 x).wf = true) → ∃ k, laws_FnPerms.f k l0 = some true
theorem laws_FnPerms.walk (P : laws_FnPerms.Pure) (a0 : Option Addr) (len0 cap0 : Nat) (z0 : List Int) (w : World) (w0 : (a0 = none ∧ len0 = 0 ∧ cap0 = 0 ∧ z0 = []) ∨ ∃ x, a0 = some x ∧ len0 ≤ cap0 ∧ cap0 ≤ maxLen ∧ z0.length = cap0 ∧ (∀ i, i < z0.length → w.cell? (x.add i) = some (.int .u8 (z0.getD i 0))) ∧ ∀ n ∈ z0, (Lit.int .u8 n).wf = true) (y0 : len0 * 1 ≤ 140737488351232) :
    Calls Try.prog 10 #[.slice a0 len0 cap0] w fun e w' => e = .returned (.bool true) ∧ Below w.heap.size w w' := by
  obtain ⟨l0, rfl, hr0, hm0, hw0, hc0⟩ := ReadsInt.ofRowC w0
  obtain ⟨k, h⟩ := P l0 hm0 y0 hw0
  refine (laws_FnPerms.calls k _ _ l0 true w (Kd.C_of_reads (d := (0 : Int)) (h1 := fun _ => rfl) hr0) hc0 h).mono ?_
  rintro e w' ⟨rfl, hd⟩
  exact ⟨rfl, hd⟩

end Go.Proofs.Ytojbjofngpcjaaa.MFnPerms
