-- Written by this session's own program (wip/tools/myprint.py), over the kit's printer.
import Derived.Test.YtdgoeomelnlekaaMFnRifflesx0
import Derived.Test.YtdgoeomelnlekaaMFnRifflesx9
import Derived.Test.YtdgoeomelnlekaaMFnRifflesx13
import Derived.Test.YtdgoeomelnlekaaMFnRifflesx15
namespace Go.Proofs.Ytdgoeomelnlekaa.MFnRiffles
open Go.RowKit Go.Proofs.YtdgoeomelnlekaaW.PrintWords Go.Proofs.YtdgoeomelnlekaaW.PrintLast Go.Proofs.YtdgoeomelnlekaaW.PrintMore
attribute [local go_sem] max2_int min2_int max_two min_two max_three min_three max_four min_four   -- for this text's walks alone
set_option linter.unusedVariables false
set_option linter.unusedSimpArgs false

/-! ### impl_ResultsOf: function 32, by hand -/
def impl_ResultsOf.f (k : Nat) (l0 : List Int) (a1 : Int) : Option (List (List Int) × Bool) := (impl_PacketOk.f k l0).bind fun t => if t = false then some ([], false) else if l0.length = 0 then some ([], false) else (impl_all.f k l0 a1).bind fun b => (impl_SortPackets.f b.1).bind fun s => if b.2 = false then some ([], false) else if 3000 < s.length then some ([], false) else some (s, true)
theorem impl_ResultsOf.mono : ∀ a0 a1 k, LeO (impl_ResultsOf.f k a0 a1) (impl_ResultsOf.f (k + 1) a0 a1) := by
 intro a0 a1 k
 unfold impl_ResultsOf.f
 repeat' first
   | (with_reducible exact impl_PacketOk.mono _ _)
   | (with_reducible exact impl_all.mono _ _ _)
   | (with_reducible exact LeO.refl _)
   | (with_reducible exact LeO.none _)
   | (with_reducible refine LeO.ite ?_ ?_)
   | (with_reducible refine LeO.bind ?_ (fun _ => ?_))
set_option maxHeartbeats 8000000 in
set_option maxRecDepth 100000 in
theorem impl_ResultsOf.calls (k : Nat) (A0 : Option Addr) (c0 : Nat) (l0 : List Int) (a1 : Int) (r1 : List (List Int)) (r2 : Bool) (w : World) (hr0 : Kd.C (Kd.int .i64) w A0 l0.length l0) (hc0 : l0.length ≤ c0) (h : impl_ResultsOf.f k l0 a1 = some (r1, r2)) :
  Calls Try.prog 32 #[.slice A0 l0.length c0, .int .i64 a1] w fun e w' => ∃ v0_ : Value, e = .returned (.tuple #[v0_, .bool r2]) ∧ Kd.S (Kd.slice 3 (Kd.int .i64)) 22 w' w.heap.size (fun _ => True) v0_ r1 ∧ Below w.heap.size w w' := by
 have HR0 := Aside0.mk hr0
 have HC0 := Aside0.mk hc0
 clear hr0 hc0
 have HB := Aside0.mk (Below.refl w.heap.size w)
 unfold impl_ResultsOf.f at h
 obtain ⟨t, A1_, h⟩ := Option.bind_eq_some_iff.mp h
 have A1 := Aside0.mk A1_
 clear A1_
 cases t with
 | false =>
  rw [if_pos rfl] at h
  simp only [Option.some.injEq, Prod.mk.injEq] at h
  obtain ⟨rfl, rfl⟩ := h
  go_enter Try.func32, Try.ntmps32
  go_wp2_with (first | ((with_reducible refine gate_callee (f := 51) rfl ?_); refine goesL_ (some 10) rfl rfl Try.func51 (by kernel_rfl) rfl #[.slice A0 l0.length c0] rfl (by (try simp only [List.map_toArray, List.map_cons, List.map_nil]); first | done | rfl) ?_; (with_reducible refine (impl_PacketOk.calls k _ _ l0 false _ ?side1 ?side2 A1.out).mono ?_); (case side1 => exact HR0.out); (case side2 => exact HC0.out); rintro e w1 ⟨rfl, hb⟩; refine ⟨_, rfl, ?_⟩; have HB1 := Aside0.mk (below_step HB.out hb); clear HB hb))
  go_ret2
  exact ⟨_, rfl, Kd.S_nil _ _ _ _ _, HB1.out⟩
 | true =>
  rw [if_neg (by simp)] at h
  by_cases z : l0.length = 0
  ·rw [if_pos z] at h
   simp only [Option.some.injEq, Prod.mk.injEq] at h
   obtain ⟨rfl, rfl⟩ := h
   have zb : ((l0.length : Int) == 0) = true := beq_iff_eq.mpr (by omega)
   clear z
   go_enter Try.func32, Try.ntmps32
   go_wp2_with (first | ((with_reducible refine gate_callee (f := 51) rfl ?_); refine goesL_ (some 10) rfl rfl Try.func51 (by kernel_rfl) rfl #[.slice A0 l0.length c0] rfl (by (try simp only [List.map_toArray, List.map_cons, List.map_nil]); first | done | rfl) ?_; (with_reducible refine (impl_PacketOk.calls k _ _ l0 true _ ?side1 ?side2 A1.out).mono ?_); (case side1 => exact HR0.out); (case side2 => exact HC0.out); rintro e w1 ⟨rfl, hb⟩; refine ⟨_, rfl, ?_⟩; have HB1 := Aside0.mk (below_step HB.out hb); clear HB hb))
   go_ret2
   exact ⟨_, rfl, Kd.S_nil _ _ _ _ _, HB1.out⟩
  ·rw [if_neg z] at h
   have zb : ((l0.length : Int) == 0) = false := beq_eq_false_iff_ne.mpr (by omega)
   clear z
   obtain ⟨⟨t6, b⟩, A2_, h⟩ := Option.bind_eq_some_iff.mp h
   obtain ⟨s, A3_, h⟩ := Option.bind_eq_some_iff.mp h
   have A2 := Aside0.mk A2_
   have A3 := Aside0.mk A3_
   clear A2_ A3_
   cases b with
   | false =>
    rw [if_pos rfl] at h
    simp only [Option.some.injEq, Prod.mk.injEq] at h
    obtain ⟨rfl, rfl⟩ := h
    go_enter Try.func32, Try.ntmps32
    go_wp2_with (first | ((with_reducible refine gate_callee (f := 51) rfl ?_); refine goesL_ (some 10) rfl rfl Try.func51 (by kernel_rfl) rfl #[.slice A0 l0.length c0] rfl (by (try simp only [List.map_toArray, List.map_cons, List.map_nil]); first | done | rfl) ?_; (with_reducible refine (impl_PacketOk.calls k _ _ l0 true _ ?side1 ?side2 A1.out).mono ?_); (case side1 => exact HR0.out); (case side2 => exact HC0.out); rintro e w1 ⟨rfl, hb⟩; refine ⟨_, rfl, ?_⟩; have HB1 := Aside0.mk (below_step HB.out hb); clear HB hb) | ((with_reducible refine gate_callee (f := 70) rfl ?_); refine goesL_ (some 20) rfl rfl Try.func70 (by kernel_rfl) rfl #[.slice A0 l0.length c0, .int .i64 a1] rfl (by (try simp only [List.map_toArray, List.map_cons, List.map_nil]); first | done | rfl) ?_; (with_reducible refine (impl_all.calls k (fun k_ => k_ < w1.heap.size) _ _ l0 a1 t6 false _ ?side1 A2.out).mono ?_); (case side1 => exact Kd.V_mk HC0.out (Kd.C_F (Kd.heap_int .i64) (Kd.C_below HR0.out HB1.out))); rintro e w2 ⟨v2, rfl, ho, hb⟩; refine ⟨_, rfl, ?_⟩; have HB2 := Aside0.mk (below_step HB1.out hb); have HN := Aside0.mk ho; clear HB1 hb ho; obtain ⟨A2_, c2_, e2_⟩ := Kd.N_slice HN.out; subst e2_) | ((with_reducible refine gate_callee (f := 71) rfl ?_); refine goesL_ (some 24) rfl rfl Try.func71 (by kernel_rfl) rfl #[.slice A2_ t6.length c2_] rfl (by (try simp only [List.map_toArray, List.map_cons, List.map_nil]); first | done | rfl) ?_; (with_reducible refine (impl_SortPackets.calls _ _ t6 s _ ?side1 ?side2 A3.out).mono ?_); (case side1 => exact (Kd.N_reads' HN.out).2.2); (case side2 => exact (Kd.N_reads' HN.out).2.1); rintro e w3 ⟨v3, rfl, ho, hb⟩; refine ⟨_, rfl, ?_⟩; have HS3 := Aside0.mk (Kd.S_lower ho HB2.out.size); have HB3 := Aside0.mk (below_step HB2.out hb); clear HB2 HN ho hb; obtain ⟨A3_, c3_, e3_⟩ := Kd.S_slice HS3.out; subst e3_))
    go_ret2
    exact ⟨_, rfl, Kd.S_nil _ _ _ _ _, HB3.out⟩
   | true =>
    rw [if_neg (by simp)] at h
    by_cases g : 3000 < s.length
    ·rw [if_pos g] at h
     simp only [Option.some.injEq, Prod.mk.injEq] at h
     obtain ⟨rfl, rfl⟩ := h
     have g1 : decide (3000 < (s.length : Int)) = true := decide_eq_true (by omega)
     have g2 : decide (3000 < s.length) = true := decide_eq_true g
     clear g
     go_enter Try.func32, Try.ntmps32
     go_wp2_with (first | ((with_reducible refine gate_callee (f := 51) rfl ?_); refine goesL_ (some 10) rfl rfl Try.func51 (by kernel_rfl) rfl #[.slice A0 l0.length c0] rfl (by (try simp only [List.map_toArray, List.map_cons, List.map_nil]); first | done | rfl) ?_; (with_reducible refine (impl_PacketOk.calls k _ _ l0 true _ ?side1 ?side2 A1.out).mono ?_); (case side1 => exact HR0.out); (case side2 => exact HC0.out); rintro e w1 ⟨rfl, hb⟩; refine ⟨_, rfl, ?_⟩; have HB1 := Aside0.mk (below_step HB.out hb); clear HB hb) | ((with_reducible refine gate_callee (f := 70) rfl ?_); refine goesL_ (some 20) rfl rfl Try.func70 (by kernel_rfl) rfl #[.slice A0 l0.length c0, .int .i64 a1] rfl (by (try simp only [List.map_toArray, List.map_cons, List.map_nil]); first | done | rfl) ?_; (with_reducible refine (impl_all.calls k (fun k_ => k_ < w1.heap.size) _ _ l0 a1 t6 true _ ?side1 A2.out).mono ?_); (case side1 => exact Kd.V_mk HC0.out (Kd.C_F (Kd.heap_int .i64) (Kd.C_below HR0.out HB1.out))); rintro e w2 ⟨v2, rfl, ho, hb⟩; refine ⟨_, rfl, ?_⟩; have HB2 := Aside0.mk (below_step HB1.out hb); have HN := Aside0.mk ho; clear HB1 hb ho; obtain ⟨A2_, c2_, e2_⟩ := Kd.N_slice HN.out; subst e2_) | ((with_reducible refine gate_callee (f := 71) rfl ?_); refine goesL_ (some 24) rfl rfl Try.func71 (by kernel_rfl) rfl #[.slice A2_ t6.length c2_] rfl (by (try simp only [List.map_toArray, List.map_cons, List.map_nil]); first | done | rfl) ?_; (with_reducible refine (impl_SortPackets.calls _ _ t6 s _ ?side1 ?side2 A3.out).mono ?_); (case side1 => exact (Kd.N_reads' HN.out).2.2); (case side2 => exact (Kd.N_reads' HN.out).2.1); rintro e w3 ⟨v3, rfl, ho, hb⟩; refine ⟨_, rfl, ?_⟩; have HS3 := Aside0.mk (Kd.S_lower ho HB2.out.size); have HB3 := Aside0.mk (below_step HB2.out hb); clear HB2 HN ho hb; obtain ⟨A3_, c3_, e3_⟩ := Kd.S_slice HS3.out; subst e3_))
     go_ret2
     exact ⟨_, rfl, Kd.S_nil _ _ _ _ _, HB3.out⟩
    ·rw [if_neg g] at h
     simp only [Option.some.injEq, Prod.mk.injEq] at h
     obtain ⟨rfl, rfl⟩ := h
     have g1 : decide (3000 < (s.length : Int)) = false := decide_eq_false (by omega)
     have g2 : decide (3000 < s.length) = false := decide_eq_false g
     clear g
     go_enter Try.func32, Try.ntmps32
     go_wp2_with (first | ((with_reducible refine gate_callee (f := 51) rfl ?_); refine goesL_ (some 10) rfl rfl Try.func51 (by kernel_rfl) rfl #[.slice A0 l0.length c0] rfl (by (try simp only [List.map_toArray, List.map_cons, List.map_nil]); first | done | rfl) ?_; (with_reducible refine (impl_PacketOk.calls k _ _ l0 true _ ?side1 ?side2 A1.out).mono ?_); (case side1 => exact HR0.out); (case side2 => exact HC0.out); rintro e w1 ⟨rfl, hb⟩; refine ⟨_, rfl, ?_⟩; have HB1 := Aside0.mk (below_step HB.out hb); clear HB hb) | ((with_reducible refine gate_callee (f := 70) rfl ?_); refine goesL_ (some 20) rfl rfl Try.func70 (by kernel_rfl) rfl #[.slice A0 l0.length c0, .int .i64 a1] rfl (by (try simp only [List.map_toArray, List.map_cons, List.map_nil]); first | done | rfl) ?_; (with_reducible refine (impl_all.calls k (fun k_ => k_ < w1.heap.size) _ _ l0 a1 t6 true _ ?side1 A2.out).mono ?_); (case side1 => exact Kd.V_mk HC0.out (Kd.C_F (Kd.heap_int .i64) (Kd.C_below HR0.out HB1.out))); rintro e w2 ⟨v2, rfl, ho, hb⟩; refine ⟨_, rfl, ?_⟩; have HB2 := Aside0.mk (below_step HB1.out hb); have HN := Aside0.mk ho; clear HB1 hb ho; obtain ⟨A2_, c2_, e2_⟩ := Kd.N_slice HN.out; subst e2_) | ((with_reducible refine gate_callee (f := 71) rfl ?_); refine goesL_ (some 24) rfl rfl Try.func71 (by kernel_rfl) rfl #[.slice A2_ t6.length c2_] rfl (by (try simp only [List.map_toArray, List.map_cons, List.map_nil]); first | done | rfl) ?_; (with_reducible refine (impl_SortPackets.calls _ _ t6 s _ ?side1 ?side2 A3.out).mono ?_); (case side1 => exact (Kd.N_reads' HN.out).2.2); (case side2 => exact (Kd.N_reads' HN.out).2.1); rintro e w3 ⟨v3, rfl, ho, hb⟩; refine ⟨_, rfl, ?_⟩; have HS3 := Aside0.mk (Kd.S_lower ho HB2.out.size); have HB3 := Aside0.mk (below_step HB2.out hb); clear HB2 HN ho hb; obtain ⟨A3_, c3_, e3_⟩ := Kd.S_slice HS3.out; subst e3_))
     go_ret2
     exact ⟨_, rfl, HS3.out, HB3.out⟩

/-! ### slices_IndexFunc_int_int: function 87, by hand -/
/-- The first index at which a predicate on lists holds, from i on, or -1. -/
def idxL (p : List Int → Bool) : Int → List (List Int) → Int
 | _, [] => -1
 | i, x :: r => if p x = true then i else idxL p (i + 1) r
theorem idxL_drop (p : List Int → Bool) (l : List (List Int)) (i : Int) (h0 : 0 ≤ i) (h : i < l.length) (hm : l.length ≤ 9223372036854775807) : idxL p i (l.drop i.toNat) = if p (rdRows l i) = true then i else idxL p (wrap64 (i + 1)) (l.drop (wrap64 (i + 1)).toNat) := by
 have hlt : i.toNat < l.length := by omega
 have hw2 : wrap64 (i + 1) = i + 1 := by unfold wrap64; omega
 have hn : (i + 1).toNat = i.toNat + 1 := by omega
 rw [List.drop_eq_getElem_cons hlt, idxL, hw2, hn]
 simp [rdRows, hlt]
theorem rdRows_mem {l : List (List Int)} {i : Int} (h0 : 0 ≤ i) (h : i < l.length) : rdRows l i ∈ l := by
 have hlt : i.toNat < l.length := by omega
 have : rdRows l i = l[i.toNat] := by simp [rdRows, hlt]
 rw [this]
 exact List.getElem_mem hlt
/-- slices.IndexFunc, over lists, at a function value whose calls answer p at every element and only make memory. -/
def AnswersL (g : Nat) (lb : Array Value) (p : List Int → Bool) (l : List (List Int)) (w : World) : Prop :=
 ∀ x, x ∈ l → ∀ (A : Option Addr) (c : Nat) (W : World), Below w.heap.size w W → Kd.C (Kd.int .i64) W A x.length x → x.length ≤ c → Calls Try.prog g (#[.slice A x.length c] ++ lb) W fun e w' => e = .returned (.bool (p x)) ∧ Below w.heap.size w w'
set_option maxHeartbeats 8000000 in
set_option maxRecDepth 100000 in
theorem slices_IndexFunc_int_int.calls (g : Nat) (lb : Array Value) (p : List Int → Bool) (A0 : Option Addr) (c0 : Nat) (l0 : List (List Int)) (w : World) (hr0 : Kd.C (Kd.slice 3 (Kd.int .i64)) w A0 l0.length l0) (eg : ∀ args w, (callFunc g args).run Try.prog w = .ok (.enter g args) w) (hp : AnswersL g lb p l0 w) :
  Calls Try.prog 87 #[.slice A0 l0.length c0, .func (.func g) #[] lb] w fun e w' => e = .returned (.int .i64 (idxL p 0 l0)) ∧ Below w.heap.size w w' := by
 have HR0 := Aside0.mk hr0
 have HP := Aside0.mk hp
 have HM := Aside0.mk hr0.2.1
 clear hr0 hp
 go_enter Try.func87, Try.ntmps87
 go_wp2
 go_loopg [5, 8] l0.length (fun gg _ s8 wr => ∃ i : Int, s8 = .int .i64 i ∧ Aside0 (0 ≤ i ∧ i.toNat ≤ l0.length ∧ l0.length - i.toNat ≤ gg) ∧ Aside0 (Below w.heap.size w wr) ∧ Aside0 (idxL p 0 l0 = idxL p i (l0.drop i.toNat)))
 case atStart => exact ⟨0, rfl, ⟨by omega, by simp, by simp⟩, ⟨Below.refl _ _⟩, ⟨rfl⟩⟩
 case round =>
  obtain ⟨i, rfl, HK, HB, HI⟩ := hrel
  by_cases c1 : i < (l0.length : Int)
  ·have c2 := HK.out.1
   obtain ⟨ad, Ae, ce, ea, hx, hce, hCe⟩ := at_rows HR0.out i c2 c1
   cases ea
   replace hx := (HB.out.cell (World.block_lt_of_cell? w _ hx)).trans hx
   have HC := Aside0.mk (HP.out _ (rdRows_mem c2 c1) Ae ce)
   have HCe := Aside0.mk hCe
   have Hce := Aside0.mk hce
   clear hCe hce
   have HD := Aside0.mk (idxL_drop p l0 i c2 c1 HM.out)
   have HW := Aside0.mk (show wrap64 (i + 1) = i + 1 by have := HM.out; unfold wrap64; omega)
   have HT := Aside0.mk c1
   have c1b : decide (i < (l0.length : Int)) = true := decide_eq_true c1
   replace c1 := eq_true c1
   replace c2 := eq_true c2
   cases hq : p (rdRows l0 i) with
   | true =>
    rw [hq] at HC HD
    clear hq
    go_wp2_with (go_at_fn g; refine (HC.out _ HB.out (Kd.C_below HCe.out HB.out) Hce.out).mono ?_; rintro e w' ⟨rfl, hb⟩)
    go_ret
    exact ⟨by rw [HI.out, HD.out]; rfl, hb⟩
   | false =>
    rw [hq] at HC HD
    clear hq
    go_wp2_with (go_at_fn g; refine (HC.out _ HB.out (Kd.C_below HCe.out HB.out) Hce.out).mono ?_; rintro e w' ⟨rfl, hb⟩)
    go_roundg (l0.length - (i.toNat + 1))
    case measure => have := HT.out; have := HK.out; omega
    case rel => exact ⟨wrap64 (i + 1), rfl, ⟨by rw [HW.out]; have := HT.out; have := HK.out; omega, by rw [HW.out]; have := HT.out; have := HK.out; omega, by rw [HW.out]; have := HT.out; have := HK.out; omega⟩, ⟨hb⟩, ⟨by rw [HI.out, HD.out]; simp⟩⟩
  ·have c1b : decide (i < (l0.length : Int)) = false := decide_eq_false c1
   have HE := Aside0.mk (show idxL p 0 l0 = -1 by rw [HI.out, List.drop_eq_nil_of_le (by have := HK.out; omega)]; rfl)
   clear c1
   go_wp2
   go_ret
   exact ⟨by rw [HE.out]; rfl, HB.out⟩

/-! ### slices_ContainsFunc_int_int: function 68, by hand -/
theorem idxL_nonneg (p : List Int → Bool) (l : List (List Int)) : ∀ i : Int, 0 ≤ i → (0 ≤ idxL p i l ↔ l.any p = true) := by
 induction l with
 | nil => intro i hi; simp [idxL]
 | cons x r ih =>
  intro i hi
  rw [idxL, List.any_cons]
  cases hx : p x with
  | true => simp [hi]
  | false => simp only [Bool.false_eq_true, if_false, Bool.false_or]; exact ih (i + 1) (by omega)
set_option maxHeartbeats 8000000 in
set_option maxRecDepth 100000 in
/-- slices.ContainsFunc, over lists, at such a function value. -/
theorem slices_ContainsFunc_int_int.calls (g : Nat) (lb : Array Value) (p : List Int → Bool) (A0 : Option Addr) (c0 : Nat) (l0 : List (List Int)) (w : World) (hr0 : Kd.C (Kd.slice 3 (Kd.int .i64)) w A0 l0.length l0) (eg : ∀ args w, (callFunc g args).run Try.prog w = .ok (.enter g args) w) (hp : AnswersL g lb p l0 w) :
  Calls Try.prog 68 #[.slice A0 l0.length c0, .func (.func g) #[] lb] w fun e w' => e = .returned (.bool (l0.any p)) ∧ Below w.heap.size w w' := by
 have HC := Aside0.mk (slices_IndexFunc_int_int.calls g lb p A0 c0 l0 w hr0 eg hp)
 have HE := Aside0.mk (show decide (0 ≤ idxL p 0 l0) = l0.any p by rw [Bool.eq_iff_iff, decide_eq_true_eq]; exact idxL_nonneg p l0 0 (by omega))
 clear hr0 eg hp
 go_enter Try.func68, Try.ntmps68
 go_wp2_with (go_at_call 87; refine HC.out.mono ?_; rintro e w' ⟨rfl, hb⟩)
 go_ret
 exact ⟨by rw [← HE.out]; rfl, hb⟩

/-! ### impl_IsResult: function 31, by hand -/
def impl_IsResult.f (k : Nat) (l0 : List Int) (a1 : Int) (l2 : List Int) : Option Bool := (impl_ResultsOf.f k l0 a1).bind fun b => if b.1.all (fun x => decide (x.length ≤ 9223372036854775806)) = true then some (b.1.any fun x => decide (x = l2)) else none
theorem impl_IsResult.mono : ∀ a0 a1 a2 k, LeO (impl_IsResult.f k a0 a1 a2) (impl_IsResult.f (k + 1) a0 a1 a2) := by
 intro a0 a1 a2 k
 unfold impl_IsResult.f
 exact LeO.bind (impl_ResultsOf.mono _ _ _) (fun _ => LeO.refl _)
set_option maxHeartbeats 8000000 in
set_option maxRecDepth 100000 in
theorem impl_IsResult.closure (q x : List Int) (A2 A : Option Addr) (c2 c : Nat) (B : Nat) (W : World) (hs : x.length ≤ 9223372036854775806) (hx : Kd.C (Kd.int .i64) W A x.length x) (hcx : x.length ≤ c) (hq : Kd.C (Kd.int .i64) W A2 q.length q) (hcq : q.length ≤ c2) (hc : W.cell? ⟨B, 0, none⟩ = some (.slice A2 q.length c2)) :
  Calls Try.prog 69 #[.slice A x.length c, .pointer (some ⟨B, 0, none⟩)] W fun e w' => e = .returned (.bool (decide (x = q))) ∧ ∃ n, w' = W.drewN n := by
 obtain ⟨k, hk⟩ := equal_run x q hs
 have HC := Aside0.mk (slices_Equal_int_int.calls k A c x A2 c2 q _ W hx hcx hq hcq hk)
 clear hk hx hq hcx hcq hs
 go_enter Try.func69, Try.ntmps69
 go_wp2_with (go_at_call 56; refine HC.out.mono ?_; rintro e w' ⟨rfl, hd⟩)
 go_ret
 exact ⟨rfl, hd.out⟩
set_option maxHeartbeats 8000000 in
set_option maxRecDepth 100000 in
theorem impl_IsResult.calls (k : Nat) (A0 : Option Addr) (c0 : Nat) (l0 : List Int) (a1 : Int) (A2 : Option Addr) (c2 : Nat) (l2 : List Int) (r : Bool) (w : World) (hr0 : Kd.C (Kd.int .i64) w A0 l0.length l0) (hc0 : l0.length ≤ c0) (hr2 : Kd.C (Kd.int .i64) w A2 l2.length l2) (hc2 : l2.length ≤ c2) (h : impl_IsResult.f k l0 a1 l2 = some r) :
  Calls Try.prog 31 #[.slice A0 l0.length c0, .int .i64 a1, .slice A2 l2.length c2] w fun e w' => e = .returned (.bool r) ∧ Below w.heap.size w w' := by
 have HR0 := Aside0.mk hr0
 have HC0 := Aside0.mk hc0
 have HR2 := Aside0.mk hr2
 have HC2 := Aside0.mk hc2
 clear hr0 hc0 hr2 hc2
 unfold impl_IsResult.f at h
 obtain ⟨⟨t, b⟩, A1_, h⟩ := Option.bind_eq_some_iff.mp h
 have A1 := Aside0.mk A1_
 clear A1_
 by_cases g : t.all (fun x => decide (x.length ≤ 9223372036854775806)) = true
 ·rw [if_pos g] at h
  obtain rfl := Option.some.inj h
  clear h
  have HS := Aside0.mk (show ∀ x ∈ t, x.length ≤ 9223372036854775806 from fun x hx => by have := List.all_eq_true.1 g x hx; simpa using this)
  clear g
  have eg := enters_of Try.func69 (by kernel_rfl) rfl
  have EG := Aside0.mk eg
  clear eg
  have HB := Aside0.mk (below_alloc (Below.refl w.heap.size w) (.cells #[.slice A2 l2.length c2] 22))
  have HX := Aside0.mk (show (w.alloc (.cells #[.slice A2 l2.length c2] 22)).cell? ⟨w.heap.size, 0, none⟩ = some (.slice A2 l2.length c2) by simp)
  go_enter Try.func31, Try.ntmps31
  go_wp2_with (first | ((with_reducible refine gate_callee (f := 32) rfl ?_); refine goesL_ (some 12) rfl rfl Try.func32 (by kernel_rfl) rfl #[.slice A0 l0.length c0, .int .i64 a1] rfl (by (try simp only [List.map_toArray, List.map_cons, List.map_nil]); first | done | rfl) ?_; (with_reducible refine (impl_ResultsOf.calls k _ _ l0 a1 t b _ ?side1 ?side2 A1.out).mono ?_); (case side1 => exact Kd.C_alloc HR0.out _); (case side2 => exact HC0.out); rintro e w2 ⟨v2, rfl, ho, hb⟩; refine ⟨_, rfl, ?_⟩; have HB2 := Aside0.mk (below_step HB.out hb); have HX2 := Aside0.mk ((hb.cell (World.block_lt_of_cell? _ _ HX.out)).trans HX.out); have HS2 := Aside0.mk ho; clear HB HX hb ho; obtain ⟨A3_, c3_, e3_⟩ := Kd.S_slice HS2.out; subst e3_) | (go_at_call 68; refine (slices_ContainsFunc_int_int.calls 69 #[.pointer (some ⟨w.heap.size, 0, none⟩)] (fun x => decide (x = l2)) A3_ c3_ t w2 (Kd.S_reads' HS2.out).2.2 EG.out ?hp).mono ?_; (case hp => exact fun x hx A c W hbW hC hc => (impl_IsResult.closure l2 x A2 A c2 c w.heap.size W (HS.out x hx) hC hc (Kd.C_below HR2.out (below_step HB2.out hbW)) HC2.out ((hbW.cell (World.block_lt_of_cell? _ _ HX2.out)).trans HX2.out)).mono (fun e w' he => ⟨he.1, by obtain ⟨n, hn⟩ := he.2; rw [hn]; exact pw_below_drewN hbW n⟩)); rintro e w3 ⟨rfl, hb⟩))
  go_ret
  exact ⟨rfl, below_step HB2.out hb⟩
 ·rw [if_neg g] at h
  cases h

/-! ### impl_RiffleWays: function 33 -/
def impl_RiffleWays.f (k : Nat) (l0 : List Int) : Option (Int) := (impl_IsRiffle.f k l0).bind fun t537 => (if t537 = true then ((impl_RisingSequences.f k l0).bind fun t538 => (if (t538.length : Int) = 2 then (some 1) else (some (wrap64 ((l0.length : Int) + 1))))) else (some 0))
theorem impl_RiffleWays.mono : ∀ a0 k, LeO (impl_RiffleWays.f k a0) (impl_RiffleWays.f (k + 1) a0) := by
 intro a0 k
 unfold impl_RiffleWays.f
 repeat' first
   | (with_reducible exact impl_IsRiffle.mono _ _)
   | (with_reducible exact impl_RisingSequences.mono _ _)
   | (with_reducible exact LeO.refl _)
   | (with_reducible exact LeO.none _)
   | (with_reducible refine LeO.ite ?_ ?_)
   | (with_reducible refine LeO.bind ?_ (fun _ => ?_))
set_option maxHeartbeats 8000000 in
set_option maxRecDepth 100000 in
theorem impl_RiffleWays.calls (k : Nat) (A0 : Option Addr) (c0 : Nat) (l0 : List Int) (r : Int) (w : World) (hr0 : Kd.C (Kd.int .i64) w A0 l0.length l0) (hc0 : l0.length ≤ c0) (h : impl_RiffleWays.f k l0 = some r) :
  Calls Try.prog 33 #[.slice A0 l0.length c0] w fun e w' => e = .returned (.int .i64 r) ∧ Below w.heap.size w w' := by
 have HR0 := Aside0.mk hr0
 have HC0 := Aside0.mk hc0
 clear hr0 hc0
 have HB := Aside0.mk (Below.refl w.heap.size w)
 have H : ((impl_IsRiffle.f k l0).bind fun t537 => (if t537 = true then ((impl_RisingSequences.f k l0).bind fun t538 => (if (t538.length : Int) = 2 then (some 1) else (some (wrap64 ((l0.length : Int) + 1))))) else (some 0))) = some r := h
 clear h
 replace H := Option.bind_eq_some_iff.mp H
 obtain ⟨t537, A20, H⟩ := H
 replace H : (if t537 = true then ((impl_RisingSequences.f k l0).bind fun t538 => (if (t538.length : Int) = 2 then (some 1) else (some (wrap64 ((l0.length : Int) + 1))))) else (some 0)) = some r := H
 have A2 := Aside0.mk A20
 clear A20
 by_cases c3 : t537 = true
 ·subst c3
  rw [if_pos rfl] at H
  replace H := Option.bind_eq_some_iff.mp H
  obtain ⟨t538, A40, H⟩ := H
  replace H : (if (t538.length : Int) = 2 then (some 1) else (some (wrap64 ((l0.length : Int) + 1)))) = some r := H
  have A4 := Aside0.mk A40
  clear A40
  by_cases c5 : (t538.length : Int) = 2
  ·rw [if_pos c5] at H
   have c5b0 : ((t538.length : Int) == 2) = true := beq_iff_eq.mpr c5
   have c5b1 : ((t538.length : Int) != 2) = false := bne_eq_false_iff_eq.mpr c5
   clear c5
   obtain rfl := Option.some.inj H
   go_enter Try.func33, Try.ntmps33
   go_wp2_with (first | ((with_reducible refine gate_callee (f := 29) rfl ?_); refine goesL_ (some 5) rfl rfl Try.func29 (by kernel_rfl) rfl #[.slice A0 l0.length c0] rfl (by (try simp only [List.map_toArray, List.map_cons, List.map_nil]); first | done | rfl | (simp only [List.length_drop, List.length_take]; rfl)) ?_; (with_reducible refine (impl_IsRiffle.calls k _ _ l0 true _ ?side1 ?side2 A2.out).mono ?_); (case side1 => repeat (first | exact HR0.out | (with_reducible first | refine Kd.C_alloc ?_ _ | refine Kd.C_drewN ?_ _ | refine Kd.C_drew ?_))); (case side2 => exact HC0.out); rintro e w6 ⟨rfl, hb⟩; refine ⟨_, rfl, ?_⟩; have n0_ := Aside0.mk (below_step bl_ hb); clear HB; have HB := n0_; clear n0_; (try clear hb)) | ((with_reducible refine gate_callee (f := 28) rfl ?_); refine goesL_ (some 9) rfl rfl Try.func28 (by kernel_rfl) rfl #[.slice A0 l0.length c0] rfl (by (try simp only [List.map_toArray, List.map_cons, List.map_nil]); first | done | rfl | (simp only [List.length_drop, List.length_take]; rfl)) ?_; (with_reducible refine (impl_RisingSequences.calls k _ _ l0 t538 _ ?side1 ?side2 A4.out).mono ?_); (case side1 => repeat (first | exact (Kd.C_below HR0.out HB.out) | (with_reducible first | refine Kd.C_alloc ?_ _ | refine Kd.C_drewN ?_ _ | refine Kd.C_drew ?_))); (case side2 => exact HC0.out); rintro e w7 ⟨v539, rfl, ho0, hb⟩; refine ⟨_, rfl, ?_⟩; have n0_ := Aside0.mk (Kd.S_lower ho0 (below_size bl_)); have n1_ := Aside0.mk (below_step bl_ hb); clear HB; have HO540 := n0_; have HB := n1_; clear n0_ n1_; (try clear hb); (try clear ho0); obtain ⟨Ao8, co8, eo8⟩ := Kd.S_slice HO540.out; subst eo8))
   go_ret
   exact ⟨by first | rfl | (simp [errW_none, errW_some] <;> rfl) | (simp [*, errW_none, errW_some] <;> rfl), by repeat (first | (with_reducible first | exact HB.out | apply below_alloc | apply pw_below_drewN | apply below_drew1) | exact HB.out)⟩
  ·rw [if_neg c5] at H
   have c5b0 : ((t538.length : Int) == 2) = false := beq_eq_false_iff_ne.mpr c5
   have c5b1 : ((t538.length : Int) != 2) = true := bne_iff_ne.mpr c5
   obtain rfl := Option.some.inj H
   go_enter Try.func33, Try.ntmps33
   go_wp2_with (first | ((with_reducible refine gate_callee (f := 29) rfl ?_); refine goesL_ (some 5) rfl rfl Try.func29 (by kernel_rfl) rfl #[.slice A0 l0.length c0] rfl (by (try simp only [List.map_toArray, List.map_cons, List.map_nil]); first | done | rfl | (simp only [List.length_drop, List.length_take]; rfl)) ?_; (with_reducible refine (impl_IsRiffle.calls k _ _ l0 true _ ?side1 ?side2 A2.out).mono ?_); (case side1 => repeat (first | exact HR0.out | (with_reducible first | refine Kd.C_alloc ?_ _ | refine Kd.C_drewN ?_ _ | refine Kd.C_drew ?_))); (case side2 => exact HC0.out); rintro e w9 ⟨rfl, hb⟩; refine ⟨_, rfl, ?_⟩; have n0_ := Aside0.mk (below_step bl_ hb); clear HB; have HB := n0_; clear n0_; (try clear hb)) | ((with_reducible refine gate_callee (f := 28) rfl ?_); refine goesL_ (some 9) rfl rfl Try.func28 (by kernel_rfl) rfl #[.slice A0 l0.length c0] rfl (by (try simp only [List.map_toArray, List.map_cons, List.map_nil]); first | done | rfl | (simp only [List.length_drop, List.length_take]; rfl)) ?_; (with_reducible refine (impl_RisingSequences.calls k _ _ l0 t538 _ ?side1 ?side2 A4.out).mono ?_); (case side1 => repeat (first | exact (Kd.C_below HR0.out HB.out) | (with_reducible first | refine Kd.C_alloc ?_ _ | refine Kd.C_drewN ?_ _ | refine Kd.C_drew ?_))); (case side2 => exact HC0.out); rintro e w10 ⟨v539, rfl, ho0, hb⟩; refine ⟨_, rfl, ?_⟩; have n0_ := Aside0.mk (Kd.S_lower ho0 (below_size bl_)); have n1_ := Aside0.mk (below_step bl_ hb); clear HB; have HO540 := n0_; have HB := n1_; clear n0_ n1_; (try clear hb); (try clear ho0); obtain ⟨Ao11, co11, eo11⟩ := Kd.S_slice HO540.out; subst eo11))
   go_ret
   exact ⟨by first | rfl | (simp [errW_none, errW_some] <;> rfl) | (simp [*, errW_none, errW_some] <;> rfl), by repeat (first | (with_reducible first | exact HB.out | apply below_alloc | apply pw_below_drewN | apply below_drew1) | exact HB.out)⟩
 ·replace c3 := Bool.eq_false_iff.mpr c3
  subst c3
  rw [if_neg (show ¬ (false = true) by decide)] at H
  obtain rfl := Option.some.inj H
  go_enter Try.func33, Try.ntmps33
  go_wp2_with (first | ((with_reducible refine gate_callee (f := 29) rfl ?_); refine goesL_ (some 5) rfl rfl Try.func29 (by kernel_rfl) rfl #[.slice A0 l0.length c0] rfl (by (try simp only [List.map_toArray, List.map_cons, List.map_nil]); first | done | rfl | (simp only [List.length_drop, List.length_take]; rfl)) ?_; (with_reducible refine (impl_IsRiffle.calls k _ _ l0 false _ ?side1 ?side2 A2.out).mono ?_); (case side1 => repeat (first | exact HR0.out | (with_reducible first | refine Kd.C_alloc ?_ _ | refine Kd.C_drewN ?_ _ | refine Kd.C_drew ?_))); (case side2 => exact HC0.out); rintro e w12 ⟨rfl, hb⟩; refine ⟨_, rfl, ?_⟩; have n0_ := Aside0.mk (below_step bl_ hb); clear HB; have HB := n0_; clear n0_; (try clear hb)))
  go_ret
  exact ⟨by first | rfl | (simp [errW_none, errW_some] <;> rfl) | (simp [*, errW_none, errW_some] <;> rfl), by repeat (first | (with_reducible first | exact HB.out | apply below_alloc | apply pw_below_drewN | apply below_drew1) | exact HB.out)⟩

/-! ### impl_SplitOf: function 34 -/
def impl_SplitOf.f (k : Nat) (l0 : List Int) : Option (Int) := (impl_RisingSequences.f k l0).bind fun t541 => (if (t541.length : Int) = 2 then (if 0 < (t541.length : Int) then (some ((rd_L2 t541 0).length : Int)) else (none)) else (some (-1)))
theorem impl_SplitOf.mono : ∀ a0 k, LeO (impl_SplitOf.f k a0) (impl_SplitOf.f (k + 1) a0) := by
 intro a0 k
 unfold impl_SplitOf.f
 repeat' first
   | (with_reducible exact impl_RisingSequences.mono _ _)
   | (with_reducible exact LeO.refl _)
   | (with_reducible exact LeO.none _)
   | (with_reducible refine LeO.ite ?_ ?_)
   | (with_reducible refine LeO.bind ?_ (fun _ => ?_))
set_option maxHeartbeats 8000000 in
set_option maxRecDepth 100000 in
theorem impl_SplitOf.calls (k : Nat) (A0 : Option Addr) (c0 : Nat) (l0 : List Int) (r : Int) (w : World) (hr0 : Kd.C (Kd.int .i64) w A0 l0.length l0) (hc0 : l0.length ≤ c0) (h : impl_SplitOf.f k l0 = some r) :
  Calls Try.prog 34 #[.slice A0 l0.length c0] w fun e w' => e = .returned (.int .i64 r) ∧ Below w.heap.size w w' := by
 have HR0 := Aside0.mk hr0
 have HC0 := Aside0.mk hc0
 clear hr0 hc0
 have HB := Aside0.mk (Below.refl w.heap.size w)
 have H : ((impl_RisingSequences.f k l0).bind fun t541 => (if (t541.length : Int) = 2 then (if 0 < (t541.length : Int) then (some ((rd_L2 t541 0).length : Int)) else (none)) else (some (-1)))) = some r := h
 clear h
 replace H := Option.bind_eq_some_iff.mp H
 obtain ⟨t541, A20, H⟩ := H
 replace H : (if (t541.length : Int) = 2 then (if 0 < (t541.length : Int) then (some ((rd_L2 t541 0).length : Int)) else (none)) else (some (-1))) = some r := H
 have A2 := Aside0.mk A20
 clear A20
 by_cases c3 : (t541.length : Int) = 2
 ·rw [if_pos c3] at H
  have c3b0 : ((t541.length : Int) == 2) = true := beq_iff_eq.mpr c3
  have c3b1 : ((t541.length : Int) != 2) = false := bne_eq_false_iff_eq.mpr c3
  clear c3
  by_cases c4 : 0 < (t541.length : Int)
  ·rw [if_pos c4] at H
   have c4b0 : decide (0 < (t541.length : Int)) = true := decide_eq_true c4
   have c4b1 : decide (0 < t541.length) = true := decide_eq_true (by omega)
   clear c4
   obtain rfl := Option.some.inj H
   go_enter Try.func34, Try.ntmps34
   go_wp2_with (first | ((with_reducible refine gate_callee (f := 28) rfl ?_); refine goesL_ (some 5) rfl rfl Try.func28 (by kernel_rfl) rfl #[.slice A0 l0.length c0] rfl (by (try simp only [List.map_toArray, List.map_cons, List.map_nil]); first | done | rfl | (simp only [List.length_drop, List.length_take]; rfl)) ?_; (with_reducible refine (impl_RisingSequences.calls k _ _ l0 t541 _ ?side1 ?side2 A2.out).mono ?_); (case side1 => repeat (first | exact HR0.out | (with_reducible first | refine Kd.C_alloc ?_ _ | refine Kd.C_drewN ?_ _ | refine Kd.C_drew ?_))); (case side2 => exact HC0.out); rintro e w5 ⟨v542, rfl, ho0, hb⟩; refine ⟨_, rfl, ?_⟩; have n0_ := Aside0.mk (Kd.S_lower ho0 (below_size bl_)); have n1_ := Aside0.mk (below_step bl_ hb); clear HB; have HO543 := n0_; have HB := n1_; clear n0_ n1_; (try clear hb); (try clear ho0); obtain ⟨Ao6, co6, eo6⟩ := Kd.S_slice HO543.out; subst eo6; have p544 : 0 ≤ (0 : Int) := (by omega); have q544 : 0 < (t541.length : Int) := of_decide_eq_true (by first | (with_reducible assumption) | assumption); obtain ⟨ad544, A544_0, c544_0, e544, hx544_0, hl544_0, hi544_0⟩ := at_L2 (Kd.S_reads' HO543.out).2.2 0 p544 q544; cases e544; obtain ⟨ce544, hce544, hMe544, hcc544⟩ := Kd.S_get HO543.out [] 0 p544 (by first | exact q544 | exact of_decide_eq_true (by first | (with_reducible assumption) | assumption) | (have e_ := (Kd.S_reads' HO543.out).1; omega)); obtain ⟨ve544_0, rfl, ge544_0⟩ := hMe544; have hv544_0 := hcc544 0 _ rfl; rw [Nat.add_zero, show ((Kd.slice 3 (Kd.int .i64))).sz = 1 from rfl, Nat.mul_one] at hv544_0; replace hv544_0 := Option.some.inj (hv544_0.symm.trans hx544_0); rw [hv544_0] at ge544_0; have HL544_0 := Aside0.mk (show Kd.R (Kd.int .i64) 3 _ _ _ _ (rd_L2 t541 0) from ge544_0); clear hv544_0 ge544_0; clear hcc544 hce544; have qi544 : (0 < t541.length) = True := eq_true (by omega); (try rw [show ((0 : Int)).toNat = 0 from rfl] at hx544_0); (try rw [Addr.add_zero'] at hx544_0); have HR544_0 := Aside0.mk hi544_0; have HC544_0 := Aside0.mk hl544_0; clear hi544_0 hl544_0; replace p544 := eq_true p544; replace q544 := eq_true q544))
   go_ret
   exact ⟨by first | rfl | (simp [errW_none, errW_some] <;> rfl) | (simp [*, errW_none, errW_some] <;> rfl), by repeat (first | (with_reducible first | exact HB.out | apply below_alloc | apply pw_below_drewN | apply below_drew1) | exact HB.out)⟩
  ·rw [if_neg c4] at H
   exact absurd H (by simp)
 ·rw [if_neg c3] at H
  have c3b0 : ((t541.length : Int) == 2) = false := beq_eq_false_iff_ne.mpr c3
  have c3b1 : ((t541.length : Int) != 2) = true := bne_iff_ne.mpr c3
  obtain rfl := Option.some.inj H
  go_enter Try.func34, Try.ntmps34
  go_wp2_with (first | ((with_reducible refine gate_callee (f := 28) rfl ?_); refine goesL_ (some 5) rfl rfl Try.func28 (by kernel_rfl) rfl #[.slice A0 l0.length c0] rfl (by (try simp only [List.map_toArray, List.map_cons, List.map_nil]); first | done | rfl | (simp only [List.length_drop, List.length_take]; rfl)) ?_; (with_reducible refine (impl_RisingSequences.calls k _ _ l0 t541 _ ?side1 ?side2 A2.out).mono ?_); (case side1 => repeat (first | exact HR0.out | (with_reducible first | refine Kd.C_alloc ?_ _ | refine Kd.C_drewN ?_ _ | refine Kd.C_drew ?_))); (case side2 => exact HC0.out); rintro e w7 ⟨v542, rfl, ho0, hb⟩; refine ⟨_, rfl, ?_⟩; have n0_ := Aside0.mk (Kd.S_lower ho0 (below_size bl_)); have n1_ := Aside0.mk (below_step bl_ hb); clear HB; have HO543 := n0_; have HB := n1_; clear n0_ n1_; (try clear hb); (try clear ho0); obtain ⟨Ao8, co8, eo8⟩ := Kd.S_slice HO543.out; subst eo8))
  go_ret
  exact ⟨by first | rfl | (simp [errW_none, errW_some] <;> rfl) | (simp [*, errW_none, errW_some] <;> rfl), by repeat (first | (with_reducible first | exact HB.out | apply below_alloc | apply pw_below_drewN | apply below_drew1) | exact HB.out)⟩

end Go.Proofs.Ytdgoeomelnlekaa.MFnRiffles
