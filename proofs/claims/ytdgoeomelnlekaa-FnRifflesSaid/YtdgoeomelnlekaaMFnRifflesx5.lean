-- Written by this session's own program (wip/tools/myprint.py), over the kit's printer.
import Derived.Test.YtdgoeomelnlekaaMFnRifflesx0
namespace Go.Proofs.Ytdgoeomelnlekaa.MFnRiffles
open Go.RowKit Go.Proofs.YtdgoeomelnlekaaW.PrintWords Go.Proofs.YtdgoeomelnlekaaW.PrintLast Go.Proofs.YtdgoeomelnlekaaW.PrintMore
attribute [local go_sem] max2_int min2_int max_two min_two max_three min_three max_four min_four   -- for this text's walks alone
set_option linter.unusedVariables false
set_option linter.unusedSimpArgs false

/-! ### spec_l05Weave: function 85, by hand -/
def spec_l05Weave.f : Nat → List (List Int) → List Int → List Int → List Int → Option (List (List Int))
 | 0, _, _, _, _ => none
 | k + 1, l0, l1, l2, l3 => if l2.length = 0 ∧ l3.length = 0 then (if l0.length < 5864062014805 then some (l0 ++ [l1]) else none) else (if l1.length < 17592186044415 then ((if l2.length = 0 then some l0 else spec_l05Weave.f k l0 (l1 ++ [rd l2 0]) (l2.drop 1) l3).bind fun o => (if l3.length = 0 then some o else spec_l05Weave.f k o (l1 ++ [rd l3 0]) l2 (l3.drop 1))) else none)
theorem spec_l05Weave.mono : ∀ a0 a1 a2 a3 k, LeO (spec_l05Weave.f k a0 a1 a2 a3) (spec_l05Weave.f (k + 1) a0 a1 a2 a3) := by
 intro a0 a1 a2 a3 k
 induction k generalizing a0 a1 a2 a3 with
 | zero => intro r h; simp [spec_l05Weave.f] at h
 | succ k ih =>
  rw [spec_l05Weave.f, spec_l05Weave.f]
  repeat' first
   | (with_reducible exact ih _ _ _ _)
   | (with_reducible exact LeO.refl _)
   | (with_reducible exact LeO.none _)
   | (with_reducible refine LeO.ite ?_ ?_)
   | (with_reducible refine LeO.bind ?_ (fun _ => ?_))
def spec_l05Weave.T4 : Bool × List (List Nat × List Nat) := (true, [([], []), ([], []), ([], []), ([1, 2], [1, 2]), ([], []), ([4], [4]), ([5], [5]), ([6], [6]), ([3, 7, 3], [3, 7]), ([], []), ([9], [9]), ([], []), ([0, 8, 10, 11, 8], [0, 8, 10, 11]), ([12, 12, 0, 1, 2, 3, 4, 5, 6, 7, 8, 9, 10, 11, 12], [0, 12])])
def spec_l05Weave.B4 : List Nat := [0, 0, 0, 6, 0, 16, 48, 112, 254, 0, 512, 0, 4095, 8191]
theorem spec_l05Weave.tab4 : rtab .any (opsOf Try.f85 4) = spec_l05Weave.T4 := by kernel_rfl
theorem spec_l05Weave.bits4 : waitsOk spec_l05Weave.T4.2 spec_l05Weave.B4 = true := by kernel_rfl
def spec_l05Weave.T6 : Bool × List (List Nat × List Nat) := (true, [([], []), ([], []), ([], []), ([1, 2], [1, 2]), ([], []), ([4], [4]), ([5], [5]), ([6], [6]), ([3, 7, 3], [3, 7]), ([], []), ([], []), ([10], [10]), ([0, 8, 9, 11, 8], [0, 8, 9, 11]), ([12, 12, 0, 1, 2, 3, 4, 5, 6, 7, 8, 9, 10, 11, 12], [0, 12])])
def spec_l05Weave.B6 : List Nat := [0, 0, 0, 6, 0, 16, 48, 112, 254, 0, 0, 1024, 4095, 8191]
theorem spec_l05Weave.tab6 : rtab .any (opsOf Try.f85 6) = spec_l05Weave.T6 := by kernel_rfl
theorem spec_l05Weave.bits6 : waitsOk spec_l05Weave.T6.2 spec_l05Weave.B6 = true := by kernel_rfl

/-- How a slice of lists is told that a call goes on from: its own row, and what it leads to, in Q; all else beside it. -/
structure spec_l05Weave.WI (Q : Nat → Prop) (w0 w1 : World) (v0 : Value) (out : List (List Int)) (A1 : Option Addr) (c1 : Nat) (l1 : List Int) (A2 : Option Addr) (c2 : Nat) (l2 : List Int) (A3 : Option Addr) (c3 : Nat) (l3 : List Int) : Prop where
 fresh : ∀ k, w0.heap.size ≤ k → Q k
 hB : Below w0.heap.size w0 w1
 hO : Kd.N (Kd.slice 3 (Kd.int .i64)) 22 w1 w0.heap.size Q v0 out
 h1 : Kd.V (Kd.int .i64) 3 w1 w0.heap.size (fun k => Q k ∧ some k ≠ v0.ownBlock) (.slice A1 l1.length c1) l1
 h2 : Kd.V (Kd.int .i64) 3 w1 w0.heap.size (fun k => Q k ∧ some k ≠ v0.ownBlock) (.slice A2 l2.length c2) l2
 h3 : Kd.V (Kd.int .i64) 3 w1 w0.heap.size (fun k => Q k ∧ some k ≠ v0.ownBlock) (.slice A3 l3.length c3) l3
/-- What a call that goes on from v leaves: all old blocks but v's own are as they were; v' has v's block or a new one. -/
structure spec_l05Weave.Gr (w w' : World) (v v' : Value) : Prop where
 g : w.grownBy w' v.ownBlock
 a : v'.ownBlock = v.ownBlock ∨ ∃ b, v'.ownBlock = some b ∧ w.heap.size ≤ b
theorem spec_l05Weave.Gr.of_below {w w' : World} {v : Value} (h : Below w.heap.size w w') : spec_l05Weave.Gr w w' v v := ⟨⟨h.os, h.tape, h.output, h.size, fun i hi _ => h.block i hi⟩, .inl rfl⟩
theorem spec_l05Weave.Gr.trans {w w1 w2 : World} {v v1 v2 : Value} (h : spec_l05Weave.Gr w w1 v v1) (k : spec_l05Weave.Gr w1 w2 v1 v2) : spec_l05Weave.Gr w w2 v v2 := by
 refine ⟨h.g.andThen k.g (fun j hj => ?_), ?_⟩
 ·rcases h.a with e | ⟨b, e, hb⟩
  ·exact .inr (e ▸ hj)
  ·rw [e] at hj
   injection hj with hj
   exact .inl (by omega)
 ·rcases k.a with e | ⟨b, e, hb⟩
  ·rcases h.a with e1 | ⟨b, e1, hb⟩
   ·exact .inl (e.trans e1)
   ·exact .inr ⟨b, e.trans e1, hb⟩
  ·exact .inr ⟨b, e, Nat.le_trans h.g.size hb⟩
section
variable {Q : Nat → Prop} {w0 w1 w2 : World} {v0 v1 : Value} {out out1 : List (List Int)} {A1 : Option Addr} {c1 : Nat} {l1 : List Int} {A2 : Option Addr} {c2 : Nat} {l2 : List Int} {A3 : Option Addr} {c3 : Nat} {l3 : List Int}
theorem spec_l05Weave.WI.below (h : spec_l05Weave.WI Q w0 w1 v0 out A1 c1 l1 A2 c2 l2 A3 c3 l3) (hb : Below w1.heap.size w1 w2) : spec_l05Weave.WI Q w0 w2 v0 out A1 c1 l1 A2 c2 l2 A3 c3 l3 :=
 ⟨h.fresh, below_step h.hB hb, Kd.N_below h.hO hb, Kd.V_below h.h1 hb, Kd.V_below h.h2 hb, Kd.V_below h.h3 hb⟩
theorem spec_l05Weave.WI.after (h : spec_l05Weave.WI Q w0 w1 v0 out A1 c1 l1 A2 c2 l2 A3 c3 l3) (hN : Kd.N (Kd.slice 3 (Kd.int .i64)) 22 w2 w0.heap.size Q v1 out1) (hB : Below w0.heap.size w0 w2) (hg : spec_l05Weave.Gr w1 w2 v0 v1) : spec_l05Weave.WI Q w0 w2 v1 out1 A1 c1 l1 A2 c2 l2 A3 c3 l3 :=
 ⟨h.fresh, hB, hN, Kd.V_afterv h.h1 hg.g hg.a, Kd.V_afterv h.h2 hg.g hg.a, Kd.V_afterv h.h3 hg.g hg.a⟩
theorem spec_l05Weave.WI.new {ok : Nat → Prop} {Ad : Option Addr} {cd : Nat} {l : List Int} (h : spec_l05Weave.WI Q w0 w1 v0 out A1 c1 l1 A2 c2 l2 A3 c3 l3) (hR : Kd.R (Kd.int .i64) 3 w2 w1.heap.size ok (.slice Ad l.length cd) l) : Kd.V (Kd.int .i64) 3 w2 w0.heap.size (fun k => Q k ∧ some k ≠ v0.ownBlock) (.slice Ad l.length cd) l :=
 Kd.R_V (Kd.R_mono (Kd.R_bound hR) (fun k hk => ⟨h.fresh k (by have := h.hB.size; have := hk.2.1; omega), fun e => by have := Kd.N_lt h.hO k e.symm; have := hk.2.1; omega⟩))
theorem spec_l05Weave.V_tail {ok : Nat → Prop} {A A' : Option Addr} {c c' : Nat} {l : List Int} (h : Kd.V (Kd.int .i64) 3 w1 w0.heap.size ok (.slice A l.length c) l) (hl : 1 ≤ l.length) (e : A' = (if c = (1 : Int).toNat then A else A.map (·.add ((1 : Int).toNat * 1)))) (hc : (l.drop 1).length ≤ c') : Kd.V (Kd.int .i64) 3 w1 w0.heap.size ok (.slice A' (l.drop 1).length c') (l.drop 1) :=
 Kd.V_mk hc (by rw [e]; exact Kd.F_cut (m := (1 : Int).toNat) (Kd.V_F h) hl (Kd.V_reads' h).2.1)
theorem spec_l05Weave.V_cell {ok : Nat → Prop} {ad : Addr} {c : Nat} {l : List Int} (h : Kd.V (Kd.int .i64) 3 w1 w0.heap.size ok (.slice (some ad) l.length c) l) (hl : 0 < (l.length : Int)) : w1.cell? ad = some (.int .i64 (rd l 0)) := by
 have h_ := Kd.foot_int (Kd.V_reads' h).2.2 (0 : Int) (by omega) hl
 rw [show ((0 : Int)).toNat = 0 from rfl, Addr.add_zero'] at h_
 exact h_
end
set_option maxHeartbeats 8000000 in
set_option maxRecDepth 100000 in
theorem spec_l05Weave.calls (k : Nat) : ∀ (Q : Nat → Prop) (w0 w : World) (u0_ : Value) (l0 : List (List Int)) (A1 : Option Addr) (c1 : Nat) (l1 : List Int) (A2 : Option Addr) (c2 : Nat) (l2 : List Int) (A3 : Option Addr) (c3 : Nat) (l3 : List Int) (r : List (List Int)) (hw : spec_l05Weave.WI Q w0 w u0_ l0 A1 c1 l1 A2 c2 l2 A3 c3 l3) (h : spec_l05Weave.f k l0 l1 l2 l3 = some r),
  Calls Try.prog 85 #[u0_, .slice A1 l1.length c1, .slice A2 l2.length c2, .slice A3 l3.length c3] w fun e w' => ∃ v0_ : Value, e = .returned (v0_) ∧ Kd.N (Kd.slice 3 (Kd.int .i64)) 22 w' w0.heap.size Q v0_ r ∧ Below w0.heap.size w0 w' ∧ spec_l05Weave.Gr w w' u0_ v0_ := by
 induction k with
 | zero => intro Q w0 w u0_ l0 A1 c1 l1 A2 c2 l2 A3 c3 l3 r hw h; exact absurd h (by simp [spec_l05Weave.f])
 | succ k ih =>
 intro Q w0 w u0_ l0 A1 c1 l1 A2 c2 l2 A3 c3 l3 r hw h
 rw [spec_l05Weave.f] at h
 have HW := Aside0.mk hw
 clear hw
 by_cases c1_ : l2.length = 0 ∧ l3.length = 0
 ·rw [if_pos c1_] at h
  have g1 : ((l2.length : Int) == 0) = true := beq_iff_eq.mpr (by omega)
  have g2 : ((l3.length : Int) == 0) = true := beq_iff_eq.mpr (by omega)
  clear c1_
  by_cases c2_ : l0.length < 5864062014805
  ·rw [if_pos c2_] at h
   obtain rfl := Option.some.inj h
   clear h
   go_enter Try.func85, Try.ntmps85
   go_wp2_with (first | ((with_reducible refine gate_builtin (b := .append) (xs := #[.tmp 17, .tmp 19]) rfl ?_); at_builtin; refine Kd.N_append (Kd.slice 3 (Kd.int .i64)) (w0 := w0) w0.heap.size rfl (.tmp 17) (.tmp 19) 33 22 (.slice none 0 0) 24 rfl Try.underlying33 info22 rfl (by decide) (by omega) u0_ l0 l1 [.slice A1 l1.length c1] Q (fun k_ => Q k_ ∧ some k_ ≠ u0_.ownBlock) rfl rfl ?aP (fun _ hk => hk) ?aF ?aO ?aB ?aS ?aL ?_; (case aP => exact Kd.FK_slice_mk (Kd.V_reads' HW.out.h1).2.1 (Kd.V_F HW.out.h1)); (case aF => exact fun k_ hk => HW.out.fresh k_ (Nat.le_trans HW.out.hB.size hk)); (case aO => exact HW.out.hO); (case aB => exact HW.out.hB); (case aS => exact HW.out.hB.size); (case aL => omega); intro v9 w9 ho hb hg hat; have HN9 := Aside0.mk ho; have HB9 := Aside0.mk hb; have HG9 := Aside0.mk (show spec_l05Weave.Gr w w9 u0_ v9 from ⟨hg, hat⟩); clear ho hb hg hat))
   go_ret
   exact ⟨_, rfl, HN9.out, HB9.out, HG9.out⟩
  ·rw [if_neg c2_] at h
   cases h
 ·rw [if_neg c1_] at h
  by_cases c3_ : l1.length < 17592186044415
  ·rw [if_pos c3_] at h
   obtain ⟨o1, E1_, h⟩ := Option.bind_eq_some_iff.mp h
   by_cases c4_ : l2.length = 0
   ·rw [if_pos c4_] at E1_
    obtain rfl := Option.some.inj E1_
    have c5_ : ¬ l3.length = 0 := fun e => c1_ ⟨c4_, e⟩
    rw [if_neg c5_] at h
    have E2 := Aside0.mk h
    have g1 : ((l2.length : Int) == 0) = true := beq_iff_eq.mpr (by omega)
    have g2 : ((l3.length : Int) == 0) = false := beq_eq_false_iff_ne.mpr (by omega)
    have g3 : decide (0 < (l2.length : Int)) = false := decide_eq_false (by omega)
    have g3n : decide (0 < l2.length) = false := decide_eq_false (by omega)
    have g4 : decide (0 < (l3.length : Int)) = true := decide_eq_true (by omega)
    have g4n : decide (0 < l3.length) = true := decide_eq_true (by omega)
    have g5 : decide (1 ≤ (l3.length : Int)) = true := decide_eq_true (by omega)
    have HR1 := Aside0.mk (Kd.V_reads' HW.out.h1).2.2
    have HC1 := Aside0.mk (Kd.V_reads' HW.out.h1).2.1
    have HR3 := Aside0.mk (Kd.V_reads' HW.out.h3).2.2
    have HC3 := Aside0.mk (Kd.V_reads' HW.out.h3).2.1
    have HB := Aside0.mk (Below.refl w.heap.size w)
    obtain ⟨y773, hy773⟩ : ∃ y_ : List Int, y_ = [] := ⟨_, rfl⟩
    have Ny773 := Aside0.mk hy773
    obtain ⟨y776, hy776⟩ : ∃ y_ : List Int, y_ = (y773 ++ l1) := ⟨_, rfl⟩
    have Ny776 := Aside0.mk hy776
    obtain ⟨y780, hy780⟩ : ∃ y_ : List Int, y_ = [rd l3 0] := ⟨_, rfl⟩
    have Ny780 := Aside0.mk hy780
    obtain ⟨y783, hy783⟩ : ∃ y_ : List Int, y_ = (y776 ++ y780) := ⟨_, rfl⟩
    have Ny783 := Aside0.mk hy783
    obtain ⟨y786, hy786⟩ : ∃ y_ : List Int, y_ = (l3.drop 1) := ⟨_, rfl⟩
    have Ny786 := Aside0.mk hy786
    have LMc55 := Aside0.mk (show y773.length + l1.length < 17592186044416 by rw [hy773]; simp; omega)
    have LMc57 := Aside0.mk (show y776.length + y780.length < 17592186044416 by rw [hy776, hy780, hy773]; simp; omega)
    have YE783 := Aside0.mk (show y783 = l1 ++ [rd l3 0] by rw [hy783, hy780, hy776, hy773]; rfl)
    clear hy773 hy776 hy780 hy783 hy786
    clear c1_ c4_ c5_ E1_ h c3_
    go_enter Try.func85, Try.ntmps85
    go_wp2
    have n0_ := Aside0.mk (below_drew1 HB.out)
    clear HB
    have HB := n0_
    clear n0_
    have p779 : 0 ≤ (0 : Int) := (by omega)
    have q779 : 0 < (l3.length : Int) := of_decide_eq_true (by first | (with_reducible assumption) | assumption)
    obtain ⟨ad779, e779, hx779_0⟩ := Kd.at_int HR3.out 0 p779 q779
    have hw779_0 := hx779_0
    (try rw [show ((0 : Int)).toNat = 0 from rfl] at hw779_0)
    (try rw [show 0 * 1 = 0 from rfl] at hw779_0)
    (try rw [Addr.add_zero'] at hw779_0)
    cases e779
    have qi779 : (0 < l3.length) = True := eq_true (by omega)
    (try rw [show ((0 : Int)).toNat = 0 from rfl] at hx779_0)
    (try rw [Addr.add_zero'] at hx779_0)
    replace hx779_0 := (HB.out.cell (World.block_lt_of_cell? w _ hx779_0)).trans hx779_0
    replace p779 := eq_true p779
    replace q779 := eq_true q779
    have q60 : (1 : Int) ≤ ((l3.length : Int) : Int) := of_decide_eq_true (by first | (with_reducible assumption) | assumption)
    obtain ⟨i060, hi060, _, hsz60, _⟩ := info_parts info3
    have hroom60 : l3.length ≤ c3 := HC3.out
    have hC60 : Kd.C (Kd.int .i64) _ (some ad779) l3.length l3 := HR3.out
    have hcut60 := cut_from (P := Try.prog) 22 3 .i64 Try.underlying22 hi060 1 hsz60 (some ad779) l3.length c3 1 (by omega) q60
    have hr60 := Kd.C_drop (m := (1 : Int).toNat) (c := c3) hC60 (by omega) hroom60
    obtain ⟨A60, hA60⟩ : ∃ A1, A1 = (if c3 = (1 : Int).toNat then (some ad779) else ((some ad779) : Option Addr).map (·.add ((1 : Int).toNat * 1))) := ⟨_, rfl⟩
    obtain ⟨c60, hc60⟩ : ∃ c1, c1 = c3 - (1 : Int).toNat := ⟨_, rfl⟩
    have hy60 : y786.length = l3.length - (1 : Int).toNat := (by rw [Ny786.out, List.length_drop] <;> omega)
    rw [show (l3).drop (1 : Int).toNat = y786 from Ny786.out.symm] at hr60
    replace hr60 : Kd.C (Kd.int .i64) _ A60 y786.length y786 := (by rw [hA60]; exact hr60)
    rw [← hy60, ← hA60, ← hc60] at hcut60
    have HR789 := Aside0.mk hr60
    have HC789 := Aside0.mk (show y786.length ≤ c60 from by rw [hy60, hc60]; exact Nat.sub_le_sub_right hroom60 _)
    clear hr60 hC60 hroom60 hi060 hsz60 hc60
    have KY60 := Aside0.mk hy60
    have KA60 := Aside0.mk hA60
    clear hy60 hA60
    replace q60 := eq_true q60
    refine start_ (n := 14) (S := fun w' => w'.cell? ad779 = some (.int .i64 (rd l3 0))) (ds := []) #[false, false, false, false, false, false, false, false, false, false, false, false, false, false] (by kernel_rfl) rfl rfl (((HB.out.cell (World.block_lt_of_cell? w _ hw779_0)).trans hw779_0)) (fun hHeld => ?_); refine with_tabW spec_l05Weave.tab6 spec_l05Weave.bits6 (fun HT_ HW_ => ?_)
    generalize w.drew = w59a at HB HR789 hx779_0 hHeld ⊢
    refine ps_ HT_ 0 40 ?_
    refine ps_ HT_ 2 42 ?_
    refine ps_ HT_ 4 44 ?_
    refine ps_ HT_ 5 45 ?_
    refine ps_ HT_ 9 49 ?_
    refine ps_ HT_ 10 50 ?_
    refine ps_ HT_ 11 51 ?_
    refine take_ (i := 6) (N := some 46) (v := ?_) (a' := ?_) #[true, false, true, false, true, true, true, false, false, true, true, true, false, false] rfl rfl (take_ofW HT_.out HW_.out (by kernel_rfl)) (fun _ _ _ h => h) (Or.inl ⟨by rfl, ?_⟩) hHeld ?_ ?_
    rotate_left
    ·intro w' s0
     go_simp
     with_reducible rfl
    rotate_left
    ·simp only [Act.put, List.setIfInBounds_toArray, List.set_cons_zero, List.set_cons_succ, i64_w, i32_w]
     rfl
    refine join_ (σ := Value × Value × Value) 3 #[true, true, true, true, true, true, true, true, false, true, true, true, false, false] (fun s_ => [(41, s_.1), (43, s_.2.1), (47, s_.2.2)]) (fun s_ w' => (w'.cell? ad779 = some (.int .i64 (rd l3 0))) ∧ (Kd.R (Kd.int .i64) 3 w' w.heap.size (fun k_ => some k_ ≠ (s_.2.2 : Value).ownBlock) s_.2.1 y776) ∧ (Kd.R (Kd.int .i64) 3 w' w.heap.size (fun k_ => some k_ ≠ (s_.2.1 : Value).ownBlock) s_.2.2 y780) ∧ (Below w.heap.size w w')) ?_ ?_
    rotate_left
    ·intro hCont
     refine two_ (i := 1) (j := 7) (Ni := some 41) (Nj := some 47) #[true, true, true, false, true, true, true, false, false, true, true, true, false, false] #[true, false, true, false, true, true, true, true, false, true, true, true, false, false] rfl rfl rfl rfl (two_of HT_.out (by kernel_rfl)) (by decide) (by decide) (fun K hK => ?_) (fun K hK => ?_)
     ·skip
      refine Kd.R_lit_step (Kd.int .i64) _ 3 ?hg (N := 41) ?hd (xs := ([] : List Int)) (inner := []) (ok := fun _ => True) (okp := fun _ => True) ?hr ?hp (fun _ hk => hk) trivial (Below.refl _ _) (Nat.le_refl _) (by simp) ?_; (case hd => rfl); (case hg => rfl); (case hr => first | (go_simp; done) | (go_simp; rfl)); (case hp => exact (Reps.none _ _))
      intro v774 w61a ho62 hb hg_ hnew_
      clear hg_ hnew_
      (first | rw [← Ny773.out] at ho62 | (simp only [Int.reduceToNat] at ho62; rw [← Ny773.out] at ho62))
      have n0_ := Aside0.mk (Kd.R_lower ho62 (below_size bl_))
      have n1_ := Aside0.mk (below_step bl_ hb)
      clear HB
      have HO775 := n0_
      have HB := n1_
      clear n0_ n1_
      clear hb ho62
      refine hK.out _ _ (((HB.out.cell (World.block_lt_of_cell? w _ hw779_0)).trans hw779_0)) (fun hHeld => ?_)
      clear hK K
      refine ns_ ?_
      refine two_ (i := 3) (j := 7) (Ni := some 43) (Nj := some 47) #[true, true, true, true, true, true, true, false, false, true, true, true, false, false] #[true, true, true, false, true, true, true, true, false, true, true, true, false, false] rfl rfl rfl rfl (two_of HT_.out (by kernel_rfl)) (by decide) (by decide) (fun K hK => ?_) (fun K hK => ?_)
      ·skip
       refine Kd.R_append_rows_step (Kd.int .i64) (w0 := w) w.heap.size (by rfl) (.tmp 41) (.tmp 42) 22 3 (.int .i64 0) 8 rfl Try.underlying22 info3 rfl (by decide) (by omega) v774 y773 l1 _ _ _ (fun _ => True) (fun _ => False) rfl rfl ?aO ?aR (fun _ _ h => h) (fun _ h => h.elim) ?aF ?aB ?aS ?aL ?_
       (case aR => repeat (first | exact (Kd.C_below HR1.out HB.out) | (with_reducible first | refine Kd.C_alloc ?_ _ | refine Kd.C_drewN ?_ _ | refine Kd.C_drew ?_)))
       (case aB => exact bl_)
       (case aF => exact (fun _ _ => trivial))
       (case aO => exact (rx_ HO775))
       (case aS => exact (below_size bl_))
       (case aL => have := LMc55.out; omega)
       intro v777 w63a ho hb hg hat
       rw [← Ny776.out] at ho
       have n0_ := Aside0.mk (hb)
       have n1_ := Aside0.mk (ho)
       clear HB
       clear HO775
       have HB := n0_
       have HO778 := n1_
       clear n0_ n1_
       clear ho hb hg hat
       refine hK.out _ _ (((HB.out.cell (World.block_lt_of_cell? w _ hw779_0)).trans hw779_0)) (fun hHeld => ?_)
       clear hK K
       refine ns_ ?_
       refine one_ (i := 7) (N := some 47) #[true, true, true, true, true, true, true, true, false, true, true, true, false, false] rfl rfl (one_of HT_.out (by kernel_rfl)) (by decide) (fun K hK => ?_)
       refine Kd.R_lit_step (Kd.int .i64) _ 3 ?hg (N := 47) ?hd (xs := ([rd l3 0] : List Int)) (inner := [.int .i64 (rd l3 0)]) (ok := fun _ => True) (okp := fun _ => True) ?hr ?hp (fun _ hk => hk) trivial (Below.refl _ _) (Nat.le_refl _) (by simp) ?_; (case hd => rfl); (case hg => rfl); (case hr => first | (go_simp; done) | (go_simp; rfl)); (case hp => exact (Reps.one (show Kd.M (Kd.int .i64) _ _ _ (rd l3 0) [.int .i64 (rd l3 0)] from rfl) (Reps.none _ _)))
       intro v781 w64a ho65 hb hg_ hnew_
       clear hg_ hnew_
       (first | rw [← Ny780.out] at ho65 | (simp only [Int.reduceToNat] at ho65; rw [← Ny780.out] at ho65))
       have n0_ := Aside0.mk (Kd.R_elder' (rx_ HO778) (Kd.R_base ho65) hb)
       have n1_ := Aside0.mk (Kd.R_lower (Kd.R_new' ho65 (Kd.R_lt (rx_ HO778))) (below_size bl_))
       have n2_ := Aside0.mk (below_step bl_ hb)
       clear HO778
       clear HB
       have HO778 := n0_
       have HO782 := n1_
       have HB := n2_
       clear n0_ n1_ n2_
       clear hb ho65
       refine hK.out _ _ (((HB.out.cell (World.block_lt_of_cell? w _ hw779_0)).trans hw779_0)) (fun hHeld => ?_)
       clear hK K
       refine ns_ ?_
       exact norm_ (by simp only [putAll, Act.put, List.setIfInBounds_toArray, List.set_cons_zero, List.set_cons_succ]) (hCont (v774, v777, v781) _ ⟨hHeld, (by (with_reducible repeat (first | apply Kd.R_alloc | apply Kd.R_drewN | apply Kd.R_drew)); exact Kd.R_mono HO778.out (fun _ hk => hk.2)), (by (with_reducible repeat (first | apply Kd.R_alloc | apply Kd.R_drewN | apply Kd.R_drew)); exact Kd.R_mono HO782.out (fun _ hk => hk.2)), bl_⟩)
      ·skip
       refine Kd.R_lit_step (Kd.int .i64) _ 3 ?hg (N := 47) ?hd (xs := ([rd l3 0] : List Int)) (inner := [.int .i64 (rd l3 0)]) (ok := fun _ => True) (okp := fun _ => True) ?hr ?hp (fun _ hk => hk) trivial (Below.refl _ _) (Nat.le_refl _) (by simp) ?_; (case hd => rfl); (case hg => rfl); (case hr => first | (go_simp; done) | (go_simp; rfl)); (case hp => exact (Reps.one (show Kd.M (Kd.int .i64) _ _ _ (rd l3 0) [.int .i64 (rd l3 0)] from rfl) (Reps.none _ _)))
       intro v781 w63a ho64 hb hg_ hnew_
       clear hg_ hnew_
       (first | rw [← Ny780.out] at ho64 | (simp only [Int.reduceToNat] at ho64; rw [← Ny780.out] at ho64))
       have n0_ := Aside0.mk (Kd.R_elder' (rx_ HO775) (Kd.R_base ho64) hb)
       have n1_ := Aside0.mk (Kd.R_lower (Kd.R_new' ho64 (Kd.R_lt (rx_ HO775))) (below_size bl_))
       have n2_ := Aside0.mk (below_step bl_ hb)
       clear HO775
       clear HB
       have HO775 := n0_
       have HO782 := n1_
       have HB := n2_
       clear n0_ n1_ n2_
       clear hb ho64
       refine hK.out _ _ (((HB.out.cell (World.block_lt_of_cell? w _ hw779_0)).trans hw779_0)) (fun hHeld => ?_)
       clear hK K
       refine ns_ ?_
       refine one_ (i := 3) (N := some 43) #[true, true, true, true, true, true, true, true, false, true, true, true, false, false] rfl rfl (one_of HT_.out (by kernel_rfl)) (by decide) (fun K hK => ?_)
       refine Kd.R_append_rows_step (Kd.int .i64) (w0 := w) w.heap.size (by rfl) (.tmp 41) (.tmp 42) 22 3 (.int .i64 0) 8 rfl Try.underlying22 info3 rfl (by decide) (by omega) v774 y773 l1 _ _ _ (fun k_ => some k_ ≠ (v781 : Value).ownBlock) (fun _ => False) rfl rfl ?aO ?aR (fun _ _ h => h) (fun _ h => h.elim) ?aF ?aB ?aS ?aL ?_
       (case aR => repeat (first | exact (Kd.C_below HR1.out HB.out) | (with_reducible first | refine Kd.C_alloc ?_ _ | refine Kd.C_drewN ?_ _ | refine Kd.C_drew ?_)))
       (case aB => exact bl_)
       (case aF => exact (fun k_ hk => Kd.fresh' (Kd.R_lt (rx_ HO782)) k_ hk))
       (case aO => exact (by (with_reducible repeat (first | apply Kd.R_alloc | apply Kd.R_drewN | apply Kd.R_drew)); exact Kd.R_mono HO775.out (fun _ hk => hk.2)))
       (case aS => exact (below_size bl_))
       (case aL => have := LMc55.out; omega)
       intro v777 w65a ho hb hg hat
       rw [← Ny776.out] at ho
       have n0_ := Aside0.mk (Kd.R_after (ok := (fun _ => True)) (rx_ HO782) hg hat)
       have n1_ := Aside0.mk (hb)
       have n2_ := Aside0.mk (ho)
       clear HO782
       clear HB
       clear HO775
       have HO782 := n0_
       have HB := n1_
       have HO778 := n2_
       clear n0_ n1_ n2_
       clear ho hb hg hat
       refine hK.out _ _ (((HB.out.cell (World.block_lt_of_cell? w _ hw779_0)).trans hw779_0)) (fun hHeld => ?_)
       clear hK K
       refine ns_ ?_
       exact norm_ (by simp only [putAll, Act.put, List.setIfInBounds_toArray, List.set_cons_zero, List.set_cons_succ]) (hCont (v774, v777, v781) _ ⟨hHeld, (rx_ HO778), (by (with_reducible repeat (first | apply Kd.R_alloc | apply Kd.R_drewN | apply Kd.R_drew)); exact Kd.R_mono HO782.out (fun _ hk => hk.2)), bl_⟩)
     ·skip
      refine Kd.R_lit_step (Kd.int .i64) _ 3 ?hg (N := 47) ?hd (xs := ([rd l3 0] : List Int)) (inner := [.int .i64 (rd l3 0)]) (ok := fun _ => True) (okp := fun _ => True) ?hr ?hp (fun _ hk => hk) trivial (Below.refl _ _) (Nat.le_refl _) (by simp) ?_; (case hd => rfl); (case hg => rfl); (case hr => first | (go_simp; done) | (go_simp; rfl)); (case hp => exact (Reps.one (show Kd.M (Kd.int .i64) _ _ _ (rd l3 0) [.int .i64 (rd l3 0)] from rfl) (Reps.none _ _)))
      intro v781 w61a ho62 hb hg_ hnew_
      clear hg_ hnew_
      (first | rw [← Ny780.out] at ho62 | (simp only [Int.reduceToNat] at ho62; rw [← Ny780.out] at ho62))
      have n0_ := Aside0.mk (Kd.R_lower ho62 (below_size bl_))
      have n1_ := Aside0.mk (below_step bl_ hb)
      clear HB
      have HO782 := n0_
      have HB := n1_
      clear n0_ n1_
      clear hb ho62
      refine hK.out _ _ (((HB.out.cell (World.block_lt_of_cell? w _ hw779_0)).trans hw779_0)) (fun hHeld => ?_)
      clear hK K
      refine ns_ ?_
      refine one_ (i := 1) (N := some 41) #[true, true, true, false, true, true, true, true, false, true, true, true, false, false] rfl rfl (one_of HT_.out (by kernel_rfl)) (by decide) (fun K hK => ?_)
      refine Kd.R_lit_step (Kd.int .i64) _ 3 ?hg (N := 41) ?hd (xs := ([] : List Int)) (inner := []) (ok := fun _ => True) (okp := fun _ => True) ?hr ?hp (fun _ hk => hk) trivial (Below.refl _ _) (Nat.le_refl _) (by simp) ?_; (case hd => rfl); (case hg => rfl); (case hr => first | (go_simp; done) | (go_simp; rfl)); (case hp => exact (Reps.none _ _))
      intro v774 w63a ho64 hb hg_ hnew_
      clear hg_ hnew_
      (first | rw [← Ny773.out] at ho64 | (simp only [Int.reduceToNat] at ho64; rw [← Ny773.out] at ho64))
      have n0_ := Aside0.mk (Kd.R_elder' (rx_ HO782) (Kd.R_base ho64) hb)
      have n1_ := Aside0.mk (Kd.R_lower (Kd.R_new' ho64 (Kd.R_lt (rx_ HO782))) (below_size bl_))
      have n2_ := Aside0.mk (below_step bl_ hb)
      clear HO782
      clear HB
      have HO782 := n0_
      have HO775 := n1_
      have HB := n2_
      clear n0_ n1_ n2_
      clear hb ho64
      refine hK.out _ _ (((HB.out.cell (World.block_lt_of_cell? w _ hw779_0)).trans hw779_0)) (fun hHeld => ?_)
      clear hK K
      refine ns_ ?_
      refine one_ (i := 3) (N := some 43) #[true, true, true, true, true, true, true, true, false, true, true, true, false, false] rfl rfl (one_of HT_.out (by kernel_rfl)) (by decide) (fun K hK => ?_)
      refine Kd.R_append_rows_step (Kd.int .i64) (w0 := w) w.heap.size (by rfl) (.tmp 41) (.tmp 42) 22 3 (.int .i64 0) 8 rfl Try.underlying22 info3 rfl (by decide) (by omega) v774 y773 l1 _ _ _ (fun k_ => some k_ ≠ (v781 : Value).ownBlock) (fun _ => False) rfl rfl ?aO ?aR (fun _ _ h => h) (fun _ h => h.elim) ?aF ?aB ?aS ?aL ?_
      (case aR => repeat (first | exact (Kd.C_below HR1.out HB.out) | (with_reducible first | refine Kd.C_alloc ?_ _ | refine Kd.C_drewN ?_ _ | refine Kd.C_drew ?_)))
      (case aB => exact bl_)
      (case aF => exact (fun k_ hk => Kd.fresh' (Kd.R_lt (rx_ HO782)) k_ hk))
      (case aO => exact (by (with_reducible repeat (first | apply Kd.R_alloc | apply Kd.R_drewN | apply Kd.R_drew)); exact Kd.R_mono HO775.out (fun _ hk => hk.2)))
      (case aS => exact (below_size bl_))
      (case aL => have := LMc55.out; omega)
      intro v777 w65a ho hb hg hat
      rw [← Ny776.out] at ho
      have n0_ := Aside0.mk (Kd.R_after (ok := (fun _ => True)) (rx_ HO782) hg hat)
      have n1_ := Aside0.mk (hb)
      have n2_ := Aside0.mk (ho)
      clear HO782
      clear HB
      clear HO775
      have HO782 := n0_
      have HB := n1_
      have HO778 := n2_
      clear n0_ n1_ n2_
      clear ho hb hg hat
      refine hK.out _ _ (((HB.out.cell (World.block_lt_of_cell? w _ hw779_0)).trans hw779_0)) (fun hHeld => ?_)
      clear hK K
      refine ns_ ?_
      exact norm_ (by simp only [putAll, Act.put, List.setIfInBounds_toArray, List.set_cons_zero, List.set_cons_succ]) (hCont (v774, v777, v781) _ ⟨hHeld, (rx_ HO778), (by (with_reducible repeat (first | apply Kd.R_alloc | apply Kd.R_drewN | apply Kd.R_drew)); exact Kd.R_mono HO782.out (fun _ hk => hk.2)), bl_⟩)
    rintro ⟨v774, v777, v781⟩ w66a ⟨hS_, h0_, h1_, h2_⟩
    have n0_ : Aside0 (Kd.R (Kd.int .i64) 3 w66a w.heap.size (fun k_ => some k_ ≠ (v781 : Value).ownBlock) v777 y776) := ⟨h0_⟩
    have n1_ : Aside0 (Kd.R (Kd.int .i64) 3 w66a w.heap.size (fun k_ => some k_ ≠ (v777 : Value).ownBlock) v781 y780) := ⟨h1_⟩
    have n2_ : Aside0 (Below w.heap.size w w66a) := ⟨h2_⟩
    clear HB
    clear h0_ h1_ h2_
    have HO778 := n0_
    have HO782 := n1_
    have HB := n2_
    clear n0_ n1_ n2_
    have hHeld : w66a.cell? ad779 = some (.int .i64 (rd l3 0)) := hS_
    obtain ⟨Ao68, co68, eo68⟩ := Kd.R_slice HO782.out
    (first | subst eo68 | (injection eo68 with f1_ f2_ f3_; have f4_ := f1_.symm; have f5_ := f3_.symm; clear f1_ f2_ f3_; subst f4_; subst f5_))
    refine norm_ (a' := ?_) ?_ ?_
    rotate_left
    ·simp only [putAll, Act.put, List.setIfInBounds_toArray, List.set_cons_zero, List.set_cons_succ]
     rfl
    refine one_ (i := 8) (N := some 48) #[true, true, true, true, true, true, true, true, true, true, true, true, false, false] rfl rfl (one_of HT_.out (by kernel_rfl)) (by decide) (fun K hK => ?_)
    refine Kd.R_append_rows_step (Kd.int .i64) (w0 := w) w.heap.size (by rfl) (.tmp 43) (.tmp 47) 22 3 (.int .i64 0) 8 rfl Try.underlying22 info3 rfl (by decide) (by omega) v777 y776 y780 _ _ _ (fun k_ => some k_ ≠ (.slice Ao68 y780.length co68 : Value).ownBlock) (fun _ => False) rfl rfl ?aO ?aR (fun _ _ h => h) (fun _ h => h.elim) ?aF ?aB ?aS ?aL ?_
    (case aR => repeat (first | exact (Kd.R_reads' HO782.out).2.2 | (with_reducible first | refine Kd.C_alloc ?_ _ | refine Kd.C_drewN ?_ _ | refine Kd.C_drew ?_)))
    (case aB => exact bl_)
    (case aF => exact (fun k_ hk => Kd.fresh' (Kd.R_lt (rx_ HO782)) k_ hk))
    (case aO => exact (rx_ HO778))
    (case aS => exact (below_size bl_))
    (case aL => have := LMc57.out; omega)
    intro v784 w67a ho hb hg hat
    rw [← Ny783.out] at ho
    have n0_ := Aside0.mk (Kd.R_after (ok := (fun _ => True)) (by (with_reducible repeat (first | apply Kd.R_alloc | apply Kd.R_drewN | apply Kd.R_drew)); exact Kd.R_mono HO782.out (fun _ hk => ⟨trivial, hk⟩)) hg hat)
    have n1_ := Aside0.mk (hb)
    have n2_ := Aside0.mk (ho)
    clear HO782
    clear HB
    clear HO778
    have HO782 := n0_
    have HB := n1_
    have HO785 := n2_
    clear n0_ n1_ n2_
    clear ho hb hg hat
    refine hK.out _ _ (((HB.out.cell (World.block_lt_of_cell? w _ hw779_0)).trans hw779_0)) (fun hHeld => ?_)
    clear hK K
    refine ns_ ?_
    obtain ⟨Aqa, cqa, eqa_⟩ := Kd.R_slice HO785.out
    subst eqa_
    have HWs := Aside0.mk (HW.out.below HB.out)
    refine one_ (i := 12) (N := some 52) #[true, true, true, true, true, true, true, true, true, true, true, true, true, false] rfl rfl (one_of HT_.out (by kernel_rfl)) (by decide) (fun K hK => ?_)
    refine goes_ Try.func85 (by kernel_rfl) rfl #[u0_, .slice Aqa y783.length cqa, .slice A2 l2.length c2, .slice A60 y786.length c60] (by rfl) rfl rfl (by (try simp only [List.map_toArray, List.map_cons, List.map_nil]); first | done | rfl | (simp only [List.length_drop, List.length_take]; rfl)) ?_
    with_reducible refine (ih Q w0 _ u0_ _ _ _ _ _ _ _ _ _ _ r ?wi (by rw [YE783.out, Ny786.out]; exact E2.out)).mono ?_
    (case wi => exact ⟨HWs.out.fresh, HWs.out.hB, HWs.out.hO, HW.out.new HO785.out, HWs.out.h2, (Kd.V_below (by have ht_ := spec_l05Weave.V_tail (A' := A60) (c' := c60) HW.out.h3 (by have := of_eq_true q779; omega) KA60.out (by rw [← Ny786.out]; exact HC789.out); rw [← Ny786.out] at ht_; exact ht_) HB.out)⟩)
    rintro e wa ⟨vwa, rfl, hN_, hb_, hg_⟩
    refine ⟨_, rfl, ?_⟩
    have HW2 := Aside0.mk (HWs.out.after hN_ hb_ hg_)
    have HGwa := Aside0.mk ((spec_l05Weave.Gr.of_below HB.out).trans hg_)
    clear hN_ hb_ hg_ HW HWs HB
    refine hK.out _ _ (spec_l05Weave.V_cell HW2.out.h3 (of_eq_true q779)) (fun hHeld => ?_)
    clear hK K
    refine ns_ ?_
    refine ps_ HT_ 13 0 ?_
    refine done_ (done_of HT_.out (by kernel_rfl)) ?_
    try go_wp2
    go_ret
    exact ⟨_, rfl, HW2.out.hO, HW2.out.hB, HGwa.out⟩
   ·rw [if_neg c4_] at E1_
    have E1 := Aside0.mk E1_
    have g1 : ((l2.length : Int) == 0) = false := beq_eq_false_iff_ne.mpr (by omega)
    have g3 : decide (0 < (l2.length : Int)) = true := decide_eq_true (by omega)
    have g3n : decide (0 < l2.length) = true := decide_eq_true (by omega)
    have g5 : decide (1 ≤ (l2.length : Int)) = true := decide_eq_true (by omega)
    have HL1 := Aside0.mk c3_
    have HR1 := Aside0.mk (Kd.V_reads' HW.out.h1).2.2
    have HC1 := Aside0.mk (Kd.V_reads' HW.out.h1).2.1
    have HR2 := Aside0.mk (Kd.V_reads' HW.out.h2).2.2
    have HC2 := Aside0.mk (Kd.V_reads' HW.out.h2).2.1
    have HB := Aside0.mk (Below.refl w.heap.size w)
    obtain ⟨y733, hy733⟩ : ∃ y_ : List Int, y_ = [] := ⟨_, rfl⟩
    have Ny733 := Aside0.mk hy733
    obtain ⟨y736, hy736⟩ : ∃ y_ : List Int, y_ = (y733 ++ l1) := ⟨_, rfl⟩
    have Ny736 := Aside0.mk hy736
    obtain ⟨y740, hy740⟩ : ∃ y_ : List Int, y_ = [rd l2 0] := ⟨_, rfl⟩
    have Ny740 := Aside0.mk hy740
    obtain ⟨y743, hy743⟩ : ∃ y_ : List Int, y_ = (y736 ++ y740) := ⟨_, rfl⟩
    have Ny743 := Aside0.mk hy743
    obtain ⟨y746, hy746⟩ : ∃ y_ : List Int, y_ = (l2.drop 1) := ⟨_, rfl⟩
    have Ny746 := Aside0.mk hy746
    have LMc11 := Aside0.mk (show y733.length + l1.length < 17592186044416 by rw [hy733]; simp; omega)
    have LMc13 := Aside0.mk (show y736.length + y740.length < 17592186044416 by rw [hy736, hy740, hy733]; simp; omega)
    have YE743 := Aside0.mk (show y743 = l1 ++ [rd l2 0] by rw [hy743, hy740, hy736, hy733]; rfl)
    clear hy733 hy736 hy740 hy743 hy746
    clear c1_ c4_ E1_ c3_
    by_cases c5_ : l3.length = 0
    ·rw [if_pos c5_] at h
     obtain rfl := Option.some.inj h
     have g4 : decide (0 < (l3.length : Int)) = false := decide_eq_false (by omega)
     have g4n : decide (0 < l3.length) = false := decide_eq_false (by omega)
     clear c5_ h
     go_enter Try.func85, Try.ntmps85
     go_wp2
     have n0_ := Aside0.mk (below_drew1 HB.out)
     clear HB
     have HB := n0_
     clear n0_
     have p739 : 0 ≤ (0 : Int) := (by omega)
     have q739 : 0 < (l2.length : Int) := of_decide_eq_true (by first | (with_reducible assumption) | assumption)
     obtain ⟨ad739, e739, hx739_0⟩ := Kd.at_int HR2.out 0 p739 q739
     have hw739_0 := hx739_0
     (try rw [show ((0 : Int)).toNat = 0 from rfl] at hw739_0)
     (try rw [show 0 * 1 = 0 from rfl] at hw739_0)
     (try rw [Addr.add_zero'] at hw739_0)
     cases e739
     have qi739 : (0 < l2.length) = True := eq_true (by omega)
     (try rw [show ((0 : Int)).toNat = 0 from rfl] at hx739_0)
     (try rw [Addr.add_zero'] at hx739_0)
     replace hx739_0 := (HB.out.cell (World.block_lt_of_cell? w _ hx739_0)).trans hx739_0
     replace p739 := eq_true p739
     replace q739 := eq_true q739
     have q43 : (1 : Int) ≤ ((l2.length : Int) : Int) := of_decide_eq_true (by first | (with_reducible assumption) | assumption)
     obtain ⟨i043, hi043, _, hsz43, _⟩ := info_parts info3
     have hroom43 : l2.length ≤ c2 := HC2.out
     have hC43 : Kd.C (Kd.int .i64) _ (some ad739) l2.length l2 := HR2.out
     have hcut43 := cut_from (P := Try.prog) 22 3 .i64 Try.underlying22 hi043 1 hsz43 (some ad739) l2.length c2 1 (by omega) q43
     have hr43 := Kd.C_drop (m := (1 : Int).toNat) (c := c2) hC43 (by omega) hroom43
     obtain ⟨A43, hA43⟩ : ∃ A1, A1 = (if c2 = (1 : Int).toNat then (some ad739) else ((some ad739) : Option Addr).map (·.add ((1 : Int).toNat * 1))) := ⟨_, rfl⟩
     obtain ⟨c43, hc43⟩ : ∃ c1, c1 = c2 - (1 : Int).toNat := ⟨_, rfl⟩
     have hy43 : y746.length = l2.length - (1 : Int).toNat := (by rw [Ny746.out, List.length_drop] <;> omega)
     rw [show (l2).drop (1 : Int).toNat = y746 from Ny746.out.symm] at hr43
     replace hr43 : Kd.C (Kd.int .i64) _ A43 y746.length y746 := (by rw [hA43]; exact hr43)
     rw [← hy43, ← hA43, ← hc43] at hcut43
     have HR749 := Aside0.mk hr43
     have HC749 := Aside0.mk (show y746.length ≤ c43 from by rw [hy43, hc43]; exact Nat.sub_le_sub_right hroom43 _)
     clear hr43 hC43 hroom43 hi043 hsz43 hc43
     have KY43 := Aside0.mk hy43
     have KA43 := Aside0.mk hA43
     clear hy43 hA43
     replace q43 := eq_true q43
     refine start_ (n := 14) (S := fun w' => w'.cell? ad739 = some (.int .i64 (rd l2 0))) (ds := []) #[false, false, false, false, false, false, false, false, false, false, false, false, false, false] (by kernel_rfl) rfl rfl (((HB.out.cell (World.block_lt_of_cell? w _ hw739_0)).trans hw739_0)) (fun hHeld => ?_); refine with_tabW spec_l05Weave.tab4 spec_l05Weave.bits4 (fun HT_ HW_ => ?_)
     generalize w.drew = w42b at HB HR749 hx739_0 hHeld ⊢
     refine ps_ HT_ 0 24 ?_
     refine ps_ HT_ 2 26 ?_
     refine ps_ HT_ 4 28 ?_
     refine ps_ HT_ 5 29 ?_
     refine ps_ HT_ 9 33 ?_
     refine ps_ HT_ 10 34 ?_
     refine ps_ HT_ 11 35 ?_
     refine take_ (i := 6) (N := some 30) (v := ?_) (a' := ?_) #[true, false, true, false, true, true, true, false, false, true, true, true, false, false] rfl rfl (take_ofW HT_.out HW_.out (by kernel_rfl)) (fun _ _ _ h => h) (Or.inl ⟨by rfl, ?_⟩) hHeld ?_ ?_
     rotate_left
     ·intro w' s0
      go_simp
      with_reducible rfl
     rotate_left
     ·simp only [Act.put, List.setIfInBounds_toArray, List.set_cons_zero, List.set_cons_succ, i64_w, i32_w]
      rfl
     refine join_ (σ := Value × Value × Value) 3 #[true, true, true, true, true, true, true, true, false, true, true, true, false, false] (fun s_ => [(25, s_.1), (27, s_.2.1), (31, s_.2.2)]) (fun s_ w' => (w'.cell? ad739 = some (.int .i64 (rd l2 0))) ∧ (Kd.R (Kd.int .i64) 3 w' w.heap.size (fun k_ => some k_ ≠ (s_.2.2 : Value).ownBlock) s_.2.1 y736) ∧ (Kd.R (Kd.int .i64) 3 w' w.heap.size (fun k_ => some k_ ≠ (s_.2.1 : Value).ownBlock) s_.2.2 y740) ∧ (Below w.heap.size w w')) ?_ ?_
     rotate_left
     ·intro hCont
      refine two_ (i := 1) (j := 7) (Ni := some 25) (Nj := some 31) #[true, true, true, false, true, true, true, false, false, true, true, true, false, false] #[true, false, true, false, true, true, true, true, false, true, true, true, false, false] rfl rfl rfl rfl (two_of HT_.out (by kernel_rfl)) (by decide) (by decide) (fun K hK => ?_) (fun K hK => ?_)
      ·skip
       refine Kd.R_lit_step (Kd.int .i64) _ 3 ?hg (N := 25) ?hd (xs := ([] : List Int)) (inner := []) (ok := fun _ => True) (okp := fun _ => True) ?hr ?hp (fun _ hk => hk) trivial (Below.refl _ _) (Nat.le_refl _) (by simp) ?_; (case hd => rfl); (case hg => rfl); (case hr => first | (go_simp; done) | (go_simp; rfl)); (case hp => exact (Reps.none _ _))
       intro v734 w44b ho45 hb hg_ hnew_
       clear hg_ hnew_
       (first | rw [← Ny733.out] at ho45 | (simp only [Int.reduceToNat] at ho45; rw [← Ny733.out] at ho45))
       have n0_ := Aside0.mk (Kd.R_lower ho45 (below_size bl_))
       have n1_ := Aside0.mk (below_step bl_ hb)
       clear HB
       have HO735 := n0_
       have HB := n1_
       clear n0_ n1_
       clear hb ho45
       refine hK.out _ _ (((HB.out.cell (World.block_lt_of_cell? w _ hw739_0)).trans hw739_0)) (fun hHeld => ?_)
       clear hK K
       refine ns_ ?_
       refine two_ (i := 3) (j := 7) (Ni := some 27) (Nj := some 31) #[true, true, true, true, true, true, true, false, false, true, true, true, false, false] #[true, true, true, false, true, true, true, true, false, true, true, true, false, false] rfl rfl rfl rfl (two_of HT_.out (by kernel_rfl)) (by decide) (by decide) (fun K hK => ?_) (fun K hK => ?_)
       ·skip
        refine Kd.R_append_rows_step (Kd.int .i64) (w0 := w) w.heap.size (by rfl) (.tmp 25) (.tmp 26) 22 3 (.int .i64 0) 8 rfl Try.underlying22 info3 rfl (by decide) (by omega) v734 y733 l1 _ _ _ (fun _ => True) (fun _ => False) rfl rfl ?aO ?aR (fun _ _ h => h) (fun _ h => h.elim) ?aF ?aB ?aS ?aL ?_
        (case aR => repeat (first | exact (Kd.C_below HR1.out HB.out) | (with_reducible first | refine Kd.C_alloc ?_ _ | refine Kd.C_drewN ?_ _ | refine Kd.C_drew ?_)))
        (case aB => exact bl_)
        (case aF => exact (fun _ _ => trivial))
        (case aO => exact (rx_ HO735))
        (case aS => exact (below_size bl_))
        (case aL => have := LMc11.out; omega)
        intro v737 w46b ho hb hg hat
        rw [← Ny736.out] at ho
        have n0_ := Aside0.mk (hb)
        have n1_ := Aside0.mk (ho)
        clear HB
        clear HO735
        have HB := n0_
        have HO738 := n1_
        clear n0_ n1_
        clear ho hb hg hat
        refine hK.out _ _ (((HB.out.cell (World.block_lt_of_cell? w _ hw739_0)).trans hw739_0)) (fun hHeld => ?_)
        clear hK K
        refine ns_ ?_
        refine one_ (i := 7) (N := some 31) #[true, true, true, true, true, true, true, true, false, true, true, true, false, false] rfl rfl (one_of HT_.out (by kernel_rfl)) (by decide) (fun K hK => ?_)
        refine Kd.R_lit_step (Kd.int .i64) _ 3 ?hg (N := 31) ?hd (xs := ([rd l2 0] : List Int)) (inner := [.int .i64 (rd l2 0)]) (ok := fun _ => True) (okp := fun _ => True) ?hr ?hp (fun _ hk => hk) trivial (Below.refl _ _) (Nat.le_refl _) (by simp) ?_; (case hd => rfl); (case hg => rfl); (case hr => first | (go_simp; done) | (go_simp; rfl)); (case hp => exact (Reps.one (show Kd.M (Kd.int .i64) _ _ _ (rd l2 0) [.int .i64 (rd l2 0)] from rfl) (Reps.none _ _)))
        intro v741 w47b ho48 hb hg_ hnew_
        clear hg_ hnew_
        (first | rw [← Ny740.out] at ho48 | (simp only [Int.reduceToNat] at ho48; rw [← Ny740.out] at ho48))
        have n0_ := Aside0.mk (Kd.R_elder' (rx_ HO738) (Kd.R_base ho48) hb)
        have n1_ := Aside0.mk (Kd.R_lower (Kd.R_new' ho48 (Kd.R_lt (rx_ HO738))) (below_size bl_))
        have n2_ := Aside0.mk (below_step bl_ hb)
        clear HO738
        clear HB
        have HO738 := n0_
        have HO742 := n1_
        have HB := n2_
        clear n0_ n1_ n2_
        clear hb ho48
        refine hK.out _ _ (((HB.out.cell (World.block_lt_of_cell? w _ hw739_0)).trans hw739_0)) (fun hHeld => ?_)
        clear hK K
        refine ns_ ?_
        exact norm_ (by simp only [putAll, Act.put, List.setIfInBounds_toArray, List.set_cons_zero, List.set_cons_succ]) (hCont (v734, v737, v741) _ ⟨hHeld, (by (with_reducible repeat (first | apply Kd.R_alloc | apply Kd.R_drewN | apply Kd.R_drew)); exact Kd.R_mono HO738.out (fun _ hk => hk.2)), (by (with_reducible repeat (first | apply Kd.R_alloc | apply Kd.R_drewN | apply Kd.R_drew)); exact Kd.R_mono HO742.out (fun _ hk => hk.2)), bl_⟩)
       ·skip
        refine Kd.R_lit_step (Kd.int .i64) _ 3 ?hg (N := 31) ?hd (xs := ([rd l2 0] : List Int)) (inner := [.int .i64 (rd l2 0)]) (ok := fun _ => True) (okp := fun _ => True) ?hr ?hp (fun _ hk => hk) trivial (Below.refl _ _) (Nat.le_refl _) (by simp) ?_; (case hd => rfl); (case hg => rfl); (case hr => first | (go_simp; done) | (go_simp; rfl)); (case hp => exact (Reps.one (show Kd.M (Kd.int .i64) _ _ _ (rd l2 0) [.int .i64 (rd l2 0)] from rfl) (Reps.none _ _)))
        intro v741 w46b ho47 hb hg_ hnew_
        clear hg_ hnew_
        (first | rw [← Ny740.out] at ho47 | (simp only [Int.reduceToNat] at ho47; rw [← Ny740.out] at ho47))
        have n0_ := Aside0.mk (Kd.R_elder' (rx_ HO735) (Kd.R_base ho47) hb)
        have n1_ := Aside0.mk (Kd.R_lower (Kd.R_new' ho47 (Kd.R_lt (rx_ HO735))) (below_size bl_))
        have n2_ := Aside0.mk (below_step bl_ hb)
        clear HO735
        clear HB
        have HO735 := n0_
        have HO742 := n1_
        have HB := n2_
        clear n0_ n1_ n2_
        clear hb ho47
        refine hK.out _ _ (((HB.out.cell (World.block_lt_of_cell? w _ hw739_0)).trans hw739_0)) (fun hHeld => ?_)
        clear hK K
        refine ns_ ?_
        refine one_ (i := 3) (N := some 27) #[true, true, true, true, true, true, true, true, false, true, true, true, false, false] rfl rfl (one_of HT_.out (by kernel_rfl)) (by decide) (fun K hK => ?_)
        refine Kd.R_append_rows_step (Kd.int .i64) (w0 := w) w.heap.size (by rfl) (.tmp 25) (.tmp 26) 22 3 (.int .i64 0) 8 rfl Try.underlying22 info3 rfl (by decide) (by omega) v734 y733 l1 _ _ _ (fun k_ => some k_ ≠ (v741 : Value).ownBlock) (fun _ => False) rfl rfl ?aO ?aR (fun _ _ h => h) (fun _ h => h.elim) ?aF ?aB ?aS ?aL ?_
        (case aR => repeat (first | exact (Kd.C_below HR1.out HB.out) | (with_reducible first | refine Kd.C_alloc ?_ _ | refine Kd.C_drewN ?_ _ | refine Kd.C_drew ?_)))
        (case aB => exact bl_)
        (case aF => exact (fun k_ hk => Kd.fresh' (Kd.R_lt (rx_ HO742)) k_ hk))
        (case aO => exact (by (with_reducible repeat (first | apply Kd.R_alloc | apply Kd.R_drewN | apply Kd.R_drew)); exact Kd.R_mono HO735.out (fun _ hk => hk.2)))
        (case aS => exact (below_size bl_))
        (case aL => have := LMc11.out; omega)
        intro v737 w48b ho hb hg hat
        rw [← Ny736.out] at ho
        have n0_ := Aside0.mk (Kd.R_after (ok := (fun _ => True)) (rx_ HO742) hg hat)
        have n1_ := Aside0.mk (hb)
        have n2_ := Aside0.mk (ho)
        clear HO742
        clear HB
        clear HO735
        have HO742 := n0_
        have HB := n1_
        have HO738 := n2_
        clear n0_ n1_ n2_
        clear ho hb hg hat
        refine hK.out _ _ (((HB.out.cell (World.block_lt_of_cell? w _ hw739_0)).trans hw739_0)) (fun hHeld => ?_)
        clear hK K
        refine ns_ ?_
        exact norm_ (by simp only [putAll, Act.put, List.setIfInBounds_toArray, List.set_cons_zero, List.set_cons_succ]) (hCont (v734, v737, v741) _ ⟨hHeld, (rx_ HO738), (by (with_reducible repeat (first | apply Kd.R_alloc | apply Kd.R_drewN | apply Kd.R_drew)); exact Kd.R_mono HO742.out (fun _ hk => hk.2)), bl_⟩)
      ·skip
       refine Kd.R_lit_step (Kd.int .i64) _ 3 ?hg (N := 31) ?hd (xs := ([rd l2 0] : List Int)) (inner := [.int .i64 (rd l2 0)]) (ok := fun _ => True) (okp := fun _ => True) ?hr ?hp (fun _ hk => hk) trivial (Below.refl _ _) (Nat.le_refl _) (by simp) ?_; (case hd => rfl); (case hg => rfl); (case hr => first | (go_simp; done) | (go_simp; rfl)); (case hp => exact (Reps.one (show Kd.M (Kd.int .i64) _ _ _ (rd l2 0) [.int .i64 (rd l2 0)] from rfl) (Reps.none _ _)))
       intro v741 w44b ho45 hb hg_ hnew_
       clear hg_ hnew_
       (first | rw [← Ny740.out] at ho45 | (simp only [Int.reduceToNat] at ho45; rw [← Ny740.out] at ho45))
       have n0_ := Aside0.mk (Kd.R_lower ho45 (below_size bl_))
       have n1_ := Aside0.mk (below_step bl_ hb)
       clear HB
       have HO742 := n0_
       have HB := n1_
       clear n0_ n1_
       clear hb ho45
       refine hK.out _ _ (((HB.out.cell (World.block_lt_of_cell? w _ hw739_0)).trans hw739_0)) (fun hHeld => ?_)
       clear hK K
       refine ns_ ?_
       refine one_ (i := 1) (N := some 25) #[true, true, true, false, true, true, true, true, false, true, true, true, false, false] rfl rfl (one_of HT_.out (by kernel_rfl)) (by decide) (fun K hK => ?_)
       refine Kd.R_lit_step (Kd.int .i64) _ 3 ?hg (N := 25) ?hd (xs := ([] : List Int)) (inner := []) (ok := fun _ => True) (okp := fun _ => True) ?hr ?hp (fun _ hk => hk) trivial (Below.refl _ _) (Nat.le_refl _) (by simp) ?_; (case hd => rfl); (case hg => rfl); (case hr => first | (go_simp; done) | (go_simp; rfl)); (case hp => exact (Reps.none _ _))
       intro v734 w46b ho47 hb hg_ hnew_
       clear hg_ hnew_
       (first | rw [← Ny733.out] at ho47 | (simp only [Int.reduceToNat] at ho47; rw [← Ny733.out] at ho47))
       have n0_ := Aside0.mk (Kd.R_elder' (rx_ HO742) (Kd.R_base ho47) hb)
       have n1_ := Aside0.mk (Kd.R_lower (Kd.R_new' ho47 (Kd.R_lt (rx_ HO742))) (below_size bl_))
       have n2_ := Aside0.mk (below_step bl_ hb)
       clear HO742
       clear HB
       have HO742 := n0_
       have HO735 := n1_
       have HB := n2_
       clear n0_ n1_ n2_
       clear hb ho47
       refine hK.out _ _ (((HB.out.cell (World.block_lt_of_cell? w _ hw739_0)).trans hw739_0)) (fun hHeld => ?_)
       clear hK K
       refine ns_ ?_
       refine one_ (i := 3) (N := some 27) #[true, true, true, true, true, true, true, true, false, true, true, true, false, false] rfl rfl (one_of HT_.out (by kernel_rfl)) (by decide) (fun K hK => ?_)
       refine Kd.R_append_rows_step (Kd.int .i64) (w0 := w) w.heap.size (by rfl) (.tmp 25) (.tmp 26) 22 3 (.int .i64 0) 8 rfl Try.underlying22 info3 rfl (by decide) (by omega) v734 y733 l1 _ _ _ (fun k_ => some k_ ≠ (v741 : Value).ownBlock) (fun _ => False) rfl rfl ?aO ?aR (fun _ _ h => h) (fun _ h => h.elim) ?aF ?aB ?aS ?aL ?_
       (case aR => repeat (first | exact (Kd.C_below HR1.out HB.out) | (with_reducible first | refine Kd.C_alloc ?_ _ | refine Kd.C_drewN ?_ _ | refine Kd.C_drew ?_)))
       (case aB => exact bl_)
       (case aF => exact (fun k_ hk => Kd.fresh' (Kd.R_lt (rx_ HO742)) k_ hk))
       (case aO => exact (by (with_reducible repeat (first | apply Kd.R_alloc | apply Kd.R_drewN | apply Kd.R_drew)); exact Kd.R_mono HO735.out (fun _ hk => hk.2)))
       (case aS => exact (below_size bl_))
       (case aL => have := LMc11.out; omega)
       intro v737 w48b ho hb hg hat
       rw [← Ny736.out] at ho
       have n0_ := Aside0.mk (Kd.R_after (ok := (fun _ => True)) (rx_ HO742) hg hat)
       have n1_ := Aside0.mk (hb)
       have n2_ := Aside0.mk (ho)
       clear HO742
       clear HB
       clear HO735
       have HO742 := n0_
       have HB := n1_
       have HO738 := n2_
       clear n0_ n1_ n2_
       clear ho hb hg hat
       refine hK.out _ _ (((HB.out.cell (World.block_lt_of_cell? w _ hw739_0)).trans hw739_0)) (fun hHeld => ?_)
       clear hK K
       refine ns_ ?_
       exact norm_ (by simp only [putAll, Act.put, List.setIfInBounds_toArray, List.set_cons_zero, List.set_cons_succ]) (hCont (v734, v737, v741) _ ⟨hHeld, (rx_ HO738), (by (with_reducible repeat (first | apply Kd.R_alloc | apply Kd.R_drewN | apply Kd.R_drew)); exact Kd.R_mono HO742.out (fun _ hk => hk.2)), bl_⟩)
     rintro ⟨v734, v737, v741⟩ w49b ⟨hS_, h0_, h1_, h2_⟩
     have n0_ : Aside0 (Kd.R (Kd.int .i64) 3 w49b w.heap.size (fun k_ => some k_ ≠ (v741 : Value).ownBlock) v737 y736) := ⟨h0_⟩
     have n1_ : Aside0 (Kd.R (Kd.int .i64) 3 w49b w.heap.size (fun k_ => some k_ ≠ (v737 : Value).ownBlock) v741 y740) := ⟨h1_⟩
     have n2_ : Aside0 (Below w.heap.size w w49b) := ⟨h2_⟩
     clear HB
     clear h0_ h1_ h2_
     have HO738 := n0_
     have HO742 := n1_
     have HB := n2_
     clear n0_ n1_ n2_
     have hHeld : w49b.cell? ad739 = some (.int .i64 (rd l2 0)) := hS_
     obtain ⟨Ao51, co51, eo51⟩ := Kd.R_slice HO742.out
     (first | subst eo51 | (injection eo51 with f1_ f2_ f3_; have f4_ := f1_.symm; have f5_ := f3_.symm; clear f1_ f2_ f3_; subst f4_; subst f5_))
     refine norm_ (a' := ?_) ?_ ?_
     rotate_left
     ·simp only [putAll, Act.put, List.setIfInBounds_toArray, List.set_cons_zero, List.set_cons_succ]
      rfl
     refine one_ (i := 8) (N := some 32) #[true, true, true, true, true, true, true, true, true, true, true, true, false, false] rfl rfl (one_of HT_.out (by kernel_rfl)) (by decide) (fun K hK => ?_)
     refine Kd.R_append_rows_step (Kd.int .i64) (w0 := w) w.heap.size (by rfl) (.tmp 27) (.tmp 31) 22 3 (.int .i64 0) 8 rfl Try.underlying22 info3 rfl (by decide) (by omega) v737 y736 y740 _ _ _ (fun k_ => some k_ ≠ (.slice Ao51 y740.length co51 : Value).ownBlock) (fun _ => False) rfl rfl ?aO ?aR (fun _ _ h => h) (fun _ h => h.elim) ?aF ?aB ?aS ?aL ?_
     (case aR => repeat (first | exact (Kd.R_reads' HO742.out).2.2 | (with_reducible first | refine Kd.C_alloc ?_ _ | refine Kd.C_drewN ?_ _ | refine Kd.C_drew ?_)))
     (case aB => exact bl_)
     (case aF => exact (fun k_ hk => Kd.fresh' (Kd.R_lt (rx_ HO742)) k_ hk))
     (case aO => exact (rx_ HO738))
     (case aS => exact (below_size bl_))
     (case aL => have := LMc13.out; omega)
     intro v744 w50b ho hb hg hat
     rw [← Ny743.out] at ho
     have n0_ := Aside0.mk (Kd.R_after (ok := (fun _ => True)) (by (with_reducible repeat (first | apply Kd.R_alloc | apply Kd.R_drewN | apply Kd.R_drew)); exact Kd.R_mono HO742.out (fun _ hk => ⟨trivial, hk⟩)) hg hat)
     have n1_ := Aside0.mk (hb)
     have n2_ := Aside0.mk (ho)
     clear HO742
     clear HB
     clear HO738
     have HO742 := n0_
     have HB := n1_
     have HO745 := n2_
     clear n0_ n1_ n2_
     clear ho hb hg hat
     refine hK.out _ _ (((HB.out.cell (World.block_lt_of_cell? w _ hw739_0)).trans hw739_0)) (fun hHeld => ?_)
     clear hK K
     refine ns_ ?_
     obtain ⟨Aqb, cqb, eqb_⟩ := Kd.R_slice HO745.out
     subst eqb_
     have HWs := Aside0.mk (HW.out.below HB.out)
     refine one_ (i := 12) (N := some 36) #[true, true, true, true, true, true, true, true, true, true, true, true, true, false] rfl rfl (one_of HT_.out (by kernel_rfl)) (by decide) (fun K hK => ?_)
     refine goes_ Try.func85 (by kernel_rfl) rfl #[u0_, .slice Aqb y743.length cqb, .slice A43 y746.length c43, .slice A3 l3.length c3] (by rfl) rfl rfl (by (try simp only [List.map_toArray, List.map_cons, List.map_nil]); first | done | rfl | (simp only [List.length_drop, List.length_take]; rfl)) ?_
     with_reducible refine (ih Q w0 _ u0_ _ _ _ _ _ _ _ _ _ _ o1 ?wi (by rw [YE743.out, Ny746.out]; exact E1.out)).mono ?_
     (case wi => exact ⟨HWs.out.fresh, HWs.out.hB, HWs.out.hO, HW.out.new HO745.out, (Kd.V_below (by have ht_ := spec_l05Weave.V_tail (A' := A43) (c' := c43) HW.out.h2 (by have := of_eq_true q739; omega) KA43.out (by rw [← Ny746.out]; exact HC749.out); rw [← Ny746.out] at ht_; exact ht_) HB.out), HWs.out.h3⟩)
     rintro e wb ⟨vwb, rfl, hN_, hb_, hg_⟩
     refine ⟨_, rfl, ?_⟩
     have HW2 := Aside0.mk (HWs.out.after hN_ hb_ hg_)
     have HGwb := Aside0.mk ((spec_l05Weave.Gr.of_below HB.out).trans hg_)
     clear hN_ hb_ hg_ HW HWs HB
     refine hK.out _ _ (spec_l05Weave.V_cell HW2.out.h2 (of_eq_true q739)) (fun hHeld => ?_)
     clear hK K
     refine ns_ ?_
     refine ps_ HT_ 13 0 ?_
     refine done_ (done_of HT_.out (by kernel_rfl)) ?_
     try go_wp2
     go_ret
     exact ⟨_, rfl, HW2.out.hO, HW2.out.hB, HGwb.out⟩
    ·rw [if_neg c5_] at h
     have E2 := Aside0.mk h
     have g4 : decide (0 < (l3.length : Int)) = true := decide_eq_true (by omega)
     have g4n : decide (0 < l3.length) = true := decide_eq_true (by omega)
     have g6 : decide (1 ≤ (l3.length : Int)) = true := decide_eq_true (by omega)
     clear c5_ h
     go_enter Try.func85, Try.ntmps85
     go_wp2
     have n0_ := Aside0.mk (below_drew1 HB.out)
     clear HB
     have HB := n0_
     clear n0_
     have p739 : 0 ≤ (0 : Int) := (by omega)
     have q739 : 0 < (l2.length : Int) := of_decide_eq_true (by first | (with_reducible assumption) | assumption)
     obtain ⟨ad739, e739, hx739_0⟩ := Kd.at_int HR2.out 0 p739 q739
     have hw739_0 := hx739_0
     (try rw [show ((0 : Int)).toNat = 0 from rfl] at hw739_0)
     (try rw [show 0 * 1 = 0 from rfl] at hw739_0)
     (try rw [Addr.add_zero'] at hw739_0)
     cases e739
     have qi739 : (0 < l2.length) = True := eq_true (by omega)
     (try rw [show ((0 : Int)).toNat = 0 from rfl] at hx739_0)
     (try rw [Addr.add_zero'] at hx739_0)
     replace hx739_0 := (HB.out.cell (World.block_lt_of_cell? w _ hx739_0)).trans hx739_0
     replace p739 := eq_true p739
     replace q739 := eq_true q739
     have q43 : (1 : Int) ≤ ((l2.length : Int) : Int) := of_decide_eq_true (by first | (with_reducible assumption) | assumption)
     obtain ⟨i043, hi043, _, hsz43, _⟩ := info_parts info3
     have hroom43 : l2.length ≤ c2 := HC2.out
     have hC43 : Kd.C (Kd.int .i64) _ (some ad739) l2.length l2 := HR2.out
     have hcut43 := cut_from (P := Try.prog) 22 3 .i64 Try.underlying22 hi043 1 hsz43 (some ad739) l2.length c2 1 (by omega) q43
     have hr43 := Kd.C_drop (m := (1 : Int).toNat) (c := c2) hC43 (by omega) hroom43
     obtain ⟨A43, hA43⟩ : ∃ A1, A1 = (if c2 = (1 : Int).toNat then (some ad739) else ((some ad739) : Option Addr).map (·.add ((1 : Int).toNat * 1))) := ⟨_, rfl⟩
     obtain ⟨c43, hc43⟩ : ∃ c1, c1 = c2 - (1 : Int).toNat := ⟨_, rfl⟩
     have hy43 : y746.length = l2.length - (1 : Int).toNat := (by rw [Ny746.out, List.length_drop] <;> omega)
     rw [show (l2).drop (1 : Int).toNat = y746 from Ny746.out.symm] at hr43
     replace hr43 : Kd.C (Kd.int .i64) _ A43 y746.length y746 := (by rw [hA43]; exact hr43)
     rw [← hy43, ← hA43, ← hc43] at hcut43
     have HR749 := Aside0.mk hr43
     have HC749 := Aside0.mk (show y746.length ≤ c43 from by rw [hy43, hc43]; exact Nat.sub_le_sub_right hroom43 _)
     clear hr43 hC43 hroom43 hi043 hsz43 hc43
     have KY43 := Aside0.mk hy43
     have KA43 := Aside0.mk hA43
     clear hy43 hA43
     replace q43 := eq_true q43
     refine start_ (n := 14) (S := fun w' => w'.cell? ad739 = some (.int .i64 (rd l2 0))) (ds := []) #[false, false, false, false, false, false, false, false, false, false, false, false, false, false] (by kernel_rfl) rfl rfl (((HB.out.cell (World.block_lt_of_cell? w _ hw739_0)).trans hw739_0)) (fun hHeld => ?_); refine with_tabW spec_l05Weave.tab4 spec_l05Weave.bits4 (fun HT_ HW_ => ?_)
     generalize w.drew = w42c at HB HR749 hx739_0 hHeld ⊢
     refine ps_ HT_ 0 24 ?_
     refine ps_ HT_ 2 26 ?_
     refine ps_ HT_ 4 28 ?_
     refine ps_ HT_ 5 29 ?_
     refine ps_ HT_ 9 33 ?_
     refine ps_ HT_ 10 34 ?_
     refine ps_ HT_ 11 35 ?_
     refine take_ (i := 6) (N := some 30) (v := ?_) (a' := ?_) #[true, false, true, false, true, true, true, false, false, true, true, true, false, false] rfl rfl (take_ofW HT_.out HW_.out (by kernel_rfl)) (fun _ _ _ h => h) (Or.inl ⟨by rfl, ?_⟩) hHeld ?_ ?_
     rotate_left
     ·intro w' s0
      go_simp
      with_reducible rfl
     rotate_left
     ·simp only [Act.put, List.setIfInBounds_toArray, List.set_cons_zero, List.set_cons_succ, i64_w, i32_w]
      rfl
     refine join_ (σ := Value × Value × Value) 3 #[true, true, true, true, true, true, true, true, false, true, true, true, false, false] (fun s_ => [(25, s_.1), (27, s_.2.1), (31, s_.2.2)]) (fun s_ w' => (w'.cell? ad739 = some (.int .i64 (rd l2 0))) ∧ (Kd.R (Kd.int .i64) 3 w' w.heap.size (fun k_ => some k_ ≠ (s_.2.2 : Value).ownBlock) s_.2.1 y736) ∧ (Kd.R (Kd.int .i64) 3 w' w.heap.size (fun k_ => some k_ ≠ (s_.2.1 : Value).ownBlock) s_.2.2 y740) ∧ (Below w.heap.size w w')) ?_ ?_
     rotate_left
     ·intro hCont
      refine two_ (i := 1) (j := 7) (Ni := some 25) (Nj := some 31) #[true, true, true, false, true, true, true, false, false, true, true, true, false, false] #[true, false, true, false, true, true, true, true, false, true, true, true, false, false] rfl rfl rfl rfl (two_of HT_.out (by kernel_rfl)) (by decide) (by decide) (fun K hK => ?_) (fun K hK => ?_)
      ·skip
       refine Kd.R_lit_step (Kd.int .i64) _ 3 ?hg (N := 25) ?hd (xs := ([] : List Int)) (inner := []) (ok := fun _ => True) (okp := fun _ => True) ?hr ?hp (fun _ hk => hk) trivial (Below.refl _ _) (Nat.le_refl _) (by simp) ?_; (case hd => rfl); (case hg => rfl); (case hr => first | (go_simp; done) | (go_simp; rfl)); (case hp => exact (Reps.none _ _))
       intro v734 w44c ho45 hb hg_ hnew_
       clear hg_ hnew_
       (first | rw [← Ny733.out] at ho45 | (simp only [Int.reduceToNat] at ho45; rw [← Ny733.out] at ho45))
       have n0_ := Aside0.mk (Kd.R_lower ho45 (below_size bl_))
       have n1_ := Aside0.mk (below_step bl_ hb)
       clear HB
       have HO735 := n0_
       have HB := n1_
       clear n0_ n1_
       clear hb ho45
       refine hK.out _ _ (((HB.out.cell (World.block_lt_of_cell? w _ hw739_0)).trans hw739_0)) (fun hHeld => ?_)
       clear hK K
       refine ns_ ?_
       refine two_ (i := 3) (j := 7) (Ni := some 27) (Nj := some 31) #[true, true, true, true, true, true, true, false, false, true, true, true, false, false] #[true, true, true, false, true, true, true, true, false, true, true, true, false, false] rfl rfl rfl rfl (two_of HT_.out (by kernel_rfl)) (by decide) (by decide) (fun K hK => ?_) (fun K hK => ?_)
       ·skip
        refine Kd.R_append_rows_step (Kd.int .i64) (w0 := w) w.heap.size (by rfl) (.tmp 25) (.tmp 26) 22 3 (.int .i64 0) 8 rfl Try.underlying22 info3 rfl (by decide) (by omega) v734 y733 l1 _ _ _ (fun _ => True) (fun _ => False) rfl rfl ?aO ?aR (fun _ _ h => h) (fun _ h => h.elim) ?aF ?aB ?aS ?aL ?_
        (case aR => repeat (first | exact (Kd.C_below HR1.out HB.out) | (with_reducible first | refine Kd.C_alloc ?_ _ | refine Kd.C_drewN ?_ _ | refine Kd.C_drew ?_)))
        (case aB => exact bl_)
        (case aF => exact (fun _ _ => trivial))
        (case aO => exact (rx_ HO735))
        (case aS => exact (below_size bl_))
        (case aL => have := LMc11.out; omega)
        intro v737 w46c ho hb hg hat
        rw [← Ny736.out] at ho
        have n0_ := Aside0.mk (hb)
        have n1_ := Aside0.mk (ho)
        clear HB
        clear HO735
        have HB := n0_
        have HO738 := n1_
        clear n0_ n1_
        clear ho hb hg hat
        refine hK.out _ _ (((HB.out.cell (World.block_lt_of_cell? w _ hw739_0)).trans hw739_0)) (fun hHeld => ?_)
        clear hK K
        refine ns_ ?_
        refine one_ (i := 7) (N := some 31) #[true, true, true, true, true, true, true, true, false, true, true, true, false, false] rfl rfl (one_of HT_.out (by kernel_rfl)) (by decide) (fun K hK => ?_)
        refine Kd.R_lit_step (Kd.int .i64) _ 3 ?hg (N := 31) ?hd (xs := ([rd l2 0] : List Int)) (inner := [.int .i64 (rd l2 0)]) (ok := fun _ => True) (okp := fun _ => True) ?hr ?hp (fun _ hk => hk) trivial (Below.refl _ _) (Nat.le_refl _) (by simp) ?_; (case hd => rfl); (case hg => rfl); (case hr => first | (go_simp; done) | (go_simp; rfl)); (case hp => exact (Reps.one (show Kd.M (Kd.int .i64) _ _ _ (rd l2 0) [.int .i64 (rd l2 0)] from rfl) (Reps.none _ _)))
        intro v741 w47c ho48 hb hg_ hnew_
        clear hg_ hnew_
        (first | rw [← Ny740.out] at ho48 | (simp only [Int.reduceToNat] at ho48; rw [← Ny740.out] at ho48))
        have n0_ := Aside0.mk (Kd.R_elder' (rx_ HO738) (Kd.R_base ho48) hb)
        have n1_ := Aside0.mk (Kd.R_lower (Kd.R_new' ho48 (Kd.R_lt (rx_ HO738))) (below_size bl_))
        have n2_ := Aside0.mk (below_step bl_ hb)
        clear HO738
        clear HB
        have HO738 := n0_
        have HO742 := n1_
        have HB := n2_
        clear n0_ n1_ n2_
        clear hb ho48
        refine hK.out _ _ (((HB.out.cell (World.block_lt_of_cell? w _ hw739_0)).trans hw739_0)) (fun hHeld => ?_)
        clear hK K
        refine ns_ ?_
        exact norm_ (by simp only [putAll, Act.put, List.setIfInBounds_toArray, List.set_cons_zero, List.set_cons_succ]) (hCont (v734, v737, v741) _ ⟨hHeld, (by (with_reducible repeat (first | apply Kd.R_alloc | apply Kd.R_drewN | apply Kd.R_drew)); exact Kd.R_mono HO738.out (fun _ hk => hk.2)), (by (with_reducible repeat (first | apply Kd.R_alloc | apply Kd.R_drewN | apply Kd.R_drew)); exact Kd.R_mono HO742.out (fun _ hk => hk.2)), bl_⟩)
       ·skip
        refine Kd.R_lit_step (Kd.int .i64) _ 3 ?hg (N := 31) ?hd (xs := ([rd l2 0] : List Int)) (inner := [.int .i64 (rd l2 0)]) (ok := fun _ => True) (okp := fun _ => True) ?hr ?hp (fun _ hk => hk) trivial (Below.refl _ _) (Nat.le_refl _) (by simp) ?_; (case hd => rfl); (case hg => rfl); (case hr => first | (go_simp; done) | (go_simp; rfl)); (case hp => exact (Reps.one (show Kd.M (Kd.int .i64) _ _ _ (rd l2 0) [.int .i64 (rd l2 0)] from rfl) (Reps.none _ _)))
        intro v741 w46c ho47 hb hg_ hnew_
        clear hg_ hnew_
        (first | rw [← Ny740.out] at ho47 | (simp only [Int.reduceToNat] at ho47; rw [← Ny740.out] at ho47))
        have n0_ := Aside0.mk (Kd.R_elder' (rx_ HO735) (Kd.R_base ho47) hb)
        have n1_ := Aside0.mk (Kd.R_lower (Kd.R_new' ho47 (Kd.R_lt (rx_ HO735))) (below_size bl_))
        have n2_ := Aside0.mk (below_step bl_ hb)
        clear HO735
        clear HB
        have HO735 := n0_
        have HO742 := n1_
        have HB := n2_
        clear n0_ n1_ n2_
        clear hb ho47
        refine hK.out _ _ (((HB.out.cell (World.block_lt_of_cell? w _ hw739_0)).trans hw739_0)) (fun hHeld => ?_)
        clear hK K
        refine ns_ ?_
        refine one_ (i := 3) (N := some 27) #[true, true, true, true, true, true, true, true, false, true, true, true, false, false] rfl rfl (one_of HT_.out (by kernel_rfl)) (by decide) (fun K hK => ?_)
        refine Kd.R_append_rows_step (Kd.int .i64) (w0 := w) w.heap.size (by rfl) (.tmp 25) (.tmp 26) 22 3 (.int .i64 0) 8 rfl Try.underlying22 info3 rfl (by decide) (by omega) v734 y733 l1 _ _ _ (fun k_ => some k_ ≠ (v741 : Value).ownBlock) (fun _ => False) rfl rfl ?aO ?aR (fun _ _ h => h) (fun _ h => h.elim) ?aF ?aB ?aS ?aL ?_
        (case aR => repeat (first | exact (Kd.C_below HR1.out HB.out) | (with_reducible first | refine Kd.C_alloc ?_ _ | refine Kd.C_drewN ?_ _ | refine Kd.C_drew ?_)))
        (case aB => exact bl_)
        (case aF => exact (fun k_ hk => Kd.fresh' (Kd.R_lt (rx_ HO742)) k_ hk))
        (case aO => exact (by (with_reducible repeat (first | apply Kd.R_alloc | apply Kd.R_drewN | apply Kd.R_drew)); exact Kd.R_mono HO735.out (fun _ hk => hk.2)))
        (case aS => exact (below_size bl_))
        (case aL => have := LMc11.out; omega)
        intro v737 w48c ho hb hg hat
        rw [← Ny736.out] at ho
        have n0_ := Aside0.mk (Kd.R_after (ok := (fun _ => True)) (rx_ HO742) hg hat)
        have n1_ := Aside0.mk (hb)
        have n2_ := Aside0.mk (ho)
        clear HO742
        clear HB
        clear HO735
        have HO742 := n0_
        have HB := n1_
        have HO738 := n2_
        clear n0_ n1_ n2_
        clear ho hb hg hat
        refine hK.out _ _ (((HB.out.cell (World.block_lt_of_cell? w _ hw739_0)).trans hw739_0)) (fun hHeld => ?_)
        clear hK K
        refine ns_ ?_
        exact norm_ (by simp only [putAll, Act.put, List.setIfInBounds_toArray, List.set_cons_zero, List.set_cons_succ]) (hCont (v734, v737, v741) _ ⟨hHeld, (rx_ HO738), (by (with_reducible repeat (first | apply Kd.R_alloc | apply Kd.R_drewN | apply Kd.R_drew)); exact Kd.R_mono HO742.out (fun _ hk => hk.2)), bl_⟩)
      ·skip
       refine Kd.R_lit_step (Kd.int .i64) _ 3 ?hg (N := 31) ?hd (xs := ([rd l2 0] : List Int)) (inner := [.int .i64 (rd l2 0)]) (ok := fun _ => True) (okp := fun _ => True) ?hr ?hp (fun _ hk => hk) trivial (Below.refl _ _) (Nat.le_refl _) (by simp) ?_; (case hd => rfl); (case hg => rfl); (case hr => first | (go_simp; done) | (go_simp; rfl)); (case hp => exact (Reps.one (show Kd.M (Kd.int .i64) _ _ _ (rd l2 0) [.int .i64 (rd l2 0)] from rfl) (Reps.none _ _)))
       intro v741 w44c ho45 hb hg_ hnew_
       clear hg_ hnew_
       (first | rw [← Ny740.out] at ho45 | (simp only [Int.reduceToNat] at ho45; rw [← Ny740.out] at ho45))
       have n0_ := Aside0.mk (Kd.R_lower ho45 (below_size bl_))
       have n1_ := Aside0.mk (below_step bl_ hb)
       clear HB
       have HO742 := n0_
       have HB := n1_
       clear n0_ n1_
       clear hb ho45
       refine hK.out _ _ (((HB.out.cell (World.block_lt_of_cell? w _ hw739_0)).trans hw739_0)) (fun hHeld => ?_)
       clear hK K
       refine ns_ ?_
       refine one_ (i := 1) (N := some 25) #[true, true, true, false, true, true, true, true, false, true, true, true, false, false] rfl rfl (one_of HT_.out (by kernel_rfl)) (by decide) (fun K hK => ?_)
       refine Kd.R_lit_step (Kd.int .i64) _ 3 ?hg (N := 25) ?hd (xs := ([] : List Int)) (inner := []) (ok := fun _ => True) (okp := fun _ => True) ?hr ?hp (fun _ hk => hk) trivial (Below.refl _ _) (Nat.le_refl _) (by simp) ?_; (case hd => rfl); (case hg => rfl); (case hr => first | (go_simp; done) | (go_simp; rfl)); (case hp => exact (Reps.none _ _))
       intro v734 w46c ho47 hb hg_ hnew_
       clear hg_ hnew_
       (first | rw [← Ny733.out] at ho47 | (simp only [Int.reduceToNat] at ho47; rw [← Ny733.out] at ho47))
       have n0_ := Aside0.mk (Kd.R_elder' (rx_ HO742) (Kd.R_base ho47) hb)
       have n1_ := Aside0.mk (Kd.R_lower (Kd.R_new' ho47 (Kd.R_lt (rx_ HO742))) (below_size bl_))
       have n2_ := Aside0.mk (below_step bl_ hb)
       clear HO742
       clear HB
       have HO742 := n0_
       have HO735 := n1_
       have HB := n2_
       clear n0_ n1_ n2_
       clear hb ho47
       refine hK.out _ _ (((HB.out.cell (World.block_lt_of_cell? w _ hw739_0)).trans hw739_0)) (fun hHeld => ?_)
       clear hK K
       refine ns_ ?_
       refine one_ (i := 3) (N := some 27) #[true, true, true, true, true, true, true, true, false, true, true, true, false, false] rfl rfl (one_of HT_.out (by kernel_rfl)) (by decide) (fun K hK => ?_)
       refine Kd.R_append_rows_step (Kd.int .i64) (w0 := w) w.heap.size (by rfl) (.tmp 25) (.tmp 26) 22 3 (.int .i64 0) 8 rfl Try.underlying22 info3 rfl (by decide) (by omega) v734 y733 l1 _ _ _ (fun k_ => some k_ ≠ (v741 : Value).ownBlock) (fun _ => False) rfl rfl ?aO ?aR (fun _ _ h => h) (fun _ h => h.elim) ?aF ?aB ?aS ?aL ?_
       (case aR => repeat (first | exact (Kd.C_below HR1.out HB.out) | (with_reducible first | refine Kd.C_alloc ?_ _ | refine Kd.C_drewN ?_ _ | refine Kd.C_drew ?_)))
       (case aB => exact bl_)
       (case aF => exact (fun k_ hk => Kd.fresh' (Kd.R_lt (rx_ HO742)) k_ hk))
       (case aO => exact (by (with_reducible repeat (first | apply Kd.R_alloc | apply Kd.R_drewN | apply Kd.R_drew)); exact Kd.R_mono HO735.out (fun _ hk => hk.2)))
       (case aS => exact (below_size bl_))
       (case aL => have := LMc11.out; omega)
       intro v737 w48c ho hb hg hat
       rw [← Ny736.out] at ho
       have n0_ := Aside0.mk (Kd.R_after (ok := (fun _ => True)) (rx_ HO742) hg hat)
       have n1_ := Aside0.mk (hb)
       have n2_ := Aside0.mk (ho)
       clear HO742
       clear HB
       clear HO735
       have HO742 := n0_
       have HB := n1_
       have HO738 := n2_
       clear n0_ n1_ n2_
       clear ho hb hg hat
       refine hK.out _ _ (((HB.out.cell (World.block_lt_of_cell? w _ hw739_0)).trans hw739_0)) (fun hHeld => ?_)
       clear hK K
       refine ns_ ?_
       exact norm_ (by simp only [putAll, Act.put, List.setIfInBounds_toArray, List.set_cons_zero, List.set_cons_succ]) (hCont (v734, v737, v741) _ ⟨hHeld, (rx_ HO738), (by (with_reducible repeat (first | apply Kd.R_alloc | apply Kd.R_drewN | apply Kd.R_drew)); exact Kd.R_mono HO742.out (fun _ hk => hk.2)), bl_⟩)
     rintro ⟨v734, v737, v741⟩ w49c ⟨hS_, h0_, h1_, h2_⟩
     have n0_ : Aside0 (Kd.R (Kd.int .i64) 3 w49c w.heap.size (fun k_ => some k_ ≠ (v741 : Value).ownBlock) v737 y736) := ⟨h0_⟩
     have n1_ : Aside0 (Kd.R (Kd.int .i64) 3 w49c w.heap.size (fun k_ => some k_ ≠ (v737 : Value).ownBlock) v741 y740) := ⟨h1_⟩
     have n2_ : Aside0 (Below w.heap.size w w49c) := ⟨h2_⟩
     clear HB
     clear h0_ h1_ h2_
     have HO738 := n0_
     have HO742 := n1_
     have HB := n2_
     clear n0_ n1_ n2_
     have hHeld : w49c.cell? ad739 = some (.int .i64 (rd l2 0)) := hS_
     obtain ⟨Ao51, co51, eo51⟩ := Kd.R_slice HO742.out
     (first | subst eo51 | (injection eo51 with f1_ f2_ f3_; have f4_ := f1_.symm; have f5_ := f3_.symm; clear f1_ f2_ f3_; subst f4_; subst f5_))
     refine norm_ (a' := ?_) ?_ ?_
     rotate_left
     ·simp only [putAll, Act.put, List.setIfInBounds_toArray, List.set_cons_zero, List.set_cons_succ]
      rfl
     refine one_ (i := 8) (N := some 32) #[true, true, true, true, true, true, true, true, true, true, true, true, false, false] rfl rfl (one_of HT_.out (by kernel_rfl)) (by decide) (fun K hK => ?_)
     refine Kd.R_append_rows_step (Kd.int .i64) (w0 := w) w.heap.size (by rfl) (.tmp 27) (.tmp 31) 22 3 (.int .i64 0) 8 rfl Try.underlying22 info3 rfl (by decide) (by omega) v737 y736 y740 _ _ _ (fun k_ => some k_ ≠ (.slice Ao51 y740.length co51 : Value).ownBlock) (fun _ => False) rfl rfl ?aO ?aR (fun _ _ h => h) (fun _ h => h.elim) ?aF ?aB ?aS ?aL ?_
     (case aR => repeat (first | exact (Kd.R_reads' HO742.out).2.2 | (with_reducible first | refine Kd.C_alloc ?_ _ | refine Kd.C_drewN ?_ _ | refine Kd.C_drew ?_)))
     (case aB => exact bl_)
     (case aF => exact (fun k_ hk => Kd.fresh' (Kd.R_lt (rx_ HO742)) k_ hk))
     (case aO => exact (rx_ HO738))
     (case aS => exact (below_size bl_))
     (case aL => have := LMc13.out; omega)
     intro v744 w50c ho hb hg hat
     rw [← Ny743.out] at ho
     have n0_ := Aside0.mk (Kd.R_after (ok := (fun _ => True)) (by (with_reducible repeat (first | apply Kd.R_alloc | apply Kd.R_drewN | apply Kd.R_drew)); exact Kd.R_mono HO742.out (fun _ hk => ⟨trivial, hk⟩)) hg hat)
     have n1_ := Aside0.mk (hb)
     have n2_ := Aside0.mk (ho)
     clear HO742
     clear HB
     clear HO738
     have HO742 := n0_
     have HB := n1_
     have HO745 := n2_
     clear n0_ n1_ n2_
     clear ho hb hg hat
     refine hK.out _ _ (((HB.out.cell (World.block_lt_of_cell? w _ hw739_0)).trans hw739_0)) (fun hHeld => ?_)
     clear hK K
     refine ns_ ?_
     obtain ⟨Aqc, cqc, eqc_⟩ := Kd.R_slice HO745.out
     subst eqc_
     have HWs := Aside0.mk (HW.out.below HB.out)
     refine one_ (i := 12) (N := some 36) #[true, true, true, true, true, true, true, true, true, true, true, true, true, false] rfl rfl (one_of HT_.out (by kernel_rfl)) (by decide) (fun K hK => ?_)
     refine goes_ Try.func85 (by kernel_rfl) rfl #[u0_, .slice Aqc y743.length cqc, .slice A43 y746.length c43, .slice A3 l3.length c3] (by rfl) rfl rfl (by (try simp only [List.map_toArray, List.map_cons, List.map_nil]); first | done | rfl | (simp only [List.length_drop, List.length_take]; rfl)) ?_
     with_reducible refine (ih Q w0 _ u0_ _ _ _ _ _ _ _ _ _ _ o1 ?wi (by rw [YE743.out, Ny746.out]; exact E1.out)).mono ?_
     (case wi => exact ⟨HWs.out.fresh, HWs.out.hB, HWs.out.hO, HW.out.new HO745.out, (Kd.V_below (by have ht_ := spec_l05Weave.V_tail (A' := A43) (c' := c43) HW.out.h2 (by have := of_eq_true q739; omega) KA43.out (by rw [← Ny746.out]; exact HC749.out); rw [← Ny746.out] at ht_; exact ht_) HB.out), HWs.out.h3⟩)
     rintro e wd ⟨vwd, rfl, hN_, hb_, hg_⟩
     refine ⟨_, rfl, ?_⟩
     have HW2 := Aside0.mk (HWs.out.after hN_ hb_ hg_)
     have HGwd := Aside0.mk ((spec_l05Weave.Gr.of_below HB.out).trans hg_)
     clear hN_ hb_ hg_ HW HWs HB
     refine hK.out _ _ (spec_l05Weave.V_cell HW2.out.h2 (of_eq_true q739)) (fun hHeld => ?_)
     clear hK K
     refine ns_ ?_
     refine ps_ HT_ 13 0 ?_
     refine done_ (done_of HT_.out (by kernel_rfl)) ?_
     have c3_ := HL1.out
     clear HR1 HC1 HR2 HC2 HT_ HW_ hHeld
     have HR1 := Aside0.mk (Kd.V_reads' HW2.out.h1).2.2
     have HC1 := Aside0.mk (Kd.V_reads' HW2.out.h1).2.1
     have HR3 := Aside0.mk (Kd.V_reads' HW2.out.h3).2.2
     have HC3 := Aside0.mk (Kd.V_reads' HW2.out.h3).2.1
     have HB := Aside0.mk (Below.refl wd.heap.size wd)
     obtain ⟨y773, hy773⟩ : ∃ y_ : List Int, y_ = [] := ⟨_, rfl⟩
     have Ny773 := Aside0.mk hy773
     obtain ⟨y776, hy776⟩ : ∃ y_ : List Int, y_ = (y773 ++ l1) := ⟨_, rfl⟩
     have Ny776 := Aside0.mk hy776
     obtain ⟨y780, hy780⟩ : ∃ y_ : List Int, y_ = [rd l3 0] := ⟨_, rfl⟩
     have Ny780 := Aside0.mk hy780
     obtain ⟨y783, hy783⟩ : ∃ y_ : List Int, y_ = (y776 ++ y780) := ⟨_, rfl⟩
     have Ny783 := Aside0.mk hy783
     obtain ⟨y786, hy786⟩ : ∃ y_ : List Int, y_ = (l3.drop 1) := ⟨_, rfl⟩
     have Ny786 := Aside0.mk hy786
     have LMc55 := Aside0.mk (show y773.length + l1.length < 17592186044416 by rw [hy773]; simp; omega)
     have LMc57 := Aside0.mk (show y776.length + y780.length < 17592186044416 by rw [hy776, hy780, hy773]; simp; omega)
     have YE783 := Aside0.mk (show y783 = l1 ++ [rd l3 0] by rw [hy783, hy780, hy776, hy773]; rfl)
     clear hy773 hy776 hy780 hy783 hy786
     clear c3_
     try go_wp2
     have n0_ := Aside0.mk (below_drew1 HB.out)
     clear HB
     have HB := n0_
     clear n0_
     have p779 : 0 ≤ (0 : Int) := (by omega)
     have q779 : 0 < (l3.length : Int) := of_decide_eq_true (by first | (with_reducible assumption) | assumption)
     obtain ⟨ad779, e779, hx779_0⟩ := Kd.at_int HR3.out 0 p779 q779
     have hw779_0 := hx779_0
     (try rw [show ((0 : Int)).toNat = 0 from rfl] at hw779_0)
     (try rw [show 0 * 1 = 0 from rfl] at hw779_0)
     (try rw [Addr.add_zero'] at hw779_0)
     cases e779
     have qi779 : (0 < l3.length) = True := eq_true (by omega)
     (try rw [show ((0 : Int)).toNat = 0 from rfl] at hx779_0)
     (try rw [Addr.add_zero'] at hx779_0)
     replace hx779_0 := (HB.out.cell (World.block_lt_of_cell? wd _ hx779_0)).trans hx779_0
     replace p779 := eq_true p779
     replace q779 := eq_true q779
     have q60 : (1 : Int) ≤ ((l3.length : Int) : Int) := of_decide_eq_true (by first | (with_reducible assumption) | assumption)
     obtain ⟨i060, hi060, _, hsz60, _⟩ := info_parts info3
     have hroom60 : l3.length ≤ c3 := HC3.out
     have hC60 : Kd.C (Kd.int .i64) _ (some ad779) l3.length l3 := HR3.out
     have hcut60 := cut_from (P := Try.prog) 22 3 .i64 Try.underlying22 hi060 1 hsz60 (some ad779) l3.length c3 1 (by omega) q60
     have hr60 := Kd.C_drop (m := (1 : Int).toNat) (c := c3) hC60 (by omega) hroom60
     obtain ⟨A60, hA60⟩ : ∃ A1, A1 = (if c3 = (1 : Int).toNat then (some ad779) else ((some ad779) : Option Addr).map (·.add ((1 : Int).toNat * 1))) := ⟨_, rfl⟩
     obtain ⟨c60, hc60⟩ : ∃ c1, c1 = c3 - (1 : Int).toNat := ⟨_, rfl⟩
     have hy60 : y786.length = l3.length - (1 : Int).toNat := (by rw [Ny786.out, List.length_drop] <;> omega)
     rw [show (l3).drop (1 : Int).toNat = y786 from Ny786.out.symm] at hr60
     replace hr60 : Kd.C (Kd.int .i64) _ A60 y786.length y786 := (by rw [hA60]; exact hr60)
     rw [← hy60, ← hA60, ← hc60] at hcut60
     have HR789 := Aside0.mk hr60
     have HC789 := Aside0.mk (show y786.length ≤ c60 from by rw [hy60, hc60]; exact Nat.sub_le_sub_right hroom60 _)
     clear hr60 hC60 hroom60 hi060 hsz60 hc60
     have KY60 := Aside0.mk hy60
     have KA60 := Aside0.mk hA60
     clear hy60 hA60
     replace q60 := eq_true q60
     refine start_ (n := 14) (S := fun w' => w'.cell? ad779 = some (.int .i64 (rd l3 0))) (ds := []) #[false, false, false, false, false, false, false, false, false, false, false, false, false, false] (by kernel_rfl) rfl rfl (((HB.out.cell (World.block_lt_of_cell? wd _ hw779_0)).trans hw779_0)) (fun hHeld => ?_); refine with_tabW spec_l05Weave.tab6 spec_l05Weave.bits6 (fun HT_ HW_ => ?_)
     generalize wd.drew = w59d at HB HR789 hx779_0 hHeld ⊢
     refine ps_ HT_ 0 40 ?_
     refine ps_ HT_ 2 42 ?_
     refine ps_ HT_ 4 44 ?_
     refine ps_ HT_ 5 45 ?_
     refine ps_ HT_ 9 49 ?_
     refine ps_ HT_ 10 50 ?_
     refine ps_ HT_ 11 51 ?_
     refine take_ (i := 6) (N := some 46) (v := ?_) (a' := ?_) #[true, false, true, false, true, true, true, false, false, true, true, true, false, false] rfl rfl (take_ofW HT_.out HW_.out (by kernel_rfl)) (fun _ _ _ h => h) (Or.inl ⟨by rfl, ?_⟩) hHeld ?_ ?_
     rotate_left
     ·intro w' s0
      go_simp
      with_reducible rfl
     rotate_left
     ·simp only [Act.put, List.setIfInBounds_toArray, List.set_cons_zero, List.set_cons_succ, i64_w, i32_w]
      rfl
     refine join_ (σ := Value × Value × Value) 3 #[true, true, true, true, true, true, true, true, false, true, true, true, false, false] (fun s_ => [(41, s_.1), (43, s_.2.1), (47, s_.2.2)]) (fun s_ w' => (w'.cell? ad779 = some (.int .i64 (rd l3 0))) ∧ (Kd.R (Kd.int .i64) 3 w' wd.heap.size (fun k_ => some k_ ≠ (s_.2.2 : Value).ownBlock) s_.2.1 y776) ∧ (Kd.R (Kd.int .i64) 3 w' wd.heap.size (fun k_ => some k_ ≠ (s_.2.1 : Value).ownBlock) s_.2.2 y780) ∧ (Below wd.heap.size wd w')) ?_ ?_
     rotate_left
     ·intro hCont
      refine two_ (i := 1) (j := 7) (Ni := some 41) (Nj := some 47) #[true, true, true, false, true, true, true, false, false, true, true, true, false, false] #[true, false, true, false, true, true, true, true, false, true, true, true, false, false] rfl rfl rfl rfl (two_of HT_.out (by kernel_rfl)) (by decide) (by decide) (fun K hK => ?_) (fun K hK => ?_)
      ·skip
       refine Kd.R_lit_step (Kd.int .i64) _ 3 ?hg (N := 41) ?hd (xs := ([] : List Int)) (inner := []) (ok := fun _ => True) (okp := fun _ => True) ?hr ?hp (fun _ hk => hk) trivial (Below.refl _ _) (Nat.le_refl _) (by simp) ?_; (case hd => rfl); (case hg => rfl); (case hr => first | (go_simp; done) | (go_simp; rfl)); (case hp => exact (Reps.none _ _))
       intro v774 w61d ho62 hb hg_ hnew_
       clear hg_ hnew_
       (first | rw [← Ny773.out] at ho62 | (simp only [Int.reduceToNat] at ho62; rw [← Ny773.out] at ho62))
       have n0_ := Aside0.mk (Kd.R_lower ho62 (below_size bl_))
       have n1_ := Aside0.mk (below_step bl_ hb)
       clear HB
       have HO775 := n0_
       have HB := n1_
       clear n0_ n1_
       clear hb ho62
       refine hK.out _ _ (((HB.out.cell (World.block_lt_of_cell? wd _ hw779_0)).trans hw779_0)) (fun hHeld => ?_)
       clear hK K
       refine ns_ ?_
       refine two_ (i := 3) (j := 7) (Ni := some 43) (Nj := some 47) #[true, true, true, true, true, true, true, false, false, true, true, true, false, false] #[true, true, true, false, true, true, true, true, false, true, true, true, false, false] rfl rfl rfl rfl (two_of HT_.out (by kernel_rfl)) (by decide) (by decide) (fun K hK => ?_) (fun K hK => ?_)
       ·skip
        refine Kd.R_append_rows_step (Kd.int .i64) (w0 := wd) wd.heap.size (by rfl) (.tmp 41) (.tmp 42) 22 3 (.int .i64 0) 8 rfl Try.underlying22 info3 rfl (by decide) (by omega) v774 y773 l1 _ _ _ (fun _ => True) (fun _ => False) rfl rfl ?aO ?aR (fun _ _ h => h) (fun _ h => h.elim) ?aF ?aB ?aS ?aL ?_
        (case aR => repeat (first | exact (Kd.C_below HR1.out HB.out) | (with_reducible first | refine Kd.C_alloc ?_ _ | refine Kd.C_drewN ?_ _ | refine Kd.C_drew ?_)))
        (case aB => exact bl_)
        (case aF => exact (fun _ _ => trivial))
        (case aO => exact (rx_ HO775))
        (case aS => exact (below_size bl_))
        (case aL => have := LMc55.out; omega)
        intro v777 w63d ho hb hg hat
        rw [← Ny776.out] at ho
        have n0_ := Aside0.mk (hb)
        have n1_ := Aside0.mk (ho)
        clear HB
        clear HO775
        have HB := n0_
        have HO778 := n1_
        clear n0_ n1_
        clear ho hb hg hat
        refine hK.out _ _ (((HB.out.cell (World.block_lt_of_cell? wd _ hw779_0)).trans hw779_0)) (fun hHeld => ?_)
        clear hK K
        refine ns_ ?_
        refine one_ (i := 7) (N := some 47) #[true, true, true, true, true, true, true, true, false, true, true, true, false, false] rfl rfl (one_of HT_.out (by kernel_rfl)) (by decide) (fun K hK => ?_)
        refine Kd.R_lit_step (Kd.int .i64) _ 3 ?hg (N := 47) ?hd (xs := ([rd l3 0] : List Int)) (inner := [.int .i64 (rd l3 0)]) (ok := fun _ => True) (okp := fun _ => True) ?hr ?hp (fun _ hk => hk) trivial (Below.refl _ _) (Nat.le_refl _) (by simp) ?_; (case hd => rfl); (case hg => rfl); (case hr => first | (go_simp; done) | (go_simp; rfl)); (case hp => exact (Reps.one (show Kd.M (Kd.int .i64) _ _ _ (rd l3 0) [.int .i64 (rd l3 0)] from rfl) (Reps.none _ _)))
        intro v781 w64d ho65 hb hg_ hnew_
        clear hg_ hnew_
        (first | rw [← Ny780.out] at ho65 | (simp only [Int.reduceToNat] at ho65; rw [← Ny780.out] at ho65))
        have n0_ := Aside0.mk (Kd.R_elder' (rx_ HO778) (Kd.R_base ho65) hb)
        have n1_ := Aside0.mk (Kd.R_lower (Kd.R_new' ho65 (Kd.R_lt (rx_ HO778))) (below_size bl_))
        have n2_ := Aside0.mk (below_step bl_ hb)
        clear HO778
        clear HB
        have HO778 := n0_
        have HO782 := n1_
        have HB := n2_
        clear n0_ n1_ n2_
        clear hb ho65
        refine hK.out _ _ (((HB.out.cell (World.block_lt_of_cell? wd _ hw779_0)).trans hw779_0)) (fun hHeld => ?_)
        clear hK K
        refine ns_ ?_
        exact norm_ (by simp only [putAll, Act.put, List.setIfInBounds_toArray, List.set_cons_zero, List.set_cons_succ]) (hCont (v774, v777, v781) _ ⟨hHeld, (by (with_reducible repeat (first | apply Kd.R_alloc | apply Kd.R_drewN | apply Kd.R_drew)); exact Kd.R_mono HO778.out (fun _ hk => hk.2)), (by (with_reducible repeat (first | apply Kd.R_alloc | apply Kd.R_drewN | apply Kd.R_drew)); exact Kd.R_mono HO782.out (fun _ hk => hk.2)), bl_⟩)
       ·skip
        refine Kd.R_lit_step (Kd.int .i64) _ 3 ?hg (N := 47) ?hd (xs := ([rd l3 0] : List Int)) (inner := [.int .i64 (rd l3 0)]) (ok := fun _ => True) (okp := fun _ => True) ?hr ?hp (fun _ hk => hk) trivial (Below.refl _ _) (Nat.le_refl _) (by simp) ?_; (case hd => rfl); (case hg => rfl); (case hr => first | (go_simp; done) | (go_simp; rfl)); (case hp => exact (Reps.one (show Kd.M (Kd.int .i64) _ _ _ (rd l3 0) [.int .i64 (rd l3 0)] from rfl) (Reps.none _ _)))
        intro v781 w63d ho64 hb hg_ hnew_
        clear hg_ hnew_
        (first | rw [← Ny780.out] at ho64 | (simp only [Int.reduceToNat] at ho64; rw [← Ny780.out] at ho64))
        have n0_ := Aside0.mk (Kd.R_elder' (rx_ HO775) (Kd.R_base ho64) hb)
        have n1_ := Aside0.mk (Kd.R_lower (Kd.R_new' ho64 (Kd.R_lt (rx_ HO775))) (below_size bl_))
        have n2_ := Aside0.mk (below_step bl_ hb)
        clear HO775
        clear HB
        have HO775 := n0_
        have HO782 := n1_
        have HB := n2_
        clear n0_ n1_ n2_
        clear hb ho64
        refine hK.out _ _ (((HB.out.cell (World.block_lt_of_cell? wd _ hw779_0)).trans hw779_0)) (fun hHeld => ?_)
        clear hK K
        refine ns_ ?_
        refine one_ (i := 3) (N := some 43) #[true, true, true, true, true, true, true, true, false, true, true, true, false, false] rfl rfl (one_of HT_.out (by kernel_rfl)) (by decide) (fun K hK => ?_)
        refine Kd.R_append_rows_step (Kd.int .i64) (w0 := wd) wd.heap.size (by rfl) (.tmp 41) (.tmp 42) 22 3 (.int .i64 0) 8 rfl Try.underlying22 info3 rfl (by decide) (by omega) v774 y773 l1 _ _ _ (fun k_ => some k_ ≠ (v781 : Value).ownBlock) (fun _ => False) rfl rfl ?aO ?aR (fun _ _ h => h) (fun _ h => h.elim) ?aF ?aB ?aS ?aL ?_
        (case aR => repeat (first | exact (Kd.C_below HR1.out HB.out) | (with_reducible first | refine Kd.C_alloc ?_ _ | refine Kd.C_drewN ?_ _ | refine Kd.C_drew ?_)))
        (case aB => exact bl_)
        (case aF => exact (fun k_ hk => Kd.fresh' (Kd.R_lt (rx_ HO782)) k_ hk))
        (case aO => exact (by (with_reducible repeat (first | apply Kd.R_alloc | apply Kd.R_drewN | apply Kd.R_drew)); exact Kd.R_mono HO775.out (fun _ hk => hk.2)))
        (case aS => exact (below_size bl_))
        (case aL => have := LMc55.out; omega)
        intro v777 w65d ho hb hg hat
        rw [← Ny776.out] at ho
        have n0_ := Aside0.mk (Kd.R_after (ok := (fun _ => True)) (rx_ HO782) hg hat)
        have n1_ := Aside0.mk (hb)
        have n2_ := Aside0.mk (ho)
        clear HO782
        clear HB
        clear HO775
        have HO782 := n0_
        have HB := n1_
        have HO778 := n2_
        clear n0_ n1_ n2_
        clear ho hb hg hat
        refine hK.out _ _ (((HB.out.cell (World.block_lt_of_cell? wd _ hw779_0)).trans hw779_0)) (fun hHeld => ?_)
        clear hK K
        refine ns_ ?_
        exact norm_ (by simp only [putAll, Act.put, List.setIfInBounds_toArray, List.set_cons_zero, List.set_cons_succ]) (hCont (v774, v777, v781) _ ⟨hHeld, (rx_ HO778), (by (with_reducible repeat (first | apply Kd.R_alloc | apply Kd.R_drewN | apply Kd.R_drew)); exact Kd.R_mono HO782.out (fun _ hk => hk.2)), bl_⟩)
      ·skip
       refine Kd.R_lit_step (Kd.int .i64) _ 3 ?hg (N := 47) ?hd (xs := ([rd l3 0] : List Int)) (inner := [.int .i64 (rd l3 0)]) (ok := fun _ => True) (okp := fun _ => True) ?hr ?hp (fun _ hk => hk) trivial (Below.refl _ _) (Nat.le_refl _) (by simp) ?_; (case hd => rfl); (case hg => rfl); (case hr => first | (go_simp; done) | (go_simp; rfl)); (case hp => exact (Reps.one (show Kd.M (Kd.int .i64) _ _ _ (rd l3 0) [.int .i64 (rd l3 0)] from rfl) (Reps.none _ _)))
       intro v781 w61d ho62 hb hg_ hnew_
       clear hg_ hnew_
       (first | rw [← Ny780.out] at ho62 | (simp only [Int.reduceToNat] at ho62; rw [← Ny780.out] at ho62))
       have n0_ := Aside0.mk (Kd.R_lower ho62 (below_size bl_))
       have n1_ := Aside0.mk (below_step bl_ hb)
       clear HB
       have HO782 := n0_
       have HB := n1_
       clear n0_ n1_
       clear hb ho62
       refine hK.out _ _ (((HB.out.cell (World.block_lt_of_cell? wd _ hw779_0)).trans hw779_0)) (fun hHeld => ?_)
       clear hK K
       refine ns_ ?_
       refine one_ (i := 1) (N := some 41) #[true, true, true, false, true, true, true, true, false, true, true, true, false, false] rfl rfl (one_of HT_.out (by kernel_rfl)) (by decide) (fun K hK => ?_)
       refine Kd.R_lit_step (Kd.int .i64) _ 3 ?hg (N := 41) ?hd (xs := ([] : List Int)) (inner := []) (ok := fun _ => True) (okp := fun _ => True) ?hr ?hp (fun _ hk => hk) trivial (Below.refl _ _) (Nat.le_refl _) (by simp) ?_; (case hd => rfl); (case hg => rfl); (case hr => first | (go_simp; done) | (go_simp; rfl)); (case hp => exact (Reps.none _ _))
       intro v774 w63d ho64 hb hg_ hnew_
       clear hg_ hnew_
       (first | rw [← Ny773.out] at ho64 | (simp only [Int.reduceToNat] at ho64; rw [← Ny773.out] at ho64))
       have n0_ := Aside0.mk (Kd.R_elder' (rx_ HO782) (Kd.R_base ho64) hb)
       have n1_ := Aside0.mk (Kd.R_lower (Kd.R_new' ho64 (Kd.R_lt (rx_ HO782))) (below_size bl_))
       have n2_ := Aside0.mk (below_step bl_ hb)
       clear HO782
       clear HB
       have HO782 := n0_
       have HO775 := n1_
       have HB := n2_
       clear n0_ n1_ n2_
       clear hb ho64
       refine hK.out _ _ (((HB.out.cell (World.block_lt_of_cell? wd _ hw779_0)).trans hw779_0)) (fun hHeld => ?_)
       clear hK K
       refine ns_ ?_
       refine one_ (i := 3) (N := some 43) #[true, true, true, true, true, true, true, true, false, true, true, true, false, false] rfl rfl (one_of HT_.out (by kernel_rfl)) (by decide) (fun K hK => ?_)
       refine Kd.R_append_rows_step (Kd.int .i64) (w0 := wd) wd.heap.size (by rfl) (.tmp 41) (.tmp 42) 22 3 (.int .i64 0) 8 rfl Try.underlying22 info3 rfl (by decide) (by omega) v774 y773 l1 _ _ _ (fun k_ => some k_ ≠ (v781 : Value).ownBlock) (fun _ => False) rfl rfl ?aO ?aR (fun _ _ h => h) (fun _ h => h.elim) ?aF ?aB ?aS ?aL ?_
       (case aR => repeat (first | exact (Kd.C_below HR1.out HB.out) | (with_reducible first | refine Kd.C_alloc ?_ _ | refine Kd.C_drewN ?_ _ | refine Kd.C_drew ?_)))
       (case aB => exact bl_)
       (case aF => exact (fun k_ hk => Kd.fresh' (Kd.R_lt (rx_ HO782)) k_ hk))
       (case aO => exact (by (with_reducible repeat (first | apply Kd.R_alloc | apply Kd.R_drewN | apply Kd.R_drew)); exact Kd.R_mono HO775.out (fun _ hk => hk.2)))
       (case aS => exact (below_size bl_))
       (case aL => have := LMc55.out; omega)
       intro v777 w65d ho hb hg hat
       rw [← Ny776.out] at ho
       have n0_ := Aside0.mk (Kd.R_after (ok := (fun _ => True)) (rx_ HO782) hg hat)
       have n1_ := Aside0.mk (hb)
       have n2_ := Aside0.mk (ho)
       clear HO782
       clear HB
       clear HO775
       have HO782 := n0_
       have HB := n1_
       have HO778 := n2_
       clear n0_ n1_ n2_
       clear ho hb hg hat
       refine hK.out _ _ (((HB.out.cell (World.block_lt_of_cell? wd _ hw779_0)).trans hw779_0)) (fun hHeld => ?_)
       clear hK K
       refine ns_ ?_
       exact norm_ (by simp only [putAll, Act.put, List.setIfInBounds_toArray, List.set_cons_zero, List.set_cons_succ]) (hCont (v774, v777, v781) _ ⟨hHeld, (rx_ HO778), (by (with_reducible repeat (first | apply Kd.R_alloc | apply Kd.R_drewN | apply Kd.R_drew)); exact Kd.R_mono HO782.out (fun _ hk => hk.2)), bl_⟩)
     rintro ⟨v774, v777, v781⟩ w66d ⟨hS_, h0_, h1_, h2_⟩
     have n0_ : Aside0 (Kd.R (Kd.int .i64) 3 w66d wd.heap.size (fun k_ => some k_ ≠ (v781 : Value).ownBlock) v777 y776) := ⟨h0_⟩
     have n1_ : Aside0 (Kd.R (Kd.int .i64) 3 w66d wd.heap.size (fun k_ => some k_ ≠ (v777 : Value).ownBlock) v781 y780) := ⟨h1_⟩
     have n2_ : Aside0 (Below wd.heap.size wd w66d) := ⟨h2_⟩
     clear HB
     clear h0_ h1_ h2_
     have HO778 := n0_
     have HO782 := n1_
     have HB := n2_
     clear n0_ n1_ n2_
     have hHeld : w66d.cell? ad779 = some (.int .i64 (rd l3 0)) := hS_
     obtain ⟨Ao68, co68, eo68⟩ := Kd.R_slice HO782.out
     (first | subst eo68 | (injection eo68 with f1_ f2_ f3_; have f4_ := f1_.symm; have f5_ := f3_.symm; clear f1_ f2_ f3_; subst f4_; subst f5_))
     refine norm_ (a' := ?_) ?_ ?_
     rotate_left
     ·simp only [putAll, Act.put, List.setIfInBounds_toArray, List.set_cons_zero, List.set_cons_succ]
      rfl
     refine one_ (i := 8) (N := some 48) #[true, true, true, true, true, true, true, true, true, true, true, true, false, false] rfl rfl (one_of HT_.out (by kernel_rfl)) (by decide) (fun K hK => ?_)
     refine Kd.R_append_rows_step (Kd.int .i64) (w0 := wd) wd.heap.size (by rfl) (.tmp 43) (.tmp 47) 22 3 (.int .i64 0) 8 rfl Try.underlying22 info3 rfl (by decide) (by omega) v777 y776 y780 _ _ _ (fun k_ => some k_ ≠ (.slice Ao68 y780.length co68 : Value).ownBlock) (fun _ => False) rfl rfl ?aO ?aR (fun _ _ h => h) (fun _ h => h.elim) ?aF ?aB ?aS ?aL ?_
     (case aR => repeat (first | exact (Kd.R_reads' HO782.out).2.2 | (with_reducible first | refine Kd.C_alloc ?_ _ | refine Kd.C_drewN ?_ _ | refine Kd.C_drew ?_)))
     (case aB => exact bl_)
     (case aF => exact (fun k_ hk => Kd.fresh' (Kd.R_lt (rx_ HO782)) k_ hk))
     (case aO => exact (rx_ HO778))
     (case aS => exact (below_size bl_))
     (case aL => have := LMc57.out; omega)
     intro v784 w67d ho hb hg hat
     rw [← Ny783.out] at ho
     have n0_ := Aside0.mk (Kd.R_after (ok := (fun _ => True)) (by (with_reducible repeat (first | apply Kd.R_alloc | apply Kd.R_drewN | apply Kd.R_drew)); exact Kd.R_mono HO782.out (fun _ hk => ⟨trivial, hk⟩)) hg hat)
     have n1_ := Aside0.mk (hb)
     have n2_ := Aside0.mk (ho)
     clear HO782
     clear HB
     clear HO778
     have HO782 := n0_
     have HB := n1_
     have HO785 := n2_
     clear n0_ n1_ n2_
     clear ho hb hg hat
     refine hK.out _ _ (((HB.out.cell (World.block_lt_of_cell? wd _ hw779_0)).trans hw779_0)) (fun hHeld => ?_)
     clear hK K
     refine ns_ ?_
     obtain ⟨Aqd, cqd, eqd_⟩ := Kd.R_slice HO785.out
     subst eqd_
     have HW2s := Aside0.mk (HW2.out.below HB.out)
     refine one_ (i := 12) (N := some 52) #[true, true, true, true, true, true, true, true, true, true, true, true, true, false] rfl rfl (one_of HT_.out (by kernel_rfl)) (by decide) (fun K hK => ?_)
     refine goes_ Try.func85 (by kernel_rfl) rfl #[vwd, .slice Aqd y783.length cqd, .slice (some ad739) l2.length c2, .slice A60 y786.length c60] (by rfl) rfl rfl (by (try simp only [List.map_toArray, List.map_cons, List.map_nil]); first | done | rfl | (simp only [List.length_drop, List.length_take]; rfl)) ?_
     with_reducible refine (ih Q w0 _ vwd _ _ _ _ _ _ _ _ _ _ r ?wi (by rw [YE783.out, Ny786.out]; exact E2.out)).mono ?_
     (case wi => exact ⟨HW2s.out.fresh, HW2s.out.hB, HW2s.out.hO, HW2.out.new HO785.out, HW2s.out.h2, (Kd.V_below (by have ht_ := spec_l05Weave.V_tail (A' := A60) (c' := c60) HW2.out.h3 (by have := of_eq_true q779; omega) KA60.out (by rw [← Ny786.out]; exact HC789.out); rw [← Ny786.out] at ht_; exact ht_) HB.out)⟩)
     rintro e we ⟨vwe, rfl, hN_, hb_, hg_⟩
     refine ⟨_, rfl, ?_⟩
     have HW22 := Aside0.mk (HW2s.out.after hN_ hb_ hg_)
     have HGwe := Aside0.mk ((HGwd.out.trans (spec_l05Weave.Gr.of_below HB.out)).trans hg_)
     clear hN_ hb_ hg_ HW2 HW2s HB
     refine hK.out _ _ (spec_l05Weave.V_cell HW22.out.h3 (of_eq_true q779)) (fun hHeld => ?_)
     clear hK K
     refine ns_ ?_
     refine ps_ HT_ 13 0 ?_
     refine done_ (done_of HT_.out (by kernel_rfl)) ?_
     try go_wp2
     go_ret
     exact ⟨_, rfl, HW22.out.hO, HW22.out.hB, HGwe.out⟩
  ·rw [if_neg c3_] at h
   cases h

end Go.Proofs.Ytdgoeomelnlekaa.MFnRiffles
