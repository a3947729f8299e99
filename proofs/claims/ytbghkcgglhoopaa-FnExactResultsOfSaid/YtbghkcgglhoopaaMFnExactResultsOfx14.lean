-- Written by this session's own program (wip/tools/myprint.py), over the kit's printer.
import Derived.Test.YtbghkcgglhoopaaMFnExactResultsOfx0
import Derived.Test.YtbghkcgglhoopaaMFnExactResultsOfx1
import Derived.Test.YtbghkcgglhoopaaMFnExactResultsOfx7
import Derived.Test.YtbghkcgglhoopaaMFnExactResultsOfx10
import Derived.Test.YtbghkcgglhoopaaMFnExactResultsOfx13
namespace Go.Proofs.Ytbghkcgglhoopaa.MFnExactResultsOf
open Go.RowKit Go.Proofs.YtbghkcgglhoopaaW.PrintWords Go.Proofs.YtbghkcgglhoopaaW.PrintLast Go.Proofs.YtbghkcgglhoopaaW.PrintMore
attribute [local go_sem] max2_int min2_int max_two min_two max_three min_three max_four min_four   -- for this text's walks alone
set_option linter.unusedVariables false
set_option linter.unusedSimpArgs false

/-! ### spec_ResultsOf: function 43, by hand -/
def spec_ResultsOf.f (k : Nat) (l0 : List Int) (a1 : Int) : Option (List (List Int) × Bool) := (spec_l05Ok.f k l0 a1).bind fun t => if t = false then some ([], false) else (spec_l05Of.f k l0 a1).bind fun b => (spec_SortPackets.f k b).bind fun s => some (s, true)
theorem spec_ResultsOf.mono : ∀ a0 a1 k, LeO (spec_ResultsOf.f k a0 a1) (spec_ResultsOf.f (k + 1) a0 a1) := by
 intro a0 a1 k
 unfold spec_ResultsOf.f
 repeat' first
   | (with_reducible exact spec_l05Ok.mono _ _ _)
   | (with_reducible exact spec_l05Of.mono _ _ _)
   | (with_reducible exact spec_SortPackets.mono _ _)
   | (with_reducible exact LeO.refl _)
   | (with_reducible exact LeO.none _)
   | (with_reducible refine LeO.ite ?_ ?_)
   | (with_reducible refine LeO.bind ?_ (fun _ => ?_))
set_option maxHeartbeats 8000000 in
set_option maxRecDepth 100000 in
theorem spec_ResultsOf.calls (k : Nat) (A0 : Option Addr) (c0 : Nat) (l0 : List Int) (a1 : Int) (r1 : List (List Int)) (r2 : Bool) (w : World) (hr0 : Kd.C (Kd.int .i64) w A0 l0.length l0) (hc0 : l0.length ≤ c0) (h : spec_ResultsOf.f k l0 a1 = some (r1, r2)) :
  Calls Try.prog 43 #[.slice A0 l0.length c0, .int .i64 a1] w fun e w' => ∃ v0_ : Value, e = .returned (.tuple #[v0_, .bool r2]) ∧ Kd.S (Kd.slice 3 (Kd.int .i64)) 22 w' w.heap.size (fun _ => True) v0_ r1 ∧ Below w.heap.size w w' := by
 have HR0 := Aside0.mk hr0
 have HC0 := Aside0.mk hc0
 clear hr0 hc0
 have HB := Aside0.mk (Below.refl w.heap.size w)
 unfold spec_ResultsOf.f at h
 obtain ⟨t, A1_, h⟩ := Option.bind_eq_some_iff.mp h
 have A1 := Aside0.mk A1_
 clear A1_
 cases t with
 | false =>
  rw [if_pos rfl] at h
  simp only [Option.some.injEq, Prod.mk.injEq] at h
  obtain ⟨rfl, rfl⟩ := h
  go_enter Try.func43, Try.ntmps43
  go_wp2_with (first | ((with_reducible refine gate_callee (f := 74) rfl ?_); refine goesL_ (some 8) rfl rfl Try.func74 (by kernel_rfl) rfl #[.slice A0 l0.length c0, .int .i64 a1] rfl (by (try simp only [List.map_toArray, List.map_cons, List.map_nil]); first | done | rfl) ?_; (with_reducible refine (spec_l05Ok.calls k _ _ l0 a1 false _ ?side1 ?side2 A1.out).mono ?_); (case side1 => exact HR0.out); (case side2 => exact HC0.out); rintro e w1 ⟨rfl, hb⟩; refine ⟨_, rfl, ?_⟩; have HB1 := Aside0.mk (below_step HB.out hb); clear HB hb))
  go_ret2
  exact ⟨_, rfl, Kd.S_nil _ _ _ _ _, HB1.out⟩
 | true =>
  rw [if_neg (by simp)] at h
  obtain ⟨t6, A2_, h⟩ := Option.bind_eq_some_iff.mp h
  obtain ⟨s, A3_, h⟩ := Option.bind_eq_some_iff.mp h
  have A2 := Aside0.mk A2_
  have A3 := Aside0.mk A3_
  clear A2_ A3_
  simp only [Option.some.injEq, Prod.mk.injEq] at h
  obtain ⟨rfl, rfl⟩ := h
  go_enter Try.func43, Try.ntmps43
  go_wp2_with (first | ((with_reducible refine gate_callee (f := 74) rfl ?_); refine goesL_ (some 8) rfl rfl Try.func74 (by kernel_rfl) rfl #[.slice A0 l0.length c0, .int .i64 a1] rfl (by (try simp only [List.map_toArray, List.map_cons, List.map_nil]); first | done | rfl) ?_; (with_reducible refine (spec_l05Ok.calls k _ _ l0 a1 true _ ?side1 ?side2 A1.out).mono ?_); (case side1 => exact HR0.out); (case side2 => exact HC0.out); rintro e w1 ⟨rfl, hb⟩; refine ⟨_, rfl, ?_⟩; have HB1 := Aside0.mk (below_step HB.out hb); clear HB hb) | ((with_reducible refine gate_callee (f := 75) rfl ?_); refine goesL_ (some 12) rfl rfl Try.func75 (by kernel_rfl) rfl #[.slice A0 l0.length c0, .int .i64 a1] rfl (by (try simp only [List.map_toArray, List.map_cons, List.map_nil]); first | done | rfl) ?_; (with_reducible refine (spec_l05Of.calls k (fun k_ => k_ < w1.heap.size) _ _ l0 a1 t6 _ ?side1 A2.out).mono ?_); (case side1 => exact Kd.V_mk HC0.out (Kd.C_F (Kd.heap_int .i64) (Kd.C_below HR0.out HB1.out))); rintro e w2 ⟨v2, rfl, ho, hb⟩; refine ⟨_, rfl, ?_⟩; have HB2 := Aside0.mk (below_step HB1.out hb); have HN := Aside0.mk ho; clear HB1 hb ho; obtain ⟨A2_, c2_, e2_⟩ := Kd.N_slice HN.out; subst e2_) | ((with_reducible refine gate_callee (f := 28) rfl ?_); refine goesL_ (some 13) rfl rfl Try.func28 (by kernel_rfl) rfl #[.slice A2_ t6.length c2_] rfl (by (try simp only [List.map_toArray, List.map_cons, List.map_nil]); first | done | rfl) ?_; (with_reducible refine (spec_SortPackets.calls k _ _ t6 s _ ?side1 ?side2 A3.out).mono ?_); (case side1 => exact (Kd.N_reads' HN.out).2.2); (case side2 => exact (Kd.N_reads' HN.out).2.1); rintro e w3 ⟨v3, rfl, ho, hb⟩; refine ⟨_, rfl, ?_⟩; have HS3 := Aside0.mk (Kd.S_lower ho HB2.out.size); have HB3 := Aside0.mk (below_step HB2.out hb); clear HB2 HN ho hb; obtain ⟨A3_, c3_, e3_⟩ := Kd.S_slice HS3.out; subst e3_))
  go_ret2
  exact ⟨_, rfl, HS3.out, HB3.out⟩

/-! ### laws_FnExactResultsOf: function 10, by this session's lawss.py -/
/-- A row of the call's own, in blocks from lo on and below hi. -/
def Own1 (W : World) (b lo hi : Nat) (v : Value) (l : List Int) : Prop := Kd.R (Kd.int .i64) 3 W b (fun k => lo ≤ k ∧ k < hi) v l
def Own2 (W : World) (b lo hi : Nat) (v : Value) (l : List (List Int)) : Prop := Kd.S (Kd.slice 3 (Kd.int .i64)) 22 W b (fun k => lo ≤ k ∧ k < hi) v l
theorem Own1.below {W W' : World} {b lo hi : Nat} {v : Value} {l : List Int} (h : Own1 W b lo hi v l) (hb : Below W.heap.size W W') : Own1 W' b lo hi v l := Kd.R_below h hb
theorem Own2.below {W W' : World} {b lo hi : Nat} {v : Value} {l : List (List Int)} (h : Own2 W b lo hi v l) (hb : Below W.heap.size W W') : Own2 W' b lo hi v l := Kd.S_below h hb
theorem Own1.kept {W W' : World} {b lo hi lo' hi' : Nat} {v : Value} {l : List Int} (h : Own1 W b lo hi v l) (hk : Kept W W' (fun k => lo' ≤ k ∧ k < hi')) (hd : hi ≤ lo' ∨ hi' ≤ lo) : Own1 W' b lo hi v l := Kd.R_kept h hk (fun k h1 h2 => by omega)
theorem Own2.kept {W W' : World} {b lo hi lo' hi' : Nat} {v : Value} {l : List (List Int)} (h : Own2 W b lo hi v l) (hk : Kept W W' (fun k => lo' ≤ k ∧ k < hi')) (hd : hi ≤ lo' ∨ hi' ≤ lo) : Own2 W' b lo hi v l := Kd.S_kept h hk (fun k h1 h2 => by omega)
theorem Own1.new {W W' : World} {b h : Nat} {v : Value} {l : List Int} (ho : Kd.R (Kd.int .i64) 3 W' W.heap.size (fun _ => True) v l) (hb : b ≤ h) (hz : h ≤ W.heap.size) (hw : W.heap.size ≤ W'.heap.size) : ∃ h', h ≤ h' ∧ h' ≤ W'.heap.size ∧ Own1 W' b h h' v l :=
 ⟨W'.heap.size, by omega, by omega, Kd.R_mono (Kd.R_lower (Kd.R_bound ho) (by omega)) (fun k hk => ⟨by have := hk.2.1; omega, hk.2.2.1⟩)⟩
theorem Own2.new {W W' : World} {b h : Nat} {v : Value} {l : List (List Int)} (ho : Kd.S (Kd.slice 3 (Kd.int .i64)) 22 W' W.heap.size (fun _ => True) v l) (hb : b ≤ h) (hz : h ≤ W.heap.size) (hw : W.heap.size ≤ W'.heap.size) : ∃ h', h ≤ h' ∧ h' ≤ W'.heap.size ∧ Own2 W' b h h' v l :=
 ⟨W'.heap.size, by omega, by omega, Kd.S_mono (Kd.S_lower (Kd.S_bound ho) (by omega)) (fun k hk => ⟨by have := hk.2.1; omega, hk.2.2.1⟩)⟩
theorem Own1.mark {W W' : World} {b lo hi : Nat} {v : Value} {l l' : List Int} {ok : Nat → Prop} (h : Own1 W b lo hi v l) (ho : Kd.R (Kd.int .i64) 3 W' b ok v l') : Own1 W' b lo hi v l' := Kd.R_reok rfl ho (fun k hk => h.1 k hk)
theorem Own1.slice {W : World} {b lo hi : Nat} {v : Value} {l : List Int} (h : Own1 W b lo hi v l) : ∃ A c, v = .slice A l.length c := Kd.R_slice h
theorem Own2.slice {W : World} {b lo hi : Nat} {v : Value} {l : List (List Int)} (h : Own2 W b lo hi v l) : ∃ A c, v = .slice A l.length c := Kd.S_slice h
theorem Own1.reads {W : World} {b lo hi n : Nat} {A : Option Addr} {c : Nat} {l : List Int} (h : Own1 W b lo hi (.slice A n c) l) : n = l.length ∧ n ≤ c ∧ Kd.C (Kd.int .i64) W A l.length l := Kd.R_reads' h
theorem Own2.reads {W : World} {b lo hi n : Nat} {A : Option Addr} {c : Nat} {l : List (List Int)} (h : Own2 W b lo hi (.slice A n c) l) : n = l.length ∧ n ≤ c ∧ Kd.C (Kd.slice 3 (Kd.int .i64)) W A l.length l := Kd.S_reads' h

def laws_FnExactResultsOf.Pure : Prop := ∀ (l0 : List Int) (a1 : Int), l0.length ≤ maxLen → l0.length * 8 ≤ 140737488351232 → (∀ x ∈ l0, (Lit.int .i64 x).wf = true) → (Lit.int .i64 a1).wf = true → l0.length > 1048576 ∨ ∃ (k : Nat) (r r' : List (List Int)) (b : Bool) (mm : Int) (m1 : Int) (l0' : List Int), laws_toIntS.f k l0 = some l0 ∧ spec_ResultsOf.f k l0 a1 = some (r, b) ∧ impl_ResultsOf.f k l0 a1 = some (r, b) ∧ laws_eqIntSS.f k r r = some true ∧ laws_eqIntS.f k l0 l0 = some true ∧ laws_markIntS.f k l0 1 = some (m1, l0') ∧ laws_markIntSS.f k r 1 = some (mm, r') ∧ laws_heldIntSS.f k r' 1 = some mm ∧ r'.length = r.length ∧ 0 ≤ mm ∧ 0 ≤ m1
set_option maxHeartbeats 16000000 in
set_option maxRecDepth 100000 in
theorem laws_FnExactResultsOf.walk (P : laws_FnExactResultsOf.Pure) (a0 : Option Addr) (len0 cap0 : Nat) (z0 : List Int) (a1 : Int) (w : World) (w0 : (a0 = none ∧ len0 = 0 ∧ cap0 = 0 ∧ z0 = []) ∨ ∃ x, a0 = some x ∧ len0 ≤ cap0 ∧ cap0 ≤ maxLen ∧ z0.length = cap0 ∧ (∀ i, i < z0.length → w.cell? (x.add i) = some (.int .i64 (z0.getD i 0))) ∧ ∀ n ∈ z0, (Lit.int .i64 n).wf = true) (y0 : len0 * 8 ≤ 140737488351232) (w1 : (Lit.int .i64 a1).wf = true) :
  Calls Try.prog 10 #[.slice a0 len0 cap0, .int .i64 a1] w fun e w' => e = .returned (.bool true) ∧ Below w.heap.size w w' := by
 obtain ⟨l0, rfl, hr0, hm0, hw0, hc0⟩ := ReadsInt.ofRowC w0
 rcases P l0 a1 hm0 y0 hw0 w1 with G0 | ⟨k, r, r', b, mm, m1, l0', EtI0, Es, Ei, EQ, EQ0, EM1, EMM, EH, hlen, hmm, hml⟩
 ·have c0 : decide (1048576 < (l0.length : Int)) = true := decide_eq_true (by omega)
  have c1 : decide (1048576 < l0.length) = true := decide_eq_true (by omega)
  clear G0
  go_enter Try.func10, Try.ntmps10
  go_wp2
  go_ret
  exact ⟨rfl, Below.refl _ _⟩
 ·by_cases g0 : 1048576 < l0.length
  ·have c0 : decide (1048576 < (l0.length : Int)) = true := decide_eq_true (by omega)
   have c1 : decide (1048576 < l0.length) = true := decide_eq_true (by omega)
   clear g0 EtI0 Es Ei EQ EQ0 EM1 EMM EH hlen hmm hml
   go_enter Try.func10, Try.ntmps10
   go_wp2
   go_ret
   exact ⟨rfl, Below.refl _ _⟩
  have c0 : decide (1048576 < (l0.length : Int)) = false := decide_eq_false (by omega)
  have c1 : decide (1048576 < l0.length) = false := decide_eq_false (by omega)
  clear g0
  have HR0 := Aside0.mk (Kd.C_of_reads (d := (0 : Int)) (h1 := fun _ => rfl) hr0)
  have HC0 := Aside0.mk hc0
  clear hr0 hc0 hm0 hw0
  have EtI0' := Aside0.mk EtI0
  clear EtI0
  have Es' := Aside0.mk Es
  clear Es
  have Ei' := Aside0.mk Ei
  clear Ei
  have EQ' := Aside0.mk EQ
  clear EQ
  have EQ0' := Aside0.mk EQ0
  clear EQ0
  have EM1' := Aside0.mk EM1
  clear EM1
  have EMM' := Aside0.mk EMM
  clear EMM
  have EH' := Aside0.mk EH
  clear EH
  have hlen' := Aside0.mk hlen
  clear hlen
  have c2 : decide (mm < 0) = false := decide_eq_false (by omega)
  have c3 : decide (m1 < 0) = false := decide_eq_false (by omega)
  clear hml
  clear hmm
  have HB := Aside0.mk (Below.refl w.heap.size w)
  have HZ := Aside0.mk (Nat.le_refl w.heap.size)
  have HH0 := Aside0.mk (Nat.le_refl w.heap.size)
  cases b
  all_goals
   go_enter Try.func10, Try.ntmps10
   go_wp2_with (first | ((with_reducible refine gate_callee (f := 13) rfl ?_); refine goesL_ (some 20) rfl rfl Try.func13 (by kernel_rfl) rfl #[.slice a0 l0.length cap0] rfl (by (try simp only [List.map_toArray, List.map_cons, List.map_nil]); first | done | rfl) ?_; (with_reducible refine (laws_toIntS.calls k _ _ l0 l0 _ ?side1 ?side2 EtI0'.out).mono ?_); (case side1 => exact Kd.C_below HR0.out HB.out); (case side2 => exact HC0.out); rintro e W0 ⟨v1, rfl, ho, hb⟩; refine ⟨_, rfl, ?_⟩; obtain ⟨h1, hh_, hz_, ho_⟩ := Own1.new ho HH0.out HZ.out hb.size; have HH1 := Aside0.mk hh_; have HH1B := Aside0.mk (Nat.le_trans HH0.out hh_); have b_ := Aside0.mk (below_step HB.out hb); clear HB HZ hb ho; have HB := b_; have HZ := Aside0.mk hz_; clear b_ hh_ hz_; have O1 := Aside0.mk ho_; clear ho_; obtain ⟨A1_, c1_, e_⟩ := O1.out.slice; subst e_) | ((with_reducible refine gate_callee (f := 43) rfl ?_); refine goesL_ (some 22) rfl rfl Try.func43 (by kernel_rfl) rfl #[.slice A1_ l0.length c1_, .int .i64 a1] rfl (by (try simp only [List.map_toArray, List.map_cons, List.map_nil]); first | done | rfl) ?_; (with_reducible refine (spec_ResultsOf.calls k _ _ l0 a1 r _ _ ?side1 ?side2 Es'.out).mono ?_); (case side1 => exact O1.out.reads.2.2); (case side2 => exact O1.out.reads.2.1); rintro e W1 ⟨v2, rfl, ho, hb⟩; refine ⟨_, rfl, ?_⟩; have n1_ := Aside0.mk (Own1.below O1.out hb); obtain ⟨h2, hh_, hz_, ho_⟩ := Own2.new ho HH1B.out HZ.out hb.size; have HH2 := Aside0.mk hh_; have HH2B := Aside0.mk (Nat.le_trans HH1B.out hh_); have b_ := Aside0.mk (below_step HB.out hb); clear HB HZ hb ho; have HB := b_; have HZ := Aside0.mk hz_; clear b_ hh_ hz_; clear O1; have O1 := n1_; clear n1_; have O2 := Aside0.mk ho_; clear ho_; obtain ⟨A2_, c2_, e_⟩ := O2.out.slice; subst e_) | ((with_reducible refine gate_callee (f := 13) rfl ?_); refine goesL_ (some 26) rfl rfl Try.func13 (by kernel_rfl) rfl #[.slice a0 l0.length cap0] rfl (by (try simp only [List.map_toArray, List.map_cons, List.map_nil]); first | done | rfl) ?_; (with_reducible refine (laws_toIntS.calls k _ _ l0 l0 _ ?side1 ?side2 EtI0'.out).mono ?_); (case side1 => exact Kd.C_below HR0.out HB.out); (case side2 => exact HC0.out); rintro e W2 ⟨v3, rfl, ho, hb⟩; refine ⟨_, rfl, ?_⟩; have n2_ := Aside0.mk (Own2.below O2.out hb); obtain ⟨h3, hh_, hz_, ho_⟩ := Own1.new ho HH2B.out HZ.out hb.size; have HH3 := Aside0.mk hh_; have HH3B := Aside0.mk (Nat.le_trans HH2B.out hh_); have b_ := Aside0.mk (below_step HB.out hb); clear HB HZ hb ho; have HB := b_; have HZ := Aside0.mk hz_; clear b_ hh_ hz_; clear O1; clear O2; have O2 := n2_; clear n2_; have O3 := Aside0.mk ho_; clear ho_; obtain ⟨A3_, c3_, e_⟩ := O3.out.slice; subst e_) | ((with_reducible refine gate_callee (f := 35) rfl ?_); refine goesL_ (some 30) rfl rfl Try.func35 (by kernel_rfl) rfl #[.slice A3_ l0.length c3_, .int .i64 a1] rfl (by (try simp only [List.map_toArray, List.map_cons, List.map_nil]); first | done | rfl) ?_; (with_reducible refine (impl_ResultsOf.calls k _ _ l0 a1 r _ _ ?side1 ?side2 Ei'.out).mono ?_); (case side1 => exact O3.out.reads.2.2); (case side2 => exact O3.out.reads.2.1); rintro e W3 ⟨v4, rfl, ho, hb⟩; refine ⟨_, rfl, ?_⟩; have n2_ := Aside0.mk (Own2.below O2.out hb); have n3_ := Aside0.mk (Own1.below O3.out hb); obtain ⟨h4, hh_, hz_, ho_⟩ := Own2.new ho HH3B.out HZ.out hb.size; have HH4 := Aside0.mk hh_; have HH4B := Aside0.mk (Nat.le_trans HH3B.out hh_); have b_ := Aside0.mk (below_step HB.out hb); clear HB HZ hb ho; have HB := b_; have HZ := Aside0.mk hz_; clear b_ hh_ hz_; clear O2; clear O3; have O2 := n2_; clear n2_; have O3 := n3_; clear n3_; have O4 := Aside0.mk ho_; clear ho_; obtain ⟨A4_, c4_, e_⟩ := O4.out.slice; subst e_) | ((with_reducible refine gate_callee (f := 31) rfl ?_); refine goesL_ (some 35) rfl rfl Try.func31 (by kernel_rfl) rfl #[.slice A4_ r.length c4_, .slice A2_ r.length c2_] rfl (by (try simp only [List.map_toArray, List.map_cons, List.map_nil]); first | done | rfl) ?_; (with_reducible refine (laws_eqIntSS.calls k _ _ r _ _ r true _ ?side1 ?side2 ?side3 ?side4 EQ'.out).mono ?_); (case side1 => exact O4.out.reads.2.2); (case side2 => exact O4.out.reads.2.1); (case side3 => exact O2.out.reads.2.2); (case side4 => exact O2.out.reads.2.1); rintro e W4 ⟨rfl, ⟨nd4, rfl⟩⟩; refine ⟨_, rfl, ?_⟩; have hb := pw_below_drewN (Below.refl W3.heap.size W3) nd4; have n2_ := Aside0.mk (Own2.below O2.out hb); have n3_ := Aside0.mk (Own1.below O3.out hb); have n4_ := Aside0.mk (Own2.below O4.out hb); have b_ := Aside0.mk (below_step HB.out hb); have z_ := Aside0.mk (Nat.le_trans HZ.out hb.size); clear HB HZ hb; have HB := b_; have HZ := z_; clear b_ z_; clear O2; clear O3; clear O4; have O2 := n2_; clear n2_; have O3 := n3_; clear n3_; have O4 := n4_; clear n4_) | ((with_reducible refine gate_callee (f := 13) rfl ?_); refine goesL_ (some 44) rfl rfl Try.func13 (by kernel_rfl) rfl #[.slice a0 l0.length cap0] rfl (by (try simp only [List.map_toArray, List.map_cons, List.map_nil]); first | done | rfl) ?_; (with_reducible refine (laws_toIntS.calls k _ _ l0 l0 _ ?side1 ?side2 EtI0'.out).mono ?_); (case side1 => exact Kd.C_below HR0.out HB.out); (case side2 => exact HC0.out); rintro e W5 ⟨v5, rfl, ho, hb⟩; refine ⟨_, rfl, ?_⟩; have n2_ := Aside0.mk (Own2.below O2.out hb); have n3_ := Aside0.mk (Own1.below O3.out hb); have n4_ := Aside0.mk (Own2.below O4.out hb); obtain ⟨h5, hh_, hz_, ho_⟩ := Own1.new ho HH4B.out HZ.out hb.size; have HH5 := Aside0.mk hh_; have HH5B := Aside0.mk (Nat.le_trans HH4B.out hh_); have b_ := Aside0.mk (below_step HB.out hb); clear HB HZ hb ho; have HB := b_; have HZ := Aside0.mk hz_; clear b_ hh_ hz_; clear O2; clear O3; clear O4; have O2 := n2_; clear n2_; have O3 := n3_; clear n3_; have O4 := n4_; clear n4_; have O5 := Aside0.mk ho_; clear ho_; obtain ⟨A5_, c5_, e_⟩ := O5.out.slice; subst e_) | ((with_reducible refine gate_callee (f := 16) rfl ?_); refine goesL_ (some 45) rfl rfl Try.func16 (by kernel_rfl) rfl #[.slice A3_ l0.length c3_, .slice A5_ l0.length c5_] rfl (by (try simp only [List.map_toArray, List.map_cons, List.map_nil]); first | done | rfl) ?_; (with_reducible refine (laws_eqIntS.calls k _ _ l0 _ _ l0 true _ ?side1 ?side2 ?side3 ?side4 EQ0'.out).mono ?_); (case side1 => exact O3.out.reads.2.2); (case side2 => exact O3.out.reads.2.1); (case side3 => exact O5.out.reads.2.2); (case side4 => exact O5.out.reads.2.1); rintro e W6 ⟨rfl, ⟨nd6, rfl⟩⟩; refine ⟨_, rfl, ?_⟩; have hb := pw_below_drewN (Below.refl W5.heap.size W5) nd6; have n2_ := Aside0.mk (Own2.below O2.out hb); have n3_ := Aside0.mk (Own1.below O3.out hb); have n4_ := Aside0.mk (Own2.below O4.out hb); have n5_ := Aside0.mk (Own1.below O5.out hb); have b_ := Aside0.mk (below_step HB.out hb); have z_ := Aside0.mk (Nat.le_trans HZ.out hb.size); clear HB HZ hb; have HB := b_; have HZ := z_; clear b_ z_; clear O2; clear O3; clear O4; clear O5; have O2 := n2_; clear n2_; have O3 := n3_; clear n3_; have O4 := n4_; clear n4_; have O5 := n5_; clear n5_) | ((with_reducible refine gate_callee (f := 17) rfl ?_); refine goesL_ (some 49) rfl rfl Try.func17 (by kernel_rfl) rfl #[.slice A3_ l0.length c3_, .int .i64 1] rfl (by (try simp only [List.map_toArray, List.map_cons, List.map_nil]); first | done | rfl) ?_; (with_reducible refine (laws_markIntS.calls k (fun k_ => h2 ≤ k_ ∧ k_ < h3) _ l0 1 m1 l0' w _ ?side1 ?side2 EM1'.out).mono ?_); (case side1 => exact HB.out); (case side2 => exact O3.out); rintro e W7 ⟨rfl, ho, hb, hk⟩; refine ⟨_, rfl, ?_⟩; have n2_ := Aside0.mk (Own2.kept O2.out hk (by have := HH1.out; have := HH2.out; have := HH3.out; have := HH4.out; have := HH5.out; omega)); have n3_ := Aside0.mk (Own1.mark O3.out ho); have n4_ := Aside0.mk (Own2.kept O4.out hk (by have := HH1.out; have := HH2.out; have := HH3.out; have := HH4.out; have := HH5.out; omega)); have z_ := Aside0.mk (Nat.le_trans HZ.out hk.1); clear HB HZ hk ho; have HB := Aside0.mk hb; have HZ := z_; clear hb z_; clear O2; clear O3; clear O4; clear O5; have O2 := n2_; clear n2_; have O3 := n3_; clear n3_; have O4 := n4_; clear n4_) | (go_at_call 31; (with_reducible refine (laws_eqIntSS.calls k _ _ r _ _ r true _ ?side1 ?side2 ?side3 ?side4 EQ'.out).mono ?_); (case side1 => exact O4.out.reads.2.2); (case side2 => exact O4.out.reads.2.1); (case side3 => exact O2.out.reads.2.2); (case side4 => exact O2.out.reads.2.1); rintro e W8 ⟨rfl, ⟨nd8, rfl⟩⟩; have hb := pw_below_drewN (Below.refl W7.heap.size W7) nd8; have n2_ := Aside0.mk (Own2.below O2.out hb); have n4_ := Aside0.mk (Own2.below O4.out hb); have b_ := Aside0.mk (below_step HB.out hb); have z_ := Aside0.mk (Nat.le_trans HZ.out hb.size); clear HB HZ hb; have HB := b_; have HZ := z_; clear b_ z_; clear O2; clear O3; clear O4; have O2 := n2_; clear n2_; have O4 := n4_; clear n4_) | ((with_reducible refine gate_callee (f := 32) rfl ?_); refine goesL_ (some 65) rfl rfl Try.func32 (by kernel_rfl) rfl #[.slice A4_ r.length c4_, .int .i64 1] rfl (by (try simp only [List.map_toArray, List.map_cons, List.map_nil]); first | done | rfl) ?_; (with_reducible refine (laws_markIntSS.calls k (fun k_ => h3 ≤ k_ ∧ k_ < h4) _ r 1 mm r' w _ ?side1 ?side2 EMM'.out).mono ?_); (case side1 => exact HB.out); (case side2 => exact O4.out); rintro e W9 ⟨rfl, ho, hb, hk⟩; refine ⟨_, rfl, ?_⟩; have n2_ := Aside0.mk (Own2.kept O2.out hk (by have := HH1.out; have := HH2.out; have := HH3.out; have := HH4.out; have := HH5.out; omega)); have n4_ := Aside0.mk (show Own2 _ _ _ _ _ _ from ho); have z_ := Aside0.mk (Nat.le_trans HZ.out hk.1); clear HB HZ hk ho; have HB := Aside0.mk hb; have HZ := z_; clear hb z_; clear O2; clear O4; have O2 := n2_; clear n2_; have O4 := n4_; clear n4_) | ((with_reducible refine gate_callee (f := 33) rfl ?_); refine goesL_ (some 68) rfl rfl Try.func33 (by kernel_rfl) rfl #[.slice A4_ r.length c4_, .int .i64 1] rfl (by (try simp only [List.map_toArray, List.map_cons, List.map_nil]); first | done | rfl) ?_; (refine calls_of_args (args' := #[.slice A4_ r'.length c4_, .int .i64 1]) (by rw [hlen'.out]) ?_); (with_reducible refine (laws_heldIntSS.calls k _ _ r' 1 mm _ ?side1 ?side2 EH'.out).mono ?_); (case side1 => exact O4.out.reads.2.2); (case side2 => exact (by have := O4.out.reads.2.1; rw [← hlen'.out] at this; exact this)); rintro e W10 ⟨rfl, ⟨nd10, rfl⟩⟩; refine ⟨_, rfl, ?_⟩; have hb := pw_below_drewN (Below.refl W9.heap.size W9) nd10; have n2_ := Aside0.mk (Own2.below O2.out hb); have n4_ := Aside0.mk (Own2.below O4.out hb); have b_ := Aside0.mk (below_step HB.out hb); have z_ := Aside0.mk (Nat.le_trans HZ.out hb.size); clear HB HZ hb; have HB := b_; have HZ := z_; clear b_ z_; clear O2; clear O4; have O2 := n2_; clear n2_; have O4 := n4_; clear n4_) | ((with_reducible refine gate_callee (f := 13) rfl ?_); refine goesL_ (some 76) rfl rfl Try.func13 (by kernel_rfl) rfl #[.slice a0 l0.length cap0] rfl (by (try simp only [List.map_toArray, List.map_cons, List.map_nil]); first | done | rfl) ?_; (with_reducible refine (laws_toIntS.calls k _ _ l0 l0 _ ?side1 ?side2 EtI0'.out).mono ?_); (case side1 => exact Kd.C_below HR0.out HB.out); (case side2 => exact HC0.out); rintro e W11 ⟨v6, rfl, ho, hb⟩; refine ⟨_, rfl, ?_⟩; have n2_ := Aside0.mk (Own2.below O2.out hb); have n4_ := Aside0.mk (Own2.below O4.out hb); obtain ⟨h6, hh_, hz_, ho_⟩ := Own1.new ho HH5B.out HZ.out hb.size; have HH6 := Aside0.mk hh_; have HH6B := Aside0.mk (Nat.le_trans HH5B.out hh_); have b_ := Aside0.mk (below_step HB.out hb); clear HB HZ hb ho; have HB := b_; have HZ := Aside0.mk hz_; clear b_ hh_ hz_; clear O2; clear O4; have O2 := n2_; clear n2_; have O4 := n4_; clear n4_; have O6 := Aside0.mk ho_; clear ho_; obtain ⟨A6_, c6_, e_⟩ := O6.out.slice; subst e_) | ((with_reducible refine gate_callee (f := 35) rfl ?_); refine goesL_ (some 78) rfl rfl Try.func35 (by kernel_rfl) rfl #[.slice A6_ l0.length c6_, .int .i64 a1] rfl (by (try simp only [List.map_toArray, List.map_cons, List.map_nil]); first | done | rfl) ?_; (with_reducible refine (impl_ResultsOf.calls k _ _ l0 a1 r _ _ ?side1 ?side2 Ei'.out).mono ?_); (case side1 => exact O6.out.reads.2.2); (case side2 => exact O6.out.reads.2.1); rintro e W12 ⟨v7, rfl, ho, hb⟩; refine ⟨_, rfl, ?_⟩; have n2_ := Aside0.mk (Own2.below O2.out hb); have n4_ := Aside0.mk (Own2.below O4.out hb); have n6_ := Aside0.mk (Own1.below O6.out hb); obtain ⟨h7, hh_, hz_, ho_⟩ := Own2.new ho HH6B.out HZ.out hb.size; have HH7 := Aside0.mk hh_; have HH7B := Aside0.mk (Nat.le_trans HH6B.out hh_); have b_ := Aside0.mk (below_step HB.out hb); clear HB HZ hb ho; have HB := b_; have HZ := Aside0.mk hz_; clear b_ hh_ hz_; clear O2; clear O4; clear O6; have O2 := n2_; clear n2_; have O4 := n4_; clear n4_; have O6 := n6_; clear n6_; have O7 := Aside0.mk ho_; clear ho_; obtain ⟨A7_, c7_, e_⟩ := O7.out.slice; subst e_) | ((with_reducible refine gate_callee (f := 31) rfl ?_); refine goesL_ (some 83) rfl rfl Try.func31 (by kernel_rfl) rfl #[.slice A7_ r.length c7_, .slice A2_ r.length c2_] rfl (by (try simp only [List.map_toArray, List.map_cons, List.map_nil]); first | done | rfl) ?_; (with_reducible refine (laws_eqIntSS.calls k _ _ r _ _ r true _ ?side1 ?side2 ?side3 ?side4 EQ'.out).mono ?_); (case side1 => exact O7.out.reads.2.2); (case side2 => exact O7.out.reads.2.1); (case side3 => exact O2.out.reads.2.2); (case side4 => exact O2.out.reads.2.1); rintro e W13 ⟨rfl, ⟨nd13, rfl⟩⟩; refine ⟨_, rfl, ?_⟩; have hb := pw_below_drewN (Below.refl W12.heap.size W12) nd13; have n2_ := Aside0.mk (Own2.below O2.out hb); have n4_ := Aside0.mk (Own2.below O4.out hb); have n7_ := Aside0.mk (Own2.below O7.out hb); have b_ := Aside0.mk (below_step HB.out hb); have z_ := Aside0.mk (Nat.le_trans HZ.out hb.size); clear HB HZ hb; have HB := b_; have HZ := z_; clear b_ z_; clear O2; clear O4; clear O6; clear O7; have O2 := n2_; clear n2_; have O4 := n4_; clear n4_; have O7 := n7_; clear n7_) | ((with_reducible refine gate_callee (f := 33) rfl ?_); refine goesL_ (some 92) rfl rfl Try.func33 (by kernel_rfl) rfl #[.slice A4_ r.length c4_, .int .i64 1] rfl (by (try simp only [List.map_toArray, List.map_cons, List.map_nil]); first | done | rfl) ?_; (refine calls_of_args (args' := #[.slice A4_ r'.length c4_, .int .i64 1]) (by rw [hlen'.out]) ?_); (with_reducible refine (laws_heldIntSS.calls k _ _ r' 1 mm _ ?side1 ?side2 EH'.out).mono ?_); (case side1 => exact O4.out.reads.2.2); (case side2 => exact (by have := O4.out.reads.2.1; rw [← hlen'.out] at this; exact this)); rintro e W14 ⟨rfl, ⟨nd14, rfl⟩⟩; refine ⟨_, rfl, ?_⟩; have hb := pw_below_drewN (Below.refl (W12.drewN nd13).heap.size (W12.drewN nd13)) nd14; have n4_ := Aside0.mk (Own2.below O4.out hb); have b_ := Aside0.mk (below_step HB.out hb); have z_ := Aside0.mk (Nat.le_trans HZ.out hb.size); clear HB HZ hb; have HB := b_; have HZ := z_; clear b_ z_; clear O2; clear O4; clear O7; have O4 := n4_; clear n4_))
   go_ret
   exact ⟨rfl, by first | exact HB.out | (have h_ := HB.out; simp only [World.drewN_drewN] at h_; exact h_)⟩

end Go.Proofs.Ytbghkcgglhoopaa.MFnExactResultsOf
