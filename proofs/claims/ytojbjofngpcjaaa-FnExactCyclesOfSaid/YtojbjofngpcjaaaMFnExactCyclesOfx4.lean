-- Written by this session's own program (wip/tools/myprint.py), over the kit's printer.
import Derived.Test.YtojbjofngpcjaaaMFnExactCyclesOfx0
import Derived.Test.YtojbjofngpcjaaaMFnExactCyclesOfx1
import Derived.Test.YtojbjofngpcjaaaMFnExactCyclesOfx2
import Derived.Test.YtojbjofngpcjaaaMFnExactCyclesOfx3
namespace Go.Proofs.Ytojbjofngpcjaaa.MFnExactCyclesOf
open Go.RowKit Go.Proofs.YtojbjofngpcjaaaW.PrintWords Go.Proofs.YtojbjofngpcjaaaW.PrintLast Go.Proofs.YtojbjofngpcjaaaW.PrintMore
attribute [local go_sem] max2_int min2_int max_two min_two max_three min_three max_four min_four   -- for this text's walks alone
set_option linter.unusedVariables false
set_option linter.unusedSimpArgs false

/-! ### laws_heldIntSS: function 24 -/
def laws_heldIntSS.l0 : Nat → List (List Int) → Int → Int → Option (Int)
  | 0, _, _, _ => none
  | k + 1, x0, x1, x5 => if x5 < (x0.length : Int) then (if 0 ≤ x5 then ((laws_heldIntS.f k (rd_L1 x0 x5) x1).bind fun t163 => (if t163 < 0 then (some (-1)) else (laws_heldIntSS.l0 k x0 t163 (wrap64 (x5 + 1))))) else (none)) else (some x1)
def laws_heldIntSS.f (k : Nat) (l0 : List (List Int)) (a1 : Int) : Option (Int) := laws_heldIntSS.l0 k l0 a1 0
theorem laws_heldIntSS.mono_l : ∀ k, (∀ y0 y1 y2, LeO (laws_heldIntSS.l0 k y0 y1 y2) (laws_heldIntSS.l0 (k + 1) y0 y1 y2))
  | 0 => fun _ _ _ r h => by simp [laws_heldIntSS.l0] at h
  | k + 1 => by
    have ih0 := laws_heldIntSS.mono_l k
    · intro y0 y1 y2
      unfold laws_heldIntSS.l0
      repeat' first
      | (with_reducible exact ih0 _ _ _)
      | (with_reducible exact laws_heldIntS.mono _ _ _)
      | (with_reducible exact LeO.refl _)
      | (with_reducible exact LeO.none _)
      | (with_reducible refine LeO.ite ?_ ?_)
      | (with_reducible refine LeO.bind ?_ (fun _ => ?_))
      | exact ih0 _ _ _
      | exact laws_heldIntS.mono _ _ _
      | exact LeO.none _
      | refine LeO.ite ?_ ?_
      | refine LeO.bind ?_ (fun _ => ?_)
theorem laws_heldIntSS.mono : ∀ a0 a1 k, LeO (laws_heldIntSS.f k a0 a1) (laws_heldIntSS.f (k + 1) a0 a1) := by
  intro a0 a1 k
  have ih0 := laws_heldIntSS.mono_l k
  unfold laws_heldIntSS.f
  repeat' first
      | (with_reducible exact ih0 _ _ _)
      | (with_reducible exact laws_heldIntS.mono _ _ _)
      | (with_reducible exact LeO.refl _)
      | (with_reducible exact LeO.none _)
      | (with_reducible refine LeO.ite ?_ ?_)
      | (with_reducible refine LeO.bind ?_ (fun _ => ?_))
      | exact ih0 _ _ _
      | exact laws_heldIntS.mono _ _ _
      | exact LeO.none _
      | refine LeO.ite ?_ ?_
      | refine LeO.bind ?_ (fun _ => ?_)
set_option maxHeartbeats 8000000 in
set_option maxRecDepth 100000 in
theorem laws_heldIntSS.calls (k : Nat) (A0 : Option Addr) (c0 : Nat) (l0 : List (List Int)) (a1 : Int) (r : Int) (w : World) (hr0 : Kd.C (Kd.slice 3 (Kd.int .i64)) w A0 l0.length l0) (hc0 : l0.length ≤ c0) (h : laws_heldIntSS.f k l0 a1 = some r) :
    Calls Try.prog 24 #[.slice A0 l0.length c0, .int .i64 a1] w fun e w' => e = .returned (.int .i64 r) ∧ Drawn0 w w' := by
  have HR0 := Aside0.mk hr0
  have HC0 := Aside0.mk hc0
  clear hr0 hc0
  have H : (laws_heldIntSS.l0 k l0 a1 0) = some r := h
  clear h
  have H' := Aside0.mk H
  clear H
  go_enter Try.func24, Try.ntmps24
  go_wp2
  go_loopg [1, 5] k (fun kq v1 v5 w' => ∃ (x1_1 : Int) (x5_1 : Int), v1 = .int .i64 x1_1 ∧ v5 = .int .i64 x5_1 ∧ Aside0 (laws_heldIntSS.l0 kq l0 x1_1 x5_1 = some r) ∧ Aside0 (kq ≤ k) ∧ Drawn0 w w')
  case atStart => exact ⟨(a1), (0), (by first | rfl | (simp; done) | (simp [*]; done)), (by first | rfl | (simp; done) | (simp [*]; done)), H', ⟨Nat.le_refl _⟩, by repeat (first | exact Drawn0.refl _ | apply Drawn0.step)⟩
  case round =>
    clear H'
    try clear c2
    try clear p2
    obtain ⟨x1_1, x5_1, rfl, rfl, HA, HK1, ⟨m1, rfl⟩⟩ := hrel
    cases gk with
    | zero => exact absurd HA.out (by simp [laws_heldIntSS.l0])
    | succ k1 =>
      have H := HA.out
      clear HA
      simp only [laws_heldIntSS.l0] at H
      by_cases c3 : x5_1 < (l0.length : Int)
      · rw [if_pos c3] at H
        have c3b0 : decide (x5_1 < (l0.length : Int)) = true := decide_eq_true c3
        clear c3
        by_cases c4 : 0 ≤ x5_1
        · rw [if_pos c4] at H
          have c4b0 : decide (0 ≤ x5_1) = true := decide_eq_true c4
          clear c4
          replace H := Option.bind_eq_some_iff.mp H
          obtain ⟨t163, A50, H⟩ := H
          replace H : (if t163 < 0 then (some (-1)) else (laws_heldIntSS.l0 k1 l0 t163 (wrap64 (x5_1 + 1)))) = some r := H
          have A5 := Aside0.mk A50
          clear A50
          by_cases c6 : t163 < 0
          · rw [if_pos c6] at H
            have c6b0 : decide (t163 < 0) = true := decide_eq_true c6
            clear c6
            obtain rfl := Option.some.inj H
            have p162 : 0 ≤ (x5_1 : Int) := of_decide_eq_true (by first | (with_reducible assumption) | assumption)
            have q162 : x5_1 < (l0.length : Int) := of_decide_eq_true (by first | (with_reducible assumption) | assumption)
            obtain ⟨ad162, A162_0, c162_0, e162, hx162_0, hl162_0, hi162_0⟩ := at_L1 HR0.out x5_1 p162 q162
            cases e162
            have HR162_0 := Aside0.mk hi162_0
            have HC162_0 := Aside0.mk hl162_0
            clear hi162_0 hl162_0
            replace p162 := eq_true p162
            replace q162 := eq_true q162
            go_wp2_with (first | ((with_reducible refine gate_callee (f := 29) rfl ?_); refine goesL_ (some 17) rfl rfl Try.func29 (by kernel_rfl) rfl #[.slice A162_0 (rd_L1 l0 x5_1).length c162_0, .int .i64 x1_1] rfl (by (try simp only [List.map_toArray, List.map_cons, List.map_nil]); first | done | rfl | (simp only [List.length_drop, List.length_take]; rfl)) ?_; (with_reducible refine (laws_heldIntS.calls k1 _ _ (rd_L1 l0 x5_1) x1_1 t163 _ ?side1 ?side2 A5.out).mono ?_); (case side1 => repeat (first | exact HR162_0.out | (with_reducible refine Kd.C_alloc ?_ _) | (with_reducible refine Kd.C_drewN ?_ _) | (with_reducible refine Kd.C_drew ?_))); (case side2 => exact HC162_0.out); rintro e w' ⟨rfl, ⟨nd, rfl⟩⟩; refine ⟨_, rfl, ?_⟩))
            go_ret
            exact ⟨by first | rfl | (simp; done) | (simp [*]; done), by repeat (first | exact Drawn0.refl _ | apply Drawn0.step)⟩
          · rw [if_neg c6] at H
            have c6b0 : decide (t163 < 0) = false := decide_eq_false c6
            clear c6
            have H' := Aside0.mk H
            clear H
            have p162 : 0 ≤ (x5_1 : Int) := of_decide_eq_true (by first | (with_reducible assumption) | assumption)
            have q162 : x5_1 < (l0.length : Int) := of_decide_eq_true (by first | (with_reducible assumption) | assumption)
            obtain ⟨ad162, A162_0, c162_0, e162, hx162_0, hl162_0, hi162_0⟩ := at_L1 HR0.out x5_1 p162 q162
            cases e162
            have HR162_0 := Aside0.mk hi162_0
            have HC162_0 := Aside0.mk hl162_0
            clear hi162_0 hl162_0
            replace p162 := eq_true p162
            replace q162 := eq_true q162
            go_wp2_with (first | ((with_reducible refine gate_callee (f := 29) rfl ?_); refine goesL_ (some 17) rfl rfl Try.func29 (by kernel_rfl) rfl #[.slice A162_0 (rd_L1 l0 x5_1).length c162_0, .int .i64 x1_1] rfl (by (try simp only [List.map_toArray, List.map_cons, List.map_nil]); first | done | rfl | (simp only [List.length_drop, List.length_take]; rfl)) ?_; (with_reducible refine (laws_heldIntS.calls k1 _ _ (rd_L1 l0 x5_1) x1_1 t163 _ ?side1 ?side2 A5.out).mono ?_); (case side1 => repeat (first | exact HR162_0.out | (with_reducible refine Kd.C_alloc ?_ _) | (with_reducible refine Kd.C_drewN ?_ _) | (with_reducible refine Kd.C_drew ?_))); (case side2 => exact HC162_0.out); rintro e w' ⟨rfl, ⟨nd, rfl⟩⟩; refine ⟨_, rfl, ?_⟩))
            go_roundg k1
            case measure => have := HK1.out; omega
            case rel => exact ⟨(t163), (wrap64 (x5_1 + 1)), (by first | rfl | (simp; done) | (simp [*]; done)), (by first | rfl | (simp; done) | (simp [*]; done)), H', ⟨by have := HK1.out; omega⟩, by repeat (first | exact Drawn0.refl _ | apply Drawn0.step)⟩
        · rw [if_neg c4] at H
          exact absurd H (by simp)
      · rw [if_neg c3] at H
        have c3b0 : decide (x5_1 < (l0.length : Int)) = false := decide_eq_false c3
        clear c3
        obtain rfl := Option.some.inj H
        go_wp2
        go_ret
        exact ⟨by first | rfl | (simp; done) | (simp [*]; done), by repeat (first | exact Drawn0.refl _ | apply Drawn0.step)⟩

/-! ### laws_FnExactCyclesOf: function 4, by this session's lawss.py -/
/-- A row of the call's own, in blocks from lo on and below hi. -/
def Own1 (W : World) (b lo hi : Nat) (v : Value) (l : List Int) : Prop := Kd.R (Kd.int .i64) 3 W b (fun k => lo ≤ k ∧ k < hi) v l
def Own2 (W : World) (b lo hi : Nat) (v : Value) (l : List (List Int)) : Prop := Kd.S (Kd.slice 3 (Kd.int .i64)) 22 W b (fun k => lo ≤ k ∧ k < hi) v l
theorem Own1.below {W W' : World} {b lo hi : Nat} {v : Value} {l : List Int} (h : Own1 W b lo hi v l) (hb : Below W.heap.size W W') : Own1 W' b lo hi v l := Kd.R_below h hb
theorem Own2.below {W W' : World} {b lo hi : Nat} {v : Value} {l : List (List Int)} (h : Own2 W b lo hi v l) (hb : Below W.heap.size W W') : Own2 W' b lo hi v l := Kd.S_below h hb
theorem Own1.kept {W W' : World} {b lo hi lo' hi' : Nat} {v : Value} {l : List Int} (h : Own1 W b lo hi v l) (hk : Kept W W' (fun k => lo' ≤ k ∧ k < hi')) (hd : hi ≤ lo' ∨ hi' ≤ lo) : Own1 W' b lo hi v l := Kd.R_kept h hk (fun k h1 h2 => by omega)
theorem Own2.kept {W W' : World} {b lo hi lo' hi' : Nat} {v : Value} {l : List (List Int)} (h : Own2 W b lo hi v l) (hk : Kept W W' (fun k => lo' ≤ k ∧ k < hi')) (hd : hi ≤ lo' ∨ hi' ≤ lo) : Own2 W' b lo hi v l := Kd.S_kept h hk (fun k h1 h2 => by omega)
theorem Own1.new {W W' : World} {b h : Nat} {v : Value} {l : List Int} (ho : Kd.R (Kd.int .i64) 3 W' W.heap.size (fun _ => True) v l) (hb : b ≤ h) (hz : h ≤ W.heap.size) (hw : W.heap.size ≤ W'.heap.size) : ∃ h', h ≤ h' ∧ h' ≤ W'.heap.size ∧ Own1 W' b h h' v l :=
  ⟨W'.heap.size, by omega, by omega, Kd.R_mono (Kd.R_lower (Kd.R_bound ho) (by omega)) (fun k hk => ⟨by have := hk.2.1; omega, hk.2.2.1⟩)⟩
theorem Own2.new {W W' : World} {b h : Nat} {v : Value} {l : List (List Int)} (ho : Kd.S (Kd.slice 3 (Kd.int .i64)) 22 W' W.heap.size (fun _ => True) v l) (hb : b ≤ h) (hz : h ≤ W.heap.size) (hw : W.heap.size ≤ W'.heap.size) : ∃ h', h ≤ h' ∧ h' ≤ W'.heap.size ∧ Own2 W' b h h' v l :=
  ⟨W'.heap.size, by omega, by omega, Kd.S_mono (Kd.S_lower (Kd.S_bound ho) (by omega)) (fun k hk => ⟨by have := hk.2.1; omega, hk.2.2.1⟩)⟩
theorem Own1.mark {W W' : World} {b lo hi : Nat} {v : Value} {l l' : List Int} {ok : Nat → Prop} (h : Own1 W b lo hi v l) (ho : Kd.R (Kd.int .i64) 3 W' b ok v l') : Own1 W' b lo hi v l' := Kd.R_reok rfl ho (fun k hk => h.1 k hk)
theorem Own1.slice {W : World} {b lo hi : Nat} {v : Value} {l : List Int} (h : Own1 W b lo hi v l) : ∃ A c, v = .slice A l.length c := Kd.R_slice h
theorem Own2.slice {W : World} {b lo hi : Nat} {v : Value} {l : List (List Int)} (h : Own2 W b lo hi v l) : ∃ A c, v = .slice A l.length c := Kd.S_slice h
theorem Own1.reads {W : World} {b lo hi n : Nat} {A : Option Addr} {c : Nat} {l : List Int} (h : Own1 W b lo hi (.slice A n c) l) : n = l.length ∧ n ≤ c ∧ Kd.C (Kd.int .i64) W A l.length l := Kd.R_reads' h
theorem Own2.reads {W : World} {b lo hi n : Nat} {A : Option Addr} {c : Nat} {l : List (List Int)} (h : Own2 W b lo hi (.slice A n c) l) : n = l.length ∧ n ≤ c ∧ Kd.C (Kd.slice 3 (Kd.int .i64)) W A l.length l := Kd.S_reads' h

def laws_FnExactCyclesOf.Pure : Prop := ∀ (l0 : List Int), l0.length ≤ maxLen → l0.length * 8 ≤ 140737488351232 → (∀ x ∈ l0, (Lit.int .i64 x).wf = true) → l0.length > 1048576 ∨ ∃ (k : Nat) (r r' : List (List Int)) (mm : Int) (m1 : Int) (l0' : List Int), laws_toIntS.f k l0 = some l0 ∧ spec_CyclesOf.f k l0 = some r ∧ impl_CyclesOf.f k l0 = some r ∧ laws_eqIntSS.f k r r = some true ∧ laws_eqIntS.f k l0 l0 = some true ∧ laws_markIntS.f k l0 1 = some (m1, l0') ∧ laws_markIntSS.f k r 1 = some (mm, r') ∧ laws_heldIntSS.f k r' 1 = some mm ∧ r'.length = r.length ∧ 0 ≤ mm ∧ 0 ≤ m1
set_option maxHeartbeats 16000000 in
set_option maxRecDepth 100000 in
theorem laws_FnExactCyclesOf.walk (P : laws_FnExactCyclesOf.Pure) (a0 : Option Addr) (len0 cap0 : Nat) (z0 : List Int) (w : World) (w0 : (a0 = none ∧ len0 = 0 ∧ cap0 = 0 ∧ z0 = []) ∨ ∃ x, a0 = some x ∧ len0 ≤ cap0 ∧ cap0 ≤ maxLen ∧ z0.length = cap0 ∧ (∀ i, i < z0.length → w.cell? (x.add i) = some (.int .i64 (z0.getD i 0))) ∧ ∀ n ∈ z0, (Lit.int .i64 n).wf = true) (y0 : len0 * 8 ≤ 140737488351232) :
    Calls Try.prog 4 #[.slice a0 len0 cap0] w fun e w' => e = .returned (.bool true) ∧ Below w.heap.size w w' := by
  obtain ⟨l0, rfl, hr0, hm0, hw0, hc0⟩ := ReadsInt.ofRowC w0
  rcases P l0 hm0 y0 hw0 with G0 | ⟨k, r, r', mm, m1, l0', EtI0, Es, Ei, EQ, EQ0, EM1, EMM, EH, hlen, hmm, hml⟩
  · have c0 : decide (1048576 < (l0.length : Int)) = true := decide_eq_true (by omega)
    have c1 : decide (1048576 < l0.length) = true := decide_eq_true (by omega)
    clear G0
    go_enter Try.func4, Try.ntmps4
    go_wp2
    go_ret
    exact ⟨rfl, Below.refl _ _⟩
  · by_cases g0 : 1048576 < l0.length
    · have c0 : decide (1048576 < (l0.length : Int)) = true := decide_eq_true (by omega)
      have c1 : decide (1048576 < l0.length) = true := decide_eq_true (by omega)
      clear g0 EtI0 Es Ei EQ EQ0 EM1 EMM EH hlen hmm hml
      go_enter Try.func4, Try.ntmps4
      go_wp2
      go_ret
      exact ⟨rfl, Below.refl _ _⟩
    have c0 : decide (1048576 < (l0.length : Int)) = false := decide_eq_false (by omega)
    have c1 : decide (1048576 < l0.length) = false := decide_eq_false (by omega)
    clear g0
    have HR0 := Aside0.mk (Kd.C_of_reads (d := (0 : Int)) (h1 := fun _ => rfl) hr0)
    have HC0 := Aside0.mk hc0
    clear hr0 hc0 hm0 hw0
    have EtI0' := Aside0.mk EtI0
    clear EtI0
    have Es' := Aside0.mk Es
    clear Es
    have Ei' := Aside0.mk Ei
    clear Ei
    have EQ' := Aside0.mk EQ
    clear EQ
    have EQ0' := Aside0.mk EQ0
    clear EQ0
    have EM1' := Aside0.mk EM1
    clear EM1
    have EMM' := Aside0.mk EMM
    clear EMM
    have EH' := Aside0.mk EH
    clear EH
    have hlen' := Aside0.mk hlen
    clear hlen
    have c2 : decide (mm < 0) = false := decide_eq_false (by omega)
    have c3 : decide (m1 < 0) = false := decide_eq_false (by omega)
    clear hml
    clear hmm
    have HB := Aside0.mk (Below.refl w.heap.size w)
    have HZ := Aside0.mk (Nat.le_refl w.heap.size)
    have HH0 := Aside0.mk (Nat.le_refl w.heap.size)
    go_enter Try.func4, Try.ntmps4
    go_wp2_with (first | ((with_reducible refine gate_callee (f := 16) rfl ?_); refine goesL_ (some 14) rfl rfl Try.func16 (by kernel_rfl) rfl #[.slice a0 l0.length cap0] rfl (by (try simp only [List.map_toArray, List.map_cons, List.map_nil]); first | done | rfl) ?_; (with_reducible refine (laws_toIntS.calls k _ _ l0 l0 _ ?side1 ?side2 EtI0'.out).mono ?_); (case side1 => exact Kd.C_below HR0.out HB.out); (case side2 => exact HC0.out); rintro e W0 ⟨v1, rfl, ho, hb⟩; refine ⟨_, rfl, ?_⟩; obtain ⟨h1, hh_, hz_, ho_⟩ := Own1.new ho HH0.out HZ.out hb.size; have HH1 := Aside0.mk hh_; have HH1B := Aside0.mk (Nat.le_trans HH0.out hh_); have b_ := Aside0.mk (below_step HB.out hb); clear HB HZ hb ho; have HB := b_; have HZ := Aside0.mk hz_; clear b_ hh_ hz_; have O1 := Aside0.mk ho_; clear ho_; obtain ⟨A1_, c1_, e_⟩ := O1.out.slice; subst e_) | ((with_reducible refine gate_callee (f := 19) rfl ?_); refine goesL_ (some 15) rfl rfl Try.func19 (by kernel_rfl) rfl #[.slice A1_ l0.length c1_] rfl (by (try simp only [List.map_toArray, List.map_cons, List.map_nil]); first | done | rfl) ?_; (with_reducible refine (spec_CyclesOf.calls k _ _ l0 r _ ?side1 ?side2 Es'.out).mono ?_); (case side1 => exact O1.out.reads.2.2); (case side2 => exact O1.out.reads.2.1); rintro e W1 ⟨v2, rfl, ho, hb⟩; refine ⟨_, rfl, ?_⟩; have n1_ := Aside0.mk (Own1.below O1.out hb); obtain ⟨h2, hh_, hz_, ho_⟩ := Own2.new ho HH1B.out HZ.out hb.size; have HH2 := Aside0.mk hh_; have HH2B := Aside0.mk (Nat.le_trans HH1B.out hh_); have b_ := Aside0.mk (below_step HB.out hb); clear HB HZ hb ho; have HB := b_; have HZ := Aside0.mk hz_; clear b_ hh_ hz_; clear O1; have O1 := n1_; clear n1_; have O2 := Aside0.mk ho_; clear ho_; obtain ⟨A2_, c2_, e_⟩ := O2.out.slice; subst e_) | ((with_reducible refine gate_callee (f := 16) rfl ?_); refine goesL_ (some 17) rfl rfl Try.func16 (by kernel_rfl) rfl #[.slice a0 l0.length cap0] rfl (by (try simp only [List.map_toArray, List.map_cons, List.map_nil]); first | done | rfl) ?_; (with_reducible refine (laws_toIntS.calls k _ _ l0 l0 _ ?side1 ?side2 EtI0'.out).mono ?_); (case side1 => exact Kd.C_below HR0.out HB.out); (case side2 => exact HC0.out); rintro e W2 ⟨v3, rfl, ho, hb⟩; refine ⟨_, rfl, ?_⟩; have n2_ := Aside0.mk (Own2.below O2.out hb); obtain ⟨h3, hh_, hz_, ho_⟩ := Own1.new ho HH2B.out HZ.out hb.size; have HH3 := Aside0.mk hh_; have HH3B := Aside0.mk (Nat.le_trans HH2B.out hh_); have b_ := Aside0.mk (below_step HB.out hb); clear HB HZ hb ho; have HB := b_; have HZ := Aside0.mk hz_; clear b_ hh_ hz_; clear O1; clear O2; have O2 := n2_; clear n2_; have O3 := Aside0.mk ho_; clear ho_; obtain ⟨A3_, c3_, e_⟩ := O3.out.slice; subst e_) | ((with_reducible refine gate_callee (f := 20) rfl ?_); refine goesL_ (some 19) rfl rfl Try.func20 (by kernel_rfl) rfl #[.slice A3_ l0.length c3_] rfl (by (try simp only [List.map_toArray, List.map_cons, List.map_nil]); first | done | rfl) ?_; (with_reducible refine (impl_CyclesOf.calls k _ _ l0 r _ ?side1 ?side2 Ei'.out).mono ?_); (case side1 => exact O3.out.reads.2.2); (case side2 => exact O3.out.reads.2.1); rintro e W3 ⟨v4, rfl, ho, hb⟩; refine ⟨_, rfl, ?_⟩; have n2_ := Aside0.mk (Own2.below O2.out hb); have n3_ := Aside0.mk (Own1.below O3.out hb); obtain ⟨h4, hh_, hz_, ho_⟩ := Own2.new ho HH3B.out HZ.out hb.size; have HH4 := Aside0.mk hh_; have HH4B := Aside0.mk (Nat.le_trans HH3B.out hh_); have b_ := Aside0.mk (below_step HB.out hb); clear HB HZ hb ho; have HB := b_; have HZ := Aside0.mk hz_; clear b_ hh_ hz_; clear O2; clear O3; have O2 := n2_; clear n2_; have O3 := n3_; clear n3_; have O4 := Aside0.mk ho_; clear ho_; obtain ⟨A4_, c4_, e_⟩ := O4.out.slice; subst e_) | ((with_reducible refine gate_callee (f := 21) rfl ?_); refine goesL_ (some 22) rfl rfl Try.func21 (by kernel_rfl) rfl #[.slice A4_ r.length c4_, .slice A2_ r.length c2_] rfl (by (try simp only [List.map_toArray, List.map_cons, List.map_nil]); first | done | rfl) ?_; (with_reducible refine (laws_eqIntSS.calls k _ _ r _ _ r true _ ?side1 ?side2 ?side3 ?side4 EQ'.out).mono ?_); (case side1 => exact O4.out.reads.2.2); (case side2 => exact O4.out.reads.2.1); (case side3 => exact O2.out.reads.2.2); (case side4 => exact O2.out.reads.2.1); rintro e W4 ⟨rfl, ⟨nd4, rfl⟩⟩; refine ⟨_, rfl, ?_⟩; have hb := pw_below_drewN (Below.refl W3.heap.size W3) nd4; have n2_ := Aside0.mk (Own2.below O2.out hb); have n3_ := Aside0.mk (Own1.below O3.out hb); have n4_ := Aside0.mk (Own2.below O4.out hb); have b_ := Aside0.mk (below_step HB.out hb); have z_ := Aside0.mk (Nat.le_trans HZ.out hb.size); clear HB HZ hb; have HB := b_; have HZ := z_; clear b_ z_; clear O2; clear O3; clear O4; have O2 := n2_; clear n2_; have O3 := n3_; clear n3_; have O4 := n4_; clear n4_) | ((with_reducible refine gate_callee (f := 16) rfl ?_); refine goesL_ (some 26) rfl rfl Try.func16 (by kernel_rfl) rfl #[.slice a0 l0.length cap0] rfl (by (try simp only [List.map_toArray, List.map_cons, List.map_nil]); first | done | rfl) ?_; (with_reducible refine (laws_toIntS.calls k _ _ l0 l0 _ ?side1 ?side2 EtI0'.out).mono ?_); (case side1 => exact Kd.C_below HR0.out HB.out); (case side2 => exact HC0.out); rintro e W5 ⟨v5, rfl, ho, hb⟩; refine ⟨_, rfl, ?_⟩; have n2_ := Aside0.mk (Own2.below O2.out hb); have n3_ := Aside0.mk (Own1.below O3.out hb); have n4_ := Aside0.mk (Own2.below O4.out hb); obtain ⟨h5, hh_, hz_, ho_⟩ := Own1.new ho HH4B.out HZ.out hb.size; have HH5 := Aside0.mk hh_; have HH5B := Aside0.mk (Nat.le_trans HH4B.out hh_); have b_ := Aside0.mk (below_step HB.out hb); clear HB HZ hb ho; have HB := b_; have HZ := Aside0.mk hz_; clear b_ hh_ hz_; clear O2; clear O3; clear O4; have O2 := n2_; clear n2_; have O3 := n3_; clear n3_; have O4 := n4_; clear n4_; have O5 := Aside0.mk ho_; clear ho_; obtain ⟨A5_, c5_, e_⟩ := O5.out.slice; subst e_) | ((with_reducible refine gate_callee (f := 18) rfl ?_); refine goesL_ (some 27) rfl rfl Try.func18 (by kernel_rfl) rfl #[.slice A3_ l0.length c3_, .slice A5_ l0.length c5_] rfl (by (try simp only [List.map_toArray, List.map_cons, List.map_nil]); first | done | rfl) ?_; (with_reducible refine (laws_eqIntS.calls k _ _ l0 _ _ l0 true _ ?side1 ?side2 ?side3 ?side4 EQ0'.out).mono ?_); (case side1 => exact O3.out.reads.2.2); (case side2 => exact O3.out.reads.2.1); (case side3 => exact O5.out.reads.2.2); (case side4 => exact O5.out.reads.2.1); rintro e W6 ⟨rfl, ⟨nd6, rfl⟩⟩; refine ⟨_, rfl, ?_⟩; have hb := pw_below_drewN (Below.refl W5.heap.size W5) nd6; have n2_ := Aside0.mk (Own2.below O2.out hb); have n3_ := Aside0.mk (Own1.below O3.out hb); have n4_ := Aside0.mk (Own2.below O4.out hb); have n5_ := Aside0.mk (Own1.below O5.out hb); have b_ := Aside0.mk (below_step HB.out hb); have z_ := Aside0.mk (Nat.le_trans HZ.out hb.size); clear HB HZ hb; have HB := b_; have HZ := z_; clear b_ z_; clear O2; clear O3; clear O4; clear O5; have O2 := n2_; clear n2_; have O3 := n3_; clear n3_; have O4 := n4_; clear n4_; have O5 := n5_; clear n5_) | ((with_reducible refine gate_callee (f := 22) rfl ?_); refine goesL_ (some 31) rfl rfl Try.func22 (by kernel_rfl) rfl #[.slice A3_ l0.length c3_, .int .i64 1] rfl (by (try simp only [List.map_toArray, List.map_cons, List.map_nil]); first | done | rfl) ?_; (with_reducible refine (laws_markIntS.calls k (fun k_ => h2 ≤ k_ ∧ k_ < h3) _ l0 1 m1 l0' w _ ?side1 ?side2 EM1'.out).mono ?_); (case side1 => exact HB.out); (case side2 => exact O3.out); rintro e W7 ⟨rfl, ho, hb, hk⟩; refine ⟨_, rfl, ?_⟩; have n2_ := Aside0.mk (Own2.kept O2.out hk (by have := HH1.out; have := HH2.out; have := HH3.out; have := HH4.out; have := HH5.out; omega)); have n3_ := Aside0.mk (Own1.mark O3.out ho); have n4_ := Aside0.mk (Own2.kept O4.out hk (by have := HH1.out; have := HH2.out; have := HH3.out; have := HH4.out; have := HH5.out; omega)); have z_ := Aside0.mk (Nat.le_trans HZ.out hk.1); clear HB HZ hk ho; have HB := Aside0.mk hb; have HZ := z_; clear hb z_; clear O2; clear O3; clear O4; clear O5; have O2 := n2_; clear n2_; have O3 := n3_; clear n3_; have O4 := n4_; clear n4_) | (go_at_call 21; (with_reducible refine (laws_eqIntSS.calls k _ _ r _ _ r true _ ?side1 ?side2 ?side3 ?side4 EQ'.out).mono ?_); (case side1 => exact O4.out.reads.2.2); (case side2 => exact O4.out.reads.2.1); (case side3 => exact O2.out.reads.2.2); (case side4 => exact O2.out.reads.2.1); rintro e W8 ⟨rfl, ⟨nd8, rfl⟩⟩; have hb := pw_below_drewN (Below.refl W7.heap.size W7) nd8; have n2_ := Aside0.mk (Own2.below O2.out hb); have n4_ := Aside0.mk (Own2.below O4.out hb); have b_ := Aside0.mk (below_step HB.out hb); have z_ := Aside0.mk (Nat.le_trans HZ.out hb.size); clear HB HZ hb; have HB := b_; have HZ := z_; clear b_ z_; clear O2; clear O3; clear O4; have O2 := n2_; clear n2_; have O4 := n4_; clear n4_) | ((with_reducible refine gate_callee (f := 23) rfl ?_); refine goesL_ (some 42) rfl rfl Try.func23 (by kernel_rfl) rfl #[.slice A4_ r.length c4_, .int .i64 1] rfl (by (try simp only [List.map_toArray, List.map_cons, List.map_nil]); first | done | rfl) ?_; (with_reducible refine (laws_markIntSS.calls k (fun k_ => h3 ≤ k_ ∧ k_ < h4) _ r 1 mm r' w _ ?side1 ?side2 EMM'.out).mono ?_); (case side1 => exact HB.out); (case side2 => exact O4.out); rintro e W9 ⟨rfl, ho, hb, hk⟩; refine ⟨_, rfl, ?_⟩; have n2_ := Aside0.mk (Own2.kept O2.out hk (by have := HH1.out; have := HH2.out; have := HH3.out; have := HH4.out; have := HH5.out; omega)); have n4_ := Aside0.mk (show Own2 _ _ _ _ _ _ from ho); have z_ := Aside0.mk (Nat.le_trans HZ.out hk.1); clear HB HZ hk ho; have HB := Aside0.mk hb; have HZ := z_; clear hb z_; clear O2; clear O4; have O2 := n2_; clear n2_; have O4 := n4_; clear n4_) | ((with_reducible refine gate_callee (f := 24) rfl ?_); refine goesL_ (some 45) rfl rfl Try.func24 (by kernel_rfl) rfl #[.slice A4_ r.length c4_, .int .i64 1] rfl (by (try simp only [List.map_toArray, List.map_cons, List.map_nil]); first | done | rfl) ?_; (refine calls_of_args (args' := #[.slice A4_ r'.length c4_, .int .i64 1]) (by rw [hlen'.out]) ?_); (with_reducible refine (laws_heldIntSS.calls k _ _ r' 1 mm _ ?side1 ?side2 EH'.out).mono ?_); (case side1 => exact O4.out.reads.2.2); (case side2 => exact (by have := O4.out.reads.2.1; rw [← hlen'.out] at this; exact this)); rintro e W10 ⟨rfl, ⟨nd10, rfl⟩⟩; refine ⟨_, rfl, ?_⟩; have hb := pw_below_drewN (Below.refl W9.heap.size W9) nd10; have n2_ := Aside0.mk (Own2.below O2.out hb); have n4_ := Aside0.mk (Own2.below O4.out hb); have b_ := Aside0.mk (below_step HB.out hb); have z_ := Aside0.mk (Nat.le_trans HZ.out hb.size); clear HB HZ hb; have HB := b_; have HZ := z_; clear b_ z_; clear O2; clear O4; have O2 := n2_; clear n2_; have O4 := n4_; clear n4_) | ((with_reducible refine gate_callee (f := 16) rfl ?_); refine goesL_ (some 52) rfl rfl Try.func16 (by kernel_rfl) rfl #[.slice a0 l0.length cap0] rfl (by (try simp only [List.map_toArray, List.map_cons, List.map_nil]); first | done | rfl) ?_; (with_reducible refine (laws_toIntS.calls k _ _ l0 l0 _ ?side1 ?side2 EtI0'.out).mono ?_); (case side1 => exact Kd.C_below HR0.out HB.out); (case side2 => exact HC0.out); rintro e W11 ⟨v6, rfl, ho, hb⟩; refine ⟨_, rfl, ?_⟩; have n2_ := Aside0.mk (Own2.below O2.out hb); have n4_ := Aside0.mk (Own2.below O4.out hb); obtain ⟨h6, hh_, hz_, ho_⟩ := Own1.new ho HH5B.out HZ.out hb.size; have HH6 := Aside0.mk hh_; have HH6B := Aside0.mk (Nat.le_trans HH5B.out hh_); have b_ := Aside0.mk (below_step HB.out hb); clear HB HZ hb ho; have HB := b_; have HZ := Aside0.mk hz_; clear b_ hh_ hz_; clear O2; clear O4; have O2 := n2_; clear n2_; have O4 := n4_; clear n4_; have O6 := Aside0.mk ho_; clear ho_; obtain ⟨A6_, c6_, e_⟩ := O6.out.slice; subst e_) | ((with_reducible refine gate_callee (f := 20) rfl ?_); refine goesL_ (some 53) rfl rfl Try.func20 (by kernel_rfl) rfl #[.slice A6_ l0.length c6_] rfl (by (try simp only [List.map_toArray, List.map_cons, List.map_nil]); first | done | rfl) ?_; (with_reducible refine (impl_CyclesOf.calls k _ _ l0 r _ ?side1 ?side2 Ei'.out).mono ?_); (case side1 => exact O6.out.reads.2.2); (case side2 => exact O6.out.reads.2.1); rintro e W12 ⟨v7, rfl, ho, hb⟩; refine ⟨_, rfl, ?_⟩; have n2_ := Aside0.mk (Own2.below O2.out hb); have n4_ := Aside0.mk (Own2.below O4.out hb); have n6_ := Aside0.mk (Own1.below O6.out hb); obtain ⟨h7, hh_, hz_, ho_⟩ := Own2.new ho HH6B.out HZ.out hb.size; have HH7 := Aside0.mk hh_; have HH7B := Aside0.mk (Nat.le_trans HH6B.out hh_); have b_ := Aside0.mk (below_step HB.out hb); clear HB HZ hb ho; have HB := b_; have HZ := Aside0.mk hz_; clear b_ hh_ hz_; clear O2; clear O4; clear O6; have O2 := n2_; clear n2_; have O4 := n4_; clear n4_; have O6 := n6_; clear n6_; have O7 := Aside0.mk ho_; clear ho_; obtain ⟨A7_, c7_, e_⟩ := O7.out.slice; subst e_) | ((with_reducible refine gate_callee (f := 21) rfl ?_); refine goesL_ (some 56) rfl rfl Try.func21 (by kernel_rfl) rfl #[.slice A7_ r.length c7_, .slice A2_ r.length c2_] rfl (by (try simp only [List.map_toArray, List.map_cons, List.map_nil]); first | done | rfl) ?_; (with_reducible refine (laws_eqIntSS.calls k _ _ r _ _ r true _ ?side1 ?side2 ?side3 ?side4 EQ'.out).mono ?_); (case side1 => exact O7.out.reads.2.2); (case side2 => exact O7.out.reads.2.1); (case side3 => exact O2.out.reads.2.2); (case side4 => exact O2.out.reads.2.1); rintro e W13 ⟨rfl, ⟨nd13, rfl⟩⟩; refine ⟨_, rfl, ?_⟩; have hb := pw_below_drewN (Below.refl W12.heap.size W12) nd13; have n2_ := Aside0.mk (Own2.below O2.out hb); have n4_ := Aside0.mk (Own2.below O4.out hb); have n7_ := Aside0.mk (Own2.below O7.out hb); have b_ := Aside0.mk (below_step HB.out hb); have z_ := Aside0.mk (Nat.le_trans HZ.out hb.size); clear HB HZ hb; have HB := b_; have HZ := z_; clear b_ z_; clear O2; clear O4; clear O6; clear O7; have O2 := n2_; clear n2_; have O4 := n4_; clear n4_; have O7 := n7_; clear n7_) | ((with_reducible refine gate_callee (f := 24) rfl ?_); refine goesL_ (some 60) rfl rfl Try.func24 (by kernel_rfl) rfl #[.slice A4_ r.length c4_, .int .i64 1] rfl (by (try simp only [List.map_toArray, List.map_cons, List.map_nil]); first | done | rfl) ?_; (refine calls_of_args (args' := #[.slice A4_ r'.length c4_, .int .i64 1]) (by rw [hlen'.out]) ?_); (with_reducible refine (laws_heldIntSS.calls k _ _ r' 1 mm _ ?side1 ?side2 EH'.out).mono ?_); (case side1 => exact O4.out.reads.2.2); (case side2 => exact (by have := O4.out.reads.2.1; rw [← hlen'.out] at this; exact this)); rintro e W14 ⟨rfl, ⟨nd14, rfl⟩⟩; refine ⟨_, rfl, ?_⟩; have hb := pw_below_drewN (Below.refl (W12.drewN nd13).heap.size (W12.drewN nd13)) nd14; have n4_ := Aside0.mk (Own2.below O4.out hb); have b_ := Aside0.mk (below_step HB.out hb); have z_ := Aside0.mk (Nat.le_trans HZ.out hb.size); clear HB HZ hb; have HB := b_; have HZ := z_; clear b_ z_; clear O2; clear O4; clear O7; have O4 := n4_; clear n4_))
    go_ret
    exact ⟨rfl, by first | exact HB.out | (have h_ := HB.out; simp only [World.drewN_drewN] at h_; exact h_)⟩

end Go.Proofs.Ytojbjofngpcjaaa.MFnExactCyclesOf
