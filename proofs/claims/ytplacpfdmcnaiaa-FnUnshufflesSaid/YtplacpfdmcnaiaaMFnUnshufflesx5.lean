-- Written by this session's own program (wip/tools/myprint.py), over the kit's printer.
import Derived.Test.YtplacpfdmcnaiaaMFnUnshufflesx0
import Derived.Test.YtplacpfdmcnaiaaMFnUnshufflesx2
namespace Go.Proofs.Ytplacpfdmcnaiaa.MFnUnshuffles
open Go.RowKit Go.Proofs.YtplacpfdmcnaiaaW.PrintWords Go.Proofs.YtplacpfdmcnaiaaW.PrintLast Go.Proofs.YtplacpfdmcnaiaaW.PrintMore
attribute [local go_sem] max2_int min2_int max_two min_two max_three min_three max_four min_four   -- for this text's walks alone
set_option linter.unusedVariables false
set_option linter.unusedSimpArgs false

/-! ### impl_CardOf: function 24 -/
def impl_CardOf.f (a0 : Int) : Option (Int) := if a0 < 0 then (if (wrap64 ((-1) - a0)) ≥ 12 then (some (-1)) else (some (wrap64 ((-1) - a0)))) else (if a0 ≥ 12 then (some (-1)) else (some a0))
set_option maxHeartbeats 8000000 in
set_option maxRecDepth 100000 in
theorem impl_CardOf.calls (a0 : Int) (r : Int) (w : World) (h : impl_CardOf.f a0 = some r) :
    Calls Try.prog 24 #[.int .i64 a0] w fun e w' => e = .returned (.int .i64 r) ∧ Drawn0 w w' := by
  have H : (if a0 < 0 then (if (wrap64 ((-1) - a0)) ≥ 12 then (some (-1)) else (some (wrap64 ((-1) - a0)))) else (if a0 ≥ 12 then (some (-1)) else (some a0))) = some r := h
  clear h
  by_cases c2 : a0 < 0
  · rw [if_pos c2] at H
    have c2b0 : decide (a0 < 0) = true := decide_eq_true c2
    clear c2
    by_cases c3 : (wrap64 ((-1) - a0)) ≥ 12
    · rw [if_pos c3] at H
      have c3b0 : decide (12 ≤ (wrap64 ((-1) - a0))) = true := decide_eq_true c3
      clear c3
      obtain rfl := Option.some.inj H
      go_enter Try.func24, Try.ntmps24
      go_wp2
      go_ret
      exact ⟨by first | rfl | (simp; done) | (simp [*]; done), by repeat (first | exact Drawn0.refl _ | apply Drawn0.step)⟩
    · rw [if_neg c3] at H
      have c3b0 : decide (12 ≤ (wrap64 ((-1) - a0))) = false := decide_eq_false c3
      clear c3
      obtain rfl := Option.some.inj H
      go_enter Try.func24, Try.ntmps24
      go_wp2
      go_ret
      exact ⟨by first | rfl | (simp; done) | (simp [*]; done), by repeat (first | exact Drawn0.refl _ | apply Drawn0.step)⟩
  · rw [if_neg c2] at H
    have c2b0 : decide (a0 < 0) = false := decide_eq_false c2
    clear c2
    by_cases c4 : a0 ≥ 12
    · rw [if_pos c4] at H
      have c4b0 : decide (12 ≤ a0) = true := decide_eq_true c4
      clear c4
      obtain rfl := Option.some.inj H
      go_enter Try.func24, Try.ntmps24
      go_wp2
      go_ret
      exact ⟨by first | rfl | (simp; done) | (simp [*]; done), by repeat (first | exact Drawn0.refl _ | apply Drawn0.step)⟩
    · rw [if_neg c4] at H
      have c4b0 : decide (12 ≤ a0) = false := decide_eq_false c4
      clear c4
      obtain rfl := Option.some.inj H
      go_enter Try.func24, Try.ntmps24
      go_wp2
      go_ret
      exact ⟨by first | rfl | (simp; done) | (simp [*]; done), by repeat (first | exact Drawn0.refl _ | apply Drawn0.step)⟩

/-! ### slices_IndexFunc_int_int: function 67, by hand -/
/-- The first index at which a predicate holds, from i on, or -1. -/
def idxF (p : Int → Bool) : Int → List Int → Int
  | _, [] => -1
  | i, x :: r => if p x = true then i else idxF p (i + 1) r
theorem idxF_drop (p : Int → Bool) (l : List Int) (i : Int) (h0 : 0 ≤ i) (h : i < l.length) (hm : l.length ≤ 9223372036854775807) : idxF p i (l.drop i.toNat) = if p (rd l i) = true then i else idxF p (wrap64 (i + 1)) (l.drop (wrap64 (i + 1)).toNat) := by
  have hlt : i.toNat < l.length := by omega
  have hw2 : wrap64 (i + 1) = i + 1 := by unfold wrap64; omega
  have hn : (i + 1).toNat = i.toNat + 1 := by omega
  rw [List.drop_eq_getElem_cons hlt, idxF, hw2, hn]
  simp [rd, hlt]
theorem rd_mem {l : List Int} {i : Int} (h0 : 0 ≤ i) (h : i < l.length) : rd l i ∈ l := by
  have hlt : i.toNat < l.length := by omega
  have : rd l i = l[i.toNat] := by simp [rd, hlt]
  rw [this]
  exact List.getElem_mem hlt
/-- slices.IndexFunc at a function value whose calls answer p at every element and only make memory. -/
def Answers (g : Nat) (lb : Array Value) (p : Int → Bool) (l : List Int) (w : World) : Prop :=
  ∀ x, x ∈ l → ∀ W : World, Below w.heap.size w W → Calls Try.prog g (#[.int .i64 x] ++ lb) W fun e w' => e = .returned (.bool (p x)) ∧ Below w.heap.size w w'
set_option maxHeartbeats 8000000 in
set_option maxRecDepth 100000 in
theorem slices_IndexFunc_int_int.calls (g : Nat) (lb : Array Value) (p : Int → Bool) (A0 : Option Addr) (c0 : Nat) (l0 : List Int) (w : World) (hr0 : Kd.C (Kd.int .i64) w A0 l0.length l0) (eg : ∀ args w, (callFunc g args).run Try.prog w = .ok (.enter g args) w) (hp : Answers g lb p l0 w) :
    Calls Try.prog 67 #[.slice A0 l0.length c0, .func (.func g) #[] lb] w fun e w' => e = .returned (.int .i64 (idxF p 0 l0)) ∧ Below w.heap.size w w' := by
  have HR0 := Aside0.mk hr0
  have HP := Aside0.mk hp
  have HM := Aside0.mk hr0.2.1
  clear hr0 hp
  go_enter Try.func67, Try.ntmps67
  go_wp2
  go_loopg [5, 8] l0.length (fun gg _ s8 wr => ∃ i : Int, s8 = .int .i64 i ∧ Aside0 (0 ≤ i ∧ i.toNat ≤ l0.length ∧ l0.length - i.toNat ≤ gg) ∧ Aside0 (Below w.heap.size w wr) ∧ Aside0 (idxF p 0 l0 = idxF p i (l0.drop i.toNat)))
  case atStart => exact ⟨0, rfl, ⟨by omega, by simp, by simp⟩, ⟨Below.refl _ _⟩, ⟨rfl⟩⟩
  case round =>
    obtain ⟨i, rfl, HK, HB, HI⟩ := hrel
    by_cases c1 : i < (l0.length : Int)
    · have c2 := HK.out.1
      obtain ⟨ad, ea, hx⟩ := Kd.at_int HR0.out i c2 c1
      cases ea
      replace hx := (HB.out.cell (World.block_lt_of_cell? w _ hx)).trans hx
      have HC := Aside0.mk (HP.out _ (rd_mem c2 c1))
      have HD := Aside0.mk (idxF_drop p l0 i c2 c1 HM.out)
      have HW := Aside0.mk (show wrap64 (i + 1) = i + 1 by have := HM.out; unfold wrap64; omega)
      have HT := Aside0.mk c1
      have c1b : decide (i < (l0.length : Int)) = true := decide_eq_true c1
      replace c1 := eq_true c1
      replace c2 := eq_true c2
      cases hq : p (rd l0 i) with
      | true =>
        rw [hq] at HC HD
        clear hq
        go_wp2_with (go_at_fn g; refine (HC.out _ HB.out).mono ?_; rintro e w' ⟨rfl, hb⟩)
        go_ret
        exact ⟨by rw [HI.out, HD.out]; rfl, hb⟩
      | false =>
        rw [hq] at HC HD
        clear hq
        go_wp2_with (go_at_fn g; refine (HC.out _ HB.out).mono ?_; rintro e w' ⟨rfl, hb⟩)
        go_roundg (l0.length - (i.toNat + 1))
        case measure => have := HT.out; have := HK.out; omega
        case rel => exact ⟨wrap64 (i + 1), rfl, ⟨by rw [HW.out]; have := HT.out; have := HK.out; omega, by rw [HW.out]; have := HT.out; have := HK.out; omega, by rw [HW.out]; have := HT.out; have := HK.out; omega⟩, ⟨hb⟩, ⟨by rw [HI.out, HD.out]; simp⟩⟩
    · have c1b : decide (i < (l0.length : Int)) = false := decide_eq_false c1
      have HE := Aside0.mk (show idxF p 0 l0 = -1 by rw [HI.out, List.drop_eq_nil_of_le (by have := HK.out; omega)]; rfl)
      clear c1
      go_wp2
      go_ret
      exact ⟨by rw [HE.out]; rfl, HB.out⟩

/-! ### impl_PositionOf: function 56, by hand -/
/-- Does a cell show this card? -/
def isCard (c : Int) (x : Int) : Bool := (impl_CardOf.f x).getD 0 == c
theorem card_total (x : Int) : impl_CardOf.f x = some ((impl_CardOf.f x).getD 0) := by
  unfold impl_CardOf.f
  repeat' split
  all_goals rfl
def impl_PositionOf.f (l0 : List Int) (a1 : Int) : Option Int := some (if a1 < 0 then -1 else idxF (isCard a1) 0 l0)
set_option maxHeartbeats 8000000 in
set_option maxRecDepth 100000 in
theorem impl_PositionOf.closure (c : Int) (x : Int) (B : Nat) (W : World) (hc : W.cell? ⟨B, 0, none⟩ = some (.int .i64 c)) :
    Calls Try.prog 68 #[.int .i64 x, .pointer (some ⟨B, 0, none⟩)] W fun e w' => e = .returned (.bool (isCard c x)) ∧ ∃ n, w' = W.drewN n := by
  have HC := Aside0.mk (card_total x)
  go_enter Try.func68, Try.ntmps68
  go_wp2
  go_quiet ((go_at_call 24; exact Calls.quiet_of ((impl_CardOf.calls x _ _ HC.out).mono (fun _ _ h => ⟨h.1, h.2.out⟩))))
  go_wp2
  go_ret
  exact ⟨by first | rfl | simp [isCard], _, rfl⟩
set_option maxHeartbeats 8000000 in
set_option maxRecDepth 100000 in
theorem impl_PositionOf.calls (A0 : Option Addr) (c0 : Nat) (l0 : List Int) (a1 : Int) (r : Int) (w : World) (hr0 : Kd.C (Kd.int .i64) w A0 l0.length l0) (hc0 : l0.length ≤ c0) (h : impl_PositionOf.f l0 a1 = some r) :
    Calls Try.prog 56 #[.slice A0 l0.length c0, .int .i64 a1] w fun e w' => e = .returned (.int .i64 r) ∧ Below w.heap.size w w' := by
  have HR0 := Aside0.mk hr0
  clear hr0 hc0
  unfold impl_PositionOf.f at h
  obtain rfl := Option.some.inj h
  clear h
  by_cases c1 : a1 < 0
  · rw [if_pos c1]
    have c1b : decide (a1 < 0) = true := decide_eq_true c1
    clear c1
    go_enter Try.func56, Try.ntmps56
    go_wp2
    go_ret
    exact ⟨rfl, below_alloc (Below.refl _ _) _⟩
  · rw [if_neg c1]
    have c1b : decide (a1 < 0) = false := decide_eq_false c1
    clear c1
    have eg := enters_of Try.func68 (by kernel_rfl) rfl
    have EG := Aside0.mk eg
    clear eg
    have HP := Aside0.mk (show Answers 68 #[.pointer (some ⟨w.heap.size, 0, none⟩)] (isCard a1) l0 (w.alloc (.cells #[.int .i64 a1] 3)) from fun x _ W hb => by
      refine (impl_PositionOf.closure a1 x w.heap.size W ((hb.cell (p := ⟨w.heap.size, 0, none⟩) (by simp)).trans (by simp))).mono ?_
      rintro e w' ⟨rfl, n, rfl⟩
      exact ⟨rfl, pw_below_drewN hb n⟩)
    go_enter Try.func56, Try.ntmps56
    go_wp2_with (go_at_call 67; refine (slices_IndexFunc_int_int.calls _ _ _ A0 c0 l0 _ (Kd.C_alloc HR0.out _) EG.out HP.out).mono ?_; rintro e w' ⟨rfl, hb⟩)
    go_ret
    exact ⟨rfl, below_step (below_alloc (Below.refl _ _) _) hb⟩

/-! ### impl_PacketOk: function 64, by hand -/
/-- PacketOk: the cards met so far lie in an array of bools. -/
def impl_PacketOk.l0 : Nat → List Bool → List Int → Int → Option Bool
  | 0, _, _, _ => none
  | k + 1, m, l, i => if i < (l.length : Int) then (if 0 ≤ i then ((impl_CardOf.f (rd l i)).bind fun c => if c < 0 then some false else if c < 12 then (if rdOf false m c = true then some false else impl_PacketOk.l0 k (m.set c.toNat true) l (wrap64 (i + 1))) else none) else none) else some true
def impl_PacketOk.f (k : Nat) (l0 : List Int) : Option Bool := impl_PacketOk.l0 k (List.replicate 12 false) l0 0
theorem impl_PacketOk.mono_l : ∀ k, (∀ y0 y1 y2, LeO (impl_PacketOk.l0 k y0 y1 y2) (impl_PacketOk.l0 (k + 1) y0 y1 y2))
  | 0 => fun _ _ _ r h => by simp [impl_PacketOk.l0] at h
  | k + 1 => by
    have ih0 := impl_PacketOk.mono_l k
    intro y0 y1 y2
    unfold impl_PacketOk.l0
    repeat' first
      | (with_reducible exact ih0 _ _ _)
      | (with_reducible exact LeO.refl _)
      | (with_reducible refine LeO.ite ?_ ?_)
      | (with_reducible refine LeO.bind ?_ (fun _ => ?_))
theorem impl_PacketOk.mono : ∀ a0 k, LeO (impl_PacketOk.f k a0) (impl_PacketOk.f (k + 1) a0) := fun _ k => impl_PacketOk.mono_l k _ _ _
theorem impl_PacketOk.put (m : List Bool) (j : Nat) (b : Bool) : (bools m).toArray.setIfInBounds j (.bool b) = (bools (m.set j b)).toArray := by
  simp [bools, List.map_set]
theorem impl_PacketOk.get {W : World} {g t : Nat} {m : List Bool} (h : W.heap[g]? = some (.cells (bools m).toArray t (0, 0))) (c : Int) (h0 : 0 ≤ c) (h1 : c < m.length) : W.cell? ⟨g, c.toNat, none⟩ = some (.bool (rdOf false m c)) := by
  rw [blk_cell h]
  have hl : c.toNat < m.length := by omega
  simp [bools, rdOf, hl]
set_option maxHeartbeats 8000000 in
set_option maxRecDepth 100000 in
theorem impl_PacketOk.calls (k : Nat) (A0 : Option Addr) (c0 : Nat) (l0 : List Int) (r : Bool) (w : World) (hr0 : Kd.C (Kd.int .i64) w A0 l0.length l0) (hc0 : l0.length ≤ c0) (h : impl_PacketOk.f k l0 = some r) :
    Calls Try.prog 64 #[.slice A0 l0.length c0] w fun e w' => e = .returned (.bool r) ∧ Below w.heap.size w w' := by
  have HR0 := Aside0.mk hr0
  have H' := Aside0.mk (show impl_PacketOk.l0 k (List.replicate 12 false) l0 0 = some r from h)
  clear hr0 hc0 h
  go_enter Try.func64, Try.ntmps64
  go_wp2
  go_loopg [9] k (fun kq v9 w' => ∃ (i : Int) (m : List Bool), v9 = .int .i64 i ∧ Aside0 (impl_PacketOk.l0 kq m l0 i = some r) ∧ Aside0 (kq ≤ k) ∧ Aside0 (m.length = 12) ∧ Aside0 (w'.heap[w.heap.size]? = some (.cells (bools m).toArray 69 (0, 0))) ∧ Aside0 (Below w.heap.size w w'))
  case atStart => exact ⟨0, List.replicate 12 false, rfl, H', ⟨Nat.le_refl _⟩, ⟨by simp⟩, ⟨heap_alloc_new w _⟩, ⟨below_alloc (Below.refl _ _) _⟩⟩
  case round =>
    clear H'
    obtain ⟨i, m, rfl, HA, HK, HM, HG, HB⟩ := hrel
    cases gk with
    | zero => exact absurd HA.out (by simp [impl_PacketOk.l0])
    | succ k1 =>
      have H := HA.out
      clear HA
      simp only [impl_PacketOk.l0] at H
      by_cases c1 : i < (l0.length : Int)
      · rw [if_pos c1] at H
        have c1b : decide (i < (l0.length : Int)) = true := decide_eq_true c1
        by_cases c2 : 0 ≤ i
        · rw [if_pos c2] at H
          obtain ⟨c, hc, H⟩ := Option.bind_eq_some_iff.mp H
          have HC := Aside0.mk hc
          clear hc
          obtain ⟨ad, ea, hx⟩ := Kd.at_int HR0.out i c2 c1
          cases ea
          replace hx := (HB.out.cell (World.block_lt_of_cell? w _ hx)).trans hx
          replace c1 := eq_true c1
          replace c2 := eq_true c2
          by_cases c3 : c < 0
          · rw [if_pos c3] at H
            obtain rfl := Option.some.inj H
            clear H
            have c3b : decide (c < 0) = true := decide_eq_true c3
            clear c3
            go_wp2_with (go_at_call 24; (with_reducible refine (impl_CardOf.calls (rd l0 i) c _ HC.out).mono ?_); rintro e w' ⟨rfl, ⟨nd, rfl⟩⟩)
            go_ret
            exact ⟨rfl, by repeat (first | exact HB.out | apply pw_below_drewN | apply below_drew)⟩
          · rw [if_neg c3] at H
            have c3b : decide (c < 0) = false := decide_eq_false c3
            by_cases c4 : c < 12
            · rw [if_pos c4] at H
              have hmet := impl_PacketOk.get HG.out c (by omega) (by rw [HM.out]; omega)
              have hfr := blk_frozen HG.out c.toNat
              have c5 : 0 ≤ c := by omega
              replace c5 := eq_true c5
              replace c4 := eq_true c4
              clear c3
              by_cases c6 : rdOf false m c = true
              · rw [if_pos c6] at H
                obtain rfl := Option.some.inj H
                clear H
                rw [c6] at hmet
                clear c6
                go_wp2_with (go_at_call 24; (with_reducible refine (impl_CardOf.calls (rd l0 i) c _ HC.out).mono ?_); rintro e w' ⟨rfl, ⟨nd, rfl⟩⟩)
                go_ret
                exact ⟨rfl, by repeat (first | exact HB.out | apply pw_below_drewN | apply below_drew)⟩
              · rw [if_neg c6] at H
                have H' := Aside0.mk H
                clear H
                rw [Bool.eq_false_iff.mpr c6] at hmet
                clear c6
                go_wp2_with (go_at_call 24; (with_reducible refine (impl_CardOf.calls (rd l0 i) c _ HC.out).mono ?_); rintro e w' ⟨rfl, ⟨nd, rfl⟩⟩)
                go_roundg k1
                case measure => have := HK.out; omega
                case rel => exact ⟨wrap64 (i + 1), m.set c.toNat true, rfl, H', ⟨by have := HK.out; omega⟩, ⟨by rw [List.length_set]; exact HM.out⟩, ⟨by first | exact blk_drewN (blk_put HG.out _ _ (impl_PacketOk.put _ _ _)) _ | exact blk_put (blk_drewN HG.out _) _ _ (impl_PacketOk.put _ _ _)⟩, ⟨by repeat (first | exact HB.out | apply pw_below_drewN | apply below_drew | refine below_set ?_ (Nat.le_refl _))⟩⟩
            · rw [if_neg c4] at H
              exact absurd H (by simp)
        · rw [if_neg c2] at H
          exact absurd H (by simp)
      · rw [if_neg c1] at H
        have c1b : decide (i < (l0.length : Int)) = false := decide_eq_false c1
        clear c1
        obtain rfl := Option.some.inj H
        clear H
        go_wp2
        go_ret
        exact ⟨rfl, by repeat (first | exact HB.out | apply pw_below_drewN | apply below_drew)⟩

/-! ### slices_ContainsFunc_int_int: function 65, by hand -/
theorem idxF_nonneg (p : Int → Bool) (l : List Int) : ∀ i : Int, 0 ≤ i → (0 ≤ idxF p i l ↔ l.any p = true) := by
  induction l with
  | nil => intro i hi; simp [idxF]
  | cons x r ih =>
    intro i hi
    rw [idxF, List.any_cons]
    cases hx : p x with
    | true => simp [hi]
    | false => simp only [Bool.false_eq_true, if_false, Bool.false_or]; exact ih (i + 1) (by omega)
set_option maxHeartbeats 8000000 in
set_option maxRecDepth 100000 in
/-- slices.ContainsFunc at such a function value. -/
theorem slices_ContainsFunc_int_int.calls (g : Nat) (lb : Array Value) (p : Int → Bool) (A0 : Option Addr) (c0 : Nat) (l0 : List Int) (w : World) (hr0 : Kd.C (Kd.int .i64) w A0 l0.length l0) (eg : ∀ args w, (callFunc g args).run Try.prog w = .ok (.enter g args) w) (hp : Answers g lb p l0 w) :
    Calls Try.prog 65 #[.slice A0 l0.length c0, .func (.func g) #[] lb] w fun e w' => e = .returned (.bool (l0.any p)) ∧ Below w.heap.size w w' := by
  have HC := Aside0.mk (slices_IndexFunc_int_int.calls g lb p A0 c0 l0 w hr0 eg hp)
  have HE := Aside0.mk (show decide (0 ≤ idxF p 0 l0) = l0.any p by rw [Bool.eq_iff_iff, decide_eq_true_eq]; exact idxF_nonneg p l0 0 (by omega))
  clear hr0 eg hp
  go_enter Try.func65, Try.ntmps65
  go_wp2_with (go_at_call 67; refine HC.out.mono ?_; rintro e w' ⟨rfl, hb⟩)
  go_ret
  exact ⟨by rw [← HE.out]; rfl, hb⟩

/-! ### impl_IsArrangement: function 55, by hand -/
/-- Is a cell's card in no place of a packet? -/
def lacks (q : List Int) (x : Int) : Bool := decide ((if (impl_CardOf.f x).getD 0 < 0 then -1 else idxF (isCard ((impl_CardOf.f x).getD 0)) 0 q) < 0)
def impl_IsArrangement.f (k : Nat) (l0 : List Int) (l1 : List Int) : Option Bool :=
  (impl_PacketOk.f k l0).bind fun t => if t = true then ((impl_PacketOk.f k l1).bind fun s => if s = true then (if (l0.length : Int) = (l1.length : Int) then some (!(l0.any (lacks l1))) else some false) else some false) else some false
theorem impl_IsArrangement.mono : ∀ a0 a1 k, LeO (impl_IsArrangement.f k a0 a1) (impl_IsArrangement.f (k + 1) a0 a1) := by
  intro a0 a1 k
  unfold impl_IsArrangement.f
  repeat' first
    | (with_reducible exact impl_PacketOk.mono _ _)
    | (with_reducible exact LeO.refl _)
    | (with_reducible refine LeO.ite ?_ ?_)
    | (with_reducible refine LeO.bind ?_ (fun _ => ?_))
set_option maxHeartbeats 8000000 in
set_option maxRecDepth 100000 in
theorem impl_IsArrangement.closure (A1 : Option Addr) (c1 : Nat) (l1 : List Int) (x : Int) (B : Nat) (W : World) (hr : Kd.C (Kd.int .i64) W A1 l1.length l1) (hc1 : l1.length ≤ c1) (hc : W.cell? ⟨B, 0, none⟩ = some (.slice A1 l1.length c1)) :
    Calls Try.prog 66 #[.int .i64 x, .pointer (some ⟨B, 0, none⟩)] W fun e w' => e = .returned (.bool (lacks l1 x)) ∧ Below W.heap.size W w' := by
  obtain ⟨c, hcd⟩ : ∃ c, impl_CardOf.f x = some c := ⟨_, card_total x⟩
  obtain ⟨r, hps⟩ : ∃ r, impl_PositionOf.f l1 c = some r := ⟨_, rfl⟩
  have HLK := Aside0.mk (show lacks l1 x = decide (r < 0) by
    have : r = (if c < 0 then -1 else idxF (isCard c) 0 l1) := (Option.some.inj hps).symm
    rw [this]
    unfold lacks
    rw [hcd]
    rfl)
  have HC := Aside0.mk hcd
  have HP := Aside0.mk hps
  have HR := Aside0.mk hr
  have HL := Aside0.mk hc1
  clear hr hc1 hcd hps
  go_enter Try.func66, Try.ntmps66
  go_wp2
  go_region_with (first | (go_at_call 24; (with_reducible refine (impl_CardOf.calls x c _ HC.out).mono ?_); rintro e w' ⟨rfl, ⟨nd, rfl⟩⟩) | (go_at_call 56; (refine (impl_PositionOf.calls A1 c1 l1 c r _ ?side1 HL.out HP.out).mono ?_); (case side1 => repeat (first | exact HR.out | (with_reducible refine Kd.C_alloc ?_ _) | (with_reducible refine Kd.C_drewN ?_ _) | (with_reducible refine Kd.C_drew ?_))); rintro e w' ⟨rfl, hb⟩))
  all_goals
    try go_wp2
    go_ret
    exact ⟨by rw [HLK.out]; rfl, below_step (by repeat (first | exact Below.refl _ _ | apply pw_below_drewN | apply below_drew)) hb⟩
set_option maxHeartbeats 8000000 in
set_option maxRecDepth 100000 in
theorem impl_IsArrangement.calls (k : Nat) (A0 : Option Addr) (c0 : Nat) (l0 : List Int) (A1 : Option Addr) (c1 : Nat) (l1 : List Int) (r : Bool) (w : World) (hr0 : Kd.C (Kd.int .i64) w A0 l0.length l0) (hc0 : l0.length ≤ c0) (hr1 : Kd.C (Kd.int .i64) w A1 l1.length l1) (hc1 : l1.length ≤ c1) (h : impl_IsArrangement.f k l0 l1 = some r) :
    Calls Try.prog 55 #[.slice A0 l0.length c0, .slice A1 l1.length c1] w fun e w' => e = .returned (.bool r) ∧ Below w.heap.size w w' := by
  have HR0 := Aside0.mk hr0
  have HC0 := Aside0.mk hc0
  have HR1 := Aside0.mk hr1
  have HC1 := Aside0.mk hc1
  clear hr0 hc0 hr1 hc1
  unfold impl_IsArrangement.f at h
  obtain ⟨t, ht, h⟩ := Option.bind_eq_some_iff.mp h
  have HT := Aside0.mk ht
  clear ht
  have B1 := Aside0.mk (below_alloc (Below.refl w.heap.size w) (.cells #[.slice A1 l1.length c1] 29))
  cases t with
  | false =>
    obtain rfl := Option.some.inj h
    clear h
    go_enter Try.func55, Try.ntmps55
    go_wp2_with (go_at_call 64; (refine (impl_PacketOk.calls k A0 c0 l0 false _ ?side1 HC0.out HT.out).mono ?_); (case side1 => exact Kd.C_alloc HR0.out _); rintro e w1 ⟨rfl, hb1⟩)
    go_ret
    exact ⟨rfl, below_step B1.out hb1⟩
  | true =>
    rw [if_pos rfl] at h
    obtain ⟨s, hs, h⟩ := Option.bind_eq_some_iff.mp h
    have HS := Aside0.mk hs
    clear hs
    cases s with
    | false =>
      obtain rfl := Option.some.inj h
      clear h
      go_enter Try.func55, Try.ntmps55
      go_wp2_with (first | (go_at_call 64; (with_reducible refine (impl_PacketOk.calls k A0 c0 l0 true _ ?side1 HC0.out HT.out).mono ?_); (case side1 => exact Kd.C_alloc HR0.out _); rintro e w1 ⟨rfl, hb1⟩; have B2 := Aside0.mk (below_step B1.out hb1); have HZ := Aside0.mk (show w.heap.size < w1.heap.size by have := hb1.size; simp at this; omega); have hcell := (hb1.cell (p := ⟨w.heap.size, 0, none⟩) (by simp)).trans (show _ = some (Value.slice A1 l1.length c1) by simp); clear hb1) | (go_at_call 64; (with_reducible refine (impl_PacketOk.calls k A1 c1 l1 false _ ?side1 HC1.out HS.out).mono ?_); (case side1 => exact Kd.C_below HR1.out B2.out); rintro e w2 ⟨rfl, hb2⟩; have B3 := Aside0.mk (below_step B2.out hb2); have hcell2 := (hb2.cell (p := ⟨w.heap.size, 0, none⟩) HZ.out).trans hcell; have HZ2 := Aside0.mk (Nat.lt_of_lt_of_le HZ.out hb2.size); clear hb2))
      go_ret
      exact ⟨rfl, B3.out⟩
    | true =>
      rw [if_pos rfl] at h
      by_cases hl : (l0.length : Int) = (l1.length : Int)
      · rw [if_pos hl] at h
        obtain rfl := Option.some.inj h
        clear h
        have e1 : ((l0.length : Int) == (l1.length : Int)) = true := beq_iff_eq.mpr hl
        have e2 : ((l0.length : Int) != (l1.length : Int)) = false := bne_eq_false_iff_eq.mpr hl
        have e3 : (l0.length == l1.length) = true := beq_iff_eq.mpr (by omega)
        have e4 : (l0.length != l1.length) = false := bne_eq_false_iff_eq.mpr (by omega)
        clear hl
        have EG := Aside0.mk (enters_of Try.func66 (by kernel_rfl) rfl)
        go_enter Try.func55, Try.ntmps55
        go_wp2_with (first | (go_at_call 64; (with_reducible refine (impl_PacketOk.calls k A0 c0 l0 true _ ?side1 HC0.out HT.out).mono ?_); (case side1 => exact Kd.C_alloc HR0.out _); rintro e w1 ⟨rfl, hb1⟩; have B2 := Aside0.mk (below_step B1.out hb1); have HZ := Aside0.mk (show w.heap.size < w1.heap.size by have := hb1.size; simp at this; omega); have hcell := (hb1.cell (p := ⟨w.heap.size, 0, none⟩) (by simp)).trans (show _ = some (Value.slice A1 l1.length c1) by simp); clear hb1) | (go_at_call 64; (with_reducible refine (impl_PacketOk.calls k A1 c1 l1 true _ ?side1 HC1.out HS.out).mono ?_); (case side1 => exact Kd.C_below HR1.out B2.out); rintro e w2 ⟨rfl, hb2⟩; have B3 := Aside0.mk (below_step B2.out hb2); have hcell2 := (hb2.cell (p := ⟨w.heap.size, 0, none⟩) HZ.out).trans hcell; have HZ2 := Aside0.mk (Nat.lt_of_lt_of_le HZ.out hb2.size); clear hb2) | (go_at_call 65; refine (slices_ContainsFunc_int_int.calls _ _ (lacks l1) A0 c0 l0 _ (Kd.C_below HR0.out B3.out) EG.out ?side1).mono ?_; (case side1 => exact fun x _ W hb => (impl_IsArrangement.closure A1 c1 l1 x w.heap.size W (Kd.C_below HR1.out (below_step B3.out hb)) HC1.out ((hb.cell (p := ⟨w.heap.size, 0, none⟩) HZ2.out).trans hcell2)).mono (fun _ _ h => ⟨h.1, below_step hb h.2⟩)); rintro e w3 ⟨rfl, hb3⟩; have B4 := Aside0.mk (below_step B3.out hb3); clear hb3))
        go_ret
        exact ⟨rfl, B4.out⟩
      · rw [if_neg hl] at h
        obtain rfl := Option.some.inj h
        clear h
        have e1 : ((l0.length : Int) == (l1.length : Int)) = false := beq_eq_false_iff_ne.mpr hl
        have e2 : ((l0.length : Int) != (l1.length : Int)) = true := bne_iff_ne.mpr hl
        have e3 : (l0.length == l1.length) = false := by apply beq_eq_false_iff_ne.mpr; omega
        have e4 : (l0.length != l1.length) = true := by apply bne_iff_ne.mpr; omega
        clear hl
        go_enter Try.func55, Try.ntmps55
        go_wp2_with (first | (go_at_call 64; (with_reducible refine (impl_PacketOk.calls k A0 c0 l0 true _ ?side1 HC0.out HT.out).mono ?_); (case side1 => exact Kd.C_alloc HR0.out _); rintro e w1 ⟨rfl, hb1⟩; have B2 := Aside0.mk (below_step B1.out hb1); have HZ := Aside0.mk (show w.heap.size < w1.heap.size by have := hb1.size; simp at this; omega); have hcell := (hb1.cell (p := ⟨w.heap.size, 0, none⟩) (by simp)).trans (show _ = some (Value.slice A1 l1.length c1) by simp); clear hb1) | (go_at_call 64; (with_reducible refine (impl_PacketOk.calls k A1 c1 l1 true _ ?side1 HC1.out HS.out).mono ?_); (case side1 => exact Kd.C_below HR1.out B2.out); rintro e w2 ⟨rfl, hb2⟩; have B3 := Aside0.mk (below_step B2.out hb2); have hcell2 := (hb2.cell (p := ⟨w.heap.size, 0, none⟩) HZ.out).trans hcell; have HZ2 := Aside0.mk (Nat.lt_of_lt_of_le HZ.out hb2.size); clear hb2))
        go_ret
        exact ⟨rfl, B3.out⟩

/-! ### impl_PermBetween: function 34 -/
def impl_PermBetween.l0 : Nat → List Int → List Int → List Int → Int → Int → Option (List Int × Bool)
  | 0, _, _, _, _, _ => none
  | k + 1, x0, x6, x13, x14, x15 => if x15 < x14 then (if 0 ≤ x15 then (if x15 < (x13.length : Int) then ((impl_CardOf.f (rd x13 x15)).bind fun t228 => ((impl_PositionOf.f x0 t228).bind fun t229 => (if x6.length < 17592186044416 then (impl_PermBetween.l0 k x0 (x6 ++ [t229]) x13 x14 (wrap64 (x15 + 1))) else (none)))) else (none)) else (none)) else (some (x6, true))
def impl_PermBetween.f (k : Nat) (l0 : List Int) (l1 : List Int) : Option (List Int × Bool) := (impl_IsArrangement.f k l0 l1).bind fun t226 => (if t226 = true then (impl_PermBetween.l0 k l0 ([] : List Int) l1 (l1.length : Int) 0) else (some (([] : List Int), false)))
theorem impl_PermBetween.mono_l : ∀ k, (∀ y0 y1 y2 y3 y4, LeO (impl_PermBetween.l0 k y0 y1 y2 y3 y4) (impl_PermBetween.l0 (k + 1) y0 y1 y2 y3 y4))
  | 0 => fun _ _ _ _ _ r h => by simp [impl_PermBetween.l0] at h
  | k + 1 => by
    have ih0 := impl_PermBetween.mono_l k
    · intro y0 y1 y2 y3 y4
      unfold impl_PermBetween.l0
      repeat' first
      | (with_reducible exact ih0 _ _ _ _ _)
      | (with_reducible exact impl_IsArrangement.mono _ _ _)
      | (with_reducible exact LeO.refl _)
      | (with_reducible exact LeO.none _)
      | (with_reducible refine LeO.ite ?_ ?_)
      | (with_reducible refine LeO.bind ?_ (fun _ => ?_))
      | exact ih0 _ _ _ _ _
      | exact impl_IsArrangement.mono _ _ _
      | exact LeO.none _
      | refine LeO.ite ?_ ?_
      | refine LeO.bind ?_ (fun _ => ?_)
theorem impl_PermBetween.mono : ∀ a0 a1 k, LeO (impl_PermBetween.f k a0 a1) (impl_PermBetween.f (k + 1) a0 a1) := by
  intro a0 a1 k
  have ih0 := impl_PermBetween.mono_l k
  unfold impl_PermBetween.f
  repeat' first
      | (with_reducible exact ih0 _ _ _ _ _)
      | (with_reducible exact impl_IsArrangement.mono _ _ _)
      | (with_reducible exact LeO.refl _)
      | (with_reducible exact LeO.none _)
      | (with_reducible refine LeO.ite ?_ ?_)
      | (with_reducible refine LeO.bind ?_ (fun _ => ?_))
      | exact ih0 _ _ _ _ _
      | exact impl_IsArrangement.mono _ _ _
      | exact LeO.none _
      | refine LeO.ite ?_ ?_
      | refine LeO.bind ?_ (fun _ => ?_)
set_option maxHeartbeats 8000000 in
set_option maxRecDepth 100000 in
theorem impl_PermBetween.calls (k : Nat) (A0 : Option Addr) (c0 : Nat) (l0 : List Int) (A1 : Option Addr) (c1 : Nat) (l1 : List Int) (r1 : List Int) (r2 : Bool) (w : World) (hr0 : Kd.C (Kd.int .i64) w A0 l0.length l0) (hc0 : l0.length ≤ c0) (hr1 : Kd.C (Kd.int .i64) w A1 l1.length l1) (hc1 : l1.length ≤ c1) (h : impl_PermBetween.f k l0 l1 = some (r1, r2)) :
    Calls Try.prog 34 #[.slice A0 l0.length c0, .slice A1 l1.length c1] w fun e w' => ∃ v0_ : Value, e = .returned (.tuple #[v0_, .bool r2]) ∧ Kd.R (Kd.int .i64) 3 w' w.heap.size (fun _ => True) v0_ r1 ∧ Below w.heap.size w w' := by
  have HR0 := Aside0.mk hr0
  have HC0 := Aside0.mk hc0
  clear hr0 hc0
  have HR1 := Aside0.mk hr1
  have HC1 := Aside0.mk hc1
  clear hr1 hc1
  have HB := Aside0.mk (Below.refl w.heap.size w)
  have H : ((impl_IsArrangement.f k l0 l1).bind fun t226 => (if t226 = true then (impl_PermBetween.l0 k l0 ([] : List Int) l1 (l1.length : Int) 0) else (some (([] : List Int), false)))) = some (r1, r2) := h
  clear h
  replace H := Option.bind_eq_some_iff.mp H
  obtain ⟨t226, A30, H⟩ := H
  replace H : (if t226 = true then (impl_PermBetween.l0 k l0 ([] : List Int) l1 (l1.length : Int) 0) else (some (([] : List Int), false))) = some (r1, r2) := H
  have A3 := Aside0.mk A30
  clear A30
  by_cases c4 : t226 = true
  · subst c4
    rw [if_pos rfl] at H
    have H' := Aside0.mk H
    clear H
    go_enter Try.func34, Try.ntmps34
    go_wp2_with (first | ((with_reducible refine gate_callee (f := 55) rfl ?_); refine goesL_ (some 11) rfl rfl Try.func55 (by kernel_rfl) rfl #[.slice A0 l0.length c0, .slice A1 l1.length c1] rfl (by (try simp only [List.map_toArray, List.map_cons, List.map_nil]); first | done | rfl | (simp only [List.length_drop, List.length_take]; rfl)) ?_; (with_reducible refine (impl_IsArrangement.calls k _ _ l0 _ _ l1 true _ ?side1 ?side2 ?side3 ?side4 A3.out).mono ?_); (case side1 => repeat (first | exact HR0.out | (with_reducible refine Kd.C_alloc ?_ _) | (with_reducible refine Kd.C_drewN ?_ _) | (with_reducible refine Kd.C_drew ?_))); (case side2 => exact HC0.out); (case side3 => repeat (first | exact HR1.out | (with_reducible refine Kd.C_alloc ?_ _) | (with_reducible refine Kd.C_drewN ?_ _) | (with_reducible refine Kd.C_drew ?_))); (case side4 => exact HC1.out); rintro e w5 ⟨rfl, hb⟩; refine ⟨_, rfl, ?_⟩; have n0_ := Aside0.mk (below_step (by repeat (first | (with_reducible first | exact HB.out | apply below_alloc | apply pw_below_drewN | apply below_drew1) | exact HB.out)) hb); clear HB; have HB := n0_; clear n0_; (try clear hb); (try clear hb2); (try clear hk); (try clear hi)))
    go_loopg [6, 15] k (fun kq v6 v15 w' => ∃ (x6_1 : List Int) (x15_1 : Int), v15 = .int .i64 x15_1 ∧ Aside0 (impl_PermBetween.l0 kq l0 x6_1 l1 (l1.length : Int) x15_1 = some (r1, r2)) ∧ Aside0 (kq ≤ k) ∧ Aside0 (Kd.R (Kd.int .i64) 3 w' w.heap.size (fun _ => True) v6 x6_1) ∧ Aside0 (Below w.heap.size w w'))
    case atStart => exact ⟨(([] : List Int)), (0), (by first | rfl | (simp; done) | (simp [*]; done)), H', ⟨Nat.le_refl _⟩, ⟨by first | exact Kd.R_nil _ _ _ _ _ | exact Kd.N_nil _ _ _ _ _ | exact Kd.V_nil _ _ _ _ _ | exact Kd.Q_nil _ _ _ _ _ | exact Kd.S_nil _ _ _ _ _⟩, ⟨by repeat (first | (with_reducible first | exact HB.out | apply below_alloc | apply pw_below_drewN | apply below_drew1) | exact HB.out)⟩⟩
    case round =>
      clear H'
      try clear c1
      try clear p2
      try clear c3
      try clear c4
      try clear c5
      obtain ⟨x6_1, x15_1, rfl, HA, HK1, HO_6, HB⟩ := hrel
      cases gk with
      | zero => exact absurd HA.out (by simp [impl_PermBetween.l0])
      | succ k1 =>
        have H := HA.out
        clear HA
        simp only [impl_PermBetween.l0] at H
        by_cases c6 : x15_1 < (l1.length : Int)
        · rw [if_pos c6] at H
          have c6b0 : decide (x15_1 < (l1.length : Int)) = true := decide_eq_true c6
          clear c6
          by_cases c7 : 0 ≤ x15_1
          · rw [if_pos c7] at H
            have c7b0 : decide (0 ≤ x15_1) = true := decide_eq_true c7
            clear c7
            by_cases c8 : x15_1 < (l1.length : Int)
            · rw [if_pos c8] at H
              have c8b0 : decide (x15_1 < (l1.length : Int)) = true := decide_eq_true c8
              clear c8
              replace H := Option.bind_eq_some_iff.mp H
              obtain ⟨t228, A90, H⟩ := H
              replace H : ((impl_PositionOf.f l0 t228).bind fun t229 => (if x6_1.length < 17592186044416 then (impl_PermBetween.l0 k1 l0 (x6_1 ++ [t229]) l1 (l1.length : Int) (wrap64 (x15_1 + 1))) else (none))) = some (r1, r2) := H
              have A9 := Aside0.mk A90
              clear A90
              replace H := Option.bind_eq_some_iff.mp H
              obtain ⟨t229, A100, H⟩ := H
              replace H : (if x6_1.length < 17592186044416 then (impl_PermBetween.l0 k1 l0 (x6_1 ++ [t229]) l1 (l1.length : Int) (wrap64 (x15_1 + 1))) else (none)) = some (r1, r2) := H
              have A10 := Aside0.mk A100
              clear A100
              by_cases c11 : x6_1.length < 17592186044416
              · rw [if_pos c11] at H
                have LMc11 := Aside0.mk c11
                clear c11
                obtain ⟨y230, hy230⟩ : ∃ y_ : List Int, y_ = (x6_1 ++ [t229]) := ⟨_, rfl⟩
                replace H : (impl_PermBetween.l0 k1 l0 y230 l1 (l1.length : Int) (wrap64 (x15_1 + 1))) = some (r1, r2) := by first | (rw [hy230]; with_reducible exact H) | (have H2_ := (Option.bind_some _ _).symm.trans H; rw [hy230]; with_reducible exact H2_) | (have H2_ := (Option.bind_some _ _).symm.trans H; with_reducible exact H2_) | with_reducible exact H | (rw [hy230]; exact H) | exact H
                have Ny230 := Aside0.mk hy230
                clear hy230
                have H' := Aside0.mk H
                clear H
                have p227 : 0 ≤ (x15_1 : Int) := of_decide_eq_true (by first | (with_reducible assumption) | assumption)
                have q227 : x15_1 < (l1.length : Int) := of_decide_eq_true (by first | (with_reducible assumption) | assumption)
                obtain ⟨ad227, e227, hx227_0⟩ := Kd.at_int HR1.out x15_1 p227 q227
                cases e227
                replace hx227_0 := (HB.out.cell (World.block_lt_of_cell? w _ hx227_0)).trans hx227_0
                replace p227 := eq_true p227
                replace q227 := eq_true q227
                go_wp2_with (first | ((with_reducible refine gate_callee (f := 24) rfl ?_); refine goesL_ (some 22) rfl rfl Try.func24 (by kernel_rfl) rfl #[.int .i64 (rd l1 x15_1)] rfl (by (try simp only [List.map_toArray, List.map_cons, List.map_nil]); first | done | rfl | (simp only [List.length_drop, List.length_take]; rfl)) ?_; (with_reducible refine (impl_CardOf.calls (rd l1 x15_1) t228 _ A9.out).mono ?_); rintro e w' ⟨rfl, ⟨nd, rfl⟩⟩; refine ⟨_, rfl, ?_⟩) | ((with_reducible refine gate_callee (f := 56) rfl ?_); refine goesL_ (some 23) rfl rfl Try.func56 (by kernel_rfl) rfl #[.slice A0 l0.length c0, .int .i64 t228] rfl (by (try simp only [List.map_toArray, List.map_cons, List.map_nil]); first | done | rfl | (simp only [List.length_drop, List.length_take]; rfl)) ?_; (with_reducible refine (impl_PositionOf.calls _ _ l0 t228 t229 _ ?side1 ?side2 A10.out).mono ?_); (case side1 => repeat (first | exact (Kd.C_below HR0.out (by repeat (first | (with_reducible first | exact HB.out | apply below_alloc | apply pw_below_drewN | apply below_drew1) | exact HB.out))) | (with_reducible refine Kd.C_alloc ?_ _) | (with_reducible refine Kd.C_drewN ?_ _) | (with_reducible refine Kd.C_drew ?_))); (case side2 => exact HC0.out); rintro e w12 ⟨rfl, hb⟩; refine ⟨_, rfl, ?_⟩; have n0_ := Aside0.mk (Kd.R_below (by (with_reducible repeat (first | apply Kd.R_alloc | apply Kd.R_drewN | apply Kd.R_drew)); exact HO_6.out) hb); have n1_ := Aside0.mk (below_step (by repeat (first | (with_reducible first | exact HB.out | apply below_alloc | apply pw_below_drewN | apply below_drew1) | exact HB.out)) hb); clear HO_6; clear HB; have HO_6 := n0_; have HB := n1_; clear n0_ n1_; (try clear hb); (try clear hb2); (try clear hk); (try clear hi)) | ((with_reducible refine gate_builtin (b := .append) (xs := #[.tmp 19, .tmp 24]) rfl ?_); at_builtin; refine Kd.R_append (Kd.int .i64) (w0 := w) w.heap.size rfl (.tmp 19) (.tmp 24) 29 3 (.int .i64 0) 8 rfl Try.underlying29 info3 rfl (by decide) (by omega) u6 x6_1 t229 [.int .i64 t229] (fun _ => True) (fun _ => False) rfl rfl ?aP (fun _ hk => hk.elim) ?aF ?aO ?aB ?aS ?aL ?_; (case aP => exact rfl); (case aB => exact (by repeat (first | (with_reducible first | exact HB.out | apply below_alloc | apply pw_below_drewN | apply below_drew1) | exact HB.out))); (case aF => exact (fun _ _ => trivial)); (case aO => exact (by (with_reducible repeat (first | apply Kd.R_alloc | apply Kd.R_drewN | apply Kd.R_drew)); exact HO_6.out)); (case aS => exact (below_size (by repeat (first | (with_reducible first | exact HB.out | apply below_alloc | apply pw_below_drewN | apply below_drew1) | exact HB.out)))); (case aL => have := LMc11.out; omega); intro v231 w13 ho hb hg hat; rw [← Ny230.out] at ho; have n0_ := Aside0.mk (hb); have n1_ := Aside0.mk (ho); clear HB; clear HO_6; have HB := n0_; have HO232 := n1_; clear n0_ n1_; clear ho hb hg hat))
                go_roundg k1
                case measure => have := HK1.out; omega
                case rel => exact ⟨(y230), (wrap64 (x15_1 + 1)), (by first | rfl | (simp; done) | (simp [*]; done)), H', ⟨by have := HK1.out; omega⟩, ⟨by (with_reducible repeat (first | apply Kd.R_alloc | apply Kd.R_drewN | apply Kd.R_drew)); exact HO232.out⟩, ⟨by repeat (first | (with_reducible first | exact HB.out | apply below_alloc | apply pw_below_drewN | apply below_drew1) | exact HB.out)⟩⟩
              · rw [if_neg c11] at H
                exact absurd H (by simp)
            · rw [if_neg c8] at H
              exact absurd H (by simp)
          · rw [if_neg c7] at H
            exact absurd H (by simp)
        · rw [if_neg c6] at H
          have c6b0 : decide (x15_1 < (l1.length : Int)) = false := decide_eq_false c6
          clear c6
          simp only [Option.some.injEq, Prod.mk.injEq] at H
          obtain ⟨rfl, rfl⟩ := H
          go_wp2
          go_ret2
          exact ⟨_, by first | rfl | (simp [errW_none, errW_some] <;> rfl) | (simp [*, errW_none, errW_some] <;> rfl), by (with_reducible repeat (first | apply Kd.R_alloc | apply Kd.R_drewN | apply Kd.R_drew)); exact HO_6.out, by repeat (first | (with_reducible first | exact HB.out | apply below_alloc | apply pw_below_drewN | apply below_drew1) | exact HB.out)⟩
  · replace c4 := Bool.eq_false_iff.mpr c4
    subst c4
    rw [if_neg (show ¬ (false = true) by decide)] at H
    simp only [Option.some.injEq, Prod.mk.injEq] at H
    obtain ⟨rfl, rfl⟩ := H
    go_enter Try.func34, Try.ntmps34
    go_wp2_with (first | ((with_reducible refine gate_callee (f := 55) rfl ?_); refine goesL_ (some 11) rfl rfl Try.func55 (by kernel_rfl) rfl #[.slice A0 l0.length c0, .slice A1 l1.length c1] rfl (by (try simp only [List.map_toArray, List.map_cons, List.map_nil]); first | done | rfl | (simp only [List.length_drop, List.length_take]; rfl)) ?_; (with_reducible refine (impl_IsArrangement.calls k _ _ l0 _ _ l1 false _ ?side1 ?side2 ?side3 ?side4 A3.out).mono ?_); (case side1 => repeat (first | exact HR0.out | (with_reducible refine Kd.C_alloc ?_ _) | (with_reducible refine Kd.C_drewN ?_ _) | (with_reducible refine Kd.C_drew ?_))); (case side2 => exact HC0.out); (case side3 => repeat (first | exact HR1.out | (with_reducible refine Kd.C_alloc ?_ _) | (with_reducible refine Kd.C_drewN ?_ _) | (with_reducible refine Kd.C_drew ?_))); (case side4 => exact HC1.out); rintro e w14 ⟨rfl, hb⟩; refine ⟨_, rfl, ?_⟩; have n0_ := Aside0.mk (below_step (by repeat (first | (with_reducible first | exact HB.out | apply below_alloc | apply pw_below_drewN | apply below_drew1) | exact HB.out)) hb); clear HB; have HB := n0_; clear n0_; (try clear hb); (try clear hb2); (try clear hk); (try clear hi)))
    go_ret2
    exact ⟨_, by first | rfl | (simp [errW_none, errW_some] <;> rfl) | (simp [*, errW_none, errW_some] <;> rfl), by first | exact Kd.R_nil _ _ _ _ _ | exact Kd.N_nil _ _ _ _ _ | exact Kd.V_nil _ _ _ _ _ | exact Kd.Q_nil _ _ _ _ _ | exact Kd.S_nil _ _ _ _ _, by repeat (first | (with_reducible first | exact HB.out | apply below_alloc | apply pw_below_drewN | apply below_drew1) | exact HB.out)⟩

/-! ### impl_IsRiffle: function 35 -/
def impl_IsRiffle.f (k : Nat) (l0 : List Int) : Option (Bool) := (impl_PermOk.f k l0).bind fun t233 => (if t233 = true then ((impl_RisingSequences.f k l0).bind fun t234 => (some (decide ((t234.length : Int) ≤ 2)))) else (some false))
theorem impl_IsRiffle.mono : ∀ a0 k, LeO (impl_IsRiffle.f k a0) (impl_IsRiffle.f (k + 1) a0) := by
  intro a0 k
  unfold impl_IsRiffle.f
  repeat' first
      | (with_reducible exact impl_PermOk.mono _ _)
      | (with_reducible exact impl_RisingSequences.mono _ _)
      | (with_reducible exact LeO.refl _)
      | (with_reducible exact LeO.none _)
      | (with_reducible refine LeO.ite ?_ ?_)
      | (with_reducible refine LeO.bind ?_ (fun _ => ?_))
      | exact impl_PermOk.mono _ _
      | exact impl_RisingSequences.mono _ _
      | exact LeO.none _
      | refine LeO.ite ?_ ?_
      | refine LeO.bind ?_ (fun _ => ?_)
set_option maxHeartbeats 8000000 in
set_option maxRecDepth 100000 in
theorem impl_IsRiffle.calls (k : Nat) (A0 : Option Addr) (c0 : Nat) (l0 : List Int) (r : Bool) (w : World) (hr0 : Kd.C (Kd.int .i64) w A0 l0.length l0) (hc0 : l0.length ≤ c0) (h : impl_IsRiffle.f k l0 = some r) :
    Calls Try.prog 35 #[.slice A0 l0.length c0] w fun e w' => e = .returned (.bool r) ∧ Below w.heap.size w w' := by
  have HR0 := Aside0.mk hr0
  have HC0 := Aside0.mk hc0
  clear hr0 hc0
  have HB := Aside0.mk (Below.refl w.heap.size w)
  have H : ((impl_PermOk.f k l0).bind fun t233 => (if t233 = true then ((impl_RisingSequences.f k l0).bind fun t234 => (some (decide ((t234.length : Int) ≤ 2)))) else (some false))) = some r := h
  clear h
  replace H := Option.bind_eq_some_iff.mp H
  obtain ⟨t233, A20, H⟩ := H
  replace H : (if t233 = true then ((impl_RisingSequences.f k l0).bind fun t234 => (some (decide ((t234.length : Int) ≤ 2)))) else (some false)) = some r := H
  have A2 := Aside0.mk A20
  clear A20
  by_cases c3 : t233 = true
  · subst c3
    rw [if_pos rfl] at H
    replace H := Option.bind_eq_some_iff.mp H
    obtain ⟨t234, A40, H⟩ := H
    replace H : (some (decide ((t234.length : Int) ≤ 2))) = some r := H
    have A4 := Aside0.mk A40
    clear A40
    obtain rfl := Option.some.inj H
    go_enter Try.func35, Try.ntmps35
    go_wp2_with (first | ((with_reducible refine gate_callee (f := 52) rfl ?_); refine goesL_ (some 4) rfl rfl Try.func52 (by kernel_rfl) rfl #[.slice A0 l0.length c0] rfl (by (try simp only [List.map_toArray, List.map_cons, List.map_nil]); first | done | rfl | (simp only [List.length_drop, List.length_take]; rfl)) ?_; (with_reducible refine (impl_PermOk.calls k _ _ l0 true _ ?side1 ?side2 A2.out).mono ?_); (case side1 => repeat (first | exact HR0.out | (with_reducible refine Kd.C_alloc ?_ _) | (with_reducible refine Kd.C_drewN ?_ _) | (with_reducible refine Kd.C_drew ?_))); (case side2 => exact HC0.out); rintro e w' ⟨rfl, ⟨nd, rfl⟩⟩; refine ⟨_, rfl, ?_⟩) | (go_at_call 31; (with_reducible refine (impl_RisingSequences.calls k _ _ l0 t234 _ ?side1 ?side2 A4.out).mono ?_); (case side1 => repeat (first | exact HR0.out | (with_reducible refine Kd.C_alloc ?_ _) | (with_reducible refine Kd.C_drewN ?_ _) | (with_reducible refine Kd.C_drew ?_))); (case side2 => exact HC0.out); rintro e w5 ⟨v235, rfl, ho0, hb⟩; have n0_ := Aside0.mk (Kd.S_lower ho0 (below_size (by repeat (first | (with_reducible first | exact HB.out | apply below_alloc | apply pw_below_drewN | apply below_drew1) | exact HB.out)))); have n1_ := Aside0.mk (below_step (by repeat (first | (with_reducible first | exact HB.out | apply below_alloc | apply pw_below_drewN | apply below_drew1) | exact HB.out)) hb); clear HB; have HO236 := n0_; have HB := n1_; clear n0_ n1_; (try clear hb); (try clear hb2); (try clear hk); (try clear hi); (try clear ho0); obtain ⟨Ao6, co6, eo6⟩ := Kd.S_slice HO236.out; subst eo6))
    go_ret
    exact ⟨by first | rfl | (simp [errW_none, errW_some] <;> rfl) | (simp [*, errW_none, errW_some] <;> rfl), by repeat (first | (with_reducible first | exact HB.out | apply below_alloc | apply pw_below_drewN | apply below_drew1) | exact HB.out)⟩
  · replace c3 := Bool.eq_false_iff.mpr c3
    subst c3
    rw [if_neg (show ¬ (false = true) by decide)] at H
    obtain rfl := Option.some.inj H
    go_enter Try.func35, Try.ntmps35
    go_wp2_with (first | ((with_reducible refine gate_callee (f := 52) rfl ?_); refine goesL_ (some 4) rfl rfl Try.func52 (by kernel_rfl) rfl #[.slice A0 l0.length c0] rfl (by (try simp only [List.map_toArray, List.map_cons, List.map_nil]); first | done | rfl | (simp only [List.length_drop, List.length_take]; rfl)) ?_; (with_reducible refine (impl_PermOk.calls k _ _ l0 false _ ?side1 ?side2 A2.out).mono ?_); (case side1 => repeat (first | exact HR0.out | (with_reducible refine Kd.C_alloc ?_ _) | (with_reducible refine Kd.C_drewN ?_ _) | (with_reducible refine Kd.C_drew ?_))); (case side2 => exact HC0.out); rintro e w' ⟨rfl, ⟨nd, rfl⟩⟩; refine ⟨_, rfl, ?_⟩))
    go_ret
    exact ⟨by first | rfl | (simp [errW_none, errW_some] <;> rfl) | (simp [*, errW_none, errW_some] <;> rfl), by repeat (first | (with_reducible first | exact HB.out | apply below_alloc | apply pw_below_drewN | apply below_drew1) | exact HB.out)⟩

end Go.Proofs.Ytplacpfdmcnaiaa.MFnUnshuffles
