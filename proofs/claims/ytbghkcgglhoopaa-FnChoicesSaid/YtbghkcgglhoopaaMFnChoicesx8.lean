-- Written by this session's own program (wip/tools/myprint.py), over the kit's printer.
import Derived.Test.YtbghkcgglhoopaaMFnChoicesx0
import Derived.Test.YtbghkcgglhoopaaMFnChoicesx2
import Derived.Test.YtbghkcgglhoopaaMFnChoicesx3
import Derived.Test.YtbghkcgglhoopaaMFnChoicesx4
import Derived.Test.YtbghkcgglhoopaaMFnChoicesx7
namespace Go.Proofs.Ytbghkcgglhoopaa.MFnChoices
open Go.RowKit Go.Proofs.YtbghkcgglhoopaaW.PrintWords Go.Proofs.YtbghkcgglhoopaaW.PrintLast Go.Proofs.YtbghkcgglhoopaaW.PrintMore
attribute [local go_sem] max2_int min2_int max_two min_two max_three min_three max_four min_four   -- for this text's walks alone
set_option linter.unusedVariables false
set_option linter.unusedSimpArgs false

/-! ### impl_ChoiceName: function 37 -/
def impl_ChoiceName.f (a0 : Int) : Option (ByteArray) := if a0 < 0 then (some (⟨#[]⟩ : ByteArray)) else (if a0 > 4 then (some (⟨#[]⟩ : ByteArray)) else ((some (([(⟨#[102, 105, 120, 101, 100]⟩ : ByteArray), (⟨#[97, 110, 121, 99, 117, 116]⟩ : ByteArray), (⟨#[114, 105, 102, 102, 108, 101]⟩ : ByteArray), (⟨#[97, 110, 121, 112, 97, 105, 114]⟩ : ByteArray), (⟨#[112, 105, 99, 107]⟩ : ByteArray)] : List ByteArray) : List ByteArray)).bind fun y291 => (if 0 ≤ a0 then (if a0 < (y291.length : Int) then (some (rdOf ByteArray.empty y291 a0)) else (none)) else (none))))
set_option maxHeartbeats 8000000 in
set_option maxRecDepth 100000 in
theorem impl_ChoiceName.calls (a0 : Int) (r : ByteArray) (w : World) (h : impl_ChoiceName.f a0 = some r) :
  Calls Try.prog 37 #[.int .i64 a0] w fun e w' => e = .returned (.string r) ∧ Below w.heap.size w w' := by
 have HB := Aside0.mk (Below.refl w.heap.size w)
 have H : (if a0 < 0 then (some (⟨#[]⟩ : ByteArray)) else (if a0 > 4 then (some (⟨#[]⟩ : ByteArray)) else ((some (([(⟨#[102, 105, 120, 101, 100]⟩ : ByteArray), (⟨#[97, 110, 121, 99, 117, 116]⟩ : ByteArray), (⟨#[114, 105, 102, 102, 108, 101]⟩ : ByteArray), (⟨#[97, 110, 121, 112, 97, 105, 114]⟩ : ByteArray), (⟨#[112, 105, 99, 107]⟩ : ByteArray)] : List ByteArray) : List ByteArray)).bind fun y291 => (if 0 ≤ a0 then (if a0 < (y291.length : Int) then (some (rdOf ByteArray.empty y291 a0)) else (none)) else (none))))) = some r := h
 clear h
 by_cases c2 : a0 < 0
 ·rw [if_pos c2] at H
  have c2b0 : decide (a0 < 0) = true := decide_eq_true c2
  clear c2
  obtain rfl := Option.some.inj H
  go_enter Try.func37, Try.ntmps37
  go_wp2
  go_ret
  exact ⟨by first | rfl | (simp [errW_none, errW_some] <;> rfl) | (simp [*, errW_none, errW_some] <;> rfl), by repeat (first | (with_reducible first | exact HB.out | apply below_alloc | apply pw_below_drewN | apply below_drew1) | exact HB.out)⟩
 ·rw [if_neg c2] at H
  have c2b0 : decide (a0 < 0) = false := decide_eq_false c2
  clear c2
  by_cases c3 : a0 > 4
  ·rw [if_pos c3] at H
   have c3b0 : decide (4 < a0) = true := decide_eq_true c3
   clear c3
   obtain rfl := Option.some.inj H
   go_enter Try.func37, Try.ntmps37
   go_wp2
   go_ret
   exact ⟨by first | rfl | (simp [errW_none, errW_some] <;> rfl) | (simp [*, errW_none, errW_some] <;> rfl), by repeat (first | (with_reducible first | exact HB.out | apply below_alloc | apply pw_below_drewN | apply below_drew1) | exact HB.out)⟩
  ·rw [if_neg c3] at H
   have c3b0 : decide (4 < a0) = false := decide_eq_false c3
   clear c3
   obtain ⟨y291, hy291⟩ : ∃ y_ : List ByteArray, y_ = (([(⟨#[102, 105, 120, 101, 100]⟩ : ByteArray), (⟨#[97, 110, 121, 99, 117, 116]⟩ : ByteArray), (⟨#[114, 105, 102, 102, 108, 101]⟩ : ByteArray), (⟨#[97, 110, 121, 112, 97, 105, 114]⟩ : ByteArray), (⟨#[112, 105, 99, 107]⟩ : ByteArray)] : List ByteArray)) := ⟨_, rfl⟩
   replace H : (if 0 ≤ a0 then (if a0 < (y291.length : Int) then (some (rdOf ByteArray.empty y291 a0)) else (none)) else (none)) = some r := by first | (rw [hy291]; with_reducible exact H) | (have H2_ := (Option.bind_some _ _).symm.trans H; rw [hy291]; with_reducible exact H2_) | (have H2_ := (Option.bind_some _ _).symm.trans H; with_reducible exact H2_) | with_reducible exact H | (rw [hy291]; exact H) | exact H
   have Ny291 := Aside0.mk hy291
   clear hy291
   by_cases c4 : 0 ≤ a0
   ·rw [if_pos c4] at H
    have c4b0 : decide (0 ≤ a0) = true := decide_eq_true c4
    clear c4
    by_cases c5 : a0 < (y291.length : Int)
    ·rw [if_pos c5] at H
     have c5b0 : decide (a0 < (y291.length : Int)) = true := decide_eq_true c5
     clear c5
     obtain rfl := Option.some.inj H
     go_enter Try.func37, Try.ntmps37
     go_wp2_with (first | ((with_reducible refine gate_dst (N := 9) rfl ?_); refine Kd.R_lit Kd.string _ 9 ?hg (N := 9) ?hd (xs := ([(⟨#[102, 105, 120, 101, 100]⟩ : ByteArray), (⟨#[97, 110, 121, 99, 117, 116]⟩ : ByteArray), (⟨#[114, 105, 102, 102, 108, 101]⟩ : ByteArray), (⟨#[97, 110, 121, 112, 97, 105, 114]⟩ : ByteArray), (⟨#[112, 105, 99, 107]⟩ : ByteArray)] : List ByteArray)) (inner := [.string (⟨#[102, 105, 120, 101, 100]⟩ : ByteArray), .string (⟨#[97, 110, 121, 99, 117, 116]⟩ : ByteArray), .string (⟨#[114, 105, 102, 102, 108, 101]⟩ : ByteArray), .string (⟨#[97, 110, 121, 112, 97, 105, 114]⟩ : ByteArray), .string (⟨#[112, 105, 99, 107]⟩ : ByteArray)]) (ok := fun _ => True) (okp := fun _ => True) ?hr ?hp (fun _ hk => hk) trivial (Below.refl _ _) (Nat.le_refl _) (by simp) ?_; (case hd => rfl); (case hg => rfl); (case hr => first | (go_simp; done) | (go_simp; rfl)); (case hp => exact (Reps.one (show Kd.M Kd.string _ _ _ (⟨#[102, 105, 120, 101, 100]⟩ : ByteArray) [.string (⟨#[102, 105, 120, 101, 100]⟩ : ByteArray)] from rfl) (Reps.one (show Kd.M Kd.string _ _ _ (⟨#[97, 110, 121, 99, 117, 116]⟩ : ByteArray) [.string (⟨#[97, 110, 121, 99, 117, 116]⟩ : ByteArray)] from rfl) (Reps.one (show Kd.M Kd.string _ _ _ (⟨#[114, 105, 102, 102, 108, 101]⟩ : ByteArray) [.string (⟨#[114, 105, 102, 102, 108, 101]⟩ : ByteArray)] from rfl) (Reps.one (show Kd.M Kd.string _ _ _ (⟨#[97, 110, 121, 112, 97, 105, 114]⟩ : ByteArray) [.string (⟨#[97, 110, 121, 112, 97, 105, 114]⟩ : ByteArray)] from rfl) (Reps.one (show Kd.M Kd.string _ _ _ (⟨#[112, 105, 99, 107]⟩ : ByteArray) [.string (⟨#[112, 105, 99, 107]⟩ : ByteArray)] from rfl) (Reps.none _ _))))))); intro v292 w6 ho7 hb hg_ hnew_; clear hg_ hnew_; (first | rw [← Ny291.out] at ho7 | (simp only [Int.reduceToNat] at ho7; rw [← Ny291.out] at ho7)); have n0_ := Aside0.mk (Kd.R_lower ho7 (below_size (by repeat (first | (with_reducible first | exact HB.out | apply below_alloc | apply pw_below_drewN | apply below_drew1) | exact HB.out)))); have n1_ := Aside0.mk (below_step (by repeat (first | (with_reducible first | exact HB.out | apply below_alloc | apply pw_below_drewN | apply below_drew1) | exact HB.out)) hb); clear HB; have HO293 := n0_; have HB := n1_; clear n0_ n1_; clear hb ho7; obtain ⟨Ao8, co8, eo8⟩ := Kd.R_slice HO293.out; subst eo8; have p294 : 0 ≤ (a0 : Int) := of_decide_eq_true (by first | (with_reducible assumption) | assumption); have q294 : a0 < (y291.length : Int) := of_decide_eq_true (by first | (with_reducible assumption) | assumption); obtain ⟨ad294, e294, hx294_0⟩ := Kd.at_string (Kd.R_reads' HO293.out).2.2 a0 p294 q294; cases e294; replace p294 := eq_true p294; replace q294 := eq_true q294))
     go_ret
     exact ⟨by first | rfl | (simp [errW_none, errW_some] <;> rfl) | (simp [*, errW_none, errW_some] <;> rfl), by repeat (first | (with_reducible first | exact HB.out | apply below_alloc | apply pw_below_drewN | apply below_drew1) | exact HB.out)⟩
    ·rw [if_neg c5] at H
     exact absurd H (by simp)
   ·rw [if_neg c4] at H
    exact absurd H (by simp)

/-! ### slices_IndexFunc_int_int_103: function 103, by hand -/
/-- The first index at which a predicate holds, from i on, or -1. -/
def idxF (p : Int → Bool) : Int → List Int → Int
 | _, [] => -1
 | i, x :: r => if p x = true then i else idxF p (i + 1) r
theorem idxF_drop (p : Int → Bool) (l : List Int) (i : Int) (h0 : 0 ≤ i) (h : i < l.length) (hm : l.length ≤ 9223372036854775807) : idxF p i (l.drop i.toNat) = if p (rd l i) = true then i else idxF p (wrap64 (i + 1)) (l.drop (wrap64 (i + 1)).toNat) := by
 have hlt : i.toNat < l.length := by omega
 have hw2 : wrap64 (i + 1) = i + 1 := by unfold wrap64; omega
 have hn : (i + 1).toNat = i.toNat + 1 := by omega
 rw [List.drop_eq_getElem_cons hlt, idxF, hw2, hn]
 simp [rd, hlt]
theorem rd_mem {l : List Int} {i : Int} (h0 : 0 ≤ i) (h : i < l.length) : rd l i ∈ l := by
 have hlt : i.toNat < l.length := by omega
 have : rd l i = l[i.toNat] := by simp [rd, hlt]
 rw [this]
 exact List.getElem_mem hlt
/-- slices.IndexFunc at a function value whose calls answer p at every element and only make memory. -/
def Answers (g : Nat) (lb : Array Value) (p : Int → Bool) (l : List Int) (w : World) : Prop :=
 ∀ x, x ∈ l → ∀ W : World, Below w.heap.size w W → Calls Try.prog g (#[.int .i64 x] ++ lb) W fun e w' => e = .returned (.bool (p x)) ∧ Below w.heap.size w w'
set_option maxHeartbeats 8000000 in
set_option maxRecDepth 100000 in
theorem slices_IndexFunc_int_int_103.calls (g : Nat) (lb : Array Value) (p : Int → Bool) (A0 : Option Addr) (c0 : Nat) (l0 : List Int) (w : World) (hr0 : Kd.C (Kd.int .i64) w A0 l0.length l0) (eg : ∀ args w, (callFunc g args).run Try.prog w = .ok (.enter g args) w) (hp : Answers g lb p l0 w) :
  Calls Try.prog 103 #[.slice A0 l0.length c0, .func (.func g) #[] lb] w fun e w' => e = .returned (.int .i64 (idxF p 0 l0)) ∧ Below w.heap.size w w' := by
 have HR0 := Aside0.mk hr0
 have HP := Aside0.mk hp
 have HM := Aside0.mk hr0.2.1
 clear hr0 hp
 go_enter Try.func103, Try.ntmps103
 go_wp2
 go_loopg [5, 8] l0.length (fun gg _ s8 wr => ∃ i : Int, s8 = .int .i64 i ∧ Aside0 (0 ≤ i ∧ i.toNat ≤ l0.length ∧ l0.length - i.toNat ≤ gg) ∧ Aside0 (Below w.heap.size w wr) ∧ Aside0 (idxF p 0 l0 = idxF p i (l0.drop i.toNat)))
 case atStart => exact ⟨0, rfl, ⟨by omega, by simp, by simp⟩, ⟨Below.refl _ _⟩, ⟨rfl⟩⟩
 case round =>
  obtain ⟨i, rfl, HK, HB, HI⟩ := hrel
  by_cases c1 : i < (l0.length : Int)
  ·have c2 := HK.out.1
   obtain ⟨ad, ea, hx⟩ := Kd.at_int HR0.out i c2 c1
   cases ea
   replace hx := (HB.out.cell (World.block_lt_of_cell? w _ hx)).trans hx
   have HC := Aside0.mk (HP.out _ (rd_mem c2 c1))
   have HD := Aside0.mk (idxF_drop p l0 i c2 c1 HM.out)
   have HW := Aside0.mk (show wrap64 (i + 1) = i + 1 by have := HM.out; unfold wrap64; omega)
   have HT := Aside0.mk c1
   have c1b : decide (i < (l0.length : Int)) = true := decide_eq_true c1
   replace c1 := eq_true c1
   replace c2 := eq_true c2
   cases hq : p (rd l0 i) with
   | true =>
    rw [hq] at HC HD
    clear hq
    go_wp2_with (go_at_fn g; refine (HC.out _ HB.out).mono ?_; rintro e w' ⟨rfl, hb⟩)
    go_ret
    exact ⟨by rw [HI.out, HD.out]; rfl, hb⟩
   | false =>
    rw [hq] at HC HD
    clear hq
    go_wp2_with (go_at_fn g; refine (HC.out _ HB.out).mono ?_; rintro e w' ⟨rfl, hb⟩)
    go_roundg (l0.length - (i.toNat + 1))
    case measure => have := HT.out; have := HK.out; omega
    case rel => exact ⟨wrap64 (i + 1), rfl, ⟨by rw [HW.out]; have := HT.out; have := HK.out; omega, by rw [HW.out]; have := HT.out; have := HK.out; omega, by rw [HW.out]; have := HT.out; have := HK.out; omega⟩, ⟨hb⟩, ⟨by rw [HI.out, HD.out]; simp⟩⟩
  ·have c1b : decide (i < (l0.length : Int)) = false := decide_eq_false c1
   have HE := Aside0.mk (show idxF p 0 l0 = -1 by rw [HI.out, List.drop_eq_nil_of_le (by have := HK.out; omega)]; rfl)
   clear c1
   go_wp2
   go_ret
   exact ⟨by rw [HE.out]; rfl, HB.out⟩

/-! ### slices_ContainsFunc_int_int_67: function 67, by hand -/
theorem idxF_nonneg (p : Int → Bool) (l : List Int) : ∀ i : Int, 0 ≤ i → (0 ≤ idxF p i l ↔ l.any p = true) := by
 induction l with
 | nil => intro i hi; simp [idxF]
 | cons x r ih =>
  intro i hi
  rw [idxF, List.any_cons]
  cases hx : p x with
  | true => simp [hi]
  | false => simp only [Bool.false_eq_true, if_false, Bool.false_or]; exact ih (i + 1) (by omega)
set_option maxHeartbeats 8000000 in
set_option maxRecDepth 100000 in
/-- slices.ContainsFunc at such a function value. -/
theorem slices_ContainsFunc_int_int_67.calls (g : Nat) (lb : Array Value) (p : Int → Bool) (A0 : Option Addr) (c0 : Nat) (l0 : List Int) (w : World) (hr0 : Kd.C (Kd.int .i64) w A0 l0.length l0) (eg : ∀ args w, (callFunc g args).run Try.prog w = .ok (.enter g args) w) (hp : Answers g lb p l0 w) :
  Calls Try.prog 67 #[.slice A0 l0.length c0, .func (.func g) #[] lb] w fun e w' => e = .returned (.bool (l0.any p)) ∧ Below w.heap.size w w' := by
 have HC := Aside0.mk (slices_IndexFunc_int_int_103.calls g lb p A0 c0 l0 w hr0 eg hp)
 have HE := Aside0.mk (show decide (0 ≤ idxF p 0 l0) = l0.any p by rw [Bool.eq_iff_iff, decide_eq_true_eq]; exact idxF_nonneg p l0 0 (by omega))
 clear hr0 eg hp
 go_enter Try.func67, Try.ntmps67
 go_wp2_with (go_at_call 103; refine HC.out.mono ?_; rintro e w' ⟨rfl, hb⟩)
 go_ret
 exact ⟨by rw [← HE.out]; rfl, hb⟩

/-! ### impl_PositionOf: function 69, by hand -/
/-- Does a cell show this card? -/
def isCard (c : Int) (x : Int) : Bool := (impl_CardOf.f x).getD 0 == c
theorem card_total (x : Int) : impl_CardOf.f x = some ((impl_CardOf.f x).getD 0) := by
 unfold impl_CardOf.f
 repeat' split
 all_goals rfl
def impl_PositionOf.f (l0 : List Int) (a1 : Int) : Option Int := some (if a1 < 0 then -1 else idxF (isCard a1) 0 l0)
set_option maxHeartbeats 8000000 in
set_option maxRecDepth 100000 in
theorem impl_PositionOf.closure (c : Int) (x : Int) (B : Nat) (W : World) (hc : W.cell? ⟨B, 0, none⟩ = some (.int .i64 c)) :
  Calls Try.prog 104 #[.int .i64 x, .pointer (some ⟨B, 0, none⟩)] W fun e w' => e = .returned (.bool (isCard c x)) ∧ ∃ n, w' = W.drewN n := by
 have HC := Aside0.mk (card_total x)
 go_enter Try.func104, Try.ntmps104
 go_wp2
 go_quiet ((go_at_call 70; exact Calls.quiet_of ((impl_CardOf.calls x _ _ HC.out).mono (fun _ _ h => ⟨h.1, h.2.out⟩))))
 go_wp2
 go_ret
 exact ⟨by first | rfl | simp [isCard], _, rfl⟩
set_option maxHeartbeats 8000000 in
set_option maxRecDepth 100000 in
theorem impl_PositionOf.calls (A0 : Option Addr) (c0 : Nat) (l0 : List Int) (a1 : Int) (r : Int) (w : World) (hr0 : Kd.C (Kd.int .i64) w A0 l0.length l0) (hc0 : l0.length ≤ c0) (h : impl_PositionOf.f l0 a1 = some r) :
  Calls Try.prog 69 #[.slice A0 l0.length c0, .int .i64 a1] w fun e w' => e = .returned (.int .i64 r) ∧ Below w.heap.size w w' := by
 have HR0 := Aside0.mk hr0
 clear hr0 hc0
 unfold impl_PositionOf.f at h
 obtain rfl := Option.some.inj h
 clear h
 by_cases c1 : a1 < 0
 ·rw [if_pos c1]
  have c1b : decide (a1 < 0) = true := decide_eq_true c1
  clear c1
  go_enter Try.func69, Try.ntmps69
  go_wp2
  go_ret
  exact ⟨rfl, below_alloc (Below.refl _ _) _⟩
 ·rw [if_neg c1]
  have c1b : decide (a1 < 0) = false := decide_eq_false c1
  clear c1
  have eg := enters_of Try.func104 (by kernel_rfl) rfl
  have EG := Aside0.mk eg
  clear eg
  have HP := Aside0.mk (show Answers 104 #[.pointer (some ⟨w.heap.size, 0, none⟩)] (isCard a1) l0 (w.alloc (.cells #[.int .i64 a1] 3)) from fun x _ W hb => by
   refine (impl_PositionOf.closure a1 x w.heap.size W ((hb.cell (p := ⟨w.heap.size, 0, none⟩) (by simp)).trans (by simp))).mono ?_
   rintro e w' ⟨rfl, n, rfl⟩
   exact ⟨rfl, pw_below_drewN hb n⟩)
  go_enter Try.func69, Try.ntmps69
  go_wp2_with (go_at_call 103; refine (slices_IndexFunc_int_int_103.calls _ _ _ A0 c0 l0 _ (Kd.C_alloc HR0.out _) EG.out HP.out).mono ?_; rintro e w' ⟨rfl, hb⟩)
  go_ret
  exact ⟨rfl, below_step (below_alloc (Below.refl _ _) _) hb⟩

/-! ### impl_IsArrangement: function 38, by hand -/
/-- Is a cell's card in no place of a packet? -/
def lacks (q : List Int) (x : Int) : Bool := decide ((if (impl_CardOf.f x).getD 0 < 0 then -1 else idxF (isCard ((impl_CardOf.f x).getD 0)) 0 q) < 0)
def impl_IsArrangement.f (k : Nat) (l0 : List Int) (l1 : List Int) : Option Bool :=
 (impl_PacketOk.f k l0).bind fun t => if t = true then ((impl_PacketOk.f k l1).bind fun s => if s = true then (if (l0.length : Int) = (l1.length : Int) then some (!(l0.any (lacks l1))) else some false) else some false) else some false
theorem impl_IsArrangement.mono : ∀ a0 a1 k, LeO (impl_IsArrangement.f k a0 a1) (impl_IsArrangement.f (k + 1) a0 a1) := by
 intro a0 a1 k
 unfold impl_IsArrangement.f
 repeat' first
  | (with_reducible exact impl_PacketOk.mono _ _)
  | (with_reducible exact LeO.refl _)
  | (with_reducible refine LeO.ite ?_ ?_)
  | (with_reducible refine LeO.bind ?_ (fun _ => ?_))
set_option maxHeartbeats 8000000 in
set_option maxRecDepth 100000 in
theorem impl_IsArrangement.closure (A1 : Option Addr) (c1 : Nat) (l1 : List Int) (x : Int) (B : Nat) (W : World) (hr : Kd.C (Kd.int .i64) W A1 l1.length l1) (hc1 : l1.length ≤ c1) (hc : W.cell? ⟨B, 0, none⟩ = some (.slice A1 l1.length c1)) :
  Calls Try.prog 68 #[.int .i64 x, .pointer (some ⟨B, 0, none⟩)] W fun e w' => e = .returned (.bool (lacks l1 x)) ∧ Below W.heap.size W w' := by
 obtain ⟨c, hcd⟩ : ∃ c, impl_CardOf.f x = some c := ⟨_, card_total x⟩
 obtain ⟨r, hps⟩ : ∃ r, impl_PositionOf.f l1 c = some r := ⟨_, rfl⟩
 have HLK := Aside0.mk (show lacks l1 x = decide (r < 0) by
  have : r = (if c < 0 then -1 else idxF (isCard c) 0 l1) := (Option.some.inj hps).symm
  rw [this]
  unfold lacks
  rw [hcd]
  rfl)
 have HC := Aside0.mk hcd
 have HP := Aside0.mk hps
 have HR := Aside0.mk hr
 have HL := Aside0.mk hc1
 clear hr hc1 hcd hps
 go_enter Try.func68, Try.ntmps68
 go_wp2
 go_region_with (first | (go_at_call 70; (with_reducible refine (impl_CardOf.calls x c _ HC.out).mono ?_); rintro e w' ⟨rfl, ⟨nd, rfl⟩⟩) | (go_at_call 69; (refine (impl_PositionOf.calls A1 c1 l1 c r _ ?side1 HL.out HP.out).mono ?_); (case side1 => repeat (first | exact HR.out | (with_reducible refine Kd.C_alloc ?_ _) | (with_reducible refine Kd.C_drewN ?_ _) | (with_reducible refine Kd.C_drew ?_))); rintro e w' ⟨rfl, hb⟩))
 all_goals
  try go_wp2
  go_ret
  exact ⟨by rw [HLK.out]; rfl, below_step (by repeat (first | exact Below.refl _ _ | apply pw_below_drewN | apply below_drew)) hb⟩
set_option maxHeartbeats 8000000 in
set_option maxRecDepth 100000 in
theorem impl_IsArrangement.calls (k : Nat) (A0 : Option Addr) (c0 : Nat) (l0 : List Int) (A1 : Option Addr) (c1 : Nat) (l1 : List Int) (r : Bool) (w : World) (hr0 : Kd.C (Kd.int .i64) w A0 l0.length l0) (hc0 : l0.length ≤ c0) (hr1 : Kd.C (Kd.int .i64) w A1 l1.length l1) (hc1 : l1.length ≤ c1) (h : impl_IsArrangement.f k l0 l1 = some r) :
  Calls Try.prog 38 #[.slice A0 l0.length c0, .slice A1 l1.length c1] w fun e w' => e = .returned (.bool r) ∧ Below w.heap.size w w' := by
 have HR0 := Aside0.mk hr0
 have HC0 := Aside0.mk hc0
 have HR1 := Aside0.mk hr1
 have HC1 := Aside0.mk hc1
 clear hr0 hc0 hr1 hc1
 unfold impl_IsArrangement.f at h
 obtain ⟨t, ht, h⟩ := Option.bind_eq_some_iff.mp h
 have HT := Aside0.mk ht
 clear ht
 have B1 := Aside0.mk (below_alloc (Below.refl w.heap.size w) (.cells #[.slice A1 l1.length c1] 22))
 cases t with
 | false =>
  obtain rfl := Option.some.inj h
  clear h
  go_enter Try.func38, Try.ntmps38
  go_wp2_with (go_at_call 49; (refine (impl_PacketOk.calls k A0 c0 l0 false _ ?side1 HC0.out HT.out).mono ?_); (case side1 => exact Kd.C_alloc HR0.out _); rintro e w1 ⟨rfl, hb1⟩)
  go_ret
  exact ⟨rfl, below_step B1.out hb1⟩
 | true =>
  rw [if_pos rfl] at h
  obtain ⟨s, hs, h⟩ := Option.bind_eq_some_iff.mp h
  have HS := Aside0.mk hs
  clear hs
  cases s with
  | false =>
   obtain rfl := Option.some.inj h
   clear h
   go_enter Try.func38, Try.ntmps38
   go_wp2_with (first | (go_at_call 49; (with_reducible refine (impl_PacketOk.calls k A0 c0 l0 true _ ?side1 HC0.out HT.out).mono ?_); (case side1 => exact Kd.C_alloc HR0.out _); rintro e w1 ⟨rfl, hb1⟩; have B2 := Aside0.mk (below_step B1.out hb1); have HZ := Aside0.mk (show w.heap.size < w1.heap.size by have := hb1.size; simp at this; omega); have hcell := (hb1.cell (p := ⟨w.heap.size, 0, none⟩) (by simp)).trans (show _ = some (Value.slice A1 l1.length c1) by simp); clear hb1) | (go_at_call 49; (with_reducible refine (impl_PacketOk.calls k A1 c1 l1 false _ ?side1 HC1.out HS.out).mono ?_); (case side1 => exact Kd.C_below HR1.out B2.out); rintro e w2 ⟨rfl, hb2⟩; have B3 := Aside0.mk (below_step B2.out hb2); have hcell2 := (hb2.cell (p := ⟨w.heap.size, 0, none⟩) HZ.out).trans hcell; have HZ2 := Aside0.mk (Nat.lt_of_lt_of_le HZ.out hb2.size); clear hb2))
   go_ret
   exact ⟨rfl, B3.out⟩
  | true =>
   rw [if_pos rfl] at h
   by_cases hl : (l0.length : Int) = (l1.length : Int)
   ·rw [if_pos hl] at h
    obtain rfl := Option.some.inj h
    clear h
    have e1 : ((l0.length : Int) == (l1.length : Int)) = true := beq_iff_eq.mpr hl
    have e2 : ((l0.length : Int) != (l1.length : Int)) = false := bne_eq_false_iff_eq.mpr hl
    have e3 : (l0.length == l1.length) = true := beq_iff_eq.mpr (by omega)
    have e4 : (l0.length != l1.length) = false := bne_eq_false_iff_eq.mpr (by omega)
    clear hl
    have EG := Aside0.mk (enters_of Try.func68 (by kernel_rfl) rfl)
    go_enter Try.func38, Try.ntmps38
    go_wp2_with (first | (go_at_call 49; (with_reducible refine (impl_PacketOk.calls k A0 c0 l0 true _ ?side1 HC0.out HT.out).mono ?_); (case side1 => exact Kd.C_alloc HR0.out _); rintro e w1 ⟨rfl, hb1⟩; have B2 := Aside0.mk (below_step B1.out hb1); have HZ := Aside0.mk (show w.heap.size < w1.heap.size by have := hb1.size; simp at this; omega); have hcell := (hb1.cell (p := ⟨w.heap.size, 0, none⟩) (by simp)).trans (show _ = some (Value.slice A1 l1.length c1) by simp); clear hb1) | (go_at_call 49; (with_reducible refine (impl_PacketOk.calls k A1 c1 l1 true _ ?side1 HC1.out HS.out).mono ?_); (case side1 => exact Kd.C_below HR1.out B2.out); rintro e w2 ⟨rfl, hb2⟩; have B3 := Aside0.mk (below_step B2.out hb2); have hcell2 := (hb2.cell (p := ⟨w.heap.size, 0, none⟩) HZ.out).trans hcell; have HZ2 := Aside0.mk (Nat.lt_of_lt_of_le HZ.out hb2.size); clear hb2) | (go_at_call 67; refine (slices_ContainsFunc_int_int_67.calls _ _ (lacks l1) A0 c0 l0 _ (Kd.C_below HR0.out B3.out) EG.out ?side1).mono ?_; (case side1 => exact fun x _ W hb => (impl_IsArrangement.closure A1 c1 l1 x w.heap.size W (Kd.C_below HR1.out (below_step B3.out hb)) HC1.out ((hb.cell (p := ⟨w.heap.size, 0, none⟩) HZ2.out).trans hcell2)).mono (fun _ _ h => ⟨h.1, below_step hb h.2⟩)); rintro e w3 ⟨rfl, hb3⟩; have B4 := Aside0.mk (below_step B3.out hb3); clear hb3))
    go_ret
    exact ⟨rfl, B4.out⟩
   ·rw [if_neg hl] at h
    obtain rfl := Option.some.inj h
    clear h
    have e1 : ((l0.length : Int) == (l1.length : Int)) = false := beq_eq_false_iff_ne.mpr hl
    have e2 : ((l0.length : Int) != (l1.length : Int)) = true := bne_iff_ne.mpr hl
    have e3 : (l0.length == l1.length) = false := by apply beq_eq_false_iff_ne.mpr; omega
    have e4 : (l0.length != l1.length) = true := by apply bne_iff_ne.mpr; omega
    clear hl
    go_enter Try.func38, Try.ntmps38
    go_wp2_with (first | (go_at_call 49; (with_reducible refine (impl_PacketOk.calls k A0 c0 l0 true _ ?side1 HC0.out HT.out).mono ?_); (case side1 => exact Kd.C_alloc HR0.out _); rintro e w1 ⟨rfl, hb1⟩; have B2 := Aside0.mk (below_step B1.out hb1); have HZ := Aside0.mk (show w.heap.size < w1.heap.size by have := hb1.size; simp at this; omega); have hcell := (hb1.cell (p := ⟨w.heap.size, 0, none⟩) (by simp)).trans (show _ = some (Value.slice A1 l1.length c1) by simp); clear hb1) | (go_at_call 49; (with_reducible refine (impl_PacketOk.calls k A1 c1 l1 true _ ?side1 HC1.out HS.out).mono ?_); (case side1 => exact Kd.C_below HR1.out B2.out); rintro e w2 ⟨rfl, hb2⟩; have B3 := Aside0.mk (below_step B2.out hb2); have hcell2 := (hb2.cell (p := ⟨w.heap.size, 0, none⟩) HZ.out).trans hcell; have HZ2 := Aside0.mk (Nat.lt_of_lt_of_le HZ.out hb2.size); clear hb2))
    go_ret
    exact ⟨rfl, B3.out⟩

/-! ### slices_IndexFunc_int_int_105: function 105, by hand -/
/-- The first index at which a predicate on lists holds, from i on, or -1. -/
def idxL (p : List Int → Bool) : Int → List (List Int) → Int
 | _, [] => -1
 | i, x :: r => if p x = true then i else idxL p (i + 1) r
theorem idxL_drop (p : List Int → Bool) (l : List (List Int)) (i : Int) (h0 : 0 ≤ i) (h : i < l.length) (hm : l.length ≤ 9223372036854775807) : idxL p i (l.drop i.toNat) = if p (rdRows l i) = true then i else idxL p (wrap64 (i + 1)) (l.drop (wrap64 (i + 1)).toNat) := by
 have hlt : i.toNat < l.length := by omega
 have hw2 : wrap64 (i + 1) = i + 1 := by unfold wrap64; omega
 have hn : (i + 1).toNat = i.toNat + 1 := by omega
 rw [List.drop_eq_getElem_cons hlt, idxL, hw2, hn]
 simp [rdRows, hlt]
theorem rdRows_mem {l : List (List Int)} {i : Int} (h0 : 0 ≤ i) (h : i < l.length) : rdRows l i ∈ l := by
 have hlt : i.toNat < l.length := by omega
 have : rdRows l i = l[i.toNat] := by simp [rdRows, hlt]
 rw [this]
 exact List.getElem_mem hlt
/-- slices.IndexFunc, over lists, at a function value whose calls answer p at every element and only make memory. -/
def AnswersL (g : Nat) (lb : Array Value) (p : List Int → Bool) (l : List (List Int)) (w : World) : Prop :=
 ∀ x, x ∈ l → ∀ (A : Option Addr) (c : Nat) (W : World), Below w.heap.size w W → Kd.C (Kd.int .i64) W A x.length x → x.length ≤ c → Calls Try.prog g (#[.slice A x.length c] ++ lb) W fun e w' => e = .returned (.bool (p x)) ∧ Below w.heap.size w w'
set_option maxHeartbeats 8000000 in
set_option maxRecDepth 100000 in
theorem slices_IndexFunc_int_int_105.calls (g : Nat) (lb : Array Value) (p : List Int → Bool) (A0 : Option Addr) (c0 : Nat) (l0 : List (List Int)) (w : World) (hr0 : Kd.C (Kd.slice 3 (Kd.int .i64)) w A0 l0.length l0) (eg : ∀ args w, (callFunc g args).run Try.prog w = .ok (.enter g args) w) (hp : AnswersL g lb p l0 w) :
  Calls Try.prog 105 #[.slice A0 l0.length c0, .func (.func g) #[] lb] w fun e w' => e = .returned (.int .i64 (idxL p 0 l0)) ∧ Below w.heap.size w w' := by
 have HR0 := Aside0.mk hr0
 have HP := Aside0.mk hp
 have HM := Aside0.mk hr0.2.1
 clear hr0 hp
 go_enter Try.func105, Try.ntmps105
 go_wp2
 go_loopg [5, 8] l0.length (fun gg _ s8 wr => ∃ i : Int, s8 = .int .i64 i ∧ Aside0 (0 ≤ i ∧ i.toNat ≤ l0.length ∧ l0.length - i.toNat ≤ gg) ∧ Aside0 (Below w.heap.size w wr) ∧ Aside0 (idxL p 0 l0 = idxL p i (l0.drop i.toNat)))
 case atStart => exact ⟨0, rfl, ⟨by omega, by simp, by simp⟩, ⟨Below.refl _ _⟩, ⟨rfl⟩⟩
 case round =>
  obtain ⟨i, rfl, HK, HB, HI⟩ := hrel
  by_cases c1 : i < (l0.length : Int)
  ·have c2 := HK.out.1
   obtain ⟨ad, Ae, ce, ea, hx, hce, hCe⟩ := at_rows HR0.out i c2 c1
   cases ea
   replace hx := (HB.out.cell (World.block_lt_of_cell? w _ hx)).trans hx
   have HC := Aside0.mk (HP.out _ (rdRows_mem c2 c1) Ae ce)
   have HCe := Aside0.mk hCe
   have Hce := Aside0.mk hce
   clear hCe hce
   have HD := Aside0.mk (idxL_drop p l0 i c2 c1 HM.out)
   have HW := Aside0.mk (show wrap64 (i + 1) = i + 1 by have := HM.out; unfold wrap64; omega)
   have HT := Aside0.mk c1
   have c1b : decide (i < (l0.length : Int)) = true := decide_eq_true c1
   replace c1 := eq_true c1
   replace c2 := eq_true c2
   cases hq : p (rdRows l0 i) with
   | true =>
    rw [hq] at HC HD
    clear hq
    go_wp2_with (go_at_fn g; refine (HC.out _ HB.out (Kd.C_below HCe.out HB.out) Hce.out).mono ?_; rintro e w' ⟨rfl, hb⟩)
    go_ret
    exact ⟨by rw [HI.out, HD.out]; rfl, hb⟩
   | false =>
    rw [hq] at HC HD
    clear hq
    go_wp2_with (go_at_fn g; refine (HC.out _ HB.out (Kd.C_below HCe.out HB.out) Hce.out).mono ?_; rintro e w' ⟨rfl, hb⟩)
    go_roundg (l0.length - (i.toNat + 1))
    case measure => have := HT.out; have := HK.out; omega
    case rel => exact ⟨wrap64 (i + 1), rfl, ⟨by rw [HW.out]; have := HT.out; have := HK.out; omega, by rw [HW.out]; have := HT.out; have := HK.out; omega, by rw [HW.out]; have := HT.out; have := HK.out; omega⟩, ⟨hb⟩, ⟨by rw [HI.out, HD.out]; simp⟩⟩
  ·have c1b : decide (i < (l0.length : Int)) = false := decide_eq_false c1
   have HE := Aside0.mk (show idxL p 0 l0 = -1 by rw [HI.out, List.drop_eq_nil_of_le (by have := HK.out; omega)]; rfl)
   clear c1
   go_wp2
   go_ret
   exact ⟨by rw [HE.out]; rfl, HB.out⟩

/-! ### slices_ContainsFunc_int_int_71: function 71, by hand -/
theorem idxL_nonneg (p : List Int → Bool) (l : List (List Int)) : ∀ i : Int, 0 ≤ i → (0 ≤ idxL p i l ↔ l.any p = true) := by
 induction l with
 | nil => intro i hi; simp [idxL]
 | cons x r ih =>
  intro i hi
  rw [idxL, List.any_cons]
  cases hx : p x with
  | true => simp [hi]
  | false => simp only [Bool.false_eq_true, if_false, Bool.false_or]; exact ih (i + 1) (by omega)
set_option maxHeartbeats 8000000 in
set_option maxRecDepth 100000 in
/-- slices.ContainsFunc, over lists, at such a function value. -/
theorem slices_ContainsFunc_int_int_71.calls (g : Nat) (lb : Array Value) (p : List Int → Bool) (A0 : Option Addr) (c0 : Nat) (l0 : List (List Int)) (w : World) (hr0 : Kd.C (Kd.slice 3 (Kd.int .i64)) w A0 l0.length l0) (eg : ∀ args w, (callFunc g args).run Try.prog w = .ok (.enter g args) w) (hp : AnswersL g lb p l0 w) :
  Calls Try.prog 71 #[.slice A0 l0.length c0, .func (.func g) #[] lb] w fun e w' => e = .returned (.bool (l0.any p)) ∧ Below w.heap.size w w' := by
 have HC := Aside0.mk (slices_IndexFunc_int_int_105.calls g lb p A0 c0 l0 w hr0 eg hp)
 have HE := Aside0.mk (show decide (0 ≤ idxL p 0 l0) = l0.any p by rw [Bool.eq_iff_iff, decide_eq_true_eq]; exact idxL_nonneg p l0 0 (by omega))
 clear hr0 eg hp
 go_enter Try.func71, Try.ntmps71
 go_wp2_with (go_at_call 105; refine HC.out.mono ?_; rintro e w' ⟨rfl, hb⟩)
 go_ret
 exact ⟨by rw [← HE.out]; rfl, hb⟩

/-! ### impl_IsResult: function 39, by hand -/
def impl_IsResult.f (k : Nat) (l0 : List Int) (a1 : Int) (l2 : List Int) : Option Bool := (impl_ResultsOf.f k l0 a1).bind fun b => if b.1.all (fun x => decide (x.length ≤ 9223372036854775806)) = true then some (b.1.any fun x => decide (x = l2)) else none
theorem impl_IsResult.mono : ∀ a0 a1 a2 k, LeO (impl_IsResult.f k a0 a1 a2) (impl_IsResult.f (k + 1) a0 a1 a2) := by
 intro a0 a1 a2 k
 unfold impl_IsResult.f
 exact LeO.bind (impl_ResultsOf.mono _ _ _) (fun _ => LeO.refl _)
set_option maxHeartbeats 8000000 in
set_option maxRecDepth 100000 in
theorem impl_IsResult.closure (q x : List Int) (A2 A : Option Addr) (c2 c : Nat) (B : Nat) (W : World) (hs : x.length ≤ 9223372036854775806) (hx : Kd.C (Kd.int .i64) W A x.length x) (hcx : x.length ≤ c) (hq : Kd.C (Kd.int .i64) W A2 q.length q) (hcq : q.length ≤ c2) (hc : W.cell? ⟨B, 0, none⟩ = some (.slice A2 q.length c2)) :
  Calls Try.prog 72 #[.slice A x.length c, .pointer (some ⟨B, 0, none⟩)] W fun e w' => e = .returned (.bool (decide (x = q))) ∧ ∃ n, w' = W.drewN n := by
 obtain ⟨k, hk⟩ := equal_run x q hs
 have HC := Aside0.mk (slices_Equal_int_int.calls k A c x A2 c2 q _ W hx hcx hq hcq hk)
 clear hk hx hq hcx hcq hs
 go_enter Try.func72, Try.ntmps72
 go_wp2_with (go_at_call 63; refine HC.out.mono ?_; rintro e w' ⟨rfl, hd⟩)
 go_ret
 exact ⟨rfl, hd.out⟩
set_option maxHeartbeats 8000000 in
set_option maxRecDepth 100000 in
theorem impl_IsResult.calls (k : Nat) (A0 : Option Addr) (c0 : Nat) (l0 : List Int) (a1 : Int) (A2 : Option Addr) (c2 : Nat) (l2 : List Int) (r : Bool) (w : World) (hr0 : Kd.C (Kd.int .i64) w A0 l0.length l0) (hc0 : l0.length ≤ c0) (hr2 : Kd.C (Kd.int .i64) w A2 l2.length l2) (hc2 : l2.length ≤ c2) (h : impl_IsResult.f k l0 a1 l2 = some r) :
  Calls Try.prog 39 #[.slice A0 l0.length c0, .int .i64 a1, .slice A2 l2.length c2] w fun e w' => e = .returned (.bool r) ∧ Below w.heap.size w w' := by
 have HR0 := Aside0.mk hr0
 have HC0 := Aside0.mk hc0
 have HR2 := Aside0.mk hr2
 have HC2 := Aside0.mk hc2
 clear hr0 hc0 hr2 hc2
 unfold impl_IsResult.f at h
 obtain ⟨⟨t, b⟩, A1_, h⟩ := Option.bind_eq_some_iff.mp h
 have A1 := Aside0.mk A1_
 clear A1_
 by_cases g : t.all (fun x => decide (x.length ≤ 9223372036854775806)) = true
 ·rw [if_pos g] at h
  obtain rfl := Option.some.inj h
  clear h
  have HS := Aside0.mk (show ∀ x ∈ t, x.length ≤ 9223372036854775806 from fun x hx => by have := List.all_eq_true.1 g x hx; simpa using this)
  clear g
  have eg := enters_of Try.func72 (by kernel_rfl) rfl
  have EG := Aside0.mk eg
  clear eg
  have HB := Aside0.mk (below_alloc (Below.refl w.heap.size w) (.cells #[.slice A2 l2.length c2] 22))
  have HX := Aside0.mk (show (w.alloc (.cells #[.slice A2 l2.length c2] 22)).cell? ⟨w.heap.size, 0, none⟩ = some (.slice A2 l2.length c2) by simp)
  go_enter Try.func39, Try.ntmps39
  go_wp2_with (first | ((with_reducible refine gate_callee (f := 35) rfl ?_); refine goesL_ (some 12) rfl rfl Try.func35 (by kernel_rfl) rfl #[.slice A0 l0.length c0, .int .i64 a1] rfl (by (try simp only [List.map_toArray, List.map_cons, List.map_nil]); first | done | rfl) ?_; (with_reducible refine (impl_ResultsOf.calls k _ _ l0 a1 t b _ ?side1 ?side2 A1.out).mono ?_); (case side1 => exact Kd.C_alloc HR0.out _); (case side2 => exact HC0.out); rintro e w2 ⟨v2, rfl, ho, hb⟩; refine ⟨_, rfl, ?_⟩; have HB2 := Aside0.mk (below_step HB.out hb); have HX2 := Aside0.mk ((hb.cell (World.block_lt_of_cell? _ _ HX.out)).trans HX.out); have HS2 := Aside0.mk ho; clear HB HX hb ho; obtain ⟨A3_, c3_, e3_⟩ := Kd.S_slice HS2.out; subst e3_) | (go_at_call 71; refine (slices_ContainsFunc_int_int_71.calls 72 #[.pointer (some ⟨w.heap.size, 0, none⟩)] (fun x => decide (x = l2)) A3_ c3_ t w2 (Kd.S_reads' HS2.out).2.2 EG.out ?hp).mono ?_; (case hp => exact fun x hx A c W hbW hC hc => (impl_IsResult.closure l2 x A2 A c2 c w.heap.size W (HS.out x hx) hC hc (Kd.C_below HR2.out (below_step HB2.out hbW)) HC2.out ((hbW.cell (World.block_lt_of_cell? _ _ HX2.out)).trans HX2.out)).mono (fun e w' he => ⟨he.1, by obtain ⟨n, hn⟩ := he.2; rw [hn]; exact pw_below_drewN hbW n⟩)); rintro e w3 ⟨rfl, hb⟩))
  go_ret
  exact ⟨rfl, below_step HB2.out hb⟩
 ·rw [if_neg g] at h
  cases h

/-! ### laws_same: function 40 -/
def laws_same.l0 : Nat → List Int → List Int → Int → Int → Option (Bool)
 | 0, _, _, _, _ => none
 | k + 1, x1, x12, x13, x14 => if x14 < x13 then (if 0 ≤ x14 then (if x14 < (x12.length : Int) then (if x14 < (x1.length : Int) then (if (rd x12 x14) = (rd x1 x14) then (laws_same.l0 k x1 x12 x13 (wrap64 (x14 + 1))) else (some false)) else (none)) else (none)) else (none)) else (some true)
def laws_same.f (k : Nat) (l0 : List Int) (l1 : List Int) : Option (Bool) := if (l0.length : Int) = (l1.length : Int) then (laws_same.l0 k l1 l0 (l0.length : Int) 0) else (some false)
theorem laws_same.mono_l : ∀ k, (∀ y0 y1 y2 y3, LeO (laws_same.l0 k y0 y1 y2 y3) (laws_same.l0 (k + 1) y0 y1 y2 y3))
 | 0 => fun _ _ _ _ r h => by simp [laws_same.l0] at h
 | k + 1 => by
  have ih0 := laws_same.mono_l k
  ·intro y0 y1 y2 y3
   unfold laws_same.l0
   repeat' first
   | (with_reducible exact ih0 _ _ _ _)
   | (with_reducible exact LeO.refl _)
   | (with_reducible exact LeO.none _)
   | (with_reducible refine LeO.ite ?_ ?_)
   | (with_reducible refine LeO.bind ?_ (fun _ => ?_))
   | exact ih0 _ _ _ _
   | exact LeO.none _
   | refine LeO.ite ?_ ?_
   | refine LeO.bind ?_ (fun _ => ?_)
theorem laws_same.mono : ∀ a0 a1 k, LeO (laws_same.f k a0 a1) (laws_same.f (k + 1) a0 a1) := by
 intro a0 a1 k
 have ih0 := laws_same.mono_l k
 unfold laws_same.f
 repeat' first
   | (with_reducible exact ih0 _ _ _ _)
   | (with_reducible exact LeO.refl _)
   | (with_reducible exact LeO.none _)
   | (with_reducible refine LeO.ite ?_ ?_)
   | (with_reducible refine LeO.bind ?_ (fun _ => ?_))
   | exact ih0 _ _ _ _
   | exact LeO.none _
   | refine LeO.ite ?_ ?_
   | refine LeO.bind ?_ (fun _ => ?_)
set_option maxHeartbeats 8000000 in
set_option maxRecDepth 100000 in
theorem laws_same.calls (k : Nat) (A0 : Option Addr) (c0 : Nat) (l0 : List Int) (A1 : Option Addr) (c1 : Nat) (l1 : List Int) (r : Bool) (w : World) (hr0 : Kd.C (Kd.int .i64) w A0 l0.length l0) (hc0 : l0.length ≤ c0) (hr1 : Kd.C (Kd.int .i64) w A1 l1.length l1) (hc1 : l1.length ≤ c1) (h : laws_same.f k l0 l1 = some r) :
  Calls Try.prog 40 #[.slice A0 l0.length c0, .slice A1 l1.length c1] w fun e w' => e = .returned (.bool r) ∧ Drawn0 w w' := by
 have HR0 := Aside0.mk hr0
 have HC0 := Aside0.mk hc0
 clear hr0 hc0
 have HR1 := Aside0.mk hr1
 have HC1 := Aside0.mk hc1
 clear hr1 hc1
 have H : (if (l0.length : Int) = (l1.length : Int) then (laws_same.l0 k l1 l0 (l0.length : Int) 0) else (some false)) = some r := h
 clear h
 by_cases c3 : (l0.length : Int) = (l1.length : Int)
 ·rw [if_pos c3] at H
  have c3b0 : ((l0.length : Int) == (l1.length : Int)) = true := beq_iff_eq.mpr c3
  have c3b1 : ((l0.length : Int) != (l1.length : Int)) = false := bne_eq_false_iff_eq.mpr c3
  have c3b2 : (l0.length == l1.length) = true := by first | simpa using c3 | (simp at c3 ⊢; omega)
  clear c3
  have H' := Aside0.mk H
  clear H
  go_enter Try.func40, Try.ntmps40
  go_wp2
  go_loopg [14] k (fun kq v14 w' => ∃ (x14_1 : Int), v14 = .int .i64 x14_1 ∧ Aside0 (laws_same.l0 kq l1 l0 (l0.length : Int) x14_1 = some r) ∧ Aside0 (kq ≤ k) ∧ Drawn0 w w')
  case atStart => exact ⟨(0), (by first | rfl | (simp; done) | (simp [*]; done)), H', ⟨Nat.le_refl _⟩, by repeat (first | exact Drawn0.refl _ | apply Drawn0.step)⟩
  case round =>
   clear H'
   try clear c1
   try clear p2
   try clear c3
   try clear c3b0
   try clear c3b1
   try clear c3b2
   obtain ⟨x14_1, rfl, HA, HK1, ⟨m1, rfl⟩⟩ := hrel
   cases gk with
   | zero => exact absurd HA.out (by simp [laws_same.l0])
   | succ k1 =>
    have H := HA.out
    clear HA
    simp only [laws_same.l0] at H
    by_cases c4 : x14_1 < (l0.length : Int)
    ·rw [if_pos c4] at H
     have c4b0 : decide (x14_1 < (l0.length : Int)) = true := decide_eq_true c4
     clear c4
     by_cases c5 : 0 ≤ x14_1
     ·rw [if_pos c5] at H
      have c5b0 : decide (0 ≤ x14_1) = true := decide_eq_true c5
      clear c5
      by_cases c6 : x14_1 < (l0.length : Int)
      ·rw [if_pos c6] at H
       have c6b0 : decide (x14_1 < (l0.length : Int)) = true := decide_eq_true c6
       clear c6
       by_cases c7 : x14_1 < (l1.length : Int)
       ·rw [if_pos c7] at H
        have c7b0 : decide (x14_1 < (l1.length : Int)) = true := decide_eq_true c7
        clear c7
        by_cases c8 : (rd l0 x14_1) = (rd l1 x14_1)
        ·rw [if_pos c8] at H
         have c8b0 : ((rd l0 x14_1) == (rd l1 x14_1)) = true := beq_iff_eq.mpr c8
         have c8b1 : ((rd l0 x14_1) != (rd l1 x14_1)) = false := bne_eq_false_iff_eq.mpr c8
         clear c8
         have H' := Aside0.mk H
         clear H
         have p295 : 0 ≤ (x14_1 : Int) := of_decide_eq_true (by first | (with_reducible assumption) | assumption)
         have q295 : x14_1 < (l0.length : Int) := of_decide_eq_true (by first | (with_reducible assumption) | assumption)
         obtain ⟨ad295, e295, hx295_0⟩ := Kd.at_int HR0.out x14_1 p295 q295
         cases e295
         replace p295 := eq_true p295
         replace q295 := eq_true q295
         have p296 : 0 ≤ (x14_1 : Int) := of_decide_eq_true (by first | (with_reducible assumption) | assumption)
         have q296 : x14_1 < (l1.length : Int) := of_decide_eq_true (by first | (with_reducible assumption) | assumption)
         obtain ⟨ad296, e296, hx296_0⟩ := Kd.at_int HR1.out x14_1 p296 q296
         cases e296
         replace p296 := eq_true p296
         replace q296 := eq_true q296
         go_wp2
         go_roundg k1
         case measure => have := HK1.out; omega
         case rel => exact ⟨(wrap64 (x14_1 + 1)), (by first | rfl | (simp; done) | (simp [*]; done)), H', ⟨by have := HK1.out; omega⟩, by repeat (first | exact Drawn0.refl _ | apply Drawn0.step)⟩
        ·rw [if_neg c8] at H
         have c8b0 : ((rd l0 x14_1) == (rd l1 x14_1)) = false := beq_eq_false_iff_ne.mpr c8
         have c8b1 : ((rd l0 x14_1) != (rd l1 x14_1)) = true := bne_iff_ne.mpr c8
         obtain rfl := Option.some.inj H
         have p295 : 0 ≤ (x14_1 : Int) := of_decide_eq_true (by first | (with_reducible assumption) | assumption)
         have q295 : x14_1 < (l0.length : Int) := of_decide_eq_true (by first | (with_reducible assumption) | assumption)
         obtain ⟨ad295, e295, hx295_0⟩ := Kd.at_int HR0.out x14_1 p295 q295
         cases e295
         replace p295 := eq_true p295
         replace q295 := eq_true q295
         have p296 : 0 ≤ (x14_1 : Int) := of_decide_eq_true (by first | (with_reducible assumption) | assumption)
         have q296 : x14_1 < (l1.length : Int) := of_decide_eq_true (by first | (with_reducible assumption) | assumption)
         obtain ⟨ad296, e296, hx296_0⟩ := Kd.at_int HR1.out x14_1 p296 q296
         cases e296
         replace p296 := eq_true p296
         replace q296 := eq_true q296
         go_wp2
         go_ret
         exact ⟨by first | rfl | (simp; done) | (simp [*]; done), by repeat (first | exact Drawn0.refl _ | apply Drawn0.step)⟩
       ·rw [if_neg c7] at H
        exact absurd H (by simp)
      ·rw [if_neg c6] at H
       exact absurd H (by simp)
     ·rw [if_neg c5] at H
      exact absurd H (by simp)
    ·rw [if_neg c4] at H
     have c4b0 : decide (x14_1 < (l0.length : Int)) = false := decide_eq_false c4
     clear c4
     obtain rfl := Option.some.inj H
     go_wp2
     go_ret
     exact ⟨by first | rfl | (simp; done) | (simp [*]; done), by repeat (first | exact Drawn0.refl _ | apply Drawn0.step)⟩
 ·rw [if_neg c3] at H
  have c3b0 : ((l0.length : Int) == (l1.length : Int)) = false := beq_eq_false_iff_ne.mpr c3
  have c3b1 : ((l0.length : Int) != (l1.length : Int)) = true := bne_iff_ne.mpr c3
  have c3b2 : (l0.length == l1.length) = false := by first | simpa using c3 | (simp at c3 ⊢; omega)
  obtain rfl := Option.some.inj H
  go_enter Try.func40, Try.ntmps40
  go_wp2
  go_ret
  exact ⟨by first | rfl | (simp; done) | (simp [*]; done), by repeat (first | exact Drawn0.refl _ | apply Drawn0.step)⟩

end Go.Proofs.Ytbghkcgglhoopaa.MFnChoices
