-- Written by this session's own program (wip/tools/myprint.py), over the kit's printer.
import Derived.Test.YtbghkcgglhoopaaDoorMFnExactParseIntx0
import Derived.Test.YtbghkcgglhoopaaDoorMFnExactParseIntx2
namespace Go.Proofs.YtbghkcgglhoopaaDoor.MFnExactParseInt
open Go.RowKit Go.Proofs.YtbghkcgglhoopaaDoorW.PrintWords Go.Proofs.YtbghkcgglhoopaaDoorW.PrintLast Go.Proofs.YtbghkcgglhoopaaDoorW.PrintMore
attribute [local go_sem] max2_int min2_int max_two min_two max_three min_three max_four min_four   -- for this text's walks alone
set_option linter.unusedVariables false
set_option linter.unusedSimpArgs false

/-! ### strconv_Atoi_16: function 16, by hand -/
def strconv_Atoi_16.lay_ren : Go.Shelf.Ren := ⟨fun | 172 => 16 | 244 => 25 | 245 => 26 | 247 => 32 | 279 => 33 | 280 => 34 | 281 => 35 | 282 => 36 | 287 => 41 | 316 => 42 | 171 => 19 | 205 => 43 | 321 => 50 | 322 => 51 | 243 => 27 | 246 => 37 | 283 => 44 | 284 => 45 | 285 => 46 | 286 => 47 | 129 => 53 | 317 => 52 | 318 => 54 | 319 => 55 | 320 => 56 | 337 => 57 | 338 => 58 | n => n, fun | 9 => 9 | 3 => 3 | 75 => 35 | 76 => 36 | 4 => 4 | 5 => 5 | 167 => 54 | 37 => 25 | 0 => 0 | 85 => 55 | 2 => 2 | 168 => 57 | 53 => 62 | 175 => 63 | 46 => 48 | 210 => 67 | 127 => 61 | 145 => 80 | 143 => 78 | 21 => 21 | 171 => 69 | 173 => 72 | 212 => 83 | 51 => 84 | 20 => 20 | 213 => 85 | 232 => 89 | 233 => 90 | 80 => 53 | n => n, fun | 15 => 0 | 16 => 1 | 17 => 3 | 18 => 4 | 19 => 5 | n => n⟩
theorem strconv_Atoi_16.lay : Go.Proofs.LaysC.n172 Tryd.prog strconv_Atoi_16.lay_ren := {
  mixed := by kernel_rfl
  f129 := Tryd.func53.trans (congrArg some (by kernel_rfl))
  f171 := Tryd.func19.trans (congrArg some (by kernel_rfl))
  f172 := Tryd.func16.trans (congrArg some (by kernel_rfl))
  f205 := Tryd.func43.trans (congrArg some (by kernel_rfl))
  f243 := Tryd.func27.trans (congrArg some (by kernel_rfl))
  f244 := Tryd.func25.trans (congrArg some (by kernel_rfl))
  f245 := Tryd.func26.trans (congrArg some (by kernel_rfl))
  f246 := Tryd.func37.trans (congrArg some (by kernel_rfl))
  f247 := Tryd.func32.trans (congrArg some (by kernel_rfl))
  f279 := Tryd.func33.trans (congrArg some (by kernel_rfl))
  f280 := Tryd.func34.trans (congrArg some (by kernel_rfl))
  f281 := Tryd.func35.trans (congrArg some (by kernel_rfl))
  f282 := Tryd.func36.trans (congrArg some (by kernel_rfl))
  f283 := Tryd.func44.trans (congrArg some (by kernel_rfl))
  f284 := Tryd.func45.trans (congrArg some (by kernel_rfl))
  f285 := Tryd.func46.trans (congrArg some (by kernel_rfl))
  f286 := Tryd.func47.trans (congrArg some (by kernel_rfl))
  f287 := Tryd.func41.trans (congrArg some (by kernel_rfl))
  f316 := Tryd.func42.trans (congrArg some (by kernel_rfl))
  f317 := Tryd.func52.trans (congrArg some (by kernel_rfl))
  f318 := Tryd.func54.trans (congrArg some (by kernel_rfl))
  f319 := Tryd.func55.trans (congrArg some (by kernel_rfl))
  f320 := Tryd.func56.trans (congrArg some (by kernel_rfl))
  f321 := Tryd.func50.trans (congrArg some (by kernel_rfl))
  f322 := Tryd.func51.trans (congrArg some (by kernel_rfl))
  f337 := Tryd.func57.trans (congrArg some (by kernel_rfl))
  f338 := Tryd.func58.trans (congrArg some (by kernel_rfl))
  t0 := Tryd.underlying0
  a0 := Tryd.isAgg0
  z0 := Tryd.sizeOf0
  v0 := Tryd.zeroValue0
  t2 := Tryd.underlying2
  a2 := Tryd.isAgg2
  z2 := Tryd.sizeOf2
  v2 := Tryd.zeroValue2
  t3 := Tryd.underlying3
  a3 := Tryd.isAgg3
  z3 := Tryd.sizeOf3
  v3 := Tryd.zeroValue3
  t4 := Tryd.underlying4
  a4 := Tryd.isAgg4
  z4 := Tryd.sizeOf4
  v4 := Tryd.zeroValue4
  t5 := Tryd.underlying5
  a5 := Tryd.isAgg5
  z5 := Tryd.sizeOf5
  v5 := Tryd.zeroValue5
  t9 := Tryd.underlying9
  a9 := Tryd.isAgg9
  z9 := Tryd.sizeOf9
  v9 := Tryd.zeroValue9
  t20 := Tryd.underlying20
  a20 := Tryd.isAgg20
  z20 := Tryd.sizeOf20
  v20 := Tryd.zeroValue20
  t21 := Tryd.underlying21
  a21 := Tryd.isAgg21
  z21 := Tryd.sizeOf21
  v21 := Tryd.zeroValue21
  t37 := Tryd.underlying25
  a37 := Tryd.isAgg25
  z37 := Tryd.sizeOf25
  v37 := Tryd.zeroValue25
  t46 := Tryd.underlying48
  a46 := Tryd.isAgg48
  z46 := Tryd.sizeOf48
  v46 := Tryd.zeroValue48
  t51 := Tryd.underlying84
  a51 := Tryd.isAgg84
  z51 := Tryd.sizeOf84
  v51 := Tryd.zeroValue84
  t53 := Tryd.underlying62
  a53 := Tryd.isAgg62
  z53 := Tryd.sizeOf62
  v53 := Tryd.zeroValue62
  t75 := Tryd.underlying35
  a75 := Tryd.isAgg35
  z75 := Tryd.sizeOf35
  v75 := Tryd.zeroValue35
  t76 := Tryd.underlying36
  a76 := Tryd.isAgg36
  z76 := Tryd.sizeOf36
  v76 := Tryd.zeroValue36
  t85 := Tryd.underlying55
  a85 := Tryd.isAgg55
  z85 := Tryd.sizeOf55
  v85 := Tryd.zeroValue55
  t127 := Tryd.underlying61
  a127 := Tryd.isAgg61
  z127 := Tryd.sizeOf61
  v127 := Tryd.zeroValue61
  t143 := Tryd.underlying78
  a143 := Tryd.isAgg78
  z143 := Tryd.sizeOf78
  v143 := Tryd.zeroValue78
  t145 := Tryd.underlying80
  a145 := Tryd.isAgg80
  z145 := Tryd.sizeOf80
  v145 := Tryd.zeroValue80
  t167 := Tryd.underlying54
  a167 := Tryd.isAgg54
  z167 := Tryd.sizeOf54
  v167 := Tryd.zeroValue54
  t168 := Tryd.underlying57
  a168 := Tryd.isAgg57
  z168 := Tryd.sizeOf57
  v168 := Tryd.zeroValue57
  t171 := Tryd.underlying69
  a171 := Tryd.isAgg69
  z171 := Tryd.sizeOf69
  v171 := Tryd.zeroValue69
  t173 := Tryd.underlying72
  a173 := Tryd.isAgg72
  z173 := Tryd.sizeOf72
  v173 := Tryd.zeroValue72
  t175 := Tryd.underlying63
  a175 := Tryd.isAgg63
  z175 := Tryd.sizeOf63
  v175 := Tryd.zeroValue63
  t210 := Tryd.underlying67
  a210 := Tryd.isAgg67
  z210 := Tryd.sizeOf67
  v210 := Tryd.zeroValue67
  t212 := Tryd.underlying83
  a212 := Tryd.isAgg83
  z212 := Tryd.sizeOf83
  v212 := Tryd.zeroValue83
  t213 := Tryd.underlying85
  a213 := Tryd.isAgg85
  z213 := Tryd.sizeOf85
  t232 := Tryd.underlying89
  a232 := Tryd.isAgg89
  z232 := Tryd.sizeOf89
  v232 := Tryd.zeroValue89
  t233 := Tryd.underlying90
  a233 := Tryd.isAgg90
  z233 := Tryd.sizeOf90
  v233 := Tryd.zeroValue90
  g15 := by kernel_rfl
  g16 := by kernel_rfl
  g17 := by kernel_rfl
  g18 := by kernel_rfl
  g19 := by kernel_rfl
  t80 := Tryd.underlying53
  a80 := Tryd.isAgg53
  z80 := Tryd.sizeOf53
  v80 := Tryd.zeroValue53
  i0 := by kernel_rfl
  i2 := by kernel_rfl
  i3 := by kernel_rfl
  i4 := by kernel_rfl
  i5 := by kernel_rfl
  i9 := by kernel_rfl
  i20 := by kernel_rfl
  i21 := by kernel_rfl
  i37 := by kernel_rfl
  i46 := by kernel_rfl
  i51 := by kernel_rfl
  i53 := by kernel_rfl
  i75 := by kernel_rfl
  i76 := by kernel_rfl
  i80 := by kernel_rfl
  i85 := by kernel_rfl
  i127 := by kernel_rfl
  i143 := by kernel_rfl
  i145 := by kernel_rfl
  i167 := by kernel_rfl
  i168 := by kernel_rfl
  i171 := by kernel_rfl
  i173 := by kernel_rfl
  i175 := by kernel_rfl
  i210 := by kernel_rfl
  i212 := by kernel_rfl
  i232 := by kernel_rfl
  i233 := by kernel_rfl
  m15 := by kernel_rfl
  m16 := by kernel_rfl
  m17 := by kernel_rfl
  m18 := by kernel_rfl
  m19 := by kernel_rfl
  c0 := by kernel_rfl
  c2 := by kernel_rfl
  c3 := by kernel_rfl
  c4 := by kernel_rfl
  c5 := by kernel_rfl
  c9 := by kernel_rfl
  c20 := by kernel_rfl
  c21 := by kernel_rfl
  c37 := by kernel_rfl
  c46 := by kernel_rfl
  c51 := by kernel_rfl
  c53 := by kernel_rfl
  c75 := by kernel_rfl
  c76 := by kernel_rfl
  c80 := by kernel_rfl
  c85 := by kernel_rfl
  c127 := by kernel_rfl
  c143 := by kernel_rfl
  c145 := by kernel_rfl
  c167 := by kernel_rfl
  c168 := by kernel_rfl
  c171 := by kernel_rfl
  c173 := by kernel_rfl
  c175 := by kernel_rfl
  c210 := by kernel_rfl
  c212 := by kernel_rfl
  c213 := by kernel_rfl
  c232 := by kernel_rfl
  c233 := by kernel_rfl }
theorem var_below {P : Program} {w w' : World} {nm : String} {cs : Array Value} (h : w.var? P nm = some cs) (hb : Below w.heap.size w w') : w'.var? P nm = some cs := by
  unfold World.var? at h ⊢
  cases hg : P.globalNamed nm with
  | none =>
    rw [hg] at h
    cases h
  | some g =>
    rw [hg] at h
    simp only [Option.bind_some] at h ⊢
    have hlt : g < w.heap.size := by
      rcases Nat.lt_or_ge g w.heap.size with h' | h'
      · exact h'
      · rw [Array.getElem?_eq_none h'] at h
        cases h
    rw [hb.block g hlt]
    exact h
/-- The library's two sentinels hold errors. -/
def Errs (w : World) : Prop := (∃ t p, w.var? Tryd.prog "strconv.ErrSyntax" = some #[.iface t p]) ∧ (∃ t p, w.var? Tryd.prog "strconv.ErrRange" = some #[.iface t p])
theorem Errs.below {w w' : World} (h : Errs w) (hb : Below w.heap.size w w') : Errs w' := by
  obtain ⟨⟨t, p, h1⟩, t', p', h2⟩ := h
  exact ⟨⟨t, p, var_below h1 hb⟩, t', p', var_below h2 hb⟩
/-- strconv.Atoi at a text that spells a whole number. -/
theorem strconv_Atoi_16.ok_ (s : ByteArray) (v : Int) (hs : s.size ≤ 1048576) (h : Lib.atoiAll s.data.toList = .ok v) (w : World) :
    Calls Tryd.prog 16 #[.string s] w fun e w' => e = .returned (.tuple #[.int .i64 v, .nilIface]) ∧ Below w.heap.size w w' :=
  (Any.strconv_Atoi_ok strconv_Atoi_16.lay s (by omega) v h w).mono fun e w' ⟨he, hw⟩ => ⟨he, by
    rcases hw with rfl | ⟨t, rfl⟩
    · exact Below.refl _ _
    · exact bytes_below (Below.refl _ _) (Nat.le_refl _) _ _⟩
/-- strconv.Atoi at any other text. -/
theorem strconv_Atoi_16.no_ (s : ByteArray) (hs : s.size ≤ 1048576) (h : ∀ v, Lib.atoiAll s.data.toList ≠ .ok v) (w : World) (he : Errs w) :
    Calls Tryd.prog 16 #[.string s] w fun e w' => ∃ (n : Int) (T : TypeId) (N : Nat), e = .returned (.tuple #[.int .i64 n, .iface T (.pointer (some ⟨N, 0, none⟩))]) ∧ Below w.heap.size w w' := by
  obtain ⟨⟨t, p, h1⟩, t', p', h2⟩ := he
  cases hc : Lib.atoiAll s.data.toList with
  | ok v => exact absurd hc (h v)
  | «syntax» => exact (Any.strconv_Atoi_syntax_var strconv_Atoi_16.lay s (by omega) hc t p w h1).mono fun e w' ⟨N, he, _, _, hb⟩ => ⟨_, _, N, he, hb⟩
  | range => exact (Any.strconv_Atoi_range_var strconv_Atoi_16.lay s (by omega) hc t' p' w h2).mono fun e w' ⟨N, he, _, _, hb⟩ => ⟨_, _, N, he, hb⟩

/-! ### impl_ParseInt: function 6, by hand -/
/-- What impl.ParseInt gives: the number, where the text is its numeral. -/
def parseI (s : ByteArray) : Int × Bool := match Lib.atoiAll s.data.toList with
  | .ok v => if Lib.itoa v = s.toList then (v, true) else (0, false)
  | _ => (0, false)
theorem impl_ParseInt.at_ (s : ByteArray) (hs : s.size ≤ 1048576) (w : World) (htab : Pow10 w) (herr : Errs w) :
    Calls Tryd.prog 6 #[.string s] w fun e w' => e = .returned (.tuple #[.int .i64 (parseI s).1, .bool (parseI s).2]) ∧ Below w.heap.size w w' := by
  by_cases hc : ∃ v, Lib.atoiAll s.data.toList = .ok v
  · obtain ⟨v, hv⟩ := hc
    obtain ⟨b0, b1⟩ := Lib.atoiAll_bounds hv
    have hp : parseI s = if Lib.itoa v = s.toList then (v, true) else (0, false) := by unfold parseI; rw [hv]
    by_cases hq : Lib.itoa v = s.toList
    · rw [if_pos hq] at hp
      rw [hp]
      have hz : (⟨(Lib.itoa v).toArray⟩ : ByteArray) = s := by rw [hq, ByteArray.toList_eq]
      have HZ := Aside0.mk hz
      clear hp
      go_enter Tryd.func6, Tryd.ntmps6
      go_wp2_with (first
        | (go_at_call 16; refine (strconv_Atoi_16.ok_ s v hs hv _).mono ?_; rintro e w1 ⟨rfl, hb1⟩)
        | (go_at_call 8; refine (impl_FormatInt.at_ v b0 b1 _ (tab_below htab hb1)).mono ?_; rw [HZ.out]; rintro e w2 ⟨rfl, hb2⟩))
      all_goals first | (exfalso; simp_all; done) | (go_ret2; exact ⟨rfl, below_then hb1 hb1.size hb2⟩)
    · rw [if_neg hq] at hp
      rw [hp]
      have hz : (⟨(Lib.itoa v).toArray⟩ : ByteArray) ≠ s := fun h => hq (by rw [← h, ByteArray.toList_eq])
      have HZ := Aside0.mk hz
      clear hp
      go_enter Tryd.func6, Tryd.ntmps6
      go_wp2_with (first
        | (go_at_call 16; refine (strconv_Atoi_16.ok_ s v hs hv _).mono ?_; rintro e w1 ⟨rfl, hb1⟩)
        | (go_at_call 8; refine (impl_FormatInt.at_ v b0 b1 _ (tab_below htab hb1)).mono ?_; rintro e w2 ⟨rfl, hb2⟩))
      all_goals first | (exfalso; simp_all; done) | (go_ret2; exact ⟨rfl, below_then hb1 hb1.size hb2⟩)
  · have hn : ∀ v, Lib.atoiAll s.data.toList ≠ .ok v := fun v h => hc ⟨v, h⟩
    have hp : parseI s = (0, false) := by
      unfold parseI
      cases h : Lib.atoiAll s.data.toList with
      | ok v => exact absurd h (hn v)
      | «syntax» => rfl
      | range => rfl
    rw [hp]
    clear hp hc
    go_enter Tryd.func6, Tryd.ntmps6
    go_wp2_with (go_at_call 16; refine (strconv_Atoi_16.no_ s hs hn _ herr).mono ?_; rintro e w1 ⟨n, T, N, rfl, hb1⟩)
    all_goals first | (go_ret2; exact ⟨rfl, hb1⟩) | (exfalso; simp_all; done)

/-! ### laws_FnExactParseInt: function 3, by hand -/
theorem laws_FnExactParseInt.at_ (k : Nat) (s : ByteArray) (h : s.size ≤ 1048576 → spec_ParseInt.f k s = some (parseI s)) (w : World) (htab : Pow10 w) (herr : Errs w) :
    Calls Tryd.prog 3 #[.string s] w fun e w' => e = .returned (.bool true) ∧ Below w.heap.size w w' := by
  by_cases c1 : (s.size : Int) > 1048576
  · have c1b : decide ((s.size : Int) > 1048576) = true := decide_eq_true c1
    clear h
    go_enter Tryd.func3, Tryd.ntmps3
    go_wp2
    go_ret
    exact ⟨rfl, Below.refl _ _⟩
  · have c1b : decide ((s.size : Int) > 1048576) = false := decide_eq_false c1
    have hs : s.size ≤ 1048576 := by omega
    have h' := h hs
    clear h c1
    obtain ⟨⟨r1, r2⟩, hr⟩ : ∃ r : Int × Bool, parseI s = r := ⟨_, rfl⟩
    have hi := impl_ParseInt.at_ s hs
    rw [hr] at h' hi
    go_enter Tryd.func3, Tryd.ntmps3
    go_wp2_with (first
      | (go_at_call 5; refine (spec_ParseInt.calls k s r1 r2 _ h').mono ?_; rintro e w1 ⟨rfl, hb1⟩)
      | (go_at_call 6; refine (hi _ (tab_below htab hb1) (herr.below hb1)).mono ?_; rintro e w2 ⟨rfl, hb2⟩))
    all_goals first | (exfalso; simp_all; done) | (go_ret; exact ⟨rfl, below_then hb1 hb1.size hb2⟩)

end Go.Proofs.YtbghkcgglhoopaaDoor.MFnExactParseInt
