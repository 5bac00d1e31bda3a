-- written by wip/wprint, a program of this session
import Derived.Test.YtjpnaapimnoamaaQBigTextsx0
import Derived.Test.YtjpnaapimnoamaaQBigTextsx1
import Derived.Test.YtjpnaapimnoamaaQBigTextsx4
import Derived.Test.YtjpnaapimnoamaaQBigTextsx6
import Derived.Test.YtjpnaapimnoamaaQBigTextsx9
import Derived.Test.YtjpnaapimnoamaaQBigTextsx14
import Derived.Test.YtjpnaapimnoamaaQBigTextsx15
import Derived.Test.YtjpnaapimnoamaaQBigTextsx16
namespace Go.Proofs.Ytjpnaapimnoamaa.QBigTexts
open Go.RowKit Go.Proofs.YtjpnaapimnoamaaW.PrintWords Go.Proofs.YtjpnaapimnoamaaW.PrintLast Go.Proofs.YtjpnaapimnoamaaW.PrintMore
open Go.Proofs.YtjpnaapimnoamaaW.PrintWords.Kd renaming R_alloc → qa, R_drewN → qn, R_drew → qd
open Go.Proofs.YtjpnaapimnoamaaW.PrintWords renaming below_alloc → ba, pw_below_drewN → bn, below_drew1 → bd
attribute [local go_sem] max2_int min2_int max_two min_two max_three min_three max_four min_four   -- for this text's walks alone
set_option linter.unusedVariables false
set_option linter.unusedSimpArgs false

/-! ### whetstonelaw02_BigTexts: function 3 -/
def whetstonelaw02_BigTexts.j0 : Nat → ByteArray → Bool → Bool → List Int → Option (Bool)
 | 0, _, _, _, _ => none
 | k + 1, x1, x19, x683000, x683001 => if x19 = true then ((whetstonelaw02_signed.f k).bind fun t684 => (some t684)) else ((big_Parse.f k x1).bind fun bt685 => ((whetstoneref02_Parse.f k x1).bind fun bt691 => ((big_Text.f k x683000 x683001).bind fun t697 => ((big_Parse.f k t697).bind fun bt698 => ((whetstonelaw02_signed.f k).bind fun t704 => (if t704 = true then ((whetstonelaw02_of.f k x683000 x683001).bind fun bt705 => ((whetstoneref02_Text.f k bt705.1 bt705.2).bind fun t709 => (if t697.toList = t709.toList then ((whetstonelaw02_same.f k bt685.1 bt685.2.1 bt691.1 bt691.2.1).bind fun t710 => (if t710 = true then (if bt685.2.2 = bt691.2.2 then (if bt698.2.2 = 0 then ((whetstonelaw02_of.f k x683000 x683001).bind fun bt711 => ((whetstonelaw02_same.f k bt698.1 bt698.2.1 bt711.1 bt711.2).bind fun t715 => (if t715 = true then (if bt685.2.2 = 0 then ((big_Text.f k bt685.1 bt685.2.1).bind fun t716 => (some (t716.toList == x1.toList))) else (some true)) else (none)))) else (none)) else (none)) else (none))) else (none)))) else (none)))))))
def whetstonelaw02_BigTexts.f (k : Nat) (a0_0 : Bool) (l0_1 : List Int) (a1 : ByteArray) : Option (Bool) := (whetstonelaw02_small.f a0_0 l0_1).bind fun t683 => (if t683 = true then (whetstonelaw02_BigTexts.j0 k a1 (decide ((a1.size : Int) > 100)) a0_0 l0_1) else (whetstonelaw02_BigTexts.j0 k a1 true a0_0 l0_1))
theorem whetstonelaw02_BigTexts.mono_l : ∀ k, (∀ y0 y1 y2 y3, LeO (whetstonelaw02_BigTexts.j0 k y0 y1 y2 y3) (whetstonelaw02_BigTexts.j0 (k + 1) y0 y1 y2 y3))
 | 0 => fun _ _ _ _ r h => by simp [whetstonelaw02_BigTexts.j0] at h
 | k + 1 => by
  have ih0 := whetstonelaw02_BigTexts.mono_l k
  ·intro y0 y1 y2 y3
   unfold whetstonelaw02_BigTexts.j0
   repeat' with_reducible first | exact ih0 _ _ _ _ | exact big_Parse.mono _ _ | exact big_Text.mono _ _ _ | exact whetstonelaw02_of.mono _ _ _ | exact whetstonelaw02_same.mono _ _ _ _ _ | exact whetstonelaw02_signed.mono _ | exact whetstoneref02_Parse.mono _ _ | exact whetstoneref02_Text.mono _ _ _ | exact LeO.refl _ | exact LeO.none _ | refine LeO.ite ?_ ?_ | refine LeO.bind ?_ (fun _ => ?_)
theorem whetstonelaw02_BigTexts.mono : ∀ a0 a1 a2 k, LeO (whetstonelaw02_BigTexts.f k a0 a1 a2) (whetstonelaw02_BigTexts.f (k + 1) a0 a1 a2) := by
 intro a0 a1 a2 k
 have ih0 := whetstonelaw02_BigTexts.mono_l k
 unfold whetstonelaw02_BigTexts.f
 repeat' with_reducible first | exact ih0 _ _ _ _ | exact big_Parse.mono _ _ | exact big_Text.mono _ _ _ | exact whetstonelaw02_of.mono _ _ _ | exact whetstonelaw02_same.mono _ _ _ _ _ | exact whetstonelaw02_signed.mono _ | exact whetstoneref02_Parse.mono _ _ | exact whetstoneref02_Text.mono _ _ _ | exact LeO.refl _ | exact LeO.none _ | refine LeO.ite ?_ ?_ | refine LeO.bind ?_ (fun _ => ?_)
def whetstonelaw02_BigTexts.T7 : Bool × List (List Nat × List Nat) := (true, [([], []), ([0, 0], [0]), ([1], [1]), ([1], [1]), ([3, 1, 1], [1, 3]), ([4, 4, 1], [1, 4]), ([2, 5, 1], [1, 2, 5]), ([1, 6], [1, 6]), ([7, 5], [7]), ([8], [8]), ([8], [8]), ([9, 10, 8, 8], [8, 9, 10]), ([8, 11], [8, 11]), ([12, 11], [12]), ([13], [13]), ([13], [13]), ([14, 15, 13], [13, 14, 15]), ([13, 16], [13, 16]), ([17, 13], [17]), ([18], [18]), ([19, 18], [18, 19]), ([18, 20], [18, 20]), ([21, 18], [21]), ([22], [22]), ([22], [22]), ([24, 22, 22], [22, 24]), ([23, 25, 25, 22], [22, 23, 25]), ([22, 26], [22, 26]), ([27, 26], [27]), ([28], [28]), ([29, 28], [28, 29]), ([30, 28, 28], [28, 30]), ([31], [31]), ([32, 31, 31], [31, 32]), ([31], [31]), ([33, 34, 31], [31, 33, 34]), ([31, 35, 28], [28, 31, 35]), ([28, 36], [28, 36]), ([37, 33, 0, 1, 2, 3, 4, 5, 6, 7, 8, 9, 10, 11, 12, 13, 14, 15, 16, 17, 18, 19, 20, 21, 22, 23, 24, 25, 26, 27, 28, 29, 30, 31, 32, 33, 34, 35, 36, 37], [37])])
def whetstonelaw02_BigTexts.B7 : List Nat := [0, 1, 3, 3, 11, 27, 63, 127, 255, 511, 511, 2047, 4095, 8191, 16383, 16383, 65535, 131071, 262143, 524287, 1048575, 2097151, 4194303, 8388607, 8388607, 25165823, 67108863, 134217727, 268435455, 536870911, 1073741823, 2147483647, 4294967295, 8589934591, 4294967295, 34359738367, 68719476735, 137438953471, 274877906943]
theorem whetstonelaw02_BigTexts.tab7 : rtab .any (opsOf Try.f3 7) = whetstonelaw02_BigTexts.T7 := by kernel_rfl
theorem whetstonelaw02_BigTexts.bits7 : waitsOk whetstonelaw02_BigTexts.T7.2 whetstonelaw02_BigTexts.B7 = true := by kernel_rfl
set_option maxHeartbeats 8000000 in
set_option maxRecDepth 100000 in
theorem whetstonelaw02_BigTexts.calls (k : Nat) (a0_0 : Bool) (A0_1 : Option Addr) (c0_1 : Nat) (l0_1 : List Int) (a1 : ByteArray) (r : Bool) (w : World) (hr0_1 : Kd.C (Kd.int .u32) w A0_1 l0_1.length l0_1) (hc0_1 : l0_1.length ≤ c0_1) (h : whetstonelaw02_BigTexts.f k a0_0 l0_1 a1 = some r) :
  Calls Try.prog 3 #[.agg #[.bool a0_0, .slice A0_1 l0_1.length c0_1], .string a1] w fun e w' => e = .returned (.bool r) ∧ Below w.heap.size w w' := by
 have hu24 := Try.underlying24
 have hu32 := Try.underlying32
 have HR0_1 := Aside0.mk hr0_1
 have HC0_1 := Aside0.mk hc0_1
 clear hr0_1 hc0_1
 have HB := Aside0.mk (Below.refl w.heap.size w)
 have H : ((whetstonelaw02_small.f a0_0 l0_1).bind fun t683 => (if t683 = true then (whetstonelaw02_BigTexts.j0 k a1 (decide ((a1.size : Int) > 100)) a0_0 l0_1) else (whetstonelaw02_BigTexts.j0 k a1 true a0_0 l0_1))) = some r := h
 clear h
 have HC3 := Aside0.mk H
 clear H
 go_enter Try.func3, Try.ntmps3
 go_upto_region 1 with (first | ((with_reducible refine gate_dst (N := 2) rfl ?_); (try (refine gate_guard (by rfl) ?_; dsimp only)); refine bx (N := 2) #[.bool a0_0, .slice A0_1 l0_1.length c0_1] 24 ?_; intro gb682 hg w4 hbox hb; have BK682 := Aside0.mk (hbox); have GW682 := bz hg HB; have GE682 := bz hg HB; replace HB := bs HB hb; clear hb hbox hg))
 (try simp only [Act.put, List.setIfInBounds_toArray, List.set_cons_zero, List.set_cons_succ])
 go_cut [19] from 1 to 0 (fun v19 wc => ∃ (kq : Nat) (x19_2 : Bool), v19 = .bool x19_2 ∧ Aside0 (whetstonelaw02_BigTexts.j0 kq a1 x19_2 a0_0 l0_1 = some r) ∧ Aside0 (kq ≤ k) ∧ Aside0 (wc.heap[gb682]? = some (.cells #[.bool a0_0, (.slice A0_1 l0_1.length c0_1)] 24 (0, 0))) ∧ Aside0 (Below w.heap.size w wc))
 case first =>
  have H := HC3.out
  clear HC3
  replace H := bi H
  obtain ⟨t683, A50, H⟩ := H
  have A5 := Aside0.mk A50
  clear A50
  by_cases c6 : t683 = true
  ·subst c6
   have H1 : (whetstonelaw02_BigTexts.j0 k a1 (decide ((a1.size : Int) > 100)) a0_0 l0_1) = some r := by rw [if_pos rfl] at H; exact H
   clear H
   have H := H1
   clear H1
   have H' := Aside0.mk H
   clear H
   have hcz7_0 := bc BK682 0 (.bool a0_0)
   have hcz7_1 := bc BK682 1 (.slice A0_1 l0_1.length c0_1)
   have hfz7_0 := blk_frozen BK682.out 0
   have hfz7_1 := blk_frozen BK682.out 1
   go_wp2_with (first | ((with_reducible refine gate_callee (f := 12) rfl ?_); refine gL (N := some 13) Try.func12 #[.agg #[.bool a0_0, .slice A0_1 l0_1.length c0_1]] ?_; (with_reducible refine (whetstonelaw02_small.calls a0_0 _ _ l0_1 true _ ?side1 ?side2 A5.out).mono ?_); (case side1 => exact tc (Kd.C_below HR0_1.out HB.out)); (case side2 => exact HC0_1.out); rintro e w8 ⟨rfl, hb⟩; refine ⟨_, rfl, ?_⟩; replace BK682 := kb BK682 hb; replace HB := bs HB hb; (try clear hb); (try clear hb2); (try clear hk); (try clear hi)))
   go_meet
   case rel => exact ⟨_, (decide ((a1.size : Int) > 100)), (by first | rfl | (simp; done) | (simp [*]; done)), H', ⟨by first | omega | exact Nat.le_refl _⟩, ⟨tk BK682⟩, ⟨tb HB⟩⟩
  ·replace c6 := Bool.eq_false_iff.mpr c6
   subst c6
   have H1 : (whetstonelaw02_BigTexts.j0 k a1 true a0_0 l0_1) = some r := by rw [if_neg (show ¬ (false = true) by decide)] at H; exact H
   clear H
   have H := H1
   clear H1
   have H' := Aside0.mk H
   clear H
   have hcz9_0 := bc BK682 0 (.bool a0_0)
   have hcz9_1 := bc BK682 1 (.slice A0_1 l0_1.length c0_1)
   have hfz9_0 := blk_frozen BK682.out 0
   have hfz9_1 := blk_frozen BK682.out 1
   go_wp2_with (first | ((with_reducible refine gate_callee (f := 12) rfl ?_); refine gL (N := some 13) Try.func12 #[.agg #[.bool a0_0, .slice A0_1 l0_1.length c0_1]] ?_; (with_reducible refine (whetstonelaw02_small.calls a0_0 _ _ l0_1 false _ ?side1 ?side2 A5.out).mono ?_); (case side1 => exact tc (Kd.C_below HR0_1.out HB.out)); (case side2 => exact HC0_1.out); rintro e w10 ⟨rfl, hb⟩; refine ⟨_, rfl, ?_⟩; replace BK682 := kb BK682 hb; replace HB := bs HB hb; (try clear hb); (try clear hb2); (try clear hk); (try clear hi)))
   go_meet
   case rel => exact ⟨_, (true), (by first | rfl | (simp; done) | (simp [*]; done)), H', ⟨by first | omega | exact Nat.le_refl _⟩, ⟨tk BK682⟩, ⟨tb HB⟩⟩
 case rest =>
  clear HC3
  (try clear c1); (try clear p2); (try clear c3); (try clear c6); (try clear hcz7_0); (try clear hcz7_1); (try clear hcz9_0); (try clear hcz9_1); (try clear hfz7_0); (try clear hfz7_1); (try clear hfz9_0); (try clear hfz9_1)
  obtain ⟨kq, x19_2, rfl, HA, HJ2, BK682, HB⟩ := hcut
  cases kq with
  | zero => exact absurd HA.out (by simp [whetstonelaw02_BigTexts.j0])
  | succ kj2 =>
   have H := HA.out
   clear HA
   simp only [whetstonelaw02_BigTexts.j0] at H
   by_cases c11 : x19_2 = true
   ·subst c11
    have H1 : ((whetstonelaw02_signed.f kj2).bind fun t684 => (some t684)) = some r := by rw [if_pos rfl] at H; exact H
    clear H
    have H := H1
    clear H1
    replace H := bi H
    obtain ⟨t684, A120, H⟩ := H
    have A12 := Aside0.mk A120
    clear A120
    obtain rfl := Option.some.inj H
    go_wp2_with (first | ((with_reducible refine gate_callee (f := 13) rfl ?_); refine gL (N := some 20) Try.func13 #[] ?_; (with_reducible refine (whetstonelaw02_signed.calls kj2  t684 _ A12.out).mono ?_); rintro e w13 ⟨rfl, hb⟩; refine ⟨_, rfl, ?_⟩; replace HB := bs HB hb; (try clear hb); (try clear hb2); (try clear hk); (try clear hi)))
    go_ret
    exact ⟨by first | rfl | (simp [errW_none, errW_some] <;> rfl) | (simp [*, errW_none, errW_some] <;> rfl), tb HB⟩
   ·replace c11 := Bool.eq_false_iff.mpr c11
    subst c11
    have H1 : ((big_Parse.f kj2 a1).bind fun bt685 => ((whetstoneref02_Parse.f kj2 a1).bind fun bt691 => ((big_Text.f kj2 a0_0 l0_1).bind fun t697 => ((big_Parse.f kj2 t697).bind fun bt698 => ((whetstonelaw02_signed.f kj2).bind fun t704 => (if t704 = true then ((whetstonelaw02_of.f kj2 a0_0 l0_1).bind fun bt705 => ((whetstoneref02_Text.f kj2 bt705.1 bt705.2).bind fun t709 => (if t697.toList = t709.toList then ((whetstonelaw02_same.f kj2 bt685.1 bt685.2.1 bt691.1 bt691.2.1).bind fun t710 => (if t710 = true then (if bt685.2.2 = bt691.2.2 then (if bt698.2.2 = 0 then ((whetstonelaw02_of.f kj2 a0_0 l0_1).bind fun bt711 => ((whetstonelaw02_same.f kj2 bt698.1 bt698.2.1 bt711.1 bt711.2).bind fun t715 => (if t715 = true then (if bt685.2.2 = 0 then ((big_Text.f kj2 bt685.1 bt685.2.1).bind fun t716 => (some (t716.toList == a1.toList))) else (some true)) else (none)))) else (none)) else (none)) else (none))) else (none)))) else (none))))))) = some r := by rw [if_neg (show ¬ (false = true) by decide)] at H; exact H
    clear H
    have H := H1
    clear H1
    replace H := bi H
    obtain ⟨⟨t685, t686, t689⟩, A140, H⟩ := H
    try dsimp only at H
    have A14 := Aside0.mk A140
    clear A140
    replace H := bi H
    obtain ⟨⟨t691, t692, t695⟩, A150, H⟩ := H
    try dsimp only at H
    have A15 := Aside0.mk A150
    clear A150
    replace H := bi H
    obtain ⟨t697, A160, H⟩ := H
    have A16 := Aside0.mk A160
    clear A160
    replace H := bi H
    obtain ⟨⟨t698, t699, t702⟩, A170, H⟩ := H
    try dsimp only at H
    have A17 := Aside0.mk A170
    clear A170
    replace H := bi H
    obtain ⟨t704, A180, H⟩ := H
    have A18 := Aside0.mk A180
    clear A180
    by_cases c19 : t704 = true
    ·subst c19
     have H1 : ((whetstonelaw02_of.f kj2 a0_0 l0_1).bind fun bt705 => ((whetstoneref02_Text.f kj2 bt705.1 bt705.2).bind fun t709 => (if t697.toList = t709.toList then ((whetstonelaw02_same.f kj2 t685 t686 t691 t692).bind fun t710 => (if t710 = true then (if t689 = t695 then (if t702 = 0 then ((whetstonelaw02_of.f kj2 a0_0 l0_1).bind fun bt711 => ((whetstonelaw02_same.f kj2 t698 t699 bt711.1 bt711.2).bind fun t715 => (if t715 = true then (if t689 = 0 then ((big_Text.f kj2 t685 t686).bind fun t716 => (some (t716.toList == a1.toList))) else (some true)) else (none)))) else (none)) else (none)) else (none))) else (none)))) = some r := by rw [if_pos rfl] at H; exact H
     clear H
     have H := H1
     clear H1
     replace H := bi H
     obtain ⟨⟨t705, t706⟩, A200, H⟩ := H
     try dsimp only at H
     have A20 := Aside0.mk A200
     clear A200
     replace H := bi H
     obtain ⟨t709, A210, H⟩ := H
     have A21 := Aside0.mk A210
     clear A210
     by_cases c22 : t697.toList = t709.toList
     ·rw [if_pos c22] at H
      have c22b0 : (t697.toList == t709.toList) = true := beq_iff_eq.mpr c22
      have c22b1 : (t697.toList != t709.toList) = false := bne_eq_false_iff_eq.mpr c22
      clear c22
      replace H := bi H
      obtain ⟨t710, A230, H⟩ := H
      have A23 := Aside0.mk A230
      clear A230
      by_cases c24 : t710 = true
      ·subst c24
       have H1 : (if t689 = t695 then (if t702 = 0 then ((whetstonelaw02_of.f kj2 a0_0 l0_1).bind fun bt711 => ((whetstonelaw02_same.f kj2 t698 t699 bt711.1 bt711.2).bind fun t715 => (if t715 = true then (if t689 = 0 then ((big_Text.f kj2 t685 t686).bind fun t716 => (some (t716.toList == a1.toList))) else (some true)) else (none)))) else (none)) else (none)) = some r := by rw [if_pos rfl] at H; exact H
       clear H
       have H := H1
       clear H1
       by_cases c25 : t689 = t695
       ·rw [if_pos c25] at H
        have c25b0 : (t689 == t695) = true := beq_iff_eq.mpr c25
        have c25b1 : (t689 != t695) = false := bne_eq_false_iff_eq.mpr c25
        clear c25
        by_cases c26 : t702 = 0
        ·rw [if_pos c26] at H
         have c26b0 : (t702 == 0) = true := beq_iff_eq.mpr c26
         have c26b1 : (t702 != 0) = false := bne_eq_false_iff_eq.mpr c26
         clear c26
         replace H := bi H
         obtain ⟨⟨t711, t712⟩, A270, H⟩ := H
         try dsimp only at H
         have A27 := Aside0.mk A270
         clear A270
         replace H := bi H
         obtain ⟨t715, A280, H⟩ := H
         have A28 := Aside0.mk A280
         clear A280
         by_cases c29 : t715 = true
         ·subst c29
          have H1 : (if t689 = 0 then ((big_Text.f kj2 t685 t686).bind fun t716 => (some (t716.toList == a1.toList))) else (some true)) = some r := by rw [if_pos rfl] at H; exact H
          clear H
          have H := H1
          clear H1
          by_cases c30 : t689 = 0
          ·rw [if_pos c30] at H
           have c30b0 : (t689 == 0) = true := beq_iff_eq.mpr c30
           have c30b1 : (t689 != 0) = false := bne_eq_false_iff_eq.mpr c30
           clear c30
           replace H := bi H
           obtain ⟨t716, A310, H⟩ := H
           have A31 := Aside0.mk A310
           clear A310
           obtain rfl := Option.some.inj H
           try go_wp2_with (first | ((with_reducible refine gate_callee (f := 14) rfl ?_); refine gL (N := some 23) Try.func14 #[.string a1] ?_; (with_reducible refine (big_Parse.calls kj2 a1 t685 t686 t689 _ A14.out).mono ?_); rintro e w32 ⟨v687, rfl, ho0, hb⟩; refine ⟨_, rfl, ?_⟩; have HO688 := rl ho0 HB; replace BK682 := kb BK682 hb; replace HB := bs HB hb; (try clear hb); (try clear hb2); (try clear hk); (try clear hi); (try clear ho0)) | ((with_reducible refine gate_dst (N := 5) rfl ?_); (try (refine gate_guard (by rfl) ?_; dsimp only)); refine bx (N := 5) #[.bool false, .slice none 0 0] 24 ?_; intro gb690 hg w33 hbox hb; replace HO688 := rb HO688 hb; have BK690 := Aside0.mk (hbox); have GW690 := bz hg HB; have GE690 := bz hg HB; replace HB := bs HB hb; have NB682_690 := nl hg BK682; have NB690_682 := ng hg BK682; replace BK682 := kb BK682 hb; clear hb hbox hg; have hnb34 := NB690_682.out; have hnc34 := NB682_690.out; have hcz35_0 := bc BK690 0 (.bool false); have hcz35_1 := bc BK690 1 (.slice none 0 0); have hfz35_0 := blk_frozen BK690.out 0; have hfz35_1 := blk_frozen BK690.out 1; obtain ⟨Ao36, co36, eo36⟩ := Kd.R_slice HO688.out; subst eo36) | ((with_reducible refine gate_callee (f := 15) rfl ?_); refine gL (N := some 28) Try.func15 #[.string a1] ?_; (with_reducible refine (whetstoneref02_Parse.calls kj2 a1 t691 t692 t695 _ A15.out).mono ?_); rintro e w37 ⟨v693, rfl, ho0, hb⟩; refine ⟨_, rfl, ?_⟩; replace HO688 := rt HO688 hb; have HO694 := rl ho0 HB; replace BK682 := kb BK682 hb; replace BK690 := kb (o' := .cells #[.bool t685, .slice Ao36 t686.length co36] 24 (0, 0)) BK690 hb; replace HB := bs HB hb; (try clear hb); (try clear hb2); (try clear hk); (try clear hi); (try clear ho0)) | ((with_reducible refine gate_dst (N := 7) rfl ?_); (try (refine gate_guard (by rfl) ?_; dsimp only)); refine bx (N := 7) #[.bool false, .slice none 0 0] 32 ?_; intro gb696 hg w38 hbox hb; replace HO688 := rb HO688 hb; replace HO694 := rb HO694 hb; have BK696 := Aside0.mk (hbox); have GW696 := bz hg HB; have GE696 := bz hg HB; replace HB := bs HB hb; have NB682_696 := nl hg BK682; have NB696_682 := ng hg BK682; replace BK682 := kb BK682 hb; have NB690_696 := nl hg BK690; have NB696_690 := ng hg BK690; replace BK690 := kb BK690 hb; clear hb hbox hg; have hnb39 := NB696_682.out; have hnc39 := NB682_696.out; have hnb40 := NB696_690.out; have hnc40 := NB690_696.out; have hcz41_0 := bc BK696 0 (.bool false); have hcz41_1 := bc BK696 1 (.slice none 0 0); have hfz41_0 := blk_frozen BK696.out 0; have hfz41_1 := blk_frozen BK696.out 1; obtain ⟨Ao42, co42, eo42⟩ := Kd.R_slice HO694.out; subst eo42; have hcz43_0 := bc BK682 0 (.bool a0_0); have hcz43_1 := bc BK682 1 (.slice A0_1 l0_1.length c0_1); have hfz43_0 := blk_frozen BK682.out 0; have hfz43_1 := blk_frozen BK682.out 1) | ((with_reducible refine gate_callee (f := 16) rfl ?_); refine gL (N := some 32) Try.func16 #[.agg #[.bool a0_0, .slice A0_1 l0_1.length c0_1]] ?_; (with_reducible refine (big_Text.calls kj2 a0_0 _ _ l0_1 t697 _ ?side1 ?side2 A16.out).mono ?_); (case side1 => exact Kd.C_below HR0_1.out (tb HB)); (case side2 => exact HC0_1.out); rintro e w44 ⟨rfl, hb⟩; refine ⟨_, rfl, ?_⟩; replace HO688 := rt HO688 hb; replace HO694 := rt HO694 hb; replace BK682 := kb BK682 hb; replace BK690 := kb BK690 hb; replace BK696 := kb (o' := .cells #[.bool t691, .slice Ao42 t692.length co42] 32 (0, 0)) BK696 hb; replace HB := bs HB hb; (try clear hb); (try clear hb2); (try clear hk); (try clear hi)) | ((with_reducible refine gate_callee (f := 14) rfl ?_); refine gL (N := some 35) Try.func14 #[.string t697] ?_; (with_reducible refine (big_Parse.calls kj2 t697 t698 t699 t702 _ A17.out).mono ?_); rintro e w45 ⟨v700, rfl, ho0, hb⟩; refine ⟨_, rfl, ?_⟩; replace HO694 := rb HO694 hb; have HO701 := Aside0.mk (Kd.R_lower (Kd.R_new' ho0 (Kd.R_lt (tq HO688))) (below_size (tb HB))); replace HO688 := re HO688 (Kd.R_base ho0) hb; replace BK682 := kb BK682 hb; replace BK690 := kb BK690 hb; replace BK696 := kb BK696 hb; replace HB := bs HB hb; (try clear hb); (try clear hb2); (try clear hk); (try clear hi); (try clear ho0)) | ((with_reducible refine gate_dst (N := 10) rfl ?_); (try (refine gate_guard (by rfl) ?_; dsimp only)); refine bx (N := 10) #[.bool false, .slice none 0 0] 24 ?_; intro gb703 hg w46 hbox hb; replace HO688 := rb HO688 hb; replace HO694 := rb HO694 hb; replace HO701 := rb HO701 hb; have BK703 := Aside0.mk (hbox); have GW703 := bz hg HB; have GE703 := bz hg HB; replace HB := bs HB hb; have NB682_703 := nl hg BK682; have NB703_682 := ng hg BK682; replace BK682 := kb BK682 hb; have NB690_703 := nl hg BK690; have NB703_690 := ng hg BK690; replace BK690 := kb BK690 hb; have NB696_703 := nl hg BK696; have NB703_696 := ng hg BK696; replace BK696 := kb BK696 hb; clear hb hbox hg; have hnb47 := NB703_682.out; have hnc47 := NB682_703.out; have hnb48 := NB703_690.out; have hnc48 := NB690_703.out; have hnb49 := NB703_696.out; have hnc49 := NB696_703.out; have hcz50_0 := bc BK703 0 (.bool false); have hcz50_1 := bc BK703 1 (.slice none 0 0); have hfz50_0 := blk_frozen BK703.out 0; have hfz50_1 := blk_frozen BK703.out 1; obtain ⟨Ao51, co51, eo51⟩ := Kd.R_slice HO701.out; subst eo51))
           have n0_ : Aside0 (Kd.R (Kd.int .u32) 87 ((w46.setCell ⟨gb703, 0, none⟩ (.bool t698)).setCell ⟨gb703, 1, none⟩ (.slice Ao51 t699.length co51)) w.heap.size (fun k_ => some k_ ≠ (.slice Ao51 t699.length co51 : Value).ownBlock) (.slice Ao36 t686.length co36) t686) := ⟨by (with_reducible repeat first | apply qa | apply qn | apply qd); exact Kd.R_mono (Kd.R_far (p := ⟨gb703, 1, none⟩) (Kd.R_far (p := ⟨gb703, 0, none⟩) (Kd.R_types HO688.out BK703.out (by decide)) (fun _ hk => hk.2) (.bool t698)) (fun _ hk => hk.2) (.slice Ao51 t699.length co51)) (fun _ hk => hk.1.2)⟩
           have n1_ : Aside0 (Kd.R (Kd.int .i64) 3 ((w46.setCell ⟨gb703, 0, none⟩ (.bool t698)).setCell ⟨gb703, 1, none⟩ (.slice Ao51 t699.length co51)) w.heap.size (fun _ => True) (.slice Ao42 t692.length co42) t692) := ⟨by (with_reducible repeat first | apply qa | apply qn | apply qd); exact Kd.R_mono (Kd.R_far (p := ⟨gb703, 1, none⟩) (Kd.R_far (p := ⟨gb703, 0, none⟩) (Kd.R_types HO694.out BK703.out (by decide)) (fun _ hk => hk.2) (.bool t698)) (fun _ hk => hk.2) (.slice Ao51 t699.length co51)) (fun _ hk => trivial)⟩
           have n2_ : Aside0 (Kd.R (Kd.int .u32) 87 ((w46.setCell ⟨gb703, 0, none⟩ (.bool t698)).setCell ⟨gb703, 1, none⟩ (.slice Ao51 t699.length co51)) w.heap.size (fun k_ => some k_ ≠ (.slice Ao36 t686.length co36 : Value).ownBlock) (.slice Ao51 t699.length co51) t699) := ⟨by (with_reducible repeat first | apply qa | apply qn | apply qd); exact Kd.R_mono (Kd.R_far (p := ⟨gb703, 1, none⟩) (Kd.R_far (p := ⟨gb703, 0, none⟩) (Kd.R_types HO701.out BK703.out (by decide)) (fun _ hk => hk.2) (.bool t698)) (fun _ hk => hk.2) (.slice Ao51 t699.length co51)) (fun _ hk => hk.1.2)⟩
           have n3_ : Aside0 (((w46.setCell ⟨gb703, 0, none⟩ (.bool t698)).setCell ⟨gb703, 1, none⟩ (.slice Ao51 t699.length co51)).heap[gb682]? = some (.cells #[.bool a0_0, .slice A0_1 l0_1.length c0_1] 24 (0, 0))) := ⟨tk BK682⟩
           have n4_ : Aside0 (((w46.setCell ⟨gb703, 0, none⟩ (.bool t698)).setCell ⟨gb703, 1, none⟩ (.slice Ao51 t699.length co51)).heap[gb690]? = some (.cells #[.bool t685, .slice Ao36 t686.length co36] 24 (0, 0))) := ⟨tk BK690⟩
           have n5_ : Aside0 (((w46.setCell ⟨gb703, 0, none⟩ (.bool t698)).setCell ⟨gb703, 1, none⟩ (.slice Ao51 t699.length co51)).heap[gb696]? = some (.cells #[.bool t691, .slice Ao42 t692.length co42] 32 (0, 0))) := ⟨tk BK696⟩
           have n6_ : Aside0 (((w46.setCell ⟨gb703, 0, none⟩ (.bool t698)).setCell ⟨gb703, 1, none⟩ (.slice Ao51 t699.length co51)).heap[gb703]? = some (.cells #[.bool t698, .slice Ao51 t699.length co51] 24 (0, 0))) := ⟨tk BK703⟩
           have n7_ : Aside0 (Below w.heap.size w ((w46.setCell ⟨gb703, 0, none⟩ (.bool t698)).setCell ⟨gb703, 1, none⟩ (.slice Ao51 t699.length co51))) := ⟨tb HB⟩
           (try clear HO688); (try clear HO694); (try clear HO701); (try clear BK682); (try clear BK690); (try clear BK696); (try clear BK703); (try clear HB)
           generalize ((w46.setCell ⟨gb703, 0, none⟩ (.bool t698)).setCell ⟨gb703, 1, none⟩ (.slice Ao51 t699.length co51)) = w52 at n0_ n1_ n2_ n3_ n4_ n5_ n6_ n7_ ⊢
           have HO688 := n0_
           have HO694 := n1_
           have HO701 := n2_
           have BK682 := n3_
           have BK690 := n4_
           have BK696 := n5_
           have BK703 := n6_
           have HB := n7_
           clear n0_ n1_ n2_ n3_ n4_ n5_ n6_ n7_
           replace HO688 := Aside0.mk (Kd.R_drew HO688.out)
           replace HO694 := Aside0.mk (Kd.R_drew HO694.out)
           replace HO701 := Aside0.mk (Kd.R_drew HO701.out)
           replace BK682 := Aside0.mk (blk_drew BK682.out)
           replace BK690 := Aside0.mk (blk_drew BK690.out)
           replace BK696 := Aside0.mk (blk_drew BK696.out)
           replace BK703 := Aside0.mk (blk_drew BK703.out)
           replace HB := Aside0.mk (below_drew1 HB.out)
           refine start_ (n := 39) (S := fun w' => w'.cell? ⟨gb682, 0, none⟩ = some (.bool a0_0) ∧ w'.cell? ⟨gb682, 1, none⟩ = some (.slice A0_1 l0_1.length c0_1) ∧ w'.cell? ⟨gb690, 0, none⟩ = some (.bool t685) ∧ w'.cell? ⟨gb690, 1, none⟩ = some (.slice Ao36 t686.length co36) ∧ w'.cell? ⟨gb696, 0, none⟩ = some (.bool t691) ∧ w'.cell? ⟨gb696, 1, none⟩ = some (.slice Ao42 t692.length co42) ∧ w'.cell? ⟨gb703, 0, none⟩ = some (.bool t698) ∧ w'.cell? ⟨gb703, 1, none⟩ = some (.slice Ao51 t699.length co51)) (ds := []) #[false, false, false, false, false, false, false, false, false, false, false, false, false, false, false, false, false, false, false, false, false, false, false, false, false, false, false, false, false, false, false, false, false, false, false, false, false, false, false] (by kernel_rfl) rfl rfl ⟨(blk_cell BK682.out 0).trans rfl, (blk_cell BK682.out 1).trans rfl, (blk_cell BK690.out 0).trans rfl, (blk_cell BK690.out 1).trans rfl, (blk_cell BK696.out 0).trans rfl, (blk_cell BK696.out 1).trans rfl, (blk_cell BK703.out 0).trans rfl, (blk_cell BK703.out 1).trans rfl⟩ (fun hHeld => ?_); refine with_tabW whetstonelaw02_BigTexts.tab7 whetstonelaw02_BigTexts.bits7 (fun HT_ HW_ => ?_)
           generalize w52.drew = w53 at HO688 HO694 HO701 BK682 BK690 BK696 BK703 HB hHeld ⊢
           refine oT (i := 0) (N := some 38) (bb 39 1) HT_ fun K hK => ?_
           refine gS Try.func13 #[] ?_
           with_reducible refine (whetstonelaw02_signed.calls kj2  true _ A18.out).mono ?_
           rintro e w54 ⟨rfl, hb⟩
           refine ⟨_, rfl, ?_⟩
           replace HO688 := rb HO688 hb
           replace HO694 := rb HO694 hb
           replace HO701 := rb HO701 hb
           replace BK682 := kb BK682 hb
           replace BK690 := kb BK690 hb
           replace BK696 := kb BK696 hb
           replace BK703 := kb BK703 hb
           replace HB := bs HB hb
           (try clear hb); (try clear hb2); (try clear hk); (try clear hi)
           refine hK.out _ _ ⟨(blk_cell BK682.out 0).trans rfl, (blk_cell BK682.out 1).trans rfl, (blk_cell BK690.out 0).trans rfl, (blk_cell BK690.out 1).trans rfl, (blk_cell BK696.out 0).trans rfl, (blk_cell BK696.out 1).trans rfl, (blk_cell BK703.out 0).trans rfl, (blk_cell BK703.out 1).trans rfl⟩ fun hHeld => nT (N := some 38) ?_
           clear hK K
           refine pT (i := 1) (N := some 39) (bb 39 3) HT_ ?_
           refine pT (i := 2) (N := some 40) (bb 39 7) HT_ ?_
           refine tW (i := 3) (N := some 41) (bb 39 15) HT_ HW_ hHeld ?_
           refine oT (i := 4) (N := some 42) (bb 39 31) HT_ fun K hK => ?_
           refine gS Try.func18 #[.agg #[.bool a0_0, .slice A0_1 l0_1.length c0_1]] ?_
           with_reducible refine (whetstonelaw02_of.calls kj2 a0_0 _ _ l0_1 t705 t706 _ ?side1 ?side2 A20.out).mono ?_
           (case side1 => exact tc (Kd.C_below HR0_1.out HB.out))
           (case side2 => exact HC0_1.out)
           rintro e w55 ⟨v707, rfl, ho0, hb⟩
           refine ⟨_, rfl, ?_⟩
           replace HO688 := rb HO688 hb
           replace HO701 := rb HO701 hb
           have HO708 := Aside0.mk (Kd.R_lower (Kd.R_new' ho0 (Kd.R_lt (tq HO694))) (below_size (tb HB)))
           replace HO694 := re HO694 (Kd.R_base ho0) hb
           replace BK682 := kb BK682 hb
           replace BK690 := kb BK690 hb
           replace BK696 := kb BK696 hb
           replace BK703 := kb BK703 hb
           replace HB := bs HB hb
           (try clear hb); (try clear hb2); (try clear hk); (try clear hi); (try clear ho0)
           obtain ⟨Ao56, co56, eo56⟩ := Kd.R_slice HO708.out
           (first | subst eo56 | (injection eo56 with f1_ f2_ f3_; have f4_ := f1_.symm; have f5_ := f3_.symm; clear f1_ f2_ f3_; subst f4_; subst f5_))
           refine hK.out _ _ ⟨(blk_cell BK682.out 0).trans rfl, (blk_cell BK682.out 1).trans rfl, (blk_cell BK690.out 0).trans rfl, (blk_cell BK690.out 1).trans rfl, (blk_cell BK696.out 0).trans rfl, (blk_cell BK696.out 1).trans rfl, (blk_cell BK703.out 0).trans rfl, (blk_cell BK703.out 1).trans rfl⟩ fun hHeld => nT (N := some 42) ?_
           clear hK K
           refine oT (i := 5) (N := some 43) (bb 39 63) HT_ fun K hK => ?_
           refine gS Try.func17 #[.agg #[.bool t705, .slice Ao56 t706.length co56]] ?_
           with_reducible refine (whetstoneref02_Text.calls kj2 t705 _ _ t706 t709 _ ?side1 ?side2 A21.out).mono ?_
           (case side1 => exact tc (Kd.R_reads' HO708.out).2.2)
           (case side2 => exact (Kd.R_reads' HO708.out).2.1)
           rintro e w57 ⟨rfl, hb⟩
           refine ⟨_, rfl, ?_⟩
           replace HO688 := rb HO688 hb
           replace HO694 := rb HO694 hb
           replace HO701 := rb HO701 hb
           replace HO708 := rb HO708 hb
           replace BK682 := kb BK682 hb
           replace BK690 := kb BK690 hb
           replace BK696 := kb BK696 hb
           replace BK703 := kb BK703 hb
           replace HB := bs HB hb
           (try clear hb); (try clear hb2); (try clear hk); (try clear hi)
           refine hK.out _ _ ⟨(blk_cell BK682.out 0).trans rfl, (blk_cell BK682.out 1).trans rfl, (blk_cell BK690.out 0).trans rfl, (blk_cell BK690.out 1).trans rfl, (blk_cell BK696.out 0).trans rfl, (blk_cell BK696.out 1).trans rfl, (blk_cell BK703.out 0).trans rfl, (blk_cell BK703.out 1).trans rfl⟩ fun hHeld => nT (N := some 43) ?_
           clear hK K
           refine pT (i := 6) (N := some 44) (bb 39 127) HT_ ?_
           refine pT (i := 7) (N := some 45) (bb 39 255) HT_ ?_
           refine pT (i := 8) (N := some 46) (bb 39 511) HT_ ?_
           refine tW (i := 9) (N := some 47) (bb 39 1023) HT_ HW_ hHeld ?_
           refine tW (i := 10) (N := some 48) (bb 39 2047) HT_ HW_ hHeld ?_
           refine oT (i := 11) (N := some 49) (bb 39 4095) HT_ fun K hK => ?_
           refine gS Try.func19 #[.agg #[.bool t685, .slice Ao36 t686.length co36], .agg #[.bool t691, .slice Ao42 t692.length co42]] ?_
           with_reducible refine (whetstonelaw02_same.calls kj2 t685 _ _ t686 t691 _ _ t692 true _ ?side1 ?side2 ?side3 ?side4 A23.out).mono ?_
           (case side1 => exact tc (Kd.R_reads' HO688.out).2.2)
           (case side2 => exact (Kd.R_reads' HO688.out).2.1)
           (case side3 => exact tc (Kd.R_reads' HO694.out).2.2)
           (case side4 => exact (Kd.R_reads' HO694.out).2.1)
           rintro e w58 ⟨rfl, hb⟩
           refine ⟨_, rfl, ?_⟩
           replace HO688 := rb HO688 hb
           replace HO694 := rb HO694 hb
           replace HO701 := rb HO701 hb
           replace HO708 := rb HO708 hb
           replace BK682 := kb BK682 hb
           replace BK690 := kb BK690 hb
           replace BK696 := kb BK696 hb
           replace BK703 := kb BK703 hb
           replace HB := bs HB hb
           (try clear hb); (try clear hb2); (try clear hk); (try clear hi)
           refine hK.out _ _ ⟨(blk_cell BK682.out 0).trans rfl, (blk_cell BK682.out 1).trans rfl, (blk_cell BK690.out 0).trans rfl, (blk_cell BK690.out 1).trans rfl, (blk_cell BK696.out 0).trans rfl, (blk_cell BK696.out 1).trans rfl, (blk_cell BK703.out 0).trans rfl, (blk_cell BK703.out 1).trans rfl⟩ fun hHeld => nT (N := some 49) ?_
           clear hK K
           refine pT (i := 12) (N := some 50) (bb 39 8191) HT_ ?_
           refine pT (i := 13) (N := some 51) (bb 39 16383) HT_ ?_
           refine pT (i := 14) (N := some 52) (bb 39 32767) HT_ ?_
           refine pT (i := 15) (N := some 53) (bb 39 65535) HT_ ?_
           refine pT (i := 16) (N := some 54) (bb 39 131071) HT_ ?_
           refine pT (i := 17) (N := some 55) (bb 39 262143) HT_ ?_
           refine pT (i := 18) (N := some 56) (bb 39 524287) HT_ ?_
           refine pT (i := 19) (N := some 57) (bb 39 1048575) HT_ ?_
           refine pT (i := 20) (N := some 58) (bb 39 2097151) HT_ ?_
           refine pT (i := 21) (N := some 59) (bb 39 4194303) HT_ ?_
           refine pT (i := 22) (N := some 60) (bb 39 8388607) HT_ ?_
           refine tW (i := 23) (N := some 61) (bb 39 16777215) HT_ HW_ hHeld ?_
           refine tW (i := 24) (N := some 62) (bb 39 33554431) HT_ HW_ hHeld ?_
           refine oT (i := 25) (N := some 63) (bb 39 67108863) HT_ fun K hK => ?_
           refine gS Try.func18 #[.agg #[.bool a0_0, .slice A0_1 l0_1.length c0_1]] ?_
           with_reducible refine (whetstonelaw02_of.calls kj2 a0_0 _ _ l0_1 t711 t712 _ ?side1 ?side2 A27.out).mono ?_
           (case side1 => exact tc (Kd.C_below HR0_1.out HB.out))
           (case side2 => exact HC0_1.out)
           rintro e w59 ⟨v713, rfl, ho0, hb⟩
           refine ⟨_, rfl, ?_⟩
           replace HO688 := rb HO688 hb
           replace HO701 := rb HO701 hb
           have HO714 := Aside0.mk (Kd.R_lower (Kd.R_new' (Kd.R_new' ho0 (Kd.R_lt (tq HO694))) (Kd.R_lt (tq HO708))) (below_size (tb HB)))
           replace BK682 := kb BK682 hb
           replace BK690 := kb BK690 hb
           replace BK696 := kb BK696 hb
           replace BK703 := kb BK703 hb
           replace HB := bs HB hb
           (try clear hb); (try clear hb2); (try clear hk); (try clear hi); (try clear ho0)
           obtain ⟨Ao60, co60, eo60⟩ := Kd.R_slice HO714.out
           (first | subst eo60 | (injection eo60 with f1_ f2_ f3_; have f4_ := f1_.symm; have f5_ := f3_.symm; clear f1_ f2_ f3_; subst f4_; subst f5_))
           refine hK.out _ _ ⟨(blk_cell BK682.out 0).trans rfl, (blk_cell BK682.out 1).trans rfl, (blk_cell BK690.out 0).trans rfl, (blk_cell BK690.out 1).trans rfl, (blk_cell BK696.out 0).trans rfl, (blk_cell BK696.out 1).trans rfl, (blk_cell BK703.out 0).trans rfl, (blk_cell BK703.out 1).trans rfl⟩ fun hHeld => nT (N := some 63) ?_
           clear hK K
           refine oT (i := 26) (N := some 64) (bb 39 134217727) HT_ fun K hK => ?_
           refine gS Try.func19 #[.agg #[.bool t698, .slice Ao51 t699.length co51], .agg #[.bool t711, .slice Ao60 t712.length co60]] ?_
           with_reducible refine (whetstonelaw02_same.calls kj2 t698 _ _ t699 t711 _ _ t712 true _ ?side1 ?side2 ?side3 ?side4 A28.out).mono ?_
           (case side1 => exact tc (Kd.R_reads' HO701.out).2.2)
           (case side2 => exact (Kd.R_reads' HO701.out).2.1)
           (case side3 => exact tc (Kd.R_reads' HO714.out).2.2)
           (case side4 => exact (Kd.R_reads' HO714.out).2.1)
           rintro e w61 ⟨rfl, hb⟩
           refine ⟨_, rfl, ?_⟩
           replace HO688 := rb HO688 hb
           replace BK682 := kb BK682 hb
           replace BK690 := kb BK690 hb
           replace BK696 := kb BK696 hb
           replace BK703 := kb BK703 hb
           replace HB := bs HB hb
           (try clear hb); (try clear hb2); (try clear hk); (try clear hi)
           refine hK.out _ _ ⟨(blk_cell BK682.out 0).trans rfl, (blk_cell BK682.out 1).trans rfl, (blk_cell BK690.out 0).trans rfl, (blk_cell BK690.out 1).trans rfl, (blk_cell BK696.out 0).trans rfl, (blk_cell BK696.out 1).trans rfl, (blk_cell BK703.out 0).trans rfl, (blk_cell BK703.out 1).trans rfl⟩ fun hHeld => nT (N := some 64) ?_
           clear hK K
           refine pT (i := 27) (N := some 65) (bb 39 268435455) HT_ ?_
           refine pT (i := 28) (N := some 66) (bb 39 536870911) HT_ ?_
           refine pT (i := 29) (N := some 67) (bb 39 1073741823) HT_ ?_
           refine pT (i := 30) (N := some 68) (bb 39 2147483647) HT_ ?_
           refine pT (i := 31) (N := some 69) (bb 39 4294967295) HT_ ?_
           refine pT (i := 34) (N := some 72) (bb 39 21474836479) HT_ ?_
           refine tW (i := 32) (N := some 70) (bb 39 25769803775) HT_ HW_ hHeld ?_
           refine oT (i := 33) (N := some 71) (bb 39 34359738367) HT_ fun K hK => ?_
           refine gS Try.func16 #[.agg #[.bool t685, .slice Ao36 t686.length co36]] ?_
           with_reducible refine (big_Text.calls kj2 t685 _ _ t686 t716 _ ?side1 ?side2 A31.out).mono ?_
           (case side1 => exact tc (Kd.R_reads' HO688.out).2.2)
           (case side2 => exact (Kd.R_reads' HO688.out).2.1)
           rintro e w62 ⟨rfl, hb⟩
           refine ⟨_, rfl, ?_⟩
           replace BK682 := kb BK682 hb
           replace BK690 := kb BK690 hb
           replace BK696 := kb BK696 hb
           replace BK703 := kb BK703 hb
           replace HB := bs HB hb
           (try clear hb); (try clear hb2); (try clear hk); (try clear hi)
           refine hK.out _ _ ⟨(blk_cell BK682.out 0).trans rfl, (blk_cell BK682.out 1).trans rfl, (blk_cell BK690.out 0).trans rfl, (blk_cell BK690.out 1).trans rfl, (blk_cell BK696.out 0).trans rfl, (blk_cell BK696.out 1).trans rfl, (blk_cell BK703.out 0).trans rfl, (blk_cell BK703.out 1).trans rfl⟩ fun hHeld => nT (N := some 71) ?_
           clear hK K
           refine pT (i := 35) (N := some 73) (bb 39 68719476735) HT_ ?_
           refine pT (i := 36) (N := some 74) (bb 39 137438953471) HT_ ?_
           refine pT (i := 37) (N := some 75) (bb 39 274877906943) HT_ ?_
           refine pT (i := 38) (N := some 4) (bb 39 549755813887) HT_ ?_
           refine done_ (done_of HT_.out (by kernel_rfl)) ?_
           try go_wp2
           go_ret
           exact ⟨by first | rfl | (simp [errW_none, errW_some] <;> rfl) | (simp [*, errW_none, errW_some] <;> rfl), tb HB⟩
          ·rw [if_neg c30] at H
           have c30b0 : (t689 == 0) = false := beq_eq_false_iff_ne.mpr c30
           have c30b1 : (t689 != 0) = true := bne_iff_ne.mpr c30
           obtain rfl := Option.some.inj H
           try go_wp2_with (first | ((with_reducible refine gate_callee (f := 14) rfl ?_); refine gL (N := some 23) Try.func14 #[.string a1] ?_; (with_reducible refine (big_Parse.calls kj2 a1 t685 t686 t689 _ A14.out).mono ?_); rintro e w63 ⟨v687, rfl, ho0, hb⟩; refine ⟨_, rfl, ?_⟩; have HO688 := rl ho0 HB; replace BK682 := kb BK682 hb; replace HB := bs HB hb; (try clear hb); (try clear hb2); (try clear hk); (try clear hi); (try clear ho0)) | ((with_reducible refine gate_dst (N := 5) rfl ?_); (try (refine gate_guard (by rfl) ?_; dsimp only)); refine bx (N := 5) #[.bool false, .slice none 0 0] 24 ?_; intro gb690 hg w64 hbox hb; replace HO688 := rb HO688 hb; have BK690 := Aside0.mk (hbox); have GW690 := bz hg HB; have GE690 := bz hg HB; replace HB := bs HB hb; have NB682_690 := nl hg BK682; have NB690_682 := ng hg BK682; replace BK682 := kb BK682 hb; clear hb hbox hg; have hnb65 := NB690_682.out; have hnc65 := NB682_690.out; have hcz66_0 := bc BK690 0 (.bool false); have hcz66_1 := bc BK690 1 (.slice none 0 0); have hfz66_0 := blk_frozen BK690.out 0; have hfz66_1 := blk_frozen BK690.out 1; obtain ⟨Ao67, co67, eo67⟩ := Kd.R_slice HO688.out; subst eo67) | ((with_reducible refine gate_callee (f := 15) rfl ?_); refine gL (N := some 28) Try.func15 #[.string a1] ?_; (with_reducible refine (whetstoneref02_Parse.calls kj2 a1 t691 t692 t695 _ A15.out).mono ?_); rintro e w68 ⟨v693, rfl, ho0, hb⟩; refine ⟨_, rfl, ?_⟩; replace HO688 := rt HO688 hb; have HO694 := rl ho0 HB; replace BK682 := kb BK682 hb; replace BK690 := kb (o' := .cells #[.bool t685, .slice Ao67 t686.length co67] 24 (0, 0)) BK690 hb; replace HB := bs HB hb; (try clear hb); (try clear hb2); (try clear hk); (try clear hi); (try clear ho0)) | ((with_reducible refine gate_dst (N := 7) rfl ?_); (try (refine gate_guard (by rfl) ?_; dsimp only)); refine bx (N := 7) #[.bool false, .slice none 0 0] 32 ?_; intro gb696 hg w69 hbox hb; replace HO688 := rb HO688 hb; replace HO694 := rb HO694 hb; have BK696 := Aside0.mk (hbox); have GW696 := bz hg HB; have GE696 := bz hg HB; replace HB := bs HB hb; have NB682_696 := nl hg BK682; have NB696_682 := ng hg BK682; replace BK682 := kb BK682 hb; have NB690_696 := nl hg BK690; have NB696_690 := ng hg BK690; replace BK690 := kb BK690 hb; clear hb hbox hg; have hnb70 := NB696_682.out; have hnc70 := NB682_696.out; have hnb71 := NB696_690.out; have hnc71 := NB690_696.out; have hcz72_0 := bc BK696 0 (.bool false); have hcz72_1 := bc BK696 1 (.slice none 0 0); have hfz72_0 := blk_frozen BK696.out 0; have hfz72_1 := blk_frozen BK696.out 1; obtain ⟨Ao73, co73, eo73⟩ := Kd.R_slice HO694.out; subst eo73; have hcz74_0 := bc BK682 0 (.bool a0_0); have hcz74_1 := bc BK682 1 (.slice A0_1 l0_1.length c0_1); have hfz74_0 := blk_frozen BK682.out 0; have hfz74_1 := blk_frozen BK682.out 1) | ((with_reducible refine gate_callee (f := 16) rfl ?_); refine gL (N := some 32) Try.func16 #[.agg #[.bool a0_0, .slice A0_1 l0_1.length c0_1]] ?_; (with_reducible refine (big_Text.calls kj2 a0_0 _ _ l0_1 t697 _ ?side1 ?side2 A16.out).mono ?_); (case side1 => exact Kd.C_below HR0_1.out (tb HB)); (case side2 => exact HC0_1.out); rintro e w75 ⟨rfl, hb⟩; refine ⟨_, rfl, ?_⟩; replace HO688 := rt HO688 hb; replace HO694 := rt HO694 hb; replace BK682 := kb BK682 hb; replace BK690 := kb BK690 hb; replace BK696 := kb (o' := .cells #[.bool t691, .slice Ao73 t692.length co73] 32 (0, 0)) BK696 hb; replace HB := bs HB hb; (try clear hb); (try clear hb2); (try clear hk); (try clear hi)) | ((with_reducible refine gate_callee (f := 14) rfl ?_); refine gL (N := some 35) Try.func14 #[.string t697] ?_; (with_reducible refine (big_Parse.calls kj2 t697 t698 t699 t702 _ A17.out).mono ?_); rintro e w76 ⟨v700, rfl, ho0, hb⟩; refine ⟨_, rfl, ?_⟩; replace HO694 := rb HO694 hb; have HO701 := Aside0.mk (Kd.R_lower (Kd.R_new' ho0 (Kd.R_lt (tq HO688))) (below_size (tb HB))); replace HO688 := re HO688 (Kd.R_base ho0) hb; replace BK682 := kb BK682 hb; replace BK690 := kb BK690 hb; replace BK696 := kb BK696 hb; replace HB := bs HB hb; (try clear hb); (try clear hb2); (try clear hk); (try clear hi); (try clear ho0)) | ((with_reducible refine gate_dst (N := 10) rfl ?_); (try (refine gate_guard (by rfl) ?_; dsimp only)); refine bx (N := 10) #[.bool false, .slice none 0 0] 24 ?_; intro gb703 hg w77 hbox hb; replace HO688 := rb HO688 hb; replace HO694 := rb HO694 hb; replace HO701 := rb HO701 hb; have BK703 := Aside0.mk (hbox); have GW703 := bz hg HB; have GE703 := bz hg HB; replace HB := bs HB hb; have NB682_703 := nl hg BK682; have NB703_682 := ng hg BK682; replace BK682 := kb BK682 hb; have NB690_703 := nl hg BK690; have NB703_690 := ng hg BK690; replace BK690 := kb BK690 hb; have NB696_703 := nl hg BK696; have NB703_696 := ng hg BK696; replace BK696 := kb BK696 hb; clear hb hbox hg; have hnb78 := NB703_682.out; have hnc78 := NB682_703.out; have hnb79 := NB703_690.out; have hnc79 := NB690_703.out; have hnb80 := NB703_696.out; have hnc80 := NB696_703.out; have hcz81_0 := bc BK703 0 (.bool false); have hcz81_1 := bc BK703 1 (.slice none 0 0); have hfz81_0 := blk_frozen BK703.out 0; have hfz81_1 := blk_frozen BK703.out 1; obtain ⟨Ao82, co82, eo82⟩ := Kd.R_slice HO701.out; subst eo82))
           have n0_ : Aside0 (Kd.R (Kd.int .u32) 87 ((w77.setCell ⟨gb703, 0, none⟩ (.bool t698)).setCell ⟨gb703, 1, none⟩ (.slice Ao82 t699.length co82)) w.heap.size (fun k_ => some k_ ≠ (.slice Ao82 t699.length co82 : Value).ownBlock) (.slice Ao67 t686.length co67) t686) := ⟨by (with_reducible repeat first | apply qa | apply qn | apply qd); exact Kd.R_mono (Kd.R_far (p := ⟨gb703, 1, none⟩) (Kd.R_far (p := ⟨gb703, 0, none⟩) (Kd.R_types HO688.out BK703.out (by decide)) (fun _ hk => hk.2) (.bool t698)) (fun _ hk => hk.2) (.slice Ao82 t699.length co82)) (fun _ hk => hk.1.2)⟩
           have n1_ : Aside0 (Kd.R (Kd.int .i64) 3 ((w77.setCell ⟨gb703, 0, none⟩ (.bool t698)).setCell ⟨gb703, 1, none⟩ (.slice Ao82 t699.length co82)) w.heap.size (fun _ => True) (.slice Ao73 t692.length co73) t692) := ⟨by (with_reducible repeat first | apply qa | apply qn | apply qd); exact Kd.R_mono (Kd.R_far (p := ⟨gb703, 1, none⟩) (Kd.R_far (p := ⟨gb703, 0, none⟩) (Kd.R_types HO694.out BK703.out (by decide)) (fun _ hk => hk.2) (.bool t698)) (fun _ hk => hk.2) (.slice Ao82 t699.length co82)) (fun _ hk => trivial)⟩
           have n2_ : Aside0 (Kd.R (Kd.int .u32) 87 ((w77.setCell ⟨gb703, 0, none⟩ (.bool t698)).setCell ⟨gb703, 1, none⟩ (.slice Ao82 t699.length co82)) w.heap.size (fun k_ => some k_ ≠ (.slice Ao67 t686.length co67 : Value).ownBlock) (.slice Ao82 t699.length co82) t699) := ⟨by (with_reducible repeat first | apply qa | apply qn | apply qd); exact Kd.R_mono (Kd.R_far (p := ⟨gb703, 1, none⟩) (Kd.R_far (p := ⟨gb703, 0, none⟩) (Kd.R_types HO701.out BK703.out (by decide)) (fun _ hk => hk.2) (.bool t698)) (fun _ hk => hk.2) (.slice Ao82 t699.length co82)) (fun _ hk => hk.1.2)⟩
           have n3_ : Aside0 (((w77.setCell ⟨gb703, 0, none⟩ (.bool t698)).setCell ⟨gb703, 1, none⟩ (.slice Ao82 t699.length co82)).heap[gb682]? = some (.cells #[.bool a0_0, .slice A0_1 l0_1.length c0_1] 24 (0, 0))) := ⟨tk BK682⟩
           have n4_ : Aside0 (((w77.setCell ⟨gb703, 0, none⟩ (.bool t698)).setCell ⟨gb703, 1, none⟩ (.slice Ao82 t699.length co82)).heap[gb690]? = some (.cells #[.bool t685, .slice Ao67 t686.length co67] 24 (0, 0))) := ⟨tk BK690⟩
           have n5_ : Aside0 (((w77.setCell ⟨gb703, 0, none⟩ (.bool t698)).setCell ⟨gb703, 1, none⟩ (.slice Ao82 t699.length co82)).heap[gb696]? = some (.cells #[.bool t691, .slice Ao73 t692.length co73] 32 (0, 0))) := ⟨tk BK696⟩
           have n6_ : Aside0 (((w77.setCell ⟨gb703, 0, none⟩ (.bool t698)).setCell ⟨gb703, 1, none⟩ (.slice Ao82 t699.length co82)).heap[gb703]? = some (.cells #[.bool t698, .slice Ao82 t699.length co82] 24 (0, 0))) := ⟨tk BK703⟩
           have n7_ : Aside0 (Below w.heap.size w ((w77.setCell ⟨gb703, 0, none⟩ (.bool t698)).setCell ⟨gb703, 1, none⟩ (.slice Ao82 t699.length co82))) := ⟨tb HB⟩
           (try clear HO688); (try clear HO694); (try clear HO701); (try clear BK682); (try clear BK690); (try clear BK696); (try clear BK703); (try clear HB)
           generalize ((w77.setCell ⟨gb703, 0, none⟩ (.bool t698)).setCell ⟨gb703, 1, none⟩ (.slice Ao82 t699.length co82)) = w83 at n0_ n1_ n2_ n3_ n4_ n5_ n6_ n7_ ⊢
           have HO688 := n0_
           have HO694 := n1_
           have HO701 := n2_
           have BK682 := n3_
           have BK690 := n4_
           have BK696 := n5_
           have BK703 := n6_
           have HB := n7_
           clear n0_ n1_ n2_ n3_ n4_ n5_ n6_ n7_
           replace HO688 := Aside0.mk (Kd.R_drew HO688.out)
           replace HO694 := Aside0.mk (Kd.R_drew HO694.out)
           replace HO701 := Aside0.mk (Kd.R_drew HO701.out)
           replace BK682 := Aside0.mk (blk_drew BK682.out)
           replace BK690 := Aside0.mk (blk_drew BK690.out)
           replace BK696 := Aside0.mk (blk_drew BK696.out)
           replace BK703 := Aside0.mk (blk_drew BK703.out)
           replace HB := Aside0.mk (below_drew1 HB.out)
           refine start_ (n := 39) (S := fun w' => w'.cell? ⟨gb682, 0, none⟩ = some (.bool a0_0) ∧ w'.cell? ⟨gb682, 1, none⟩ = some (.slice A0_1 l0_1.length c0_1) ∧ w'.cell? ⟨gb690, 0, none⟩ = some (.bool t685) ∧ w'.cell? ⟨gb690, 1, none⟩ = some (.slice Ao67 t686.length co67) ∧ w'.cell? ⟨gb696, 0, none⟩ = some (.bool t691) ∧ w'.cell? ⟨gb696, 1, none⟩ = some (.slice Ao73 t692.length co73) ∧ w'.cell? ⟨gb703, 0, none⟩ = some (.bool t698) ∧ w'.cell? ⟨gb703, 1, none⟩ = some (.slice Ao82 t699.length co82)) (ds := []) #[false, false, false, false, false, false, false, false, false, false, false, false, false, false, false, false, false, false, false, false, false, false, false, false, false, false, false, false, false, false, false, false, false, false, false, false, false, false, false] (by kernel_rfl) rfl rfl ⟨(blk_cell BK682.out 0).trans rfl, (blk_cell BK682.out 1).trans rfl, (blk_cell BK690.out 0).trans rfl, (blk_cell BK690.out 1).trans rfl, (blk_cell BK696.out 0).trans rfl, (blk_cell BK696.out 1).trans rfl, (blk_cell BK703.out 0).trans rfl, (blk_cell BK703.out 1).trans rfl⟩ (fun hHeld => ?_); refine with_tabW whetstonelaw02_BigTexts.tab7 whetstonelaw02_BigTexts.bits7 (fun HT_ HW_ => ?_)
           generalize w83.drew = w84 at HO688 HO694 HO701 BK682 BK690 BK696 BK703 HB hHeld ⊢
           refine oT (i := 0) (N := some 38) (bb 39 1) HT_ fun K hK => ?_
           refine gS Try.func13 #[] ?_
           with_reducible refine (whetstonelaw02_signed.calls kj2  true _ A18.out).mono ?_
           rintro e w85 ⟨rfl, hb⟩
           refine ⟨_, rfl, ?_⟩
           replace HO688 := rb HO688 hb
           replace HO694 := rb HO694 hb
           replace HO701 := rb HO701 hb
           replace BK682 := kb BK682 hb
           replace BK690 := kb BK690 hb
           replace BK696 := kb BK696 hb
           replace BK703 := kb BK703 hb
           replace HB := bs HB hb
           (try clear hb); (try clear hb2); (try clear hk); (try clear hi)
           refine hK.out _ _ ⟨(blk_cell BK682.out 0).trans rfl, (blk_cell BK682.out 1).trans rfl, (blk_cell BK690.out 0).trans rfl, (blk_cell BK690.out 1).trans rfl, (blk_cell BK696.out 0).trans rfl, (blk_cell BK696.out 1).trans rfl, (blk_cell BK703.out 0).trans rfl, (blk_cell BK703.out 1).trans rfl⟩ fun hHeld => nT (N := some 38) ?_
           clear hK K
           refine pT (i := 1) (N := some 39) (bb 39 3) HT_ ?_
           refine pT (i := 2) (N := some 40) (bb 39 7) HT_ ?_
           refine tW (i := 3) (N := some 41) (bb 39 15) HT_ HW_ hHeld ?_
           refine oT (i := 4) (N := some 42) (bb 39 31) HT_ fun K hK => ?_
           refine gS Try.func18 #[.agg #[.bool a0_0, .slice A0_1 l0_1.length c0_1]] ?_
           with_reducible refine (whetstonelaw02_of.calls kj2 a0_0 _ _ l0_1 t705 t706 _ ?side1 ?side2 A20.out).mono ?_
           (case side1 => exact tc (Kd.C_below HR0_1.out HB.out))
           (case side2 => exact HC0_1.out)
           rintro e w86 ⟨v707, rfl, ho0, hb⟩
           refine ⟨_, rfl, ?_⟩
           replace HO688 := rb HO688 hb
           replace HO701 := rb HO701 hb
           have HO708 := Aside0.mk (Kd.R_lower (Kd.R_new' ho0 (Kd.R_lt (tq HO694))) (below_size (tb HB)))
           replace HO694 := re HO694 (Kd.R_base ho0) hb
           replace BK682 := kb BK682 hb
           replace BK690 := kb BK690 hb
           replace BK696 := kb BK696 hb
           replace BK703 := kb BK703 hb
           replace HB := bs HB hb
           (try clear hb); (try clear hb2); (try clear hk); (try clear hi); (try clear ho0)
           obtain ⟨Ao87, co87, eo87⟩ := Kd.R_slice HO708.out
           (first | subst eo87 | (injection eo87 with f1_ f2_ f3_; have f4_ := f1_.symm; have f5_ := f3_.symm; clear f1_ f2_ f3_; subst f4_; subst f5_))
           refine hK.out _ _ ⟨(blk_cell BK682.out 0).trans rfl, (blk_cell BK682.out 1).trans rfl, (blk_cell BK690.out 0).trans rfl, (blk_cell BK690.out 1).trans rfl, (blk_cell BK696.out 0).trans rfl, (blk_cell BK696.out 1).trans rfl, (blk_cell BK703.out 0).trans rfl, (blk_cell BK703.out 1).trans rfl⟩ fun hHeld => nT (N := some 42) ?_
           clear hK K
           refine oT (i := 5) (N := some 43) (bb 39 63) HT_ fun K hK => ?_
           refine gS Try.func17 #[.agg #[.bool t705, .slice Ao87 t706.length co87]] ?_
           with_reducible refine (whetstoneref02_Text.calls kj2 t705 _ _ t706 t709 _ ?side1 ?side2 A21.out).mono ?_
           (case side1 => exact tc (Kd.R_reads' HO708.out).2.2)
           (case side2 => exact (Kd.R_reads' HO708.out).2.1)
           rintro e w88 ⟨rfl, hb⟩
           refine ⟨_, rfl, ?_⟩
           replace HO688 := rb HO688 hb
           replace HO694 := rb HO694 hb
           replace HO701 := rb HO701 hb
           replace HO708 := rb HO708 hb
           replace BK682 := kb BK682 hb
           replace BK690 := kb BK690 hb
           replace BK696 := kb BK696 hb
           replace BK703 := kb BK703 hb
           replace HB := bs HB hb
           (try clear hb); (try clear hb2); (try clear hk); (try clear hi)
           refine hK.out _ _ ⟨(blk_cell BK682.out 0).trans rfl, (blk_cell BK682.out 1).trans rfl, (blk_cell BK690.out 0).trans rfl, (blk_cell BK690.out 1).trans rfl, (blk_cell BK696.out 0).trans rfl, (blk_cell BK696.out 1).trans rfl, (blk_cell BK703.out 0).trans rfl, (blk_cell BK703.out 1).trans rfl⟩ fun hHeld => nT (N := some 43) ?_
           clear hK K
           refine pT (i := 6) (N := some 44) (bb 39 127) HT_ ?_
           refine pT (i := 7) (N := some 45) (bb 39 255) HT_ ?_
           refine pT (i := 8) (N := some 46) (bb 39 511) HT_ ?_
           refine tW (i := 9) (N := some 47) (bb 39 1023) HT_ HW_ hHeld ?_
           refine tW (i := 10) (N := some 48) (bb 39 2047) HT_ HW_ hHeld ?_
           refine oT (i := 11) (N := some 49) (bb 39 4095) HT_ fun K hK => ?_
           refine gS Try.func19 #[.agg #[.bool t685, .slice Ao67 t686.length co67], .agg #[.bool t691, .slice Ao73 t692.length co73]] ?_
           with_reducible refine (whetstonelaw02_same.calls kj2 t685 _ _ t686 t691 _ _ t692 true _ ?side1 ?side2 ?side3 ?side4 A23.out).mono ?_
           (case side1 => exact tc (Kd.R_reads' HO688.out).2.2)
           (case side2 => exact (Kd.R_reads' HO688.out).2.1)
           (case side3 => exact tc (Kd.R_reads' HO694.out).2.2)
           (case side4 => exact (Kd.R_reads' HO694.out).2.1)
           rintro e w89 ⟨rfl, hb⟩
           refine ⟨_, rfl, ?_⟩
           replace HO694 := rb HO694 hb
           replace HO701 := rb HO701 hb
           replace HO708 := rb HO708 hb
           replace BK682 := kb BK682 hb
           replace BK690 := kb BK690 hb
           replace BK696 := kb BK696 hb
           replace BK703 := kb BK703 hb
           replace HB := bs HB hb
           (try clear hb); (try clear hb2); (try clear hk); (try clear hi)
           refine hK.out _ _ ⟨(blk_cell BK682.out 0).trans rfl, (blk_cell BK682.out 1).trans rfl, (blk_cell BK690.out 0).trans rfl, (blk_cell BK690.out 1).trans rfl, (blk_cell BK696.out 0).trans rfl, (blk_cell BK696.out 1).trans rfl, (blk_cell BK703.out 0).trans rfl, (blk_cell BK703.out 1).trans rfl⟩ fun hHeld => nT (N := some 49) ?_
           clear hK K
           refine pT (i := 12) (N := some 50) (bb 39 8191) HT_ ?_
           refine pT (i := 13) (N := some 51) (bb 39 16383) HT_ ?_
           refine pT (i := 14) (N := some 52) (bb 39 32767) HT_ ?_
           refine pT (i := 15) (N := some 53) (bb 39 65535) HT_ ?_
           refine pT (i := 16) (N := some 54) (bb 39 131071) HT_ ?_
           refine pT (i := 17) (N := some 55) (bb 39 262143) HT_ ?_
           refine pT (i := 18) (N := some 56) (bb 39 524287) HT_ ?_
           refine pT (i := 19) (N := some 57) (bb 39 1048575) HT_ ?_
           refine pT (i := 20) (N := some 58) (bb 39 2097151) HT_ ?_
           refine pT (i := 21) (N := some 59) (bb 39 4194303) HT_ ?_
           refine pT (i := 22) (N := some 60) (bb 39 8388607) HT_ ?_
           refine tW (i := 23) (N := some 61) (bb 39 16777215) HT_ HW_ hHeld ?_
           refine tW (i := 24) (N := some 62) (bb 39 33554431) HT_ HW_ hHeld ?_
           refine oT (i := 25) (N := some 63) (bb 39 67108863) HT_ fun K hK => ?_
           refine gS Try.func18 #[.agg #[.bool a0_0, .slice A0_1 l0_1.length c0_1]] ?_
           with_reducible refine (whetstonelaw02_of.calls kj2 a0_0 _ _ l0_1 t711 t712 _ ?side1 ?side2 A27.out).mono ?_
           (case side1 => exact tc (Kd.C_below HR0_1.out HB.out))
           (case side2 => exact HC0_1.out)
           rintro e w90 ⟨v713, rfl, ho0, hb⟩
           refine ⟨_, rfl, ?_⟩
           replace HO701 := rb HO701 hb
           have HO714 := Aside0.mk (Kd.R_lower (Kd.R_new' (Kd.R_new' ho0 (Kd.R_lt (tq HO694))) (Kd.R_lt (tq HO708))) (below_size (tb HB)))
           replace BK682 := kb BK682 hb
           replace BK690 := kb BK690 hb
           replace BK696 := kb BK696 hb
           replace BK703 := kb BK703 hb
           replace HB := bs HB hb
           (try clear hb); (try clear hb2); (try clear hk); (try clear hi); (try clear ho0)
           obtain ⟨Ao91, co91, eo91⟩ := Kd.R_slice HO714.out
           (first | subst eo91 | (injection eo91 with f1_ f2_ f3_; have f4_ := f1_.symm; have f5_ := f3_.symm; clear f1_ f2_ f3_; subst f4_; subst f5_))
           refine hK.out _ _ ⟨(blk_cell BK682.out 0).trans rfl, (blk_cell BK682.out 1).trans rfl, (blk_cell BK690.out 0).trans rfl, (blk_cell BK690.out 1).trans rfl, (blk_cell BK696.out 0).trans rfl, (blk_cell BK696.out 1).trans rfl, (blk_cell BK703.out 0).trans rfl, (blk_cell BK703.out 1).trans rfl⟩ fun hHeld => nT (N := some 63) ?_
           clear hK K
           refine oT (i := 26) (N := some 64) (bb 39 134217727) HT_ fun K hK => ?_
           refine gS Try.func19 #[.agg #[.bool t698, .slice Ao82 t699.length co82], .agg #[.bool t711, .slice Ao91 t712.length co91]] ?_
           with_reducible refine (whetstonelaw02_same.calls kj2 t698 _ _ t699 t711 _ _ t712 true _ ?side1 ?side2 ?side3 ?side4 A28.out).mono ?_
           (case side1 => exact tc (Kd.R_reads' HO701.out).2.2)
           (case side2 => exact (Kd.R_reads' HO701.out).2.1)
           (case side3 => exact tc (Kd.R_reads' HO714.out).2.2)
           (case side4 => exact (Kd.R_reads' HO714.out).2.1)
           rintro e w92 ⟨rfl, hb⟩
           refine ⟨_, rfl, ?_⟩
           replace BK682 := kb BK682 hb
           replace BK690 := kb BK690 hb
           replace BK696 := kb BK696 hb
           replace BK703 := kb BK703 hb
           replace HB := bs HB hb
           (try clear hb); (try clear hb2); (try clear hk); (try clear hi)
           refine hK.out _ _ ⟨(blk_cell BK682.out 0).trans rfl, (blk_cell BK682.out 1).trans rfl, (blk_cell BK690.out 0).trans rfl, (blk_cell BK690.out 1).trans rfl, (blk_cell BK696.out 0).trans rfl, (blk_cell BK696.out 1).trans rfl, (blk_cell BK703.out 0).trans rfl, (blk_cell BK703.out 1).trans rfl⟩ fun hHeld => nT (N := some 64) ?_
           clear hK K
           refine pT (i := 27) (N := some 65) (bb 39 268435455) HT_ ?_
           refine pT (i := 28) (N := some 66) (bb 39 536870911) HT_ ?_
           refine pT (i := 29) (N := some 67) (bb 39 1073741823) HT_ ?_
           refine pT (i := 30) (N := some 68) (bb 39 2147483647) HT_ ?_
           refine pT (i := 31) (N := some 69) (bb 39 4294967295) HT_ ?_
           refine pure_ (i := 32) (N := some 70) (v := undef) (a' := ?_) #[true, true, true, true, true, true, true, true, true, true, true, true, true, true, true, true, true, true, true, true, true, true, true, true, true, true, true, true, true, true, true, true, true, false, false, false, false, false, false] rfl rfl (any_of HT_.out (by kernel_rfl)) (fun _ _ _ h => h) (Or.inr ⟨by rfl, rfl⟩) ?_ ?_
           rotate_left
           ·simp only [Act.put, List.setIfInBounds_toArray, List.set_cons_zero, List.set_cons_succ, i64_w, i32_w]
            rfl
           refine pure_ (i := 33) (N := some 71) (v := undef) (a' := ?_) #[true, true, true, true, true, true, true, true, true, true, true, true, true, true, true, true, true, true, true, true, true, true, true, true, true, true, true, true, true, true, true, true, true, true, false, false, false, false, false] rfl rfl (any_of HT_.out (by kernel_rfl)) (fun _ _ _ h => h) (Or.inr ⟨by rfl, rfl⟩) ?_ ?_
           rotate_left
           ·simp only [Act.put, List.setIfInBounds_toArray, List.set_cons_zero, List.set_cons_succ, i64_w, i32_w]
            rfl
           refine pure_ (i := 34) (N := some 72) (v := undef) (a' := ?_) #[true, true, true, true, true, true, true, true, true, true, true, true, true, true, true, true, true, true, true, true, true, true, true, true, true, true, true, true, true, true, true, true, true, true, true, false, false, false, false] rfl rfl (any_of HT_.out (by kernel_rfl)) (fun _ _ _ h => h) (Or.inr ⟨by rfl, rfl⟩) ?_ ?_
           rotate_left
           ·simp only [Act.put, List.setIfInBounds_toArray, List.set_cons_zero, List.set_cons_succ, i64_w, i32_w]
            rfl
           refine pure_ (i := 35) (N := some 73) (v := undef) (a' := ?_) #[true, true, true, true, true, true, true, true, true, true, true, true, true, true, true, true, true, true, true, true, true, true, true, true, true, true, true, true, true, true, true, true, true, true, true, true, false, false, false] rfl rfl (any_of HT_.out (by kernel_rfl)) (fun _ _ _ h => h) (Or.inr ⟨by rfl, rfl⟩) ?_ ?_
           rotate_left
           ·simp only [Act.put, List.setIfInBounds_toArray, List.set_cons_zero, List.set_cons_succ, i64_w, i32_w]
            rfl
           refine pT (i := 36) (N := some 74) (bb 39 137438953471) HT_ ?_
           refine pT (i := 37) (N := some 75) (bb 39 274877906943) HT_ ?_
           refine pT (i := 38) (N := some 4) (bb 39 549755813887) HT_ ?_
           refine done_ (done_of HT_.out (by kernel_rfl)) ?_
           try go_wp2
           go_ret
           exact ⟨by first | rfl | (simp [errW_none, errW_some] <;> rfl) | (simp [*, errW_none, errW_some] <;> rfl), tb HB⟩
         ·replace c29 := Bool.eq_false_iff.mpr c29
          subst c29
          have H1 : (none) = some r := by rw [if_neg (show ¬ (false = true) by decide)] at H; exact H
          clear H
          have H := H1
          clear H1
          exact absurd H (by simp)
        ·rw [if_neg c26] at H
         exact absurd H (by simp)
       ·rw [if_neg c25] at H
        exact absurd H (by simp)
      ·replace c24 := Bool.eq_false_iff.mpr c24
       subst c24
       have H1 : (none) = some r := by rw [if_neg (show ¬ (false = true) by decide)] at H; exact H
       clear H
       have H := H1
       clear H1
       exact absurd H (by simp)
     ·rw [if_neg c22] at H
      exact absurd H (by simp)
    ·replace c19 := Bool.eq_false_iff.mpr c19
     subst c19
     have H1 : (none) = some r := by rw [if_neg (show ¬ (false = true) by decide)] at H; exact H
     clear H
     have H := H1
     clear H1
     exact absurd H (by simp)

/-- THE ONE PURE STATEMENT of whetstonelaw02_BigTexts: yours. -/
def whetstonelaw02_BigTexts.Pure : Prop := ∀ (a0_0 : Bool) (l0_1 : List Int) (a1 : ByteArray), l0_1.length ≤ maxLen → (∀ x ∈ l0_1, (Lit.int .u32 x).wf = true) → a1.size ≤ 140737488351232 → ∃ k, whetstonelaw02_BigTexts.f k a0_0 l0_1 a1 = some true
theorem whetstonelaw02_BigTexts.walk (P : whetstonelaw02_BigTexts.Pure) (a0_0 : Bool) (A0_1 : Option Addr) (n0_1 c0_1 : Nat) (z0_1 : List Int) (a1 : ByteArray) (w : World) (w0_1 : (A0_1 = none ∧ n0_1 = 0 ∧ c0_1 = 0 ∧ z0_1 = []) ∨ ∃ x, A0_1 = some x ∧ n0_1 ≤ c0_1 ∧ c0_1 ≤ maxLen ∧ z0_1.length = c0_1 ∧ (∀ i, i < z0_1.length → w.cell? (x.add i) = some (.int .u32 (z0_1.getD i 0))) ∧ ∀ n ∈ z0_1, (Lit.int .u32 n).wf = true) (w1 : a1.size ≤ 140737488351232) :
  Calls Try.prog 3 #[.agg #[.bool a0_0, .slice A0_1 n0_1 c0_1], .string a1] w fun e w' => e = .returned (.bool true) ∧ Below w.heap.size w w' := by
 obtain ⟨l0_1, rfl, hr0_1, hm0_1, hw0_1, hc0_1⟩ := ReadsInt.ofRowC w0_1
 obtain ⟨k, h⟩ := P a0_0 l0_1 a1 hm0_1 hw0_1 w1
 refine (whetstonelaw02_BigTexts.calls k a0_0 _ _ l0_1 a1 true w (Kd.C_of_reads (d := (0 : Int)) (h1 := fun _ => rfl) hr0_1) hc0_1 h).mono ?_
 rintro e w' ⟨rfl, hd⟩
 exact ⟨rfl, hd⟩

end Go.Proofs.Ytjpnaapimnoamaa.QBigTexts
