-- written by wip/wprint, a program of this session
import Derived.Test.YtjpnaapimnoamaaQBigGcdsx0
import Derived.Test.YtjpnaapimnoamaaQBigGcdsx4
import Derived.Test.YtjpnaapimnoamaaQBigGcdsx6
import Derived.Test.YtjpnaapimnoamaaQBigGcdsx7
import Derived.Test.YtjpnaapimnoamaaQBigGcdsx9
import Derived.Test.YtjpnaapimnoamaaQBigGcdsx10
import Derived.Test.YtjpnaapimnoamaaQBigGcdsx13
namespace Go.Proofs.Ytjpnaapimnoamaa.QBigGcds
open Go.RowKit Go.Proofs.YtjpnaapimnoamaaW.PrintWords Go.Proofs.YtjpnaapimnoamaaW.PrintLast Go.Proofs.YtjpnaapimnoamaaW.PrintMore
open Go.Proofs.YtjpnaapimnoamaaW.PrintWords.Kd renaming R_alloc → qa, R_drewN → qn, R_drew → qd
open Go.Proofs.YtjpnaapimnoamaaW.PrintWords renaming below_alloc → ba, pw_below_drewN → bn, below_drew1 → bd
attribute [local go_sem] max2_int min2_int max_two min_two max_three min_three max_four min_four   -- for this text's walks alone
set_option linter.unusedVariables false
set_option linter.unusedSimpArgs false

/-! ### whetstoneref02_Of: function 48 -/
def whetstoneref02_Of.f (k : Nat) (a0 : Int) : Option (Bool × List Int) := if a0 < 0 then ((whetstoneref01_Small.f k (IntKind.u64.wrap (wrap64 (-(wrap64 (a0 + 1)))))).bind fun t543 => ((whetstoneref01_Small.f k 1).bind fun t546 => ((whetstoneref01_Add.f k t543 t546).bind fun t549 => ((whetstoneref02_Norm.f k true t549).bind fun bt552 => (some (bt552.1, bt552.2)))))) else ((whetstoneref01_Small.f k (IntKind.u64.wrap (a0))).bind fun t556 => ((whetstoneref02_Norm.f k false t556).bind fun bt559 => (some (bt559.1, bt559.2))))
theorem whetstoneref02_Of.mono : ∀ a0 k, LeO (whetstoneref02_Of.f k a0) (whetstoneref02_Of.f (k + 1) a0) := by
 intro a0 k
 unfold whetstoneref02_Of.f
 repeat' with_reducible first | exact whetstoneref01_Add.mono _ _ _ | exact whetstoneref01_Small.mono _ _ | exact whetstoneref02_Norm.mono _ _ _ | exact LeO.refl _ | exact LeO.none _ | refine LeO.ite ?_ ?_ | refine LeO.bind ?_ (fun _ => ?_)
set_option maxHeartbeats 8000000 in
set_option maxRecDepth 100000 in
theorem whetstoneref02_Of.calls (k : Nat) (a0 : Int) (r1 : Bool) (r2 : List Int) (w : World) (h : whetstoneref02_Of.f k a0 = some (r1, r2)) :
  Calls Try.prog 48 #[.int .i64 a0] w fun e w' => ∃ v1_ : Value, e = .returned (.agg #[.bool r1, v1_]) ∧ Kd.R (Kd.int .i64) 3 w' w.heap.size (fun _ => True) v1_ r2 ∧ Below w.heap.size w w' := by
 have hu32 := Try.underlying32
 have HB := Aside0.mk (Below.refl w.heap.size w)
 have H : (if a0 < 0 then ((whetstoneref01_Small.f k (IntKind.u64.wrap (wrap64 (-(wrap64 (a0 + 1)))))).bind fun t543 => ((whetstoneref01_Small.f k 1).bind fun t546 => ((whetstoneref01_Add.f k t543 t546).bind fun t549 => ((whetstoneref02_Norm.f k true t549).bind fun bt552 => (some (bt552.1, bt552.2)))))) else ((whetstoneref01_Small.f k (IntKind.u64.wrap (a0))).bind fun t556 => ((whetstoneref02_Norm.f k false t556).bind fun bt559 => (some (bt559.1, bt559.2))))) = some (r1, r2) := h
 clear h
 by_cases c2 : a0 < 0
 ·rw [if_pos c2] at H
  have c2b0 : decide (a0 < 0) = true := decide_eq_true c2
  clear c2
  replace H := bi H
  obtain ⟨t543, A30, H⟩ := H
  have A3 := Aside0.mk A30
  clear A30
  replace H := bi H
  obtain ⟨t546, A40, H⟩ := H
  have A4 := Aside0.mk A40
  clear A40
  replace H := bi H
  obtain ⟨t549, A50, H⟩ := H
  have A5 := Aside0.mk A50
  clear A50
  replace H := bi H
  obtain ⟨⟨t552, t553⟩, A60, H⟩ := H
  try dsimp only at H
  have A6 := Aside0.mk A60
  clear A60
  simp only [Option.some.injEq, Prod.mk.injEq] at H
  obtain ⟨rfl, rfl⟩ := H
  go_enter Try.func48, Try.ntmps48
  go_wp2_with (first | ((with_reducible refine gate_dst (N := 2) rfl ?_); refine bx (N := 2) #[.bool false, .slice none 0 0] 32 ?_; intro gb542 hg w7 hbox hb; have BK542 := Aside0.mk (hbox); have GW542 := bz hg HB; have GE542 := bz hg HB; replace HB := bs HB hb; clear hb hbox hg) | ((with_reducible refine gate_callee (f := 76) rfl ?_); refine gL (N := some 9) Try.func76 #[.int .u64 (IntKind.u64.wrap (wrap64 (-(wrap64 (a0 + 1)))))] ?_; (with_reducible refine (whetstoneref01_Small.calls k (IntKind.u64.wrap (wrap64 (-(wrap64 (a0 + 1))))) t543 _ A3.out).mono ?_); rintro e w8 ⟨v544, rfl, ho0, hb⟩; refine ⟨_, rfl, ?_⟩; have HO545 := rl ho0 HB; replace BK542 := kb BK542 hb; replace HB := bs HB hb; (try clear hb); (try clear hb2); (try clear hk); (try clear hi); (try clear ho0)) | ((with_reducible refine gate_callee (f := 76) rfl ?_); refine gL (N := some 10) Try.func76 #[.int .u64 1] ?_; (with_reducible refine (whetstoneref01_Small.calls k 1 t546 _ A4.out).mono ?_); rintro e w9 ⟨v547, rfl, ho0, hb⟩; refine ⟨_, rfl, ?_⟩; have HO548 := Aside0.mk (Kd.R_lower (Kd.R_new' ho0 (Kd.R_lt (tq HO545))) (below_size (tb HB))); replace HO545 := re HO545 (Kd.R_base ho0) hb; replace BK542 := kb BK542 hb; replace HB := bs HB hb; (try clear hb); (try clear hb2); (try clear hk); (try clear hi); (try clear ho0); obtain ⟨Ao10, co10, eo10⟩ := Kd.R_slice HO545.out; subst eo10; obtain ⟨Ao11, co11, eo11⟩ := Kd.R_slice HO548.out; subst eo11) | ((with_reducible refine gate_callee (f := 62) rfl ?_); refine gL (N := some 11) Try.func62 #[.slice Ao10 t543.length co10, .slice Ao11 t546.length co11] ?_; (with_reducible refine (whetstoneref01_Add.calls k _ _ t543 _ _ t546 t549 _ ?side1 ?side2 ?side3 ?side4 A5.out).mono ?_); (case side1 => exact tc (Kd.R_reads' HO545.out).2.2); (case side2 => exact (Kd.R_reads' HO545.out).2.1); (case side3 => exact tc (Kd.R_reads' HO548.out).2.2); (case side4 => exact (Kd.R_reads' HO548.out).2.1); rintro e w12 ⟨v550, rfl, ho0, hb⟩; refine ⟨_, rfl, ?_⟩; have HO551 := Aside0.mk (Kd.R_lower (Kd.R_new' (Kd.R_new' ho0 (Kd.R_lt (tq HO545))) (Kd.R_lt (tq HO548))) (below_size (tb HB))); replace HO545 := re HO545 (Kd.R_base ho0) hb; replace HO548 := re HO548 (Kd.R_base ho0) hb; replace BK542 := kb BK542 hb; replace HB := bs HB hb; (try clear hb); (try clear hb2); (try clear hk); (try clear hi); (try clear ho0); obtain ⟨Ao13, co13, eo13⟩ := Kd.R_slice HO551.out; subst eo13) | ((with_reducible refine gate_callee (f := 54) rfl ?_); refine gL (N := some 13) Try.func54 #[.agg #[.bool true, .slice Ao13 t549.length co13]] ?_; (with_reducible refine (whetstoneref02_Norm.calls k true _ _ t549 t552 t553 _ ?side1 ?side2 A6.out).mono ?_); (case side1 => exact tc (Kd.R_reads' HO551.out).2.2); (case side2 => exact (Kd.R_reads' HO551.out).2.1); rintro e w14 ⟨v554, rfl, ho0, hb⟩; refine ⟨_, rfl, ?_⟩; have HO555 := Aside0.mk (Kd.R_lower (Kd.R_new' (Kd.R_new' (Kd.R_new' ho0 (Kd.R_lt (tq HO545))) (Kd.R_lt (tq HO548))) (Kd.R_lt (tq HO551))) (below_size (tb HB))); replace BK542 := kb BK542 hb; replace HB := bs HB hb; (try clear hb); (try clear hb2); (try clear hk); (try clear hi); (try clear ho0); have hcz15_0 := bc BK542 0 (.bool false); have hcz15_1 := bc BK542 1 (.slice none 0 0); have hfz15_0 := blk_frozen BK542.out 0; have hfz15_1 := blk_frozen BK542.out 1; obtain ⟨Ao16, co16, eo16⟩ := Kd.R_slice HO555.out; subst eo16))
  refine bodyPost_ret (results_cell_row rfl _ _ gb542 32 #[.bool t552, .slice Ao16 t553.length co16] (0, 0) _ rfl (tk BK542) Try.underlying32 rfl (by kernel_rfl)) rfl ?_
  exact ⟨_, by first | rfl | (simp [errW_none, errW_some] <;> rfl) | (simp [*, errW_none, errW_some] <;> rfl), by (with_reducible repeat first | apply qa | apply qn | apply qd); exact Kd.R_mono (Kd.R_far (p := ⟨gb542, 1, none⟩) (Kd.R_far (p := ⟨gb542, 0, none⟩) (Kd.R_types HO555.out BK542.out (by decide)) (fun _ hk => hk.2) (.bool t552)) (fun _ hk => hk.2) (.slice Ao16 t553.length co16)) (fun _ hk => trivial), tb HB⟩
 ·rw [if_neg c2] at H
  have c2b0 : decide (a0 < 0) = false := decide_eq_false c2
  clear c2
  replace H := bi H
  obtain ⟨t556, A170, H⟩ := H
  have A17 := Aside0.mk A170
  clear A170
  replace H := bi H
  obtain ⟨⟨t559, t560⟩, A180, H⟩ := H
  try dsimp only at H
  have A18 := Aside0.mk A180
  clear A180
  simp only [Option.some.injEq, Prod.mk.injEq] at H
  obtain ⟨rfl, rfl⟩ := H
  go_enter Try.func48, Try.ntmps48
  go_wp2_with (first | ((with_reducible refine gate_dst (N := 2) rfl ?_); refine bx (N := 2) #[.bool false, .slice none 0 0] 32 ?_; intro gb542 hg w19 hbox hb; have BK542 := Aside0.mk (hbox); have GW542 := bz hg HB; have GE542 := bz hg HB; replace HB := bs HB hb; clear hb hbox hg) | ((with_reducible refine gate_callee (f := 76) rfl ?_); refine gL (N := some 16) Try.func76 #[.int .u64 (IntKind.u64.wrap (a0))] ?_; (with_reducible refine (whetstoneref01_Small.calls k (IntKind.u64.wrap (a0)) t556 _ A17.out).mono ?_); rintro e w20 ⟨v557, rfl, ho0, hb⟩; refine ⟨_, rfl, ?_⟩; have HO558 := rl ho0 HB; replace BK542 := kb BK542 hb; replace HB := bs HB hb; (try clear hb); (try clear hb2); (try clear hk); (try clear hi); (try clear ho0); obtain ⟨Ao21, co21, eo21⟩ := Kd.R_slice HO558.out; subst eo21) | ((with_reducible refine gate_callee (f := 54) rfl ?_); refine gL (N := some 18) Try.func54 #[.agg #[.bool false, .slice Ao21 t556.length co21]] ?_; (with_reducible refine (whetstoneref02_Norm.calls k false _ _ t556 t559 t560 _ ?side1 ?side2 A18.out).mono ?_); (case side1 => exact tc (Kd.R_reads' HO558.out).2.2); (case side2 => exact (Kd.R_reads' HO558.out).2.1); rintro e w22 ⟨v561, rfl, ho0, hb⟩; refine ⟨_, rfl, ?_⟩; have HO562 := Aside0.mk (Kd.R_lower (Kd.R_new' ho0 (Kd.R_lt (tq HO558))) (below_size (tb HB))); replace BK542 := kb BK542 hb; replace HB := bs HB hb; (try clear hb); (try clear hb2); (try clear hk); (try clear hi); (try clear ho0); have hcz23_0 := bc BK542 0 (.bool false); have hcz23_1 := bc BK542 1 (.slice none 0 0); have hfz23_0 := blk_frozen BK542.out 0; have hfz23_1 := blk_frozen BK542.out 1; obtain ⟨Ao24, co24, eo24⟩ := Kd.R_slice HO562.out; subst eo24))
  refine bodyPost_ret (results_cell_row rfl _ _ gb542 32 #[.bool t559, .slice Ao24 t560.length co24] (0, 0) _ rfl (tk BK542) Try.underlying32 rfl (by kernel_rfl)) rfl ?_
  exact ⟨_, by first | rfl | (simp [errW_none, errW_some] <;> rfl) | (simp [*, errW_none, errW_some] <;> rfl), by (with_reducible repeat first | apply qa | apply qn | apply qd); exact Kd.R_mono (Kd.R_far (p := ⟨gb542, 1, none⟩) (Kd.R_far (p := ⟨gb542, 0, none⟩) (Kd.R_types HO562.out BK542.out (by decide)) (fun _ hk => hk.2) (.bool t559)) (fun _ hk => hk.2) (.slice Ao24 t560.length co24)) (fun _ hk => trivial), tb HB⟩

/-! ### whetstonelaw02_signed: function 13 -/
def whetstonelaw02_signed.f (k : Nat)  : Option (Bool) := (big_Of.f k (-7)).bind fun bt563 => ((big_Of.f k 2).bind fun bt567 => ((big_DivMod.f k bt563.1 bt563.2 bt567.1 bt567.2).bind fun bt571 => ((big_Parse.f k (⟨#[45, 49, 50]⟩ : ByteArray)).bind fun bt582 => (if bt571.2.2.2.2 = 0 then (if bt582.2.2 = 0 then ((whetstoneref02_Of.f k (-4)).bind fun bt588 => ((whetstonelaw02_same.f k bt571.1 bt571.2.1 bt588.1 bt588.2).bind fun t592 => (if t592 = true then ((whetstoneref02_Of.f k 1).bind fun bt593 => ((whetstonelaw02_same.f k bt571.2.2.1 bt571.2.2.2.1 bt593.1 bt593.2).bind fun t597 => (if t597 = true then ((whetstoneref02_Of.f k (-12)).bind fun bt598 => ((whetstonelaw02_same.f k bt582.1 bt582.2.1 bt598.1 bt598.2).bind fun t602 => (if t602 = true then ((big_Of.f k (-30)).bind fun bt603 => ((big_Text.f k bt603.1 bt603.2).bind fun t607 => (some (t607.toList == ([45, 51, 48] : List UInt8))))) else (none)))) else (none)))) else (none)))) else (none)) else (none)))))
theorem whetstonelaw02_signed.mono : ∀ k, LeO (whetstonelaw02_signed.f k ) (whetstonelaw02_signed.f (k + 1) ) := by
 intro  k
 unfold whetstonelaw02_signed.f
 repeat' with_reducible first | exact big_DivMod.mono _ _ _ _ _ | exact big_Of.mono _ _ | exact big_Parse.mono _ _ | exact big_Text.mono _ _ _ | exact whetstonelaw02_same.mono _ _ _ _ _ | exact whetstoneref02_Of.mono _ _ | exact LeO.refl _ | exact LeO.none _ | refine LeO.ite ?_ ?_ | refine LeO.bind ?_ (fun _ => ?_)
def whetstonelaw02_signed.T3 : Bool × List (List Nat × List Nat) := (true, [([], []), ([0], [0]), ([1], [1]), ([2], [2]), ([3, 2], [2, 3]), ([2, 4], [2, 4]), ([5, 2], [5]), ([6], [6]), ([6, 6], [6]), ([7, 8, 8, 6], [6, 7, 8]), ([6, 9], [6, 9]), ([10, 9], [10]), ([11], [11]), ([11, 11], [11]), ([12, 13, 13, 11], [11, 12, 13]), ([11, 14], [11, 14]), ([15, 14], [15]), ([16], [16]), ([16, 16], [16]), ([17, 18, 18, 16], [16, 17, 18]), ([16, 19], [16, 19]), ([20, 19], [20]), ([21, 21], [21]), ([22, 22, 21], [21, 22]), ([23, 21], [21, 23]), ([21, 24], [21, 24]), ([25, 23, 0, 1, 2, 3, 4, 5, 6, 7, 8, 9, 10, 11, 12, 13, 14, 15, 16, 17, 18, 19, 20, 21, 22, 23, 24, 25], [25])])
def whetstonelaw02_signed.B3 : List Nat := [0, 1, 3, 7, 15, 31, 63, 127, 127, 511, 1023, 2047, 4095, 4095, 16383, 32767, 65535, 131071, 131071, 524287, 1048575, 2097151, 4194303, 8388607, 16777215, 33554431, 67108863]
theorem whetstonelaw02_signed.tab3 : rtab .any (opsOf Try.f13 3) = whetstonelaw02_signed.T3 := by kernel_rfl
theorem whetstonelaw02_signed.bits3 : waitsOk whetstonelaw02_signed.T3.2 whetstonelaw02_signed.B3 = true := by kernel_rfl
set_option maxHeartbeats 8000000 in
set_option maxRecDepth 100000 in
theorem whetstonelaw02_signed.calls (k : Nat)  (r : Bool) (w : World) (h : whetstonelaw02_signed.f k  = some r) :
  Calls Try.prog 13 #[] w fun e w' => e = .returned (.bool r) ∧ Below w.heap.size w w' := by
 have hu24 := Try.underlying24
 have HB := Aside0.mk (Below.refl w.heap.size w)
 have H : ((big_Of.f k (-7)).bind fun bt563 => ((big_Of.f k 2).bind fun bt567 => ((big_DivMod.f k bt563.1 bt563.2 bt567.1 bt567.2).bind fun bt571 => ((big_Parse.f k (⟨#[45, 49, 50]⟩ : ByteArray)).bind fun bt582 => (if bt571.2.2.2.2 = 0 then (if bt582.2.2 = 0 then ((whetstoneref02_Of.f k (-4)).bind fun bt588 => ((whetstonelaw02_same.f k bt571.1 bt571.2.1 bt588.1 bt588.2).bind fun t592 => (if t592 = true then ((whetstoneref02_Of.f k 1).bind fun bt593 => ((whetstonelaw02_same.f k bt571.2.2.1 bt571.2.2.2.1 bt593.1 bt593.2).bind fun t597 => (if t597 = true then ((whetstoneref02_Of.f k (-12)).bind fun bt598 => ((whetstonelaw02_same.f k bt582.1 bt582.2.1 bt598.1 bt598.2).bind fun t602 => (if t602 = true then ((big_Of.f k (-30)).bind fun bt603 => ((big_Text.f k bt603.1 bt603.2).bind fun t607 => (some (t607.toList == ([45, 51, 48] : List UInt8))))) else (none)))) else (none)))) else (none)))) else (none)) else (none)))))) = some r := h
 clear h
 replace H := bi H
 obtain ⟨⟨t563, t564⟩, A10, H⟩ := H
 try dsimp only at H
 have A1 := Aside0.mk A10
 clear A10
 replace H := bi H
 obtain ⟨⟨t567, t568⟩, A20, H⟩ := H
 try dsimp only at H
 have A2 := Aside0.mk A20
 clear A20
 replace H := bi H
 obtain ⟨⟨t571, t572, t575, t576, t579⟩, A30, H⟩ := H
 try dsimp only at H
 have A3 := Aside0.mk A30
 clear A30
 replace H := bi H
 obtain ⟨⟨t582, t583, t586⟩, A40, H⟩ := H
 try dsimp only at H
 have A4 := Aside0.mk A40
 clear A40
 by_cases c5 : t579 = 0
 ·rw [if_pos c5] at H
  have c5b0 : (t579 == 0) = true := beq_iff_eq.mpr c5
  have c5b1 : (t579 != 0) = false := bne_eq_false_iff_eq.mpr c5
  clear c5
  by_cases c6 : t586 = 0
  ·rw [if_pos c6] at H
   have c6b0 : (t586 == 0) = true := beq_iff_eq.mpr c6
   have c6b1 : (t586 != 0) = false := bne_eq_false_iff_eq.mpr c6
   clear c6
   replace H := bi H
   obtain ⟨⟨t588, t589⟩, A70, H⟩ := H
   try dsimp only at H
   have A7 := Aside0.mk A70
   clear A70
   replace H := bi H
   obtain ⟨t592, A80, H⟩ := H
   have A8 := Aside0.mk A80
   clear A80
   by_cases c9 : t592 = true
   ·subst c9
    have H1 : ((whetstoneref02_Of.f k 1).bind fun bt593 => ((whetstonelaw02_same.f k t575 t576 bt593.1 bt593.2).bind fun t597 => (if t597 = true then ((whetstoneref02_Of.f k (-12)).bind fun bt598 => ((whetstonelaw02_same.f k t582 t583 bt598.1 bt598.2).bind fun t602 => (if t602 = true then ((big_Of.f k (-30)).bind fun bt603 => ((big_Text.f k bt603.1 bt603.2).bind fun t607 => (some (t607.toList == ([45, 51, 48] : List UInt8))))) else (none)))) else (none)))) = some r := by rw [if_pos rfl] at H; exact H
    clear H
    have H := H1
    clear H1
    replace H := bi H
    obtain ⟨⟨t593, t594⟩, A100, H⟩ := H
    try dsimp only at H
    have A10 := Aside0.mk A100
    clear A100
    replace H := bi H
    obtain ⟨t597, A110, H⟩ := H
    have A11 := Aside0.mk A110
    clear A110
    by_cases c12 : t597 = true
    ·subst c12
     have H1 : ((whetstoneref02_Of.f k (-12)).bind fun bt598 => ((whetstonelaw02_same.f k t582 t583 bt598.1 bt598.2).bind fun t602 => (if t602 = true then ((big_Of.f k (-30)).bind fun bt603 => ((big_Text.f k bt603.1 bt603.2).bind fun t607 => (some (t607.toList == ([45, 51, 48] : List UInt8))))) else (none)))) = some r := by rw [if_pos rfl] at H; exact H
     clear H
     have H := H1
     clear H1
     replace H := bi H
     obtain ⟨⟨t598, t599⟩, A130, H⟩ := H
     try dsimp only at H
     have A13 := Aside0.mk A130
     clear A130
     replace H := bi H
     obtain ⟨t602, A140, H⟩ := H
     have A14 := Aside0.mk A140
     clear A140
     by_cases c15 : t602 = true
     ·subst c15
      have H1 : ((big_Of.f k (-30)).bind fun bt603 => ((big_Text.f k bt603.1 bt603.2).bind fun t607 => (some (t607.toList == ([45, 51, 48] : List UInt8))))) = some r := by rw [if_pos rfl] at H; exact H
      clear H
      have H := H1
      clear H1
      replace H := bi H
      obtain ⟨⟨t603, t604⟩, A160, H⟩ := H
      try dsimp only at H
      have A16 := Aside0.mk A160
      clear A160
      replace H := bi H
      obtain ⟨t607, A170, H⟩ := H
      have A17 := Aside0.mk A170
      clear A170
      obtain rfl := Option.some.inj H
      go_enter Try.func13, Try.ntmps13
      try go_wp2_with (first | ((with_reducible refine gate_callee (f := 40) rfl ?_); refine gL (N := some 7) Try.func40 #[.int .i64 (-7)] ?_; (with_reducible refine (big_Of.calls k (-7) t563 t564 _ A1.out).mono ?_); rintro e w18 ⟨v565, rfl, ho0, hb⟩; refine ⟨_, rfl, ?_⟩; have HO566 := rl ho0 HB; replace HB := bs HB hb; (try clear hb); (try clear hb2); (try clear hk); (try clear hi); (try clear ho0)) | ((with_reducible refine gate_callee (f := 40) rfl ?_); refine gL (N := some 8) Try.func40 #[.int .i64 2] ?_; (with_reducible refine (big_Of.calls k 2 t567 t568 _ A2.out).mono ?_); rintro e w19 ⟨v569, rfl, ho0, hb⟩; refine ⟨_, rfl, ?_⟩; have HO570 := Aside0.mk (Kd.R_lower (Kd.R_new' ho0 (Kd.R_lt (tq HO566))) (below_size (tb HB))); replace HO566 := re HO566 (Kd.R_base ho0) hb; replace HB := bs HB hb; (try clear hb); (try clear hb2); (try clear hk); (try clear hi); (try clear ho0); obtain ⟨Ao20, co20, eo20⟩ := Kd.R_slice HO566.out; subst eo20; obtain ⟨Ao21, co21, eo21⟩ := Kd.R_slice HO570.out; subst eo21) | ((with_reducible refine gate_callee (f := 33) rfl ?_); refine gL (N := some 9) Try.func33 #[.agg #[.bool t563, .slice Ao20 t564.length co20], .agg #[.bool t567, .slice Ao21 t568.length co21]] ?_; (with_reducible refine (big_DivMod.calls k t563 _ _ t564 t567 _ _ t568 t571 t572 t575 t576 t579 _ ?side1 ?side2 ?side3 ?side4 A3.out).mono ?_); (case side1 => exact tc (Kd.R_reads' HO566.out).2.2); (case side2 => exact (Kd.R_reads' HO566.out).2.1); (case side3 => exact tc (Kd.R_reads' HO570.out).2.2); (case side4 => exact (Kd.R_reads' HO570.out).2.1); rintro e w22 ⟨v573, v577, rfl, ho0, ho1, hb⟩; refine ⟨_, rfl, ?_⟩; have HO574 := Aside0.mk (Kd.R_lower (Kd.R_new' (Kd.R_new' ho0 (Kd.R_lt (tq HO566))) (Kd.R_lt (tq HO570))) (below_size (tb HB))); have HO578 := Aside0.mk (Kd.R_lower (Kd.R_new' (Kd.R_new' ho1 (Kd.R_lt (tq HO566))) (Kd.R_lt (tq HO570))) (below_size (tb HB))); replace HO566 := Aside0.mk (Kd.R_mono (Kd.R_told (Kd.R_told (Kd.R_old (tq HO566) hb) (Kd.R_base ho0)) (Kd.R_base ho1)) (fun _ h_ => h_.1)); replace HO570 := Aside0.mk (Kd.R_mono (Kd.R_told (Kd.R_told (Kd.R_old (tq HO570) hb) (Kd.R_base ho0)) (Kd.R_base ho1)) (fun _ h_ => h_.1)); replace HB := bs HB hb; (try clear hb); (try clear hb2); (try clear hk); (try clear hi); (try clear ho0); (try clear ho1)) | ((with_reducible refine gate_dst (N := 1) rfl ?_); refine bx (N := 1) #[.bool false, .slice none 0 0] 24 ?_; intro gb580 hg w23 hbox hb; replace HO566 := rb HO566 hb; replace HO570 := rb HO570 hb; replace HO574 := rb HO574 hb; replace HO578 := rb HO578 hb; have BK580 := Aside0.mk (hbox); have GW580 := bz hg HB; have GE580 := bz hg HB; replace HB := bs HB hb; clear hb hbox hg) | ((with_reducible refine gate_dst (N := 2) rfl ?_); refine bx (N := 2) #[.bool false, .slice none 0 0] 24 ?_; intro gb581 hg w24 hbox hb; replace HO566 := rb HO566 hb; replace HO570 := rb HO570 hb; replace HO574 := rb HO574 hb; replace HO578 := rb HO578 hb; have BK581 := Aside0.mk (hbox); have GW581 := bz hg HB; have GE581 := bz hg HB; replace HB := bs HB hb; have NB580_581 := nl hg BK580; have NB581_580 := ng hg BK580; replace BK580 := kb BK580 hb; clear hb hbox hg; have hnb25 := NB580_581.out; have hnc25 := NB581_580.out; have hcz26_0 := bc BK580 0 (.bool false); have hcz26_1 := bc BK580 1 (.slice none 0 0); have hfz26_0 := blk_frozen BK580.out 0; have hfz26_1 := blk_frozen BK580.out 1; obtain ⟨Ao27, co27, eo27⟩ := Kd.R_slice HO574.out; subst eo27; have hcz28_0 := bc BK581 0 (.bool false); have hcz28_1 := bc BK581 1 (.slice none 0 0); have hfz28_0 := blk_frozen BK581.out 0; have hfz28_1 := blk_frozen BK581.out 1; obtain ⟨Ao29, co29, eo29⟩ := Kd.R_slice HO578.out; subst eo29) | ((with_reducible refine gate_callee (f := 14) rfl ?_); refine gL (N := some 14) Try.func14 #[.string (⟨#[45, 49, 50]⟩ : ByteArray)] ?_; (with_reducible refine (big_Parse.calls k (⟨#[45, 49, 50]⟩ : ByteArray) t582 t583 t586 _ A4.out).mono ?_); rintro e w30 ⟨v584, rfl, ho0, hb⟩; refine ⟨_, rfl, ?_⟩; have HO585 := Aside0.mk (Kd.R_lower (Kd.R_new' (Kd.R_new' (Kd.R_new' (Kd.R_new' ho0 (Kd.R_lt (by (with_reducible repeat first | apply qa | apply qn | apply qd); exact (Kd.R_mono (Kd.R_mono (Kd.R_far (p := ⟨gb581, 1, none⟩) (Kd.R_far (p := ⟨gb581, 0, none⟩) (Kd.R_far (p := ⟨gb580, 1, none⟩) (Kd.R_far (p := ⟨gb580, 0, none⟩) (Kd.R_types (Kd.R_types HO566.out BK580.out (by decide)) BK581.out (by decide)) (fun _ hk => hk.1.2) (.bool t571)) (fun _ hk => hk.1.2) (.slice Ao27 t572.length co27)) (fun _ hk => hk.2) (.bool t575)) (fun _ hk => hk.2) (.slice Ao29 t576.length co29)) (fun _ h_ => h_.1)) (fun _ h_ => h_.1))))) (Kd.R_lt (by (with_reducible repeat first | apply qa | apply qn | apply qd); exact (Kd.R_mono (Kd.R_mono (Kd.R_far (p := ⟨gb581, 1, none⟩) (Kd.R_far (p := ⟨gb581, 0, none⟩) (Kd.R_far (p := ⟨gb580, 1, none⟩) (Kd.R_far (p := ⟨gb580, 0, none⟩) (Kd.R_types (Kd.R_types HO570.out BK580.out (by decide)) BK581.out (by decide)) (fun _ hk => hk.1.2) (.bool t571)) (fun _ hk => hk.1.2) (.slice Ao27 t572.length co27)) (fun _ hk => hk.2) (.bool t575)) (fun _ hk => hk.2) (.slice Ao29 t576.length co29)) (fun _ h_ => h_.1)) (fun _ h_ => h_.1))))) (Kd.R_lt (by (with_reducible repeat first | apply qa | apply qn | apply qd); exact (Kd.R_mono (Kd.R_mono (Kd.R_far (p := ⟨gb581, 1, none⟩) (Kd.R_far (p := ⟨gb581, 0, none⟩) (Kd.R_far (p := ⟨gb580, 1, none⟩) (Kd.R_far (p := ⟨gb580, 0, none⟩) (Kd.R_types (Kd.R_types HO574.out BK580.out (by decide)) BK581.out (by decide)) (fun _ hk => hk.1.2) (.bool t571)) (fun _ hk => hk.1.2) (.slice Ao27 t572.length co27)) (fun _ hk => hk.2) (.bool t575)) (fun _ hk => hk.2) (.slice Ao29 t576.length co29)) (fun _ h_ => h_.1)) (fun _ h_ => h_.1))))) (Kd.R_lt (by (with_reducible repeat first | apply qa | apply qn | apply qd); exact (Kd.R_mono (Kd.R_mono (Kd.R_far (p := ⟨gb581, 1, none⟩) (Kd.R_far (p := ⟨gb581, 0, none⟩) (Kd.R_far (p := ⟨gb580, 1, none⟩) (Kd.R_far (p := ⟨gb580, 0, none⟩) (Kd.R_types (Kd.R_types HO578.out BK580.out (by decide)) BK581.out (by decide)) (fun _ hk => hk.1.2) (.bool t571)) (fun _ hk => hk.1.2) (.slice Ao27 t572.length co27)) (fun _ hk => hk.2) (.bool t575)) (fun _ hk => hk.2) (.slice Ao29 t576.length co29)) (fun _ h_ => h_.1)) (fun _ h_ => h_.1))))) (below_size (tb HB))); replace HO566 := Aside0.mk (Kd.R_elder' (by (with_reducible repeat first | apply qa | apply qn | apply qd); exact (Kd.R_mono (Kd.R_mono (Kd.R_far (p := ⟨gb581, 1, none⟩) (Kd.R_far (p := ⟨gb581, 0, none⟩) (Kd.R_far (p := ⟨gb580, 1, none⟩) (Kd.R_far (p := ⟨gb580, 0, none⟩) (Kd.R_types (Kd.R_types HO566.out BK580.out (by decide)) BK581.out (by decide)) (fun _ hk => hk.1.2) (.bool t571)) (fun _ hk => hk.1.2) (.slice Ao27 t572.length co27)) (fun _ hk => hk.2) (.bool t575)) (fun _ hk => hk.2) (.slice Ao29 t576.length co29)) (fun _ h_ => h_.1)) (fun _ h_ => h_.1))) (Kd.R_base ho0) hb); replace HO570 := Aside0.mk (Kd.R_elder' (by (with_reducible repeat first | apply qa | apply qn | apply qd); exact (Kd.R_mono (Kd.R_mono (Kd.R_far (p := ⟨gb581, 1, none⟩) (Kd.R_far (p := ⟨gb581, 0, none⟩) (Kd.R_far (p := ⟨gb580, 1, none⟩) (Kd.R_far (p := ⟨gb580, 0, none⟩) (Kd.R_types (Kd.R_types HO570.out BK580.out (by decide)) BK581.out (by decide)) (fun _ hk => hk.1.2) (.bool t571)) (fun _ hk => hk.1.2) (.slice Ao27 t572.length co27)) (fun _ hk => hk.2) (.bool t575)) (fun _ hk => hk.2) (.slice Ao29 t576.length co29)) (fun _ h_ => h_.1)) (fun _ h_ => h_.1))) (Kd.R_base ho0) hb); replace HO574 := Aside0.mk (Kd.R_elder' (by (with_reducible repeat first | apply qa | apply qn | apply qd); exact (Kd.R_mono (Kd.R_mono (Kd.R_far (p := ⟨gb581, 1, none⟩) (Kd.R_far (p := ⟨gb581, 0, none⟩) (Kd.R_far (p := ⟨gb580, 1, none⟩) (Kd.R_far (p := ⟨gb580, 0, none⟩) (Kd.R_types (Kd.R_types HO574.out BK580.out (by decide)) BK581.out (by decide)) (fun _ hk => hk.1.2) (.bool t571)) (fun _ hk => hk.1.2) (.slice Ao27 t572.length co27)) (fun _ hk => hk.2) (.bool t575)) (fun _ hk => hk.2) (.slice Ao29 t576.length co29)) (fun _ h_ => h_.1)) (fun _ h_ => h_.1))) (Kd.R_base ho0) hb); replace HO578 := Aside0.mk (Kd.R_elder' (by (with_reducible repeat first | apply qa | apply qn | apply qd); exact (Kd.R_mono (Kd.R_mono (Kd.R_far (p := ⟨gb581, 1, none⟩) (Kd.R_far (p := ⟨gb581, 0, none⟩) (Kd.R_far (p := ⟨gb580, 1, none⟩) (Kd.R_far (p := ⟨gb580, 0, none⟩) (Kd.R_types (Kd.R_types HO578.out BK580.out (by decide)) BK581.out (by decide)) (fun _ hk => hk.1.2) (.bool t571)) (fun _ hk => hk.1.2) (.slice Ao27 t572.length co27)) (fun _ hk => hk.2) (.bool t575)) (fun _ hk => hk.2) (.slice Ao29 t576.length co29)) (fun _ h_ => h_.1)) (fun _ h_ => h_.1))) (Kd.R_base ho0) hb); replace BK580 := kb (o' := .cells #[.bool t571, .slice Ao27 t572.length co27] 24 (0, 0)) BK580 hb; replace BK581 := kb (o' := .cells #[.bool t575, .slice Ao29 t576.length co29] 24 (0, 0)) BK581 hb; replace HB := bs HB hb; (try clear hb); (try clear hb2); (try clear hk); (try clear hi); (try clear ho0)) | ((with_reducible refine gate_dst (N := 4) rfl ?_); refine bx (N := 4) #[.bool false, .slice none 0 0] 24 ?_; intro gb587 hg w31 hbox hb; replace HO566 := rb HO566 hb; replace HO570 := rb HO570 hb; replace HO574 := rb HO574 hb; replace HO578 := rb HO578 hb; replace HO585 := rb HO585 hb; have BK587 := Aside0.mk (hbox); have GW587 := bz hg HB; have GE587 := bz hg HB; replace HB := bs HB hb; have NB580_587 := nl hg BK580; have NB587_580 := ng hg BK580; replace BK580 := kb BK580 hb; have NB581_587 := nl hg BK581; have NB587_581 := ng hg BK581; replace BK581 := kb BK581 hb; clear hb hbox hg; have hnb32 := NB587_580.out; have hnc32 := NB580_587.out; have hnb33 := NB587_581.out; have hnc33 := NB581_587.out; have hcz34_0 := bc BK587 0 (.bool false); have hcz34_1 := bc BK587 1 (.slice none 0 0); have hfz34_0 := blk_frozen BK587.out 0; have hfz34_1 := blk_frozen BK587.out 1; obtain ⟨Ao35, co35, eo35⟩ := Kd.R_slice HO585.out; subst eo35))
      have n0_ : Aside0 (Kd.R (Kd.int .u32) 87 ((w31.setCell ⟨gb587, 0, none⟩ (.bool t582)).setCell ⟨gb587, 1, none⟩ (.slice Ao35 t583.length co35)) w.heap.size (fun k_ => some k_ ≠ (.slice Ao21 t568.length co21 : Value).ownBlock ∧ some k_ ≠ (.slice Ao27 t572.length co27 : Value).ownBlock ∧ some k_ ≠ (.slice Ao29 t576.length co29 : Value).ownBlock ∧ some k_ ≠ (.slice Ao35 t583.length co35 : Value).ownBlock) (.slice Ao20 t564.length co20) t564) := ⟨by (with_reducible repeat first | apply qa | apply qn | apply qd); exact Kd.R_mono (Kd.R_far (p := ⟨gb587, 1, none⟩) (Kd.R_far (p := ⟨gb587, 0, none⟩) (Kd.R_types HO566.out BK587.out (by decide)) (fun _ hk => hk.2) (.bool t582)) (fun _ hk => hk.2) (.slice Ao35 t583.length co35)) (fun _ hk => ⟨hk.1.1.1.1.2, ⟨hk.1.1.1.2, ⟨hk.1.1.2, hk.1.2⟩⟩⟩)⟩
      have n1_ : Aside0 (Kd.R (Kd.int .u32) 87 ((w31.setCell ⟨gb587, 0, none⟩ (.bool t582)).setCell ⟨gb587, 1, none⟩ (.slice Ao35 t583.length co35)) w.heap.size (fun k_ => some k_ ≠ (.slice Ao20 t564.length co20 : Value).ownBlock ∧ some k_ ≠ (.slice Ao27 t572.length co27 : Value).ownBlock ∧ some k_ ≠ (.slice Ao29 t576.length co29 : Value).ownBlock ∧ some k_ ≠ (.slice Ao35 t583.length co35 : Value).ownBlock) (.slice Ao21 t568.length co21) t568) := ⟨by (with_reducible repeat first | apply qa | apply qn | apply qd); exact Kd.R_mono (Kd.R_far (p := ⟨gb587, 1, none⟩) (Kd.R_far (p := ⟨gb587, 0, none⟩) (Kd.R_types HO570.out BK587.out (by decide)) (fun _ hk => hk.2) (.bool t582)) (fun _ hk => hk.2) (.slice Ao35 t583.length co35)) (fun _ hk => ⟨hk.1.1.1.1.2, ⟨hk.1.1.1.2, ⟨hk.1.1.2, hk.1.2⟩⟩⟩)⟩
      have n2_ : Aside0 (Kd.R (Kd.int .u32) 87 ((w31.setCell ⟨gb587, 0, none⟩ (.bool t582)).setCell ⟨gb587, 1, none⟩ (.slice Ao35 t583.length co35)) w.heap.size (fun k_ => some k_ ≠ (.slice Ao20 t564.length co20 : Value).ownBlock ∧ some k_ ≠ (.slice Ao21 t568.length co21 : Value).ownBlock ∧ some k_ ≠ (.slice Ao29 t576.length co29 : Value).ownBlock ∧ some k_ ≠ (.slice Ao35 t583.length co35 : Value).ownBlock) (.slice Ao27 t572.length co27) t572) := ⟨by (with_reducible repeat first | apply qa | apply qn | apply qd); exact Kd.R_mono (Kd.R_far (p := ⟨gb587, 1, none⟩) (Kd.R_far (p := ⟨gb587, 0, none⟩) (Kd.R_types HO574.out BK587.out (by decide)) (fun _ hk => hk.2) (.bool t582)) (fun _ hk => hk.2) (.slice Ao35 t583.length co35)) (fun _ hk => ⟨hk.1.1.1.2, ⟨hk.1.1.2, ⟨hk.1.1.1.1, hk.1.2⟩⟩⟩)⟩
      have n3_ : Aside0 (Kd.R (Kd.int .u32) 87 ((w31.setCell ⟨gb587, 0, none⟩ (.bool t582)).setCell ⟨gb587, 1, none⟩ (.slice Ao35 t583.length co35)) w.heap.size (fun k_ => some k_ ≠ (.slice Ao20 t564.length co20 : Value).ownBlock ∧ some k_ ≠ (.slice Ao21 t568.length co21 : Value).ownBlock ∧ some k_ ≠ (.slice Ao27 t572.length co27 : Value).ownBlock ∧ some k_ ≠ (.slice Ao35 t583.length co35 : Value).ownBlock) (.slice Ao29 t576.length co29) t576) := ⟨by (with_reducible repeat first | apply qa | apply qn | apply qd); exact Kd.R_mono (Kd.R_far (p := ⟨gb587, 1, none⟩) (Kd.R_far (p := ⟨gb587, 0, none⟩) (Kd.R_types HO578.out BK587.out (by decide)) (fun _ hk => hk.2) (.bool t582)) (fun _ hk => hk.2) (.slice Ao35 t583.length co35)) (fun _ hk => ⟨hk.1.1.1.2, ⟨hk.1.1.2, ⟨hk.1.1.1.1, hk.1.2⟩⟩⟩)⟩
      have n4_ : Aside0 (Kd.R (Kd.int .u32) 87 ((w31.setCell ⟨gb587, 0, none⟩ (.bool t582)).setCell ⟨gb587, 1, none⟩ (.slice Ao35 t583.length co35)) w.heap.size (fun k_ => some k_ ≠ (.slice Ao20 t564.length co20 : Value).ownBlock ∧ some k_ ≠ (.slice Ao21 t568.length co21 : Value).ownBlock ∧ some k_ ≠ (.slice Ao27 t572.length co27 : Value).ownBlock ∧ some k_ ≠ (.slice Ao29 t576.length co29 : Value).ownBlock) (.slice Ao35 t583.length co35) t583) := ⟨by (with_reducible repeat first | apply qa | apply qn | apply qd); exact Kd.R_mono (Kd.R_far (p := ⟨gb587, 1, none⟩) (Kd.R_far (p := ⟨gb587, 0, none⟩) (Kd.R_types HO585.out BK587.out (by decide)) (fun _ hk => hk.2) (.bool t582)) (fun _ hk => hk.2) (.slice Ao35 t583.length co35)) (fun _ hk => ⟨hk.1.1.1.1.2, ⟨hk.1.1.1.2, ⟨hk.1.1.2, hk.1.2⟩⟩⟩)⟩
      have n5_ : Aside0 (((w31.setCell ⟨gb587, 0, none⟩ (.bool t582)).setCell ⟨gb587, 1, none⟩ (.slice Ao35 t583.length co35)).heap[gb580]? = some (.cells #[.bool t571, .slice Ao27 t572.length co27] 24 (0, 0))) := ⟨tk BK580⟩
      have n6_ : Aside0 (((w31.setCell ⟨gb587, 0, none⟩ (.bool t582)).setCell ⟨gb587, 1, none⟩ (.slice Ao35 t583.length co35)).heap[gb581]? = some (.cells #[.bool t575, .slice Ao29 t576.length co29] 24 (0, 0))) := ⟨tk BK581⟩
      have n7_ : Aside0 (((w31.setCell ⟨gb587, 0, none⟩ (.bool t582)).setCell ⟨gb587, 1, none⟩ (.slice Ao35 t583.length co35)).heap[gb587]? = some (.cells #[.bool t582, .slice Ao35 t583.length co35] 24 (0, 0))) := ⟨tk BK587⟩
      have n8_ : Aside0 (Below w.heap.size w ((w31.setCell ⟨gb587, 0, none⟩ (.bool t582)).setCell ⟨gb587, 1, none⟩ (.slice Ao35 t583.length co35))) := ⟨tb HB⟩
      (try clear HO566); (try clear HO570); (try clear HO574); (try clear HO578); (try clear HO585); (try clear BK580); (try clear BK581); (try clear BK587); (try clear HB)
      generalize ((w31.setCell ⟨gb587, 0, none⟩ (.bool t582)).setCell ⟨gb587, 1, none⟩ (.slice Ao35 t583.length co35)) = w36 at n0_ n1_ n2_ n3_ n4_ n5_ n6_ n7_ n8_ ⊢
      have HO566 := n0_
      have HO570 := n1_
      have HO574 := n2_
      have HO578 := n3_
      have HO585 := n4_
      have BK580 := n5_
      have BK581 := n6_
      have BK587 := n7_
      have HB := n8_
      clear n0_ n1_ n2_ n3_ n4_ n5_ n6_ n7_ n8_
      replace HO566 := Aside0.mk (Kd.R_drew HO566.out)
      replace HO570 := Aside0.mk (Kd.R_drew HO570.out)
      replace HO574 := Aside0.mk (Kd.R_drew HO574.out)
      replace HO578 := Aside0.mk (Kd.R_drew HO578.out)
      replace HO585 := Aside0.mk (Kd.R_drew HO585.out)
      replace BK580 := Aside0.mk (blk_drew BK580.out)
      replace BK581 := Aside0.mk (blk_drew BK581.out)
      replace BK587 := Aside0.mk (blk_drew BK587.out)
      replace HB := Aside0.mk (below_drew1 HB.out)
      refine start_ (n := 27) (S := fun w' => w'.cell? ⟨gb580, 0, none⟩ = some (.bool t571) ∧ w'.cell? ⟨gb580, 1, none⟩ = some (.slice Ao27 t572.length co27) ∧ w'.cell? ⟨gb581, 0, none⟩ = some (.bool t575) ∧ w'.cell? ⟨gb581, 1, none⟩ = some (.slice Ao29 t576.length co29) ∧ w'.cell? ⟨gb587, 0, none⟩ = some (.bool t582) ∧ w'.cell? ⟨gb587, 1, none⟩ = some (.slice Ao35 t583.length co35)) (ds := []) #[false, false, false, false, false, false, false, false, false, false, false, false, false, false, false, false, false, false, false, false, false, false, false, false, false, false, false] (by kernel_rfl) rfl rfl ⟨(blk_cell BK580.out 0).trans rfl, (blk_cell BK580.out 1).trans rfl, (blk_cell BK581.out 0).trans rfl, (blk_cell BK581.out 1).trans rfl, (blk_cell BK587.out 0).trans rfl, (blk_cell BK587.out 1).trans rfl⟩ (fun hHeld => ?_); refine with_tabW whetstonelaw02_signed.tab3 whetstonelaw02_signed.bits3 (fun HT_ HW_ => ?_)
      generalize w36.drew = w37 at HO566 HO570 HO574 HO578 HO585 BK580 BK581 BK587 HB hHeld ⊢
      refine pT (i := 0) (N := some 17) (bb 27 1) HT_ ?_
      refine pT (i := 1) (N := some 18) (bb 27 3) HT_ ?_
      refine pT (i := 2) (N := some 19) (bb 27 7) HT_ ?_
      refine pT (i := 3) (N := some 20) (bb 27 15) HT_ ?_
      refine pT (i := 4) (N := some 21) (bb 27 31) HT_ ?_
      refine pT (i := 5) (N := some 22) (bb 27 63) HT_ ?_
      refine pT (i := 6) (N := some 23) (bb 27 127) HT_ ?_
      refine tW (i := 7) (N := some 24) (bb 27 255) HT_ HW_ hHeld ?_
      refine oT (i := 8) (N := some 25) (bb 27 511) HT_ fun K hK => ?_
      refine gS Try.func48 #[.int .i64 (-4)] ?_
      with_reducible refine (whetstoneref02_Of.calls k (-4) t588 t589 _ A7.out).mono ?_
      rintro e w38 ⟨v590, rfl, ho0, hb⟩
      refine ⟨_, rfl, ?_⟩
      replace HO566 := rb HO566 hb
      replace HO570 := rb HO570 hb
      replace HO574 := rb HO574 hb
      replace HO578 := rb HO578 hb
      replace HO585 := rb HO585 hb
      have HO591 := rl ho0 HB
      replace BK580 := kb BK580 hb
      replace BK581 := kb BK581 hb
      replace BK587 := kb BK587 hb
      replace HB := bs HB hb
      (try clear hb); (try clear hb2); (try clear hk); (try clear hi); (try clear ho0)
      obtain ⟨Ao39, co39, eo39⟩ := Kd.R_slice HO591.out
      (first | subst eo39 | (injection eo39 with f1_ f2_ f3_; have f4_ := f1_.symm; have f5_ := f3_.symm; clear f1_ f2_ f3_; subst f4_; subst f5_))
      refine hK.out _ _ ⟨(blk_cell BK580.out 0).trans rfl, (blk_cell BK580.out 1).trans rfl, (blk_cell BK581.out 0).trans rfl, (blk_cell BK581.out 1).trans rfl, (blk_cell BK587.out 0).trans rfl, (blk_cell BK587.out 1).trans rfl⟩ fun hHeld => nT (N := some 25) ?_
      clear hK K
      refine oT (i := 9) (N := some 26) (bb 27 1023) HT_ fun K hK => ?_
      refine gS Try.func19 #[.agg #[.bool t571, .slice Ao27 t572.length co27], .agg #[.bool t588, .slice Ao39 t589.length co39]] ?_
      with_reducible refine (whetstonelaw02_same.calls k t571 _ _ t572 t588 _ _ t589 true _ ?side1 ?side2 ?side3 ?side4 A8.out).mono ?_
      (case side1 => exact tc (Kd.R_reads' HO574.out).2.2)
      (case side2 => exact (Kd.R_reads' HO574.out).2.1)
      (case side3 => exact tc (Kd.R_reads' HO591.out).2.2)
      (case side4 => exact (Kd.R_reads' HO591.out).2.1)
      rintro e w40 ⟨rfl, hb⟩
      refine ⟨_, rfl, ?_⟩
      replace HO566 := rb HO566 hb
      replace HO570 := rb HO570 hb
      replace HO574 := rb HO574 hb
      replace HO578 := rb HO578 hb
      replace HO585 := rb HO585 hb
      replace HO591 := rb HO591 hb
      replace BK580 := kb BK580 hb
      replace BK581 := kb BK581 hb
      replace BK587 := kb BK587 hb
      replace HB := bs HB hb
      (try clear hb); (try clear hb2); (try clear hk); (try clear hi)
      refine hK.out _ _ ⟨(blk_cell BK580.out 0).trans rfl, (blk_cell BK580.out 1).trans rfl, (blk_cell BK581.out 0).trans rfl, (blk_cell BK581.out 1).trans rfl, (blk_cell BK587.out 0).trans rfl, (blk_cell BK587.out 1).trans rfl⟩ fun hHeld => nT (N := some 26) ?_
      clear hK K
      refine pT (i := 10) (N := some 27) (bb 27 2047) HT_ ?_
      refine pT (i := 11) (N := some 28) (bb 27 4095) HT_ ?_
      refine tW (i := 12) (N := some 29) (bb 27 8191) HT_ HW_ hHeld ?_
      refine oT (i := 13) (N := some 30) (bb 27 16383) HT_ fun K hK => ?_
      refine gS Try.func48 #[.int .i64 1] ?_
      with_reducible refine (whetstoneref02_Of.calls k 1 t593 t594 _ A10.out).mono ?_
      rintro e w41 ⟨v595, rfl, ho0, hb⟩
      refine ⟨_, rfl, ?_⟩
      replace HO566 := rb HO566 hb
      replace HO570 := rb HO570 hb
      replace HO574 := rb HO574 hb
      replace HO578 := rb HO578 hb
      replace HO585 := rb HO585 hb
      have HO596 := Aside0.mk (Kd.R_lower (Kd.R_new' ho0 (Kd.R_lt (tq HO591))) (below_size (tb HB)))
      replace HO591 := re HO591 (Kd.R_base ho0) hb
      replace BK580 := kb BK580 hb
      replace BK581 := kb BK581 hb
      replace BK587 := kb BK587 hb
      replace HB := bs HB hb
      (try clear hb); (try clear hb2); (try clear hk); (try clear hi); (try clear ho0)
      obtain ⟨Ao42, co42, eo42⟩ := Kd.R_slice HO596.out
      (first | subst eo42 | (injection eo42 with f1_ f2_ f3_; have f4_ := f1_.symm; have f5_ := f3_.symm; clear f1_ f2_ f3_; subst f4_; subst f5_))
      refine hK.out _ _ ⟨(blk_cell BK580.out 0).trans rfl, (blk_cell BK580.out 1).trans rfl, (blk_cell BK581.out 0).trans rfl, (blk_cell BK581.out 1).trans rfl, (blk_cell BK587.out 0).trans rfl, (blk_cell BK587.out 1).trans rfl⟩ fun hHeld => nT (N := some 30) ?_
      clear hK K
      refine oT (i := 14) (N := some 31) (bb 27 32767) HT_ fun K hK => ?_
      refine gS Try.func19 #[.agg #[.bool t575, .slice Ao29 t576.length co29], .agg #[.bool t593, .slice Ao42 t594.length co42]] ?_
      with_reducible refine (whetstonelaw02_same.calls k t575 _ _ t576 t593 _ _ t594 true _ ?side1 ?side2 ?side3 ?side4 A11.out).mono ?_
      (case side1 => exact tc (Kd.R_reads' HO578.out).2.2)
      (case side2 => exact (Kd.R_reads' HO578.out).2.1)
      (case side3 => exact tc (Kd.R_reads' HO596.out).2.2)
      (case side4 => exact (Kd.R_reads' HO596.out).2.1)
      rintro e w43 ⟨rfl, hb⟩
      refine ⟨_, rfl, ?_⟩
      replace HO566 := rb HO566 hb
      replace HO570 := rb HO570 hb
      replace HO574 := rb HO574 hb
      replace HO578 := rb HO578 hb
      replace HO585 := rb HO585 hb
      replace HO591 := rb HO591 hb
      replace HO596 := rb HO596 hb
      replace BK580 := kb BK580 hb
      replace BK581 := kb BK581 hb
      replace BK587 := kb BK587 hb
      replace HB := bs HB hb
      (try clear hb); (try clear hb2); (try clear hk); (try clear hi)
      refine hK.out _ _ ⟨(blk_cell BK580.out 0).trans rfl, (blk_cell BK580.out 1).trans rfl, (blk_cell BK581.out 0).trans rfl, (blk_cell BK581.out 1).trans rfl, (blk_cell BK587.out 0).trans rfl, (blk_cell BK587.out 1).trans rfl⟩ fun hHeld => nT (N := some 31) ?_
      clear hK K
      refine pT (i := 15) (N := some 32) (bb 27 65535) HT_ ?_
      refine pT (i := 16) (N := some 33) (bb 27 131071) HT_ ?_
      refine tW (i := 17) (N := some 34) (bb 27 262143) HT_ HW_ hHeld ?_
      refine oT (i := 18) (N := some 35) (bb 27 524287) HT_ fun K hK => ?_
      refine gS Try.func48 #[.int .i64 (-12)] ?_
      with_reducible refine (whetstoneref02_Of.calls k (-12) t598 t599 _ A13.out).mono ?_
      rintro e w44 ⟨v600, rfl, ho0, hb⟩
      refine ⟨_, rfl, ?_⟩
      replace HO566 := rb HO566 hb
      replace HO570 := rb HO570 hb
      replace HO574 := rb HO574 hb
      replace HO578 := rb HO578 hb
      replace HO585 := rb HO585 hb
      have HO601 := Aside0.mk (Kd.R_lower (Kd.R_new' (Kd.R_new' ho0 (Kd.R_lt (tq HO591))) (Kd.R_lt (tq HO596))) (below_size (tb HB)))
      replace BK580 := kb BK580 hb
      replace BK581 := kb BK581 hb
      replace BK587 := kb BK587 hb
      replace HB := bs HB hb
      (try clear hb); (try clear hb2); (try clear hk); (try clear hi); (try clear ho0)
      obtain ⟨Ao45, co45, eo45⟩ := Kd.R_slice HO601.out
      (first | subst eo45 | (injection eo45 with f1_ f2_ f3_; have f4_ := f1_.symm; have f5_ := f3_.symm; clear f1_ f2_ f3_; subst f4_; subst f5_))
      refine hK.out _ _ ⟨(blk_cell BK580.out 0).trans rfl, (blk_cell BK580.out 1).trans rfl, (blk_cell BK581.out 0).trans rfl, (blk_cell BK581.out 1).trans rfl, (blk_cell BK587.out 0).trans rfl, (blk_cell BK587.out 1).trans rfl⟩ fun hHeld => nT (N := some 35) ?_
      clear hK K
      refine oT (i := 19) (N := some 36) (bb 27 1048575) HT_ fun K hK => ?_
      refine gS Try.func19 #[.agg #[.bool t582, .slice Ao35 t583.length co35], .agg #[.bool t598, .slice Ao45 t599.length co45]] ?_
      with_reducible refine (whetstonelaw02_same.calls k t582 _ _ t583 t598 _ _ t599 true _ ?side1 ?side2 ?side3 ?side4 A14.out).mono ?_
      (case side1 => exact tc (Kd.R_reads' HO585.out).2.2)
      (case side2 => exact (Kd.R_reads' HO585.out).2.1)
      (case side3 => exact tc (Kd.R_reads' HO601.out).2.2)
      (case side4 => exact (Kd.R_reads' HO601.out).2.1)
      rintro e w46 ⟨rfl, hb⟩
      refine ⟨_, rfl, ?_⟩
      replace HO566 := rb HO566 hb
      replace HO570 := rb HO570 hb
      replace HO574 := rb HO574 hb
      replace HO578 := rb HO578 hb
      replace HO585 := rb HO585 hb
      replace BK580 := kb BK580 hb
      replace BK581 := kb BK581 hb
      replace BK587 := kb BK587 hb
      replace HB := bs HB hb
      (try clear hb); (try clear hb2); (try clear hk); (try clear hi)
      refine hK.out _ _ ⟨(blk_cell BK580.out 0).trans rfl, (blk_cell BK580.out 1).trans rfl, (blk_cell BK581.out 0).trans rfl, (blk_cell BK581.out 1).trans rfl, (blk_cell BK587.out 0).trans rfl, (blk_cell BK587.out 1).trans rfl⟩ fun hHeld => nT (N := some 36) ?_
      clear hK K
      refine pT (i := 20) (N := some 37) (bb 27 2097151) HT_ ?_
      refine pT (i := 21) (N := some 38) (bb 27 4194303) HT_ ?_
      refine oT (i := 22) (N := some 39) (bb 27 8388607) HT_ fun K hK => ?_
      refine gS Try.func40 #[.int .i64 (-30)] ?_
      with_reducible refine (big_Of.calls k (-30) t603 t604 _ A16.out).mono ?_
      rintro e w47 ⟨v605, rfl, ho0, hb⟩
      refine ⟨_, rfl, ?_⟩
      have HO606 := Aside0.mk (Kd.R_lower (Kd.R_new' (Kd.R_new' (Kd.R_new' (Kd.R_new' (Kd.R_new' ho0 (Kd.R_lt (tq HO566))) (Kd.R_lt (tq HO570))) (Kd.R_lt (tq HO574))) (Kd.R_lt (tq HO578))) (Kd.R_lt (tq HO585))) (below_size (tb HB)))
      replace BK580 := kb BK580 hb
      replace BK581 := kb BK581 hb
      replace BK587 := kb BK587 hb
      replace HB := bs HB hb
      (try clear hb); (try clear hb2); (try clear hk); (try clear hi); (try clear ho0)
      obtain ⟨Ao48, co48, eo48⟩ := Kd.R_slice HO606.out
      (first | subst eo48 | (injection eo48 with f1_ f2_ f3_; have f4_ := f1_.symm; have f5_ := f3_.symm; clear f1_ f2_ f3_; subst f4_; subst f5_))
      refine hK.out _ _ ⟨(blk_cell BK580.out 0).trans rfl, (blk_cell BK580.out 1).trans rfl, (blk_cell BK581.out 0).trans rfl, (blk_cell BK581.out 1).trans rfl, (blk_cell BK587.out 0).trans rfl, (blk_cell BK587.out 1).trans rfl⟩ fun hHeld => nT (N := some 39) ?_
      clear hK K
      refine oT (i := 23) (N := some 40) (bb 27 16777215) HT_ fun K hK => ?_
      refine gS Try.func16 #[.agg #[.bool t603, .slice Ao48 t604.length co48]] ?_
      with_reducible refine (big_Text.calls k t603 _ _ t604 t607 _ ?side1 ?side2 A17.out).mono ?_
      (case side1 => exact tc (Kd.R_reads' HO606.out).2.2)
      (case side2 => exact (Kd.R_reads' HO606.out).2.1)
      rintro e w49 ⟨rfl, hb⟩
      refine ⟨_, rfl, ?_⟩
      replace BK580 := kb BK580 hb
      replace BK581 := kb BK581 hb
      replace BK587 := kb BK587 hb
      replace HB := bs HB hb
      (try clear hb); (try clear hb2); (try clear hk); (try clear hi)
      refine hK.out _ _ ⟨(blk_cell BK580.out 0).trans rfl, (blk_cell BK580.out 1).trans rfl, (blk_cell BK581.out 0).trans rfl, (blk_cell BK581.out 1).trans rfl, (blk_cell BK587.out 0).trans rfl, (blk_cell BK587.out 1).trans rfl⟩ fun hHeld => nT (N := some 40) ?_
      clear hK K
      refine pT (i := 24) (N := some 41) (bb 27 33554431) HT_ ?_
      refine pT (i := 25) (N := some 42) (bb 27 67108863) HT_ ?_
      refine pT (i := 26) (N := some 0) (bb 27 134217727) HT_ ?_
      refine done_ (done_of HT_.out (by kernel_rfl)) ?_
      try go_wp2
      go_ret
      exact ⟨by first | rfl | (simp [errW_none, errW_some] <;> rfl) | (simp [*, errW_none, errW_some] <;> rfl), tb HB⟩
     ·replace c15 := Bool.eq_false_iff.mpr c15
      subst c15
      have H1 : (none) = some r := by rw [if_neg (show ¬ (false = true) by decide)] at H; exact H
      clear H
      have H := H1
      clear H1
      exact absurd H (by simp)
    ·replace c12 := Bool.eq_false_iff.mpr c12
     subst c12
     have H1 : (none) = some r := by rw [if_neg (show ¬ (false = true) by decide)] at H; exact H
     clear H
     have H := H1
     clear H1
     exact absurd H (by simp)
   ·replace c9 := Bool.eq_false_iff.mpr c9
    subst c9
    have H1 : (none) = some r := by rw [if_neg (show ¬ (false = true) by decide)] at H; exact H
    clear H
    have H := H1
    clear H1
    exact absurd H (by simp)
  ·rw [if_neg c6] at H
   exact absurd H (by simp)
 ·rw [if_neg c5] at H
  exact absurd H (by simp)

end Go.Proofs.Ytjpnaapimnoamaa.QBigGcds
