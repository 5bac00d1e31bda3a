-- written by wip/wprint, a program of this session
import Derived.Test.YtjpnaapimnoamaaQBigProductsx0
import Derived.Test.YtjpnaapimnoamaaQBigProductsx4
import Derived.Test.YtjpnaapimnoamaaQBigProductsx6
import Derived.Test.YtjpnaapimnoamaaQBigProductsx7
import Derived.Test.YtjpnaapimnoamaaQBigProductsx9
import Derived.Test.YtjpnaapimnoamaaQBigProductsx10
import Derived.Test.YtjpnaapimnoamaaQBigProductsx13
namespace Go.Proofs.Ytjpnaapimnoamaa.QBigProducts
open Go.RowKit Go.Proofs.YtjpnaapimnoamaaW.PrintWords Go.Proofs.YtjpnaapimnoamaaW.PrintLast Go.Proofs.YtjpnaapimnoamaaW.PrintMore
open Go.Proofs.YtjpnaapimnoamaaW.PrintWords.Kd renaming R_alloc → qa, R_drewN → qn, R_drew → qd
open Go.Proofs.YtjpnaapimnoamaaW.PrintWords renaming below_alloc → ba, pw_below_drewN → bn, below_drew1 → bd
attribute [local go_sem] max2_int min2_int max_two min_two max_three min_three max_four min_four   -- for this text's walks alone
set_option linter.unusedVariables false
set_option linter.unusedSimpArgs false

/-! ### whetstoneref02_Of: function 48 -/
def whetstoneref02_Of.f (k : Nat) (a0 : Int) : Option (Bool × List Int) := if a0 < 0 then ((whetstoneref01_Small.f k (IntKind.u64.wrap (wrap64 (-(wrap64 (a0 + 1)))))).bind fun t544 => ((whetstoneref01_Small.f k 1).bind fun t547 => ((whetstoneref01_Add.f k t544 t547).bind fun t550 => ((whetstoneref02_Norm.f k true t550).bind fun bt553 => (some (bt553.1, bt553.2)))))) else ((whetstoneref01_Small.f k (IntKind.u64.wrap (a0))).bind fun t557 => ((whetstoneref02_Norm.f k false t557).bind fun bt560 => (some (bt560.1, bt560.2))))
theorem whetstoneref02_Of.mono : ∀ a0 k, LeO (whetstoneref02_Of.f k a0) (whetstoneref02_Of.f (k + 1) a0) := by
 intro a0 k
 unfold whetstoneref02_Of.f
 repeat' with_reducible first | exact whetstoneref01_Add.mono _ _ _ | exact whetstoneref01_Small.mono _ _ | exact whetstoneref02_Norm.mono _ _ _ | exact LeO.refl _ | exact LeO.none _ | refine LeO.ite ?_ ?_ | refine LeO.bind ?_ (fun _ => ?_)
set_option maxHeartbeats 8000000 in
set_option maxRecDepth 100000 in
theorem whetstoneref02_Of.calls (k : Nat) (a0 : Int) (r1 : Bool) (r2 : List Int) (w : World) (h : whetstoneref02_Of.f k a0 = some (r1, r2)) :
  Calls Try.prog 48 #[.int .i64 a0] w fun e w' => ∃ v1_ : Value, e = .returned (.agg #[.bool r1, v1_]) ∧ Kd.R (Kd.int .i64) 3 w' w.heap.size (fun _ => True) v1_ r2 ∧ Below w.heap.size w w' := by
 have hu32 := Try.underlying32
 have HB := Aside0.mk (Below.refl w.heap.size w)
 have H : (if a0 < 0 then ((whetstoneref01_Small.f k (IntKind.u64.wrap (wrap64 (-(wrap64 (a0 + 1)))))).bind fun t544 => ((whetstoneref01_Small.f k 1).bind fun t547 => ((whetstoneref01_Add.f k t544 t547).bind fun t550 => ((whetstoneref02_Norm.f k true t550).bind fun bt553 => (some (bt553.1, bt553.2)))))) else ((whetstoneref01_Small.f k (IntKind.u64.wrap (a0))).bind fun t557 => ((whetstoneref02_Norm.f k false t557).bind fun bt560 => (some (bt560.1, bt560.2))))) = some (r1, r2) := h
 clear h
 by_cases c2 : a0 < 0
 ·rw [if_pos c2] at H
  have c2b0 : decide (a0 < 0) = true := decide_eq_true c2
  clear c2
  replace H := bi H
  obtain ⟨t544, A30, H⟩ := H
  have A3 := Aside0.mk A30
  clear A30
  replace H := bi H
  obtain ⟨t547, A40, H⟩ := H
  have A4 := Aside0.mk A40
  clear A40
  replace H := bi H
  obtain ⟨t550, A50, H⟩ := H
  have A5 := Aside0.mk A50
  clear A50
  replace H := bi H
  obtain ⟨⟨t553, t554⟩, A60, H⟩ := H
  try dsimp only at H
  have A6 := Aside0.mk A60
  clear A60
  simp only [Option.some.injEq, Prod.mk.injEq] at H
  obtain ⟨rfl, rfl⟩ := H
  go_enter Try.func48, Try.ntmps48
  go_wp2_with (first | ((with_reducible refine gate_dst (N := 2) rfl ?_); refine bx (N := 2) #[.bool false, .slice none 0 0] 32 ?_; intro gb543 hg w7 hbox hb; have BK543 := Aside0.mk (hbox); have GW543 := bz hg HB; have GE543 := bz hg HB; replace HB := bs HB hb; clear hb hbox hg) | ((with_reducible refine gate_callee (f := 76) rfl ?_); refine gL (N := some 9) Try.func76 #[.int .u64 (IntKind.u64.wrap (wrap64 (-(wrap64 (a0 + 1)))))] ?_; (with_reducible refine (whetstoneref01_Small.calls k (IntKind.u64.wrap (wrap64 (-(wrap64 (a0 + 1))))) t544 _ A3.out).mono ?_); rintro e w8 ⟨v545, rfl, ho0, hb⟩; refine ⟨_, rfl, ?_⟩; have HO546 := rl ho0 HB; replace BK543 := kb BK543 hb; replace HB := bs HB hb; (try clear hb); (try clear hb2); (try clear hk); (try clear hi); (try clear ho0)) | ((with_reducible refine gate_callee (f := 76) rfl ?_); refine gL (N := some 10) Try.func76 #[.int .u64 1] ?_; (with_reducible refine (whetstoneref01_Small.calls k 1 t547 _ A4.out).mono ?_); rintro e w9 ⟨v548, rfl, ho0, hb⟩; refine ⟨_, rfl, ?_⟩; have HO549 := Aside0.mk (Kd.R_lower (Kd.R_new' ho0 (Kd.R_lt (tq HO546))) (below_size (tb HB))); replace HO546 := re HO546 (Kd.R_base ho0) hb; replace BK543 := kb BK543 hb; replace HB := bs HB hb; (try clear hb); (try clear hb2); (try clear hk); (try clear hi); (try clear ho0); obtain ⟨Ao10, co10, eo10⟩ := Kd.R_slice HO546.out; subst eo10; obtain ⟨Ao11, co11, eo11⟩ := Kd.R_slice HO549.out; subst eo11) | ((with_reducible refine gate_callee (f := 62) rfl ?_); refine gL (N := some 11) Try.func62 #[.slice Ao10 t544.length co10, .slice Ao11 t547.length co11] ?_; (with_reducible refine (whetstoneref01_Add.calls k _ _ t544 _ _ t547 t550 _ ?side1 ?side2 ?side3 ?side4 A5.out).mono ?_); (case side1 => exact tc (Kd.R_reads' HO546.out).2.2); (case side2 => exact (Kd.R_reads' HO546.out).2.1); (case side3 => exact tc (Kd.R_reads' HO549.out).2.2); (case side4 => exact (Kd.R_reads' HO549.out).2.1); rintro e w12 ⟨v551, rfl, ho0, hb⟩; refine ⟨_, rfl, ?_⟩; have HO552 := Aside0.mk (Kd.R_lower (Kd.R_new' (Kd.R_new' ho0 (Kd.R_lt (tq HO546))) (Kd.R_lt (tq HO549))) (below_size (tb HB))); replace HO546 := re HO546 (Kd.R_base ho0) hb; replace HO549 := re HO549 (Kd.R_base ho0) hb; replace BK543 := kb BK543 hb; replace HB := bs HB hb; (try clear hb); (try clear hb2); (try clear hk); (try clear hi); (try clear ho0); obtain ⟨Ao13, co13, eo13⟩ := Kd.R_slice HO552.out; subst eo13) | ((with_reducible refine gate_callee (f := 54) rfl ?_); refine gL (N := some 13) Try.func54 #[.agg #[.bool true, .slice Ao13 t550.length co13]] ?_; (with_reducible refine (whetstoneref02_Norm.calls k true _ _ t550 t553 t554 _ ?side1 ?side2 A6.out).mono ?_); (case side1 => exact tc (Kd.R_reads' HO552.out).2.2); (case side2 => exact (Kd.R_reads' HO552.out).2.1); rintro e w14 ⟨v555, rfl, ho0, hb⟩; refine ⟨_, rfl, ?_⟩; have HO556 := Aside0.mk (Kd.R_lower (Kd.R_new' (Kd.R_new' (Kd.R_new' ho0 (Kd.R_lt (tq HO546))) (Kd.R_lt (tq HO549))) (Kd.R_lt (tq HO552))) (below_size (tb HB))); replace BK543 := kb BK543 hb; replace HB := bs HB hb; (try clear hb); (try clear hb2); (try clear hk); (try clear hi); (try clear ho0); have hcz15_0 := bc BK543 0 (.bool false); have hcz15_1 := bc BK543 1 (.slice none 0 0); have hfz15_0 := blk_frozen BK543.out 0; have hfz15_1 := blk_frozen BK543.out 1; obtain ⟨Ao16, co16, eo16⟩ := Kd.R_slice HO556.out; subst eo16))
  refine bodyPost_ret (results_cell_row rfl _ _ gb543 32 #[.bool t553, .slice Ao16 t554.length co16] (0, 0) _ rfl (tk BK543) Try.underlying32 rfl (by kernel_rfl)) rfl ?_
  exact ⟨_, by first | rfl | (simp [errW_none, errW_some] <;> rfl) | (simp [*, errW_none, errW_some] <;> rfl), by (with_reducible repeat first | apply qa | apply qn | apply qd); exact Kd.R_mono (Kd.R_far (p := ⟨gb543, 1, none⟩) (Kd.R_far (p := ⟨gb543, 0, none⟩) (Kd.R_types HO556.out BK543.out (by decide)) (fun _ hk => hk.2) (.bool t553)) (fun _ hk => hk.2) (.slice Ao16 t554.length co16)) (fun _ hk => trivial), tb HB⟩
 ·rw [if_neg c2] at H
  have c2b0 : decide (a0 < 0) = false := decide_eq_false c2
  clear c2
  replace H := bi H
  obtain ⟨t557, A170, H⟩ := H
  have A17 := Aside0.mk A170
  clear A170
  replace H := bi H
  obtain ⟨⟨t560, t561⟩, A180, H⟩ := H
  try dsimp only at H
  have A18 := Aside0.mk A180
  clear A180
  simp only [Option.some.injEq, Prod.mk.injEq] at H
  obtain ⟨rfl, rfl⟩ := H
  go_enter Try.func48, Try.ntmps48
  go_wp2_with (first | ((with_reducible refine gate_dst (N := 2) rfl ?_); refine bx (N := 2) #[.bool false, .slice none 0 0] 32 ?_; intro gb543 hg w19 hbox hb; have BK543 := Aside0.mk (hbox); have GW543 := bz hg HB; have GE543 := bz hg HB; replace HB := bs HB hb; clear hb hbox hg) | ((with_reducible refine gate_callee (f := 76) rfl ?_); refine gL (N := some 16) Try.func76 #[.int .u64 (IntKind.u64.wrap (a0))] ?_; (with_reducible refine (whetstoneref01_Small.calls k (IntKind.u64.wrap (a0)) t557 _ A17.out).mono ?_); rintro e w20 ⟨v558, rfl, ho0, hb⟩; refine ⟨_, rfl, ?_⟩; have HO559 := rl ho0 HB; replace BK543 := kb BK543 hb; replace HB := bs HB hb; (try clear hb); (try clear hb2); (try clear hk); (try clear hi); (try clear ho0); obtain ⟨Ao21, co21, eo21⟩ := Kd.R_slice HO559.out; subst eo21) | ((with_reducible refine gate_callee (f := 54) rfl ?_); refine gL (N := some 18) Try.func54 #[.agg #[.bool false, .slice Ao21 t557.length co21]] ?_; (with_reducible refine (whetstoneref02_Norm.calls k false _ _ t557 t560 t561 _ ?side1 ?side2 A18.out).mono ?_); (case side1 => exact tc (Kd.R_reads' HO559.out).2.2); (case side2 => exact (Kd.R_reads' HO559.out).2.1); rintro e w22 ⟨v562, rfl, ho0, hb⟩; refine ⟨_, rfl, ?_⟩; have HO563 := Aside0.mk (Kd.R_lower (Kd.R_new' ho0 (Kd.R_lt (tq HO559))) (below_size (tb HB))); replace BK543 := kb BK543 hb; replace HB := bs HB hb; (try clear hb); (try clear hb2); (try clear hk); (try clear hi); (try clear ho0); have hcz23_0 := bc BK543 0 (.bool false); have hcz23_1 := bc BK543 1 (.slice none 0 0); have hfz23_0 := blk_frozen BK543.out 0; have hfz23_1 := blk_frozen BK543.out 1; obtain ⟨Ao24, co24, eo24⟩ := Kd.R_slice HO563.out; subst eo24))
  refine bodyPost_ret (results_cell_row rfl _ _ gb543 32 #[.bool t560, .slice Ao24 t561.length co24] (0, 0) _ rfl (tk BK543) Try.underlying32 rfl (by kernel_rfl)) rfl ?_
  exact ⟨_, by first | rfl | (simp [errW_none, errW_some] <;> rfl) | (simp [*, errW_none, errW_some] <;> rfl), by (with_reducible repeat first | apply qa | apply qn | apply qd); exact Kd.R_mono (Kd.R_far (p := ⟨gb543, 1, none⟩) (Kd.R_far (p := ⟨gb543, 0, none⟩) (Kd.R_types HO563.out BK543.out (by decide)) (fun _ hk => hk.2) (.bool t560)) (fun _ hk => hk.2) (.slice Ao24 t561.length co24)) (fun _ hk => trivial), tb HB⟩

/-! ### whetstonelaw02_signed: function 13 -/
def whetstonelaw02_signed.f (k : Nat)  : Option (Bool) := (big_Of.f k (-7)).bind fun bt564 => ((big_Of.f k 2).bind fun bt568 => ((big_DivMod.f k bt564.1 bt564.2 bt568.1 bt568.2).bind fun bt572 => ((big_Parse.f k (⟨#[45, 49, 50]⟩ : ByteArray)).bind fun bt583 => (if bt572.2.2.2.2 = 0 then (if bt583.2.2 = 0 then ((whetstoneref02_Of.f k (-4)).bind fun bt589 => ((whetstonelaw02_same.f k bt572.1 bt572.2.1 bt589.1 bt589.2).bind fun t593 => (if t593 = true then ((whetstoneref02_Of.f k 1).bind fun bt594 => ((whetstonelaw02_same.f k bt572.2.2.1 bt572.2.2.2.1 bt594.1 bt594.2).bind fun t598 => (if t598 = true then ((whetstoneref02_Of.f k (-12)).bind fun bt599 => ((whetstonelaw02_same.f k bt583.1 bt583.2.1 bt599.1 bt599.2).bind fun t603 => (if t603 = true then ((big_Of.f k (-30)).bind fun bt604 => ((big_Text.f k bt604.1 bt604.2).bind fun t608 => (some (t608.toList == ([45, 51, 48] : List UInt8))))) else (none)))) else (none)))) else (none)))) else (none)) else (none)))))
theorem whetstonelaw02_signed.mono : ∀ k, LeO (whetstonelaw02_signed.f k ) (whetstonelaw02_signed.f (k + 1) ) := by
 intro  k
 unfold whetstonelaw02_signed.f
 repeat' with_reducible first | exact big_DivMod.mono _ _ _ _ _ | exact big_Of.mono _ _ | exact big_Parse.mono _ _ | exact big_Text.mono _ _ _ | exact whetstonelaw02_same.mono _ _ _ _ _ | exact whetstoneref02_Of.mono _ _ | exact LeO.refl _ | exact LeO.none _ | refine LeO.ite ?_ ?_ | refine LeO.bind ?_ (fun _ => ?_)
def whetstonelaw02_signed.T3 : Bool × List (List Nat × List Nat) := (true, [([], []), ([0], [0]), ([1], [1]), ([2], [2]), ([3, 2], [2, 3]), ([2, 4], [2, 4]), ([5, 2], [5]), ([6], [6]), ([6, 6], [6]), ([7, 8, 8, 6], [6, 7, 8]), ([6, 9], [6, 9]), ([10, 9], [10]), ([11], [11]), ([11, 11], [11]), ([12, 13, 13, 11], [11, 12, 13]), ([11, 14], [11, 14]), ([15, 14], [15]), ([16], [16]), ([16, 16], [16]), ([17, 18, 18, 16], [16, 17, 18]), ([16, 19], [16, 19]), ([20, 19], [20]), ([21, 21], [21]), ([22, 22, 21], [21, 22]), ([23, 21], [21, 23]), ([21, 24], [21, 24]), ([25, 23, 0, 1, 2, 3, 4, 5, 6, 7, 8, 9, 10, 11, 12, 13, 14, 15, 16, 17, 18, 19, 20, 21, 22, 23, 24, 25], [25])])
def whetstonelaw02_signed.B3 : List Nat := [0, 1, 3, 7, 15, 31, 63, 127, 127, 511, 1023, 2047, 4095, 4095, 16383, 32767, 65535, 131071, 131071, 524287, 1048575, 2097151, 4194303, 8388607, 16777215, 33554431, 67108863]
theorem whetstonelaw02_signed.tab3 : rtab .any (opsOf Try.f13 3) = whetstonelaw02_signed.T3 := by kernel_rfl
theorem whetstonelaw02_signed.bits3 : waitsOk whetstonelaw02_signed.T3.2 whetstonelaw02_signed.B3 = true := by kernel_rfl
set_option maxHeartbeats 8000000 in
set_option maxRecDepth 100000 in
theorem whetstonelaw02_signed.calls (k : Nat)  (r : Bool) (w : World) (h : whetstonelaw02_signed.f k  = some r) :
  Calls Try.prog 13 #[] w fun e w' => e = .returned (.bool r) ∧ Below w.heap.size w w' := by
 have hu24 := Try.underlying24
 have HB := Aside0.mk (Below.refl w.heap.size w)
 have H : ((big_Of.f k (-7)).bind fun bt564 => ((big_Of.f k 2).bind fun bt568 => ((big_DivMod.f k bt564.1 bt564.2 bt568.1 bt568.2).bind fun bt572 => ((big_Parse.f k (⟨#[45, 49, 50]⟩ : ByteArray)).bind fun bt583 => (if bt572.2.2.2.2 = 0 then (if bt583.2.2 = 0 then ((whetstoneref02_Of.f k (-4)).bind fun bt589 => ((whetstonelaw02_same.f k bt572.1 bt572.2.1 bt589.1 bt589.2).bind fun t593 => (if t593 = true then ((whetstoneref02_Of.f k 1).bind fun bt594 => ((whetstonelaw02_same.f k bt572.2.2.1 bt572.2.2.2.1 bt594.1 bt594.2).bind fun t598 => (if t598 = true then ((whetstoneref02_Of.f k (-12)).bind fun bt599 => ((whetstonelaw02_same.f k bt583.1 bt583.2.1 bt599.1 bt599.2).bind fun t603 => (if t603 = true then ((big_Of.f k (-30)).bind fun bt604 => ((big_Text.f k bt604.1 bt604.2).bind fun t608 => (some (t608.toList == ([45, 51, 48] : List UInt8))))) else (none)))) else (none)))) else (none)))) else (none)) else (none)))))) = some r := h
 clear h
 replace H := bi H
 obtain ⟨⟨t564, t565⟩, A10, H⟩ := H
 try dsimp only at H
 have A1 := Aside0.mk A10
 clear A10
 replace H := bi H
 obtain ⟨⟨t568, t569⟩, A20, H⟩ := H
 try dsimp only at H
 have A2 := Aside0.mk A20
 clear A20
 replace H := bi H
 obtain ⟨⟨t572, t573, t576, t577, t580⟩, A30, H⟩ := H
 try dsimp only at H
 have A3 := Aside0.mk A30
 clear A30
 replace H := bi H
 obtain ⟨⟨t583, t584, t587⟩, A40, H⟩ := H
 try dsimp only at H
 have A4 := Aside0.mk A40
 clear A40
 by_cases c5 : t580 = 0
 ·rw [if_pos c5] at H
  have c5b0 : (t580 == 0) = true := beq_iff_eq.mpr c5
  have c5b1 : (t580 != 0) = false := bne_eq_false_iff_eq.mpr c5
  clear c5
  by_cases c6 : t587 = 0
  ·rw [if_pos c6] at H
   have c6b0 : (t587 == 0) = true := beq_iff_eq.mpr c6
   have c6b1 : (t587 != 0) = false := bne_eq_false_iff_eq.mpr c6
   clear c6
   replace H := bi H
   obtain ⟨⟨t589, t590⟩, A70, H⟩ := H
   try dsimp only at H
   have A7 := Aside0.mk A70
   clear A70
   replace H := bi H
   obtain ⟨t593, A80, H⟩ := H
   have A8 := Aside0.mk A80
   clear A80
   by_cases c9 : t593 = true
   ·subst c9
    have H1 : ((whetstoneref02_Of.f k 1).bind fun bt594 => ((whetstonelaw02_same.f k t576 t577 bt594.1 bt594.2).bind fun t598 => (if t598 = true then ((whetstoneref02_Of.f k (-12)).bind fun bt599 => ((whetstonelaw02_same.f k t583 t584 bt599.1 bt599.2).bind fun t603 => (if t603 = true then ((big_Of.f k (-30)).bind fun bt604 => ((big_Text.f k bt604.1 bt604.2).bind fun t608 => (some (t608.toList == ([45, 51, 48] : List UInt8))))) else (none)))) else (none)))) = some r := by rw [if_pos rfl] at H; exact H
    clear H
    have H := H1
    clear H1
    replace H := bi H
    obtain ⟨⟨t594, t595⟩, A100, H⟩ := H
    try dsimp only at H
    have A10 := Aside0.mk A100
    clear A100
    replace H := bi H
    obtain ⟨t598, A110, H⟩ := H
    have A11 := Aside0.mk A110
    clear A110
    by_cases c12 : t598 = true
    ·subst c12
     have H1 : ((whetstoneref02_Of.f k (-12)).bind fun bt599 => ((whetstonelaw02_same.f k t583 t584 bt599.1 bt599.2).bind fun t603 => (if t603 = true then ((big_Of.f k (-30)).bind fun bt604 => ((big_Text.f k bt604.1 bt604.2).bind fun t608 => (some (t608.toList == ([45, 51, 48] : List UInt8))))) else (none)))) = some r := by rw [if_pos rfl] at H; exact H
     clear H
     have H := H1
     clear H1
     replace H := bi H
     obtain ⟨⟨t599, t600⟩, A130, H⟩ := H
     try dsimp only at H
     have A13 := Aside0.mk A130
     clear A130
     replace H := bi H
     obtain ⟨t603, A140, H⟩ := H
     have A14 := Aside0.mk A140
     clear A140
     by_cases c15 : t603 = true
     ·subst c15
      have H1 : ((big_Of.f k (-30)).bind fun bt604 => ((big_Text.f k bt604.1 bt604.2).bind fun t608 => (some (t608.toList == ([45, 51, 48] : List UInt8))))) = some r := by rw [if_pos rfl] at H; exact H
      clear H
      have H := H1
      clear H1
      replace H := bi H
      obtain ⟨⟨t604, t605⟩, A160, H⟩ := H
      try dsimp only at H
      have A16 := Aside0.mk A160
      clear A160
      replace H := bi H
      obtain ⟨t608, A170, H⟩ := H
      have A17 := Aside0.mk A170
      clear A170
      obtain rfl := Option.some.inj H
      go_enter Try.func13, Try.ntmps13
      try go_wp2_with (first | ((with_reducible refine gate_callee (f := 40) rfl ?_); refine gL (N := some 7) Try.func40 #[.int .i64 (-7)] ?_; (with_reducible refine (big_Of.calls k (-7) t564 t565 _ A1.out).mono ?_); rintro e w18 ⟨v566, rfl, ho0, hb⟩; refine ⟨_, rfl, ?_⟩; have HO567 := rl ho0 HB; replace HB := bs HB hb; (try clear hb); (try clear hb2); (try clear hk); (try clear hi); (try clear ho0)) | ((with_reducible refine gate_callee (f := 40) rfl ?_); refine gL (N := some 8) Try.func40 #[.int .i64 2] ?_; (with_reducible refine (big_Of.calls k 2 t568 t569 _ A2.out).mono ?_); rintro e w19 ⟨v570, rfl, ho0, hb⟩; refine ⟨_, rfl, ?_⟩; have HO571 := Aside0.mk (Kd.R_lower (Kd.R_new' ho0 (Kd.R_lt (tq HO567))) (below_size (tb HB))); replace HO567 := re HO567 (Kd.R_base ho0) hb; replace HB := bs HB hb; (try clear hb); (try clear hb2); (try clear hk); (try clear hi); (try clear ho0); obtain ⟨Ao20, co20, eo20⟩ := Kd.R_slice HO567.out; subst eo20; obtain ⟨Ao21, co21, eo21⟩ := Kd.R_slice HO571.out; subst eo21) | ((with_reducible refine gate_callee (f := 33) rfl ?_); refine gL (N := some 9) Try.func33 #[.agg #[.bool t564, .slice Ao20 t565.length co20], .agg #[.bool t568, .slice Ao21 t569.length co21]] ?_; (with_reducible refine (big_DivMod.calls k t564 _ _ t565 t568 _ _ t569 t572 t573 t576 t577 t580 _ ?side1 ?side2 ?side3 ?side4 A3.out).mono ?_); (case side1 => exact tc (Kd.R_reads' HO567.out).2.2); (case side2 => exact (Kd.R_reads' HO567.out).2.1); (case side3 => exact tc (Kd.R_reads' HO571.out).2.2); (case side4 => exact (Kd.R_reads' HO571.out).2.1); rintro e w22 ⟨v574, v578, rfl, ho0, ho1, hb⟩; refine ⟨_, rfl, ?_⟩; have HO575 := Aside0.mk (Kd.R_lower (Kd.R_new' (Kd.R_new' ho0 (Kd.R_lt (tq HO567))) (Kd.R_lt (tq HO571))) (below_size (tb HB))); have HO579 := Aside0.mk (Kd.R_lower (Kd.R_new' (Kd.R_new' ho1 (Kd.R_lt (tq HO567))) (Kd.R_lt (tq HO571))) (below_size (tb HB))); replace HO567 := Aside0.mk (Kd.R_mono (Kd.R_told (Kd.R_told (Kd.R_old (tq HO567) hb) (Kd.R_base ho0)) (Kd.R_base ho1)) (fun _ h_ => h_.1)); replace HO571 := Aside0.mk (Kd.R_mono (Kd.R_told (Kd.R_told (Kd.R_old (tq HO571) hb) (Kd.R_base ho0)) (Kd.R_base ho1)) (fun _ h_ => h_.1)); replace HB := bs HB hb; (try clear hb); (try clear hb2); (try clear hk); (try clear hi); (try clear ho0); (try clear ho1)) | ((with_reducible refine gate_dst (N := 1) rfl ?_); refine bx (N := 1) #[.bool false, .slice none 0 0] 24 ?_; intro gb581 hg w23 hbox hb; replace HO567 := rb HO567 hb; replace HO571 := rb HO571 hb; replace HO575 := rb HO575 hb; replace HO579 := rb HO579 hb; have BK581 := Aside0.mk (hbox); have GW581 := bz hg HB; have GE581 := bz hg HB; replace HB := bs HB hb; clear hb hbox hg) | ((with_reducible refine gate_dst (N := 2) rfl ?_); refine bx (N := 2) #[.bool false, .slice none 0 0] 24 ?_; intro gb582 hg w24 hbox hb; replace HO567 := rb HO567 hb; replace HO571 := rb HO571 hb; replace HO575 := rb HO575 hb; replace HO579 := rb HO579 hb; have BK582 := Aside0.mk (hbox); have GW582 := bz hg HB; have GE582 := bz hg HB; replace HB := bs HB hb; have NB581_582 := nl hg BK581; have NB582_581 := ng hg BK581; replace BK581 := kb BK581 hb; clear hb hbox hg; have hnb25 := NB581_582.out; have hnc25 := NB582_581.out; have hcz26_0 := bc BK581 0 (.bool false); have hcz26_1 := bc BK581 1 (.slice none 0 0); have hfz26_0 := blk_frozen BK581.out 0; have hfz26_1 := blk_frozen BK581.out 1; obtain ⟨Ao27, co27, eo27⟩ := Kd.R_slice HO575.out; subst eo27; have hcz28_0 := bc BK582 0 (.bool false); have hcz28_1 := bc BK582 1 (.slice none 0 0); have hfz28_0 := blk_frozen BK582.out 0; have hfz28_1 := blk_frozen BK582.out 1; obtain ⟨Ao29, co29, eo29⟩ := Kd.R_slice HO579.out; subst eo29) | ((with_reducible refine gate_callee (f := 14) rfl ?_); refine gL (N := some 14) Try.func14 #[.string (⟨#[45, 49, 50]⟩ : ByteArray)] ?_; (with_reducible refine (big_Parse.calls k (⟨#[45, 49, 50]⟩ : ByteArray) t583 t584 t587 _ A4.out).mono ?_); rintro e w30 ⟨v585, rfl, ho0, hb⟩; refine ⟨_, rfl, ?_⟩; have HO586 := Aside0.mk (Kd.R_lower (Kd.R_new' (Kd.R_new' (Kd.R_new' (Kd.R_new' ho0 (Kd.R_lt (by (with_reducible repeat first | apply qa | apply qn | apply qd); exact (Kd.R_mono (Kd.R_mono (Kd.R_far (p := ⟨gb582, 1, none⟩) (Kd.R_far (p := ⟨gb582, 0, none⟩) (Kd.R_far (p := ⟨gb581, 1, none⟩) (Kd.R_far (p := ⟨gb581, 0, none⟩) (Kd.R_types (Kd.R_types HO567.out BK581.out (by decide)) BK582.out (by decide)) (fun _ hk => hk.1.2) (.bool t572)) (fun _ hk => hk.1.2) (.slice Ao27 t573.length co27)) (fun _ hk => hk.2) (.bool t576)) (fun _ hk => hk.2) (.slice Ao29 t577.length co29)) (fun _ h_ => h_.1)) (fun _ h_ => h_.1))))) (Kd.R_lt (by (with_reducible repeat first | apply qa | apply qn | apply qd); exact (Kd.R_mono (Kd.R_mono (Kd.R_far (p := ⟨gb582, 1, none⟩) (Kd.R_far (p := ⟨gb582, 0, none⟩) (Kd.R_far (p := ⟨gb581, 1, none⟩) (Kd.R_far (p := ⟨gb581, 0, none⟩) (Kd.R_types (Kd.R_types HO571.out BK581.out (by decide)) BK582.out (by decide)) (fun _ hk => hk.1.2) (.bool t572)) (fun _ hk => hk.1.2) (.slice Ao27 t573.length co27)) (fun _ hk => hk.2) (.bool t576)) (fun _ hk => hk.2) (.slice Ao29 t577.length co29)) (fun _ h_ => h_.1)) (fun _ h_ => h_.1))))) (Kd.R_lt (by (with_reducible repeat first | apply qa | apply qn | apply qd); exact (Kd.R_mono (Kd.R_mono (Kd.R_far (p := ⟨gb582, 1, none⟩) (Kd.R_far (p := ⟨gb582, 0, none⟩) (Kd.R_far (p := ⟨gb581, 1, none⟩) (Kd.R_far (p := ⟨gb581, 0, none⟩) (Kd.R_types (Kd.R_types HO575.out BK581.out (by decide)) BK582.out (by decide)) (fun _ hk => hk.1.2) (.bool t572)) (fun _ hk => hk.1.2) (.slice Ao27 t573.length co27)) (fun _ hk => hk.2) (.bool t576)) (fun _ hk => hk.2) (.slice Ao29 t577.length co29)) (fun _ h_ => h_.1)) (fun _ h_ => h_.1))))) (Kd.R_lt (by (with_reducible repeat first | apply qa | apply qn | apply qd); exact (Kd.R_mono (Kd.R_mono (Kd.R_far (p := ⟨gb582, 1, none⟩) (Kd.R_far (p := ⟨gb582, 0, none⟩) (Kd.R_far (p := ⟨gb581, 1, none⟩) (Kd.R_far (p := ⟨gb581, 0, none⟩) (Kd.R_types (Kd.R_types HO579.out BK581.out (by decide)) BK582.out (by decide)) (fun _ hk => hk.1.2) (.bool t572)) (fun _ hk => hk.1.2) (.slice Ao27 t573.length co27)) (fun _ hk => hk.2) (.bool t576)) (fun _ hk => hk.2) (.slice Ao29 t577.length co29)) (fun _ h_ => h_.1)) (fun _ h_ => h_.1))))) (below_size (tb HB))); replace HO567 := Aside0.mk (Kd.R_elder' (by (with_reducible repeat first | apply qa | apply qn | apply qd); exact (Kd.R_mono (Kd.R_mono (Kd.R_far (p := ⟨gb582, 1, none⟩) (Kd.R_far (p := ⟨gb582, 0, none⟩) (Kd.R_far (p := ⟨gb581, 1, none⟩) (Kd.R_far (p := ⟨gb581, 0, none⟩) (Kd.R_types (Kd.R_types HO567.out BK581.out (by decide)) BK582.out (by decide)) (fun _ hk => hk.1.2) (.bool t572)) (fun _ hk => hk.1.2) (.slice Ao27 t573.length co27)) (fun _ hk => hk.2) (.bool t576)) (fun _ hk => hk.2) (.slice Ao29 t577.length co29)) (fun _ h_ => h_.1)) (fun _ h_ => h_.1))) (Kd.R_base ho0) hb); replace HO571 := Aside0.mk (Kd.R_elder' (by (with_reducible repeat first | apply qa | apply qn | apply qd); exact (Kd.R_mono (Kd.R_mono (Kd.R_far (p := ⟨gb582, 1, none⟩) (Kd.R_far (p := ⟨gb582, 0, none⟩) (Kd.R_far (p := ⟨gb581, 1, none⟩) (Kd.R_far (p := ⟨gb581, 0, none⟩) (Kd.R_types (Kd.R_types HO571.out BK581.out (by decide)) BK582.out (by decide)) (fun _ hk => hk.1.2) (.bool t572)) (fun _ hk => hk.1.2) (.slice Ao27 t573.length co27)) (fun _ hk => hk.2) (.bool t576)) (fun _ hk => hk.2) (.slice Ao29 t577.length co29)) (fun _ h_ => h_.1)) (fun _ h_ => h_.1))) (Kd.R_base ho0) hb); replace HO575 := Aside0.mk (Kd.R_elder' (by (with_reducible repeat first | apply qa | apply qn | apply qd); exact (Kd.R_mono (Kd.R_mono (Kd.R_far (p := ⟨gb582, 1, none⟩) (Kd.R_far (p := ⟨gb582, 0, none⟩) (Kd.R_far (p := ⟨gb581, 1, none⟩) (Kd.R_far (p := ⟨gb581, 0, none⟩) (Kd.R_types (Kd.R_types HO575.out BK581.out (by decide)) BK582.out (by decide)) (fun _ hk => hk.1.2) (.bool t572)) (fun _ hk => hk.1.2) (.slice Ao27 t573.length co27)) (fun _ hk => hk.2) (.bool t576)) (fun _ hk => hk.2) (.slice Ao29 t577.length co29)) (fun _ h_ => h_.1)) (fun _ h_ => h_.1))) (Kd.R_base ho0) hb); replace HO579 := Aside0.mk (Kd.R_elder' (by (with_reducible repeat first | apply qa | apply qn | apply qd); exact (Kd.R_mono (Kd.R_mono (Kd.R_far (p := ⟨gb582, 1, none⟩) (Kd.R_far (p := ⟨gb582, 0, none⟩) (Kd.R_far (p := ⟨gb581, 1, none⟩) (Kd.R_far (p := ⟨gb581, 0, none⟩) (Kd.R_types (Kd.R_types HO579.out BK581.out (by decide)) BK582.out (by decide)) (fun _ hk => hk.1.2) (.bool t572)) (fun _ hk => hk.1.2) (.slice Ao27 t573.length co27)) (fun _ hk => hk.2) (.bool t576)) (fun _ hk => hk.2) (.slice Ao29 t577.length co29)) (fun _ h_ => h_.1)) (fun _ h_ => h_.1))) (Kd.R_base ho0) hb); replace BK581 := kb (o' := .cells #[.bool t572, .slice Ao27 t573.length co27] 24 (0, 0)) BK581 hb; replace BK582 := kb (o' := .cells #[.bool t576, .slice Ao29 t577.length co29] 24 (0, 0)) BK582 hb; replace HB := bs HB hb; (try clear hb); (try clear hb2); (try clear hk); (try clear hi); (try clear ho0)) | ((with_reducible refine gate_dst (N := 4) rfl ?_); refine bx (N := 4) #[.bool false, .slice none 0 0] 24 ?_; intro gb588 hg w31 hbox hb; replace HO567 := rb HO567 hb; replace HO571 := rb HO571 hb; replace HO575 := rb HO575 hb; replace HO579 := rb HO579 hb; replace HO586 := rb HO586 hb; have BK588 := Aside0.mk (hbox); have GW588 := bz hg HB; have GE588 := bz hg HB; replace HB := bs HB hb; have NB581_588 := nl hg BK581; have NB588_581 := ng hg BK581; replace BK581 := kb BK581 hb; have NB582_588 := nl hg BK582; have NB588_582 := ng hg BK582; replace BK582 := kb BK582 hb; clear hb hbox hg; have hnb32 := NB588_581.out; have hnc32 := NB581_588.out; have hnb33 := NB588_582.out; have hnc33 := NB582_588.out; have hcz34_0 := bc BK588 0 (.bool false); have hcz34_1 := bc BK588 1 (.slice none 0 0); have hfz34_0 := blk_frozen BK588.out 0; have hfz34_1 := blk_frozen BK588.out 1; obtain ⟨Ao35, co35, eo35⟩ := Kd.R_slice HO586.out; subst eo35))
      have n0_ : Aside0 (Kd.R (Kd.int .u32) 87 ((w31.setCell ⟨gb588, 0, none⟩ (.bool t583)).setCell ⟨gb588, 1, none⟩ (.slice Ao35 t584.length co35)) w.heap.size (fun k_ => some k_ ≠ (.slice Ao21 t569.length co21 : Value).ownBlock ∧ some k_ ≠ (.slice Ao27 t573.length co27 : Value).ownBlock ∧ some k_ ≠ (.slice Ao29 t577.length co29 : Value).ownBlock ∧ some k_ ≠ (.slice Ao35 t584.length co35 : Value).ownBlock) (.slice Ao20 t565.length co20) t565) := ⟨by (with_reducible repeat first | apply qa | apply qn | apply qd); exact Kd.R_mono (Kd.R_far (p := ⟨gb588, 1, none⟩) (Kd.R_far (p := ⟨gb588, 0, none⟩) (Kd.R_types HO567.out BK588.out (by decide)) (fun _ hk => hk.2) (.bool t583)) (fun _ hk => hk.2) (.slice Ao35 t584.length co35)) (fun _ hk => ⟨hk.1.1.1.1.2, ⟨hk.1.1.1.2, ⟨hk.1.1.2, hk.1.2⟩⟩⟩)⟩
      have n1_ : Aside0 (Kd.R (Kd.int .u32) 87 ((w31.setCell ⟨gb588, 0, none⟩ (.bool t583)).setCell ⟨gb588, 1, none⟩ (.slice Ao35 t584.length co35)) w.heap.size (fun k_ => some k_ ≠ (.slice Ao20 t565.length co20 : Value).ownBlock ∧ some k_ ≠ (.slice Ao27 t573.length co27 : Value).ownBlock ∧ some k_ ≠ (.slice Ao29 t577.length co29 : Value).ownBlock ∧ some k_ ≠ (.slice Ao35 t584.length co35 : Value).ownBlock) (.slice Ao21 t569.length co21) t569) := ⟨by (with_reducible repeat first | apply qa | apply qn | apply qd); exact Kd.R_mono (Kd.R_far (p := ⟨gb588, 1, none⟩) (Kd.R_far (p := ⟨gb588, 0, none⟩) (Kd.R_types HO571.out BK588.out (by decide)) (fun _ hk => hk.2) (.bool t583)) (fun _ hk => hk.2) (.slice Ao35 t584.length co35)) (fun _ hk => ⟨hk.1.1.1.1.2, ⟨hk.1.1.1.2, ⟨hk.1.1.2, hk.1.2⟩⟩⟩)⟩
      have n2_ : Aside0 (Kd.R (Kd.int .u32) 87 ((w31.setCell ⟨gb588, 0, none⟩ (.bool t583)).setCell ⟨gb588, 1, none⟩ (.slice Ao35 t584.length co35)) w.heap.size (fun k_ => some k_ ≠ (.slice Ao20 t565.length co20 : Value).ownBlock ∧ some k_ ≠ (.slice Ao21 t569.length co21 : Value).ownBlock ∧ some k_ ≠ (.slice Ao29 t577.length co29 : Value).ownBlock ∧ some k_ ≠ (.slice Ao35 t584.length co35 : Value).ownBlock) (.slice Ao27 t573.length co27) t573) := ⟨by (with_reducible repeat first | apply qa | apply qn | apply qd); exact Kd.R_mono (Kd.R_far (p := ⟨gb588, 1, none⟩) (Kd.R_far (p := ⟨gb588, 0, none⟩) (Kd.R_types HO575.out BK588.out (by decide)) (fun _ hk => hk.2) (.bool t583)) (fun _ hk => hk.2) (.slice Ao35 t584.length co35)) (fun _ hk => ⟨hk.1.1.1.2, ⟨hk.1.1.2, ⟨hk.1.1.1.1, hk.1.2⟩⟩⟩)⟩
      have n3_ : Aside0 (Kd.R (Kd.int .u32) 87 ((w31.setCell ⟨gb588, 0, none⟩ (.bool t583)).setCell ⟨gb588, 1, none⟩ (.slice Ao35 t584.length co35)) w.heap.size (fun k_ => some k_ ≠ (.slice Ao20 t565.length co20 : Value).ownBlock ∧ some k_ ≠ (.slice Ao21 t569.length co21 : Value).ownBlock ∧ some k_ ≠ (.slice Ao27 t573.length co27 : Value).ownBlock ∧ some k_ ≠ (.slice Ao35 t584.length co35 : Value).ownBlock) (.slice Ao29 t577.length co29) t577) := ⟨by (with_reducible repeat first | apply qa | apply qn | apply qd); exact Kd.R_mono (Kd.R_far (p := ⟨gb588, 1, none⟩) (Kd.R_far (p := ⟨gb588, 0, none⟩) (Kd.R_types HO579.out BK588.out (by decide)) (fun _ hk => hk.2) (.bool t583)) (fun _ hk => hk.2) (.slice Ao35 t584.length co35)) (fun _ hk => ⟨hk.1.1.1.2, ⟨hk.1.1.2, ⟨hk.1.1.1.1, hk.1.2⟩⟩⟩)⟩
      have n4_ : Aside0 (Kd.R (Kd.int .u32) 87 ((w31.setCell ⟨gb588, 0, none⟩ (.bool t583)).setCell ⟨gb588, 1, none⟩ (.slice Ao35 t584.length co35)) w.heap.size (fun k_ => some k_ ≠ (.slice Ao20 t565.length co20 : Value).ownBlock ∧ some k_ ≠ (.slice Ao21 t569.length co21 : Value).ownBlock ∧ some k_ ≠ (.slice Ao27 t573.length co27 : Value).ownBlock ∧ some k_ ≠ (.slice Ao29 t577.length co29 : Value).ownBlock) (.slice Ao35 t584.length co35) t584) := ⟨by (with_reducible repeat first | apply qa | apply qn | apply qd); exact Kd.R_mono (Kd.R_far (p := ⟨gb588, 1, none⟩) (Kd.R_far (p := ⟨gb588, 0, none⟩) (Kd.R_types HO586.out BK588.out (by decide)) (fun _ hk => hk.2) (.bool t583)) (fun _ hk => hk.2) (.slice Ao35 t584.length co35)) (fun _ hk => ⟨hk.1.1.1.1.2, ⟨hk.1.1.1.2, ⟨hk.1.1.2, hk.1.2⟩⟩⟩)⟩
      have n5_ : Aside0 (((w31.setCell ⟨gb588, 0, none⟩ (.bool t583)).setCell ⟨gb588, 1, none⟩ (.slice Ao35 t584.length co35)).heap[gb581]? = some (.cells #[.bool t572, .slice Ao27 t573.length co27] 24 (0, 0))) := ⟨tk BK581⟩
      have n6_ : Aside0 (((w31.setCell ⟨gb588, 0, none⟩ (.bool t583)).setCell ⟨gb588, 1, none⟩ (.slice Ao35 t584.length co35)).heap[gb582]? = some (.cells #[.bool t576, .slice Ao29 t577.length co29] 24 (0, 0))) := ⟨tk BK582⟩
      have n7_ : Aside0 (((w31.setCell ⟨gb588, 0, none⟩ (.bool t583)).setCell ⟨gb588, 1, none⟩ (.slice Ao35 t584.length co35)).heap[gb588]? = some (.cells #[.bool t583, .slice Ao35 t584.length co35] 24 (0, 0))) := ⟨tk BK588⟩
      have n8_ : Aside0 (Below w.heap.size w ((w31.setCell ⟨gb588, 0, none⟩ (.bool t583)).setCell ⟨gb588, 1, none⟩ (.slice Ao35 t584.length co35))) := ⟨tb HB⟩
      (try clear HO567); (try clear HO571); (try clear HO575); (try clear HO579); (try clear HO586); (try clear BK581); (try clear BK582); (try clear BK588); (try clear HB)
      generalize ((w31.setCell ⟨gb588, 0, none⟩ (.bool t583)).setCell ⟨gb588, 1, none⟩ (.slice Ao35 t584.length co35)) = w36 at n0_ n1_ n2_ n3_ n4_ n5_ n6_ n7_ n8_ ⊢
      have HO567 := n0_
      have HO571 := n1_
      have HO575 := n2_
      have HO579 := n3_
      have HO586 := n4_
      have BK581 := n5_
      have BK582 := n6_
      have BK588 := n7_
      have HB := n8_
      clear n0_ n1_ n2_ n3_ n4_ n5_ n6_ n7_ n8_
      replace HO567 := Aside0.mk (Kd.R_drew HO567.out)
      replace HO571 := Aside0.mk (Kd.R_drew HO571.out)
      replace HO575 := Aside0.mk (Kd.R_drew HO575.out)
      replace HO579 := Aside0.mk (Kd.R_drew HO579.out)
      replace HO586 := Aside0.mk (Kd.R_drew HO586.out)
      replace BK581 := Aside0.mk (blk_drew BK581.out)
      replace BK582 := Aside0.mk (blk_drew BK582.out)
      replace BK588 := Aside0.mk (blk_drew BK588.out)
      replace HB := Aside0.mk (below_drew1 HB.out)
      refine start_ (n := 27) (S := fun w' => w'.cell? ⟨gb581, 0, none⟩ = some (.bool t572) ∧ w'.cell? ⟨gb581, 1, none⟩ = some (.slice Ao27 t573.length co27) ∧ w'.cell? ⟨gb582, 0, none⟩ = some (.bool t576) ∧ w'.cell? ⟨gb582, 1, none⟩ = some (.slice Ao29 t577.length co29) ∧ w'.cell? ⟨gb588, 0, none⟩ = some (.bool t583) ∧ w'.cell? ⟨gb588, 1, none⟩ = some (.slice Ao35 t584.length co35)) (ds := []) #[false, false, false, false, false, false, false, false, false, false, false, false, false, false, false, false, false, false, false, false, false, false, false, false, false, false, false] (by kernel_rfl) rfl rfl ⟨(blk_cell BK581.out 0).trans rfl, (blk_cell BK581.out 1).trans rfl, (blk_cell BK582.out 0).trans rfl, (blk_cell BK582.out 1).trans rfl, (blk_cell BK588.out 0).trans rfl, (blk_cell BK588.out 1).trans rfl⟩ (fun hHeld => ?_); refine with_tabW whetstonelaw02_signed.tab3 whetstonelaw02_signed.bits3 (fun HT_ HW_ => ?_)
      generalize w36.drew = w37 at HO567 HO571 HO575 HO579 HO586 BK581 BK582 BK588 HB hHeld ⊢
      refine pT (i := 0) (N := some 17) (bb 27 1) HT_ ?_
      refine pT (i := 1) (N := some 18) (bb 27 3) HT_ ?_
      refine pT (i := 2) (N := some 19) (bb 27 7) HT_ ?_
      refine pT (i := 3) (N := some 20) (bb 27 15) HT_ ?_
      refine pT (i := 4) (N := some 21) (bb 27 31) HT_ ?_
      refine pT (i := 5) (N := some 22) (bb 27 63) HT_ ?_
      refine pT (i := 6) (N := some 23) (bb 27 127) HT_ ?_
      refine tW (i := 7) (N := some 24) (bb 27 255) HT_ HW_ hHeld ?_
      refine oT (i := 8) (N := some 25) (bb 27 511) HT_ fun K hK => ?_
      refine gS Try.func48 #[.int .i64 (-4)] ?_
      with_reducible refine (whetstoneref02_Of.calls k (-4) t589 t590 _ A7.out).mono ?_
      rintro e w38 ⟨v591, rfl, ho0, hb⟩
      refine ⟨_, rfl, ?_⟩
      replace HO567 := rb HO567 hb
      replace HO571 := rb HO571 hb
      replace HO575 := rb HO575 hb
      replace HO579 := rb HO579 hb
      replace HO586 := rb HO586 hb
      have HO592 := rl ho0 HB
      replace BK581 := kb BK581 hb
      replace BK582 := kb BK582 hb
      replace BK588 := kb BK588 hb
      replace HB := bs HB hb
      (try clear hb); (try clear hb2); (try clear hk); (try clear hi); (try clear ho0)
      obtain ⟨Ao39, co39, eo39⟩ := Kd.R_slice HO592.out
      (first | subst eo39 | (injection eo39 with f1_ f2_ f3_; have f4_ := f1_.symm; have f5_ := f3_.symm; clear f1_ f2_ f3_; subst f4_; subst f5_))
      refine hK.out _ _ ⟨(blk_cell BK581.out 0).trans rfl, (blk_cell BK581.out 1).trans rfl, (blk_cell BK582.out 0).trans rfl, (blk_cell BK582.out 1).trans rfl, (blk_cell BK588.out 0).trans rfl, (blk_cell BK588.out 1).trans rfl⟩ fun hHeld => nT (N := some 25) ?_
      clear hK K
      refine oT (i := 9) (N := some 26) (bb 27 1023) HT_ fun K hK => ?_
      refine gS Try.func19 #[.agg #[.bool t572, .slice Ao27 t573.length co27], .agg #[.bool t589, .slice Ao39 t590.length co39]] ?_
      with_reducible refine (whetstonelaw02_same.calls k t572 _ _ t573 t589 _ _ t590 true _ ?side1 ?side2 ?side3 ?side4 A8.out).mono ?_
      (case side1 => exact tc (Kd.R_reads' HO575.out).2.2)
      (case side2 => exact (Kd.R_reads' HO575.out).2.1)
      (case side3 => exact tc (Kd.R_reads' HO592.out).2.2)
      (case side4 => exact (Kd.R_reads' HO592.out).2.1)
      rintro e w40 ⟨rfl, hb⟩
      refine ⟨_, rfl, ?_⟩
      replace HO567 := rb HO567 hb
      replace HO571 := rb HO571 hb
      replace HO575 := rb HO575 hb
      replace HO579 := rb HO579 hb
      replace HO586 := rb HO586 hb
      replace HO592 := rb HO592 hb
      replace BK581 := kb BK581 hb
      replace BK582 := kb BK582 hb
      replace BK588 := kb BK588 hb
      replace HB := bs HB hb
      (try clear hb); (try clear hb2); (try clear hk); (try clear hi)
      refine hK.out _ _ ⟨(blk_cell BK581.out 0).trans rfl, (blk_cell BK581.out 1).trans rfl, (blk_cell BK582.out 0).trans rfl, (blk_cell BK582.out 1).trans rfl, (blk_cell BK588.out 0).trans rfl, (blk_cell BK588.out 1).trans rfl⟩ fun hHeld => nT (N := some 26) ?_
      clear hK K
      refine pT (i := 10) (N := some 27) (bb 27 2047) HT_ ?_
      refine pT (i := 11) (N := some 28) (bb 27 4095) HT_ ?_
      refine tW (i := 12) (N := some 29) (bb 27 8191) HT_ HW_ hHeld ?_
      refine oT (i := 13) (N := some 30) (bb 27 16383) HT_ fun K hK => ?_
      refine gS Try.func48 #[.int .i64 1] ?_
      with_reducible refine (whetstoneref02_Of.calls k 1 t594 t595 _ A10.out).mono ?_
      rintro e w41 ⟨v596, rfl, ho0, hb⟩
      refine ⟨_, rfl, ?_⟩
      replace HO567 := rb HO567 hb
      replace HO571 := rb HO571 hb
      replace HO575 := rb HO575 hb
      replace HO579 := rb HO579 hb
      replace HO586 := rb HO586 hb
      have HO597 := Aside0.mk (Kd.R_lower (Kd.R_new' ho0 (Kd.R_lt (tq HO592))) (below_size (tb HB)))
      replace HO592 := re HO592 (Kd.R_base ho0) hb
      replace BK581 := kb BK581 hb
      replace BK582 := kb BK582 hb
      replace BK588 := kb BK588 hb
      replace HB := bs HB hb
      (try clear hb); (try clear hb2); (try clear hk); (try clear hi); (try clear ho0)
      obtain ⟨Ao42, co42, eo42⟩ := Kd.R_slice HO597.out
      (first | subst eo42 | (injection eo42 with f1_ f2_ f3_; have f4_ := f1_.symm; have f5_ := f3_.symm; clear f1_ f2_ f3_; subst f4_; subst f5_))
      refine hK.out _ _ ⟨(blk_cell BK581.out 0).trans rfl, (blk_cell BK581.out 1).trans rfl, (blk_cell BK582.out 0).trans rfl, (blk_cell BK582.out 1).trans rfl, (blk_cell BK588.out 0).trans rfl, (blk_cell BK588.out 1).trans rfl⟩ fun hHeld => nT (N := some 30) ?_
      clear hK K
      refine oT (i := 14) (N := some 31) (bb 27 32767) HT_ fun K hK => ?_
      refine gS Try.func19 #[.agg #[.bool t576, .slice Ao29 t577.length co29], .agg #[.bool t594, .slice Ao42 t595.length co42]] ?_
      with_reducible refine (whetstonelaw02_same.calls k t576 _ _ t577 t594 _ _ t595 true _ ?side1 ?side2 ?side3 ?side4 A11.out).mono ?_
      (case side1 => exact tc (Kd.R_reads' HO579.out).2.2)
      (case side2 => exact (Kd.R_reads' HO579.out).2.1)
      (case side3 => exact tc (Kd.R_reads' HO597.out).2.2)
      (case side4 => exact (Kd.R_reads' HO597.out).2.1)
      rintro e w43 ⟨rfl, hb⟩
      refine ⟨_, rfl, ?_⟩
      replace HO567 := rb HO567 hb
      replace HO571 := rb HO571 hb
      replace HO575 := rb HO575 hb
      replace HO579 := rb HO579 hb
      replace HO586 := rb HO586 hb
      replace HO592 := rb HO592 hb
      replace HO597 := rb HO597 hb
      replace BK581 := kb BK581 hb
      replace BK582 := kb BK582 hb
      replace BK588 := kb BK588 hb
      replace HB := bs HB hb
      (try clear hb); (try clear hb2); (try clear hk); (try clear hi)
      refine hK.out _ _ ⟨(blk_cell BK581.out 0).trans rfl, (blk_cell BK581.out 1).trans rfl, (blk_cell BK582.out 0).trans rfl, (blk_cell BK582.out 1).trans rfl, (blk_cell BK588.out 0).trans rfl, (blk_cell BK588.out 1).trans rfl⟩ fun hHeld => nT (N := some 31) ?_
      clear hK K
      refine pT (i := 15) (N := some 32) (bb 27 65535) HT_ ?_
      refine pT (i := 16) (N := some 33) (bb 27 131071) HT_ ?_
      refine tW (i := 17) (N := some 34) (bb 27 262143) HT_ HW_ hHeld ?_
      refine oT (i := 18) (N := some 35) (bb 27 524287) HT_ fun K hK => ?_
      refine gS Try.func48 #[.int .i64 (-12)] ?_
      with_reducible refine (whetstoneref02_Of.calls k (-12) t599 t600 _ A13.out).mono ?_
      rintro e w44 ⟨v601, rfl, ho0, hb⟩
      refine ⟨_, rfl, ?_⟩
      replace HO567 := rb HO567 hb
      replace HO571 := rb HO571 hb
      replace HO575 := rb HO575 hb
      replace HO579 := rb HO579 hb
      replace HO586 := rb HO586 hb
      have HO602 := Aside0.mk (Kd.R_lower (Kd.R_new' (Kd.R_new' ho0 (Kd.R_lt (tq HO592))) (Kd.R_lt (tq HO597))) (below_size (tb HB)))
      replace BK581 := kb BK581 hb
      replace BK582 := kb BK582 hb
      replace BK588 := kb BK588 hb
      replace HB := bs HB hb
      (try clear hb); (try clear hb2); (try clear hk); (try clear hi); (try clear ho0)
      obtain ⟨Ao45, co45, eo45⟩ := Kd.R_slice HO602.out
      (first | subst eo45 | (injection eo45 with f1_ f2_ f3_; have f4_ := f1_.symm; have f5_ := f3_.symm; clear f1_ f2_ f3_; subst f4_; subst f5_))
      refine hK.out _ _ ⟨(blk_cell BK581.out 0).trans rfl, (blk_cell BK581.out 1).trans rfl, (blk_cell BK582.out 0).trans rfl, (blk_cell BK582.out 1).trans rfl, (blk_cell BK588.out 0).trans rfl, (blk_cell BK588.out 1).trans rfl⟩ fun hHeld => nT (N := some 35) ?_
      clear hK K
      refine oT (i := 19) (N := some 36) (bb 27 1048575) HT_ fun K hK => ?_
      refine gS Try.func19 #[.agg #[.bool t583, .slice Ao35 t584.length co35], .agg #[.bool t599, .slice Ao45 t600.length co45]] ?_
      with_reducible refine (whetstonelaw02_same.calls k t583 _ _ t584 t599 _ _ t600 true _ ?side1 ?side2 ?side3 ?side4 A14.out).mono ?_
      (case side1 => exact tc (Kd.R_reads' HO586.out).2.2)
      (case side2 => exact (Kd.R_reads' HO586.out).2.1)
      (case side3 => exact tc (Kd.R_reads' HO602.out).2.2)
      (case side4 => exact (Kd.R_reads' HO602.out).2.1)
      rintro e w46 ⟨rfl, hb⟩
      refine ⟨_, rfl, ?_⟩
      replace HO567 := rb HO567 hb
      replace HO571 := rb HO571 hb
      replace HO575 := rb HO575 hb
      replace HO579 := rb HO579 hb
      replace HO586 := rb HO586 hb
      replace BK581 := kb BK581 hb
      replace BK582 := kb BK582 hb
      replace BK588 := kb BK588 hb
      replace HB := bs HB hb
      (try clear hb); (try clear hb2); (try clear hk); (try clear hi)
      refine hK.out _ _ ⟨(blk_cell BK581.out 0).trans rfl, (blk_cell BK581.out 1).trans rfl, (blk_cell BK582.out 0).trans rfl, (blk_cell BK582.out 1).trans rfl, (blk_cell BK588.out 0).trans rfl, (blk_cell BK588.out 1).trans rfl⟩ fun hHeld => nT (N := some 36) ?_
      clear hK K
      refine pT (i := 20) (N := some 37) (bb 27 2097151) HT_ ?_
      refine pT (i := 21) (N := some 38) (bb 27 4194303) HT_ ?_
      refine oT (i := 22) (N := some 39) (bb 27 8388607) HT_ fun K hK => ?_
      refine gS Try.func40 #[.int .i64 (-30)] ?_
      with_reducible refine (big_Of.calls k (-30) t604 t605 _ A16.out).mono ?_
      rintro e w47 ⟨v606, rfl, ho0, hb⟩
      refine ⟨_, rfl, ?_⟩
      have HO607 := Aside0.mk (Kd.R_lower (Kd.R_new' (Kd.R_new' (Kd.R_new' (Kd.R_new' (Kd.R_new' ho0 (Kd.R_lt (tq HO567))) (Kd.R_lt (tq HO571))) (Kd.R_lt (tq HO575))) (Kd.R_lt (tq HO579))) (Kd.R_lt (tq HO586))) (below_size (tb HB)))
      replace BK581 := kb BK581 hb
      replace BK582 := kb BK582 hb
      replace BK588 := kb BK588 hb
      replace HB := bs HB hb
      (try clear hb); (try clear hb2); (try clear hk); (try clear hi); (try clear ho0)
      obtain ⟨Ao48, co48, eo48⟩ := Kd.R_slice HO607.out
      (first | subst eo48 | (injection eo48 with f1_ f2_ f3_; have f4_ := f1_.symm; have f5_ := f3_.symm; clear f1_ f2_ f3_; subst f4_; subst f5_))
      refine hK.out _ _ ⟨(blk_cell BK581.out 0).trans rfl, (blk_cell BK581.out 1).trans rfl, (blk_cell BK582.out 0).trans rfl, (blk_cell BK582.out 1).trans rfl, (blk_cell BK588.out 0).trans rfl, (blk_cell BK588.out 1).trans rfl⟩ fun hHeld => nT (N := some 39) ?_
      clear hK K
      refine oT (i := 23) (N := some 40) (bb 27 16777215) HT_ fun K hK => ?_
      refine gS Try.func16 #[.agg #[.bool t604, .slice Ao48 t605.length co48]] ?_
      with_reducible refine (big_Text.calls k t604 _ _ t605 t608 _ ?side1 ?side2 A17.out).mono ?_
      (case side1 => exact tc (Kd.R_reads' HO607.out).2.2)
      (case side2 => exact (Kd.R_reads' HO607.out).2.1)
      rintro e w49 ⟨rfl, hb⟩
      refine ⟨_, rfl, ?_⟩
      replace BK581 := kb BK581 hb
      replace BK582 := kb BK582 hb
      replace BK588 := kb BK588 hb
      replace HB := bs HB hb
      (try clear hb); (try clear hb2); (try clear hk); (try clear hi)
      refine hK.out _ _ ⟨(blk_cell BK581.out 0).trans rfl, (blk_cell BK581.out 1).trans rfl, (blk_cell BK582.out 0).trans rfl, (blk_cell BK582.out 1).trans rfl, (blk_cell BK588.out 0).trans rfl, (blk_cell BK588.out 1).trans rfl⟩ fun hHeld => nT (N := some 40) ?_
      clear hK K
      refine pT (i := 24) (N := some 41) (bb 27 33554431) HT_ ?_
      refine pT (i := 25) (N := some 42) (bb 27 67108863) HT_ ?_
      refine pT (i := 26) (N := some 0) (bb 27 134217727) HT_ ?_
      refine done_ (done_of HT_.out (by kernel_rfl)) ?_
      try go_wp2
      go_ret
      exact ⟨by first | rfl | (simp [errW_none, errW_some] <;> rfl) | (simp [*, errW_none, errW_some] <;> rfl), tb HB⟩
     ·replace c15 := Bool.eq_false_iff.mpr c15
      subst c15
      have H1 : (none) = some r := by rw [if_neg (show ¬ (false = true) by decide)] at H; exact H
      clear H
      have H := H1
      clear H1
      exact absurd H (by simp)
    ·replace c12 := Bool.eq_false_iff.mpr c12
     subst c12
     have H1 : (none) = some r := by rw [if_neg (show ¬ (false = true) by decide)] at H; exact H
     clear H
     have H := H1
     clear H1
     exact absurd H (by simp)
   ·replace c9 := Bool.eq_false_iff.mpr c9
    subst c9
    have H1 : (none) = some r := by rw [if_neg (show ¬ (false = true) by decide)] at H; exact H
    clear H
    have H := H1
    clear H1
    exact absurd H (by simp)
  ·rw [if_neg c6] at H
   exact absurd H (by simp)
 ·rw [if_neg c5] at H
  exact absurd H (by simp)

end Go.Proofs.Ytjpnaapimnoamaa.QBigProducts
