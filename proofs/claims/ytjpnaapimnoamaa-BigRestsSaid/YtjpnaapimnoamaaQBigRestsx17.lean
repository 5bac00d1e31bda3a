-- written by wip/wprint, a program of this session
import Derived.Test.YtjpnaapimnoamaaQBigRestsx0
import Derived.Test.YtjpnaapimnoamaaQBigRestsx1
import Derived.Test.YtjpnaapimnoamaaQBigRestsx4
import Derived.Test.YtjpnaapimnoamaaQBigRestsx10
import Derived.Test.YtjpnaapimnoamaaQBigRestsx13
import Derived.Test.YtjpnaapimnoamaaQBigRestsx14
import Derived.Test.YtjpnaapimnoamaaQBigRestsx15
import Derived.Test.YtjpnaapimnoamaaQBigRestsx16
import Derived.Test.YtjpnaapimnoamaaQBigRestsx17d
namespace Go.Proofs.Ytjpnaapimnoamaa.QBigRests
open Go.RowKit Go.Proofs.YtjpnaapimnoamaaW.PrintWords Go.Proofs.YtjpnaapimnoamaaW.PrintLast Go.Proofs.YtjpnaapimnoamaaW.PrintMore
open Go.Proofs.YtjpnaapimnoamaaW.PrintWords.Kd renaming R_alloc → qa, R_drewN → qn, R_drew → qd
open Go.Proofs.YtjpnaapimnoamaaW.PrintWords renaming below_alloc → ba, pw_below_drewN → bn, below_drew1 → bd
attribute [local go_sem] max2_int min2_int max_two min_two max_three min_three max_four min_four   -- for this text's walks alone
set_option linter.unusedVariables false
set_option linter.unusedSimpArgs false

set_option maxHeartbeats 8000000 in
set_option maxRecDepth 100000 in
theorem whetstonelaw02_BigRests.calls (k : Nat) (a0_0 : Bool) (A0_1 : Option Addr) (c0_1 : Nat) (l0_1 : List Int) (a1_0 : Bool) (A1_1 : Option Addr) (c1_1 : Nat) (l1_1 : List Int) (r : Bool) (w : World) (hr0_1 : Kd.C (Kd.int .u32) w A0_1 l0_1.length l0_1) (hc0_1 : l0_1.length ≤ c0_1) (hr1_1 : Kd.C (Kd.int .u32) w A1_1 l1_1.length l1_1) (hc1_1 : l1_1.length ≤ c1_1) (h : whetstonelaw02_BigRests.f k a0_0 l0_1 a1_0 l1_1 = some r) :
  Calls Try.prog 9 #[.agg #[.bool a0_0, .slice A0_1 l0_1.length c0_1], .agg #[.bool a1_0, .slice A1_1 l1_1.length c1_1]] w fun e w' => e = .returned (.bool r) ∧ Below w.heap.size w w' := by
 have hu24 := Try.underlying24
 have HR0_1 := Aside0.mk hr0_1
 have HC0_1 := Aside0.mk hc0_1
 clear hr0_1 hc0_1
 have HR1_1 := Aside0.mk hr1_1
 have HC1_1 := Aside0.mk hc1_1
 clear hr1_1 hc1_1
 have HB := Aside0.mk (Below.refl w.heap.size w)
 have H : ((whetstonelaw02_signed.f k).bind fun t677 => (if t677 = true then ((whetstonelaw02_small.f a0_0 l0_1).bind fun t678 => (if t678 = true then ((whetstonelaw02_small.f a1_0 l1_1).bind fun t679 => (whetstonelaw02_BigRests.j0 k (!t679) a0_0 l0_1 a1_0 l1_1)) else (whetstonelaw02_BigRests.j0 k true a0_0 l0_1 a1_0 l1_1))) else (whetstonelaw02_BigRests.j0 k true a0_0 l0_1 a1_0 l1_1))) = some r := h
 clear h
 have HC3 := Aside0.mk H
 clear H
 go_enter Try.func9, Try.ntmps9
 go_upto_region 1 with (first | ((with_reducible refine gate_dst (N := 2) rfl ?_); refine bx (N := 2) #[.bool a0_0, .slice A0_1 l0_1.length c0_1] 24 ?_; intro gb675 hg w4 hbox hb; have BK675 := Aside0.mk (hbox); have GW675 := bz hg HB; have GE675 := bz hg HB; replace HB := bs HB hb; clear hb hbox hg) | ((with_reducible refine gate_dst (N := 3) rfl ?_); refine bx (N := 3) #[.bool a1_0, .slice A1_1 l1_1.length c1_1] 24 ?_; intro gb676 hg w5 hbox hb; have BK676 := Aside0.mk (hbox); have GW676 := bz hg HB; have GE676 := bz hg HB; replace HB := bs HB hb; have NB675_676 := nl hg BK675; have NB676_675 := ng hg BK675; replace BK675 := kb BK675 hb; clear hb hbox hg))
 (try simp only [Act.put, List.setIfInBounds_toArray, List.set_cons_zero, List.set_cons_succ])
 go_cut [24] from 1 to 0 (fun v24 wc => ∃ (kq : Nat) (x24_2 : Bool), v24 = .bool x24_2 ∧ Aside0 (whetstonelaw02_BigRests.j0 kq x24_2 a0_0 l0_1 a1_0 l1_1 = some r) ∧ Aside0 (kq ≤ k) ∧ Aside0 (wc.heap[gb675]? = some (.cells #[.bool a0_0, (.slice A0_1 l0_1.length c0_1)] 24 (0, 0))) ∧ Aside0 (wc.heap[gb676]? = some (.cells #[.bool a1_0, (.slice A1_1 l1_1.length c1_1)] 24 (0, 0))) ∧ Aside0 (Below w.heap.size w wc))
 case first =>
  have H := HC3.out
  clear HC3
  replace H := Option.bind_eq_some_iff.mp H
  obtain ⟨t677, A60, H⟩ := H
  have A6 := Aside0.mk A60
  clear A60
  by_cases c7 : t677 = true
  ·subst c7
   have H1 : ((whetstonelaw02_small.f a0_0 l0_1).bind fun t678 => (if t678 = true then ((whetstonelaw02_small.f a1_0 l1_1).bind fun t679 => (whetstonelaw02_BigRests.j0 k (!t679) a0_0 l0_1 a1_0 l1_1)) else (whetstonelaw02_BigRests.j0 k true a0_0 l0_1 a1_0 l1_1))) = some r := by rw [if_pos rfl] at H; exact H
   clear H
   have H := H1
   clear H1
   replace H := Option.bind_eq_some_iff.mp H
   obtain ⟨t678, A80, H⟩ := H
   have A8 := Aside0.mk A80
   clear A80
   by_cases c9 : t678 = true
   ·subst c9
    have H1 : ((whetstonelaw02_small.f a1_0 l1_1).bind fun t679 => (whetstonelaw02_BigRests.j0 k (!t679) a0_0 l0_1 a1_0 l1_1)) = some r := by rw [if_pos rfl] at H; exact H
    clear H
    have H := H1
    clear H1
    replace H := Option.bind_eq_some_iff.mp H
    obtain ⟨t679, A100, H⟩ := H
    have A10 := Aside0.mk A100
    clear A100
    have H' := Aside0.mk H
    clear H
    go_wp2_with (first | ((with_reducible refine gate_callee (f := 13) rfl ?_); refine gL (N := some 13) Try.func13 #[] ?_; (with_reducible refine (whetstonelaw02_signed.calls k  true _ A6.out).mono ?_); rintro e w11 ⟨rfl, hb⟩; refine ⟨_, rfl, ?_⟩; replace BK675 := kb BK675 hb; replace BK676 := kb BK676 hb; replace HB := bs HB hb; (try clear hb); (try clear hb2); (try clear hk); (try clear hi); have hnb12 := NB675_676.out; have hnc12 := NB676_675.out; have hcz13_0 := bc BK675 0 (.bool a0_0); have hcz13_1 := bc BK675 1 (.slice A0_1 l0_1.length c0_1); have hfz13_0 := blk_frozen BK675.out 0; have hfz13_1 := blk_frozen BK675.out 1) | (go_at_call 12; (with_reducible refine (whetstonelaw02_small.calls a0_0 _ _ l0_1 true _ ?side1 ?side2 A8.out).mono ?_); (case side1 => exact tc (Kd.C_below HR0_1.out HB.out)); (case side2 => exact HC0_1.out); rintro e w14 ⟨rfl, hb⟩; replace BK675 := kb BK675 hb; replace BK676 := kb BK676 hb; replace HB := bs HB hb; (try clear hb); (try clear hb2); (try clear hk); (try clear hi); have hcz15_0 := bc BK676 0 (.bool a1_0); have hcz15_1 := bc BK676 1 (.slice A1_1 l1_1.length c1_1); have hfz15_0 := blk_frozen BK676.out 0; have hfz15_1 := blk_frozen BK676.out 1) | (go_at_call 12; (with_reducible refine (whetstonelaw02_small.calls a1_0 _ _ l1_1 t679 _ ?side1 ?side2 A10.out).mono ?_); (case side1 => exact tc (Kd.C_below HR1_1.out HB.out)); (case side2 => exact HC1_1.out); rintro e w16 ⟨rfl, hb⟩; replace BK675 := kb BK675 hb; replace BK676 := kb BK676 hb; replace HB := bs HB hb; (try clear hb); (try clear hb2); (try clear hk); (try clear hi)))
    go_meet
    case rel => exact ⟨_, (!t679), (by first | rfl | (simp; done) | (simp [*]; done)), H', ⟨by first | omega | exact Nat.le_refl _⟩, ⟨tk BK675⟩, ⟨tk BK676⟩, ⟨tb HB⟩⟩
   ·replace c9 := Bool.eq_false_iff.mpr c9
    subst c9
    have H1 : (whetstonelaw02_BigRests.j0 k true a0_0 l0_1 a1_0 l1_1) = some r := by rw [if_neg (show ¬ (false = true) by decide)] at H; exact H
    clear H
    have H := H1
    clear H1
    have H' := Aside0.mk H
    clear H
    go_wp2_with (first | ((with_reducible refine gate_callee (f := 13) rfl ?_); refine gL (N := some 13) Try.func13 #[] ?_; (with_reducible refine (whetstonelaw02_signed.calls k  true _ A6.out).mono ?_); rintro e w17 ⟨rfl, hb⟩; refine ⟨_, rfl, ?_⟩; replace BK675 := kb BK675 hb; replace BK676 := kb BK676 hb; replace HB := bs HB hb; (try clear hb); (try clear hb2); (try clear hk); (try clear hi); have hnb18 := NB675_676.out; have hnc18 := NB676_675.out; have hcz19_0 := bc BK675 0 (.bool a0_0); have hcz19_1 := bc BK675 1 (.slice A0_1 l0_1.length c0_1); have hfz19_0 := blk_frozen BK675.out 0; have hfz19_1 := blk_frozen BK675.out 1) | (go_at_call 12; (with_reducible refine (whetstonelaw02_small.calls a0_0 _ _ l0_1 false _ ?side1 ?side2 A8.out).mono ?_); (case side1 => exact tc (Kd.C_below HR0_1.out HB.out)); (case side2 => exact HC0_1.out); rintro e w20 ⟨rfl, hb⟩; replace BK675 := kb BK675 hb; replace BK676 := kb BK676 hb; replace HB := bs HB hb; (try clear hb); (try clear hb2); (try clear hk); (try clear hi)))
    go_meet
    case rel => exact ⟨_, (true), (by first | rfl | (simp; done) | (simp [*]; done)), H', ⟨by first | omega | exact Nat.le_refl _⟩, ⟨tk BK675⟩, ⟨tk BK676⟩, ⟨tb HB⟩⟩
  ·replace c7 := Bool.eq_false_iff.mpr c7
   subst c7
   have H1 : (whetstonelaw02_BigRests.j0 k true a0_0 l0_1 a1_0 l1_1) = some r := by rw [if_neg (show ¬ (false = true) by decide)] at H; exact H
   clear H
   have H := H1
   clear H1
   have H' := Aside0.mk H
   clear H
   go_wp2_with (first | ((with_reducible refine gate_callee (f := 13) rfl ?_); refine gL (N := some 13) Try.func13 #[] ?_; (with_reducible refine (whetstonelaw02_signed.calls k  false _ A6.out).mono ?_); rintro e w21 ⟨rfl, hb⟩; refine ⟨_, rfl, ?_⟩; replace BK675 := kb BK675 hb; replace BK676 := kb BK676 hb; replace HB := bs HB hb; (try clear hb); (try clear hb2); (try clear hk); (try clear hi)))
   go_meet
   case rel => exact ⟨_, (true), (by first | rfl | (simp; done) | (simp [*]; done)), H', ⟨by first | omega | exact Nat.le_refl _⟩, ⟨tk BK675⟩, ⟨tk BK676⟩, ⟨tb HB⟩⟩
 case rest =>
  clear HC3
  (try clear c1); (try clear p2); (try clear c7); (try clear c9); (try clear c12); (try clear c13); (try clear c18); (try clear hcz13_0); (try clear hcz13_1); (try clear hcz15_0); (try clear hcz15_1); (try clear hcz19_0); (try clear hcz19_1); (try clear hfz13_0); (try clear hfz13_1); (try clear hfz15_0); (try clear hfz15_1); (try clear hfz19_0); (try clear hfz19_1)
  obtain ⟨kq, x24_2, rfl, HA, HJ2, BK675, BK676, HB⟩ := hcut
  cases kq with
  | zero => exact absurd HA.out (by simp [whetstonelaw02_BigRests.j0])
  | succ kj2 =>
   have H := HA.out
   clear HA
   simp only [whetstonelaw02_BigRests.j0] at H
   by_cases c22 : x24_2 = true
   ·subst c22
    have H1 : ((whetstonelaw02_signed.f kj2).bind fun t680 => (some t680)) = some r := by rw [if_pos rfl] at H; exact H
    clear H
    have H := H1
    clear H1
    replace H := Option.bind_eq_some_iff.mp H
    obtain ⟨t680, A230, H⟩ := H
    have A23 := Aside0.mk A230
    clear A230
    obtain rfl := Option.some.inj H
    go_wp2_with (first | ((with_reducible refine gate_callee (f := 13) rfl ?_); refine gL (N := some 25) Try.func13 #[] ?_; (with_reducible refine (whetstonelaw02_signed.calls kj2  t680 _ A23.out).mono ?_); rintro e w24 ⟨rfl, hb⟩; refine ⟨_, rfl, ?_⟩; replace HB := bs HB hb; (try clear hb); (try clear hb2); (try clear hk); (try clear hi)))
    go_ret
    exact ⟨by first | rfl | (simp [errW_none, errW_some] <;> rfl) | (simp [*, errW_none, errW_some] <;> rfl), tb HB⟩
   ·replace c22 := Bool.eq_false_iff.mpr c22
    subst c22
    have H1 : ((big_DivMod.f kj2 a0_0 l0_1 a1_0 l1_1).bind fun bt681 => ((big_Sign.f kj2 a1_0 l1_1).bind fun t692 => (if t692 = 0 then (if bt681.2.2.2.2 = 0 then (none) else ((big_Sign.f kj2 bt681.1 bt681.2.1).bind fun t693 => (if t693 = 0 then ((big_Sign.f kj2 bt681.2.2.1 bt681.2.2.2.1).bind fun t694 => (some (t694 == 0))) else (none)))) else ((big_Floor.f kj2 a0_0 l0_1 a1_0 l1_1).bind fun bt695 => ((big_Ceil.f kj2 a0_0 l0_1 a1_0 l1_1).bind fun bt701 => (if bt681.2.2.2.2 = 0 then (if bt695.2.2 = 0 then (if bt701.2.2 = 0 then ((big_Sign.f kj2 bt681.2.2.1 bt681.2.2.2.1).bind fun t707 => (if t707 < 0 then (whetstonelaw02_BigRests.j1 kj2 true bt681.2.2.1 bt681.2.2.2.1 bt695.1 bt695.2.1 bt701.1 bt701.2.1) else ((big_Abs.f kj2 a1_0 l1_1).bind fun bt708 => ((big_Cmp.f kj2 bt681.2.2.1 bt681.2.2.2.1 bt708.1 bt708.2).bind fun t712 => (if t712 ≥ 0 then (whetstonelaw02_BigRests.j1 kj2 true bt681.2.2.1 bt681.2.2.2.1 bt695.1 bt695.2.1 bt701.1 bt701.2.1) else ((big_Mul.f kj2 bt681.1 bt681.2.1 a1_0 l1_1).bind fun bt713 => ((big_Add.f kj2 bt713.1 bt713.2 bt681.2.2.1 bt681.2.2.2.1).bind fun bt717 => ((big_Cmp.f kj2 bt717.1 bt717.2 a0_0 l0_1).bind fun t721 => (whetstonelaw02_BigRests.j1 kj2 (t721 != 0) bt681.2.2.1 bt681.2.2.2.1 bt695.1 bt695.2.1 bt701.1 bt701.2.1))))))))) else (whetstonelaw02_BigRests.j1 kj2 true bt681.2.2.1 bt681.2.2.2.1 bt695.1 bt695.2.1 bt701.1 bt701.2.1)) else (whetstonelaw02_BigRests.j1 kj2 true bt681.2.2.1 bt681.2.2.2.1 bt695.1 bt695.2.1 bt701.1 bt701.2.1)) else (whetstonelaw02_BigRests.j1 kj2 true bt681.2.2.1 bt681.2.2.2.1 bt695.1 bt695.2.1 bt701.1 bt701.2.1))))))) = some r := by rw [if_neg (show ¬ (false = true) by decide)] at H; exact H
    clear H
    have H := H1
    clear H1
    replace H := Option.bind_eq_some_iff.mp H
    obtain ⟨⟨t681, t682, t685, t686, t689⟩, A250, H⟩ := H
    try dsimp only at H
    have A25 := Aside0.mk A250
    clear A250
    replace H := Option.bind_eq_some_iff.mp H
    obtain ⟨t692, A260, H⟩ := H
    have A26 := Aside0.mk A260
    clear A260
    by_cases c27 : t692 = 0
    ·rw [if_pos c27] at H
     have c27b0 : (t692 == 0) = true := beq_iff_eq.mpr c27
     have c27b1 : (t692 != 0) = false := bne_eq_false_iff_eq.mpr c27
     clear c27
     by_cases c28 : t689 = 0
     ·rw [if_pos c28] at H
      exact absurd H (by simp)
     ·rw [if_neg c28] at H
      have c28b0 : (t689 == 0) = false := beq_eq_false_iff_ne.mpr c28
      have c28b1 : (t689 != 0) = true := bne_iff_ne.mpr c28
      replace H := Option.bind_eq_some_iff.mp H
      obtain ⟨t693, A290, H⟩ := H
      have A29 := Aside0.mk A290
      clear A290
      by_cases c30 : t693 = 0
      ·rw [if_pos c30] at H
       have c30b0 : (t693 == 0) = true := beq_iff_eq.mpr c30
       have c30b1 : (t693 != 0) = false := bne_eq_false_iff_eq.mpr c30
       clear c30
       replace H := Option.bind_eq_some_iff.mp H
       obtain ⟨t694, A310, H⟩ := H
       have A31 := Aside0.mk A310
       clear A310
       obtain rfl := Option.some.inj H
       have hnb32 := NB675_676.out
       have hnc32 := NB676_675.out
       have hcz33_0 := bc BK675 0 (.bool a0_0)
       have hcz33_1 := bc BK675 1 (.slice A0_1 l0_1.length c0_1)
       have hfz33_0 := blk_frozen BK675.out 0
       have hfz33_1 := blk_frozen BK675.out 1
       have hcz34_0 := bc BK676 0 (.bool a1_0)
       have hcz34_1 := bc BK676 1 (.slice A1_1 l1_1.length c1_1)
       have hfz34_0 := blk_frozen BK676.out 0
       have hfz34_1 := blk_frozen BK676.out 1
       go_wp2_with (first | ((with_reducible refine gate_callee (f := 33) rfl ?_); refine gL (N := some 29) Try.func33 #[.agg #[.bool a0_0, .slice A0_1 l0_1.length c0_1], .agg #[.bool a1_0, .slice A1_1 l1_1.length c1_1]] ?_; (with_reducible refine (big_DivMod.calls kj2 a0_0 _ _ l0_1 a1_0 _ _ l1_1 t681 t682 t685 t686 t689 _ ?side1 ?side2 ?side3 ?side4 A25.out).mono ?_); (case side1 => exact tc (Kd.C_below HR0_1.out HB.out)); (case side2 => exact HC0_1.out); (case side3 => exact tc (Kd.C_below HR1_1.out HB.out)); (case side4 => exact HC1_1.out); rintro e w35 ⟨v683, v687, rfl, ho0, ho1, hb⟩; refine ⟨_, rfl, ?_⟩; have HO684 := rl ho0 HB; have HO688 := rl ho1 HB; replace BK675 := kb BK675 hb; replace BK676 := kb BK676 hb; replace HB := bs HB hb; (try clear hb); (try clear hb2); (try clear hk); (try clear hi); (try clear ho0); (try clear ho1)) | ((with_reducible refine gate_dst (N := 5) rfl ?_); refine bx (N := 5) #[.bool false, .slice none 0 0] 24 ?_; intro gb690 hg w36 hbox hb; replace HO684 := rb HO684 hb; replace HO688 := rb HO688 hb; have BK690 := Aside0.mk (hbox); have GW690 := bz hg HB; have GE690 := bz hg HB; replace HB := bs HB hb; have NB675_690 := nl hg BK675; have NB690_675 := ng hg BK675; replace BK675 := kb BK675 hb; have NB676_690 := nl hg BK676; have NB690_676 := ng hg BK676; replace BK676 := kb BK676 hb; clear hb hbox hg) | ((with_reducible refine gate_dst (N := 6) rfl ?_); refine bx (N := 6) #[.bool false, .slice none 0 0] 24 ?_; intro gb691 hg w37 hbox hb; replace HO684 := rb HO684 hb; replace HO688 := rb HO688 hb; have BK691 := Aside0.mk (hbox); have GW691 := bz hg HB; have GE691 := bz hg HB; replace HB := bs HB hb; have NB675_691 := nl hg BK675; have NB691_675 := ng hg BK675; have NB676_691 := nl hg BK676; have NB691_676 := ng hg BK676; replace BK676 := kb BK676 hb; have NB690_691 := nl hg BK690; have NB691_690 := ng hg BK690; replace BK690 := kb BK690 hb; clear hb hbox hg; have hnb38 := NB690_675.out; have hnc38 := NB675_690.out; have hnb39 := NB690_676.out; have hnc39 := NB676_690.out; have hnb40 := NB690_691.out; have hnc40 := NB691_690.out; have hcz41_0 := bc BK690 0 (.bool false); have hcz41_1 := bc BK690 1 (.slice none 0 0); have hfz41_0 := blk_frozen BK690.out 0; have hfz41_1 := blk_frozen BK690.out 1; obtain ⟨Ao42, co42, eo42⟩ := Kd.R_slice HO684.out; subst eo42; have hnb43 := NB691_675.out; have hnc43 := NB675_691.out; have hnb44 := NB691_676.out; have hnc44 := NB676_691.out; have hcz45_0 := bc BK691 0 (.bool false); have hcz45_1 := bc BK691 1 (.slice none 0 0); have hfz45_0 := blk_frozen BK691.out 0; have hfz45_1 := blk_frozen BK691.out 1; obtain ⟨Ao46, co46, eo46⟩ := Kd.R_slice HO688.out; subst eo46; have hcz47_0 := bc BK676 0 (.bool a1_0); have hcz47_1 := bc BK676 1 (.slice A1_1 l1_1.length c1_1); have hfz47_0 := blk_frozen BK676.out 0; have hfz47_1 := blk_frozen BK676.out 1) | ((with_reducible refine gate_callee (f := 26) rfl ?_); refine gL (N := some 34) Try.func26 #[.agg #[.bool a1_0, .slice A1_1 l1_1.length c1_1]] ?_; (with_reducible refine (big_Sign.calls kj2 a1_0 _ _ l1_1 t692 _ ?side1 ?side2 A26.out).mono ?_); (case side1 => exact Kd.C_below HR1_1.out (tb HB)); (case side2 => exact HC1_1.out); rintro e w48 ⟨rfl, hb⟩; refine ⟨_, rfl, ?_⟩; replace HO684 := rt HO684 hb; replace HO688 := rt HO688 hb; replace BK690 := kb (o' := .cells #[.bool t681, .slice Ao42 t682.length co42] 24 (0, 0)) BK690 hb; replace BK691 := kb (o' := .cells #[.bool t685, .slice Ao46 t686.length co46] 24 (0, 0)) BK691 hb; replace HB := bs HB hb; (try clear hb); (try clear hb2); (try clear hk); (try clear hi); have hcz49_0 := bc BK690 0 (.bool t681); have hcz49_1 := bc BK690 1 (.slice Ao42 t682.length co42); have hfz49_0 := blk_frozen BK690.out 0; have hfz49_1 := blk_frozen BK690.out 1) | (go_at_call 26; (with_reducible refine (big_Sign.calls kj2 t681 _ _ t682 t693 _ ?side1 ?side2 A29.out).mono ?_); (case side1 => exact tc (Kd.R_reads' HO684.out).2.2); (case side2 => exact (Kd.R_reads' HO684.out).2.1); rintro e w50 ⟨rfl, hb⟩; replace HO688 := rb HO688 hb; replace BK691 := kb BK691 hb; replace HB := bs HB hb; (try clear hb); (try clear hb2); (try clear hk); (try clear hi); have hcz51_0 := bc BK691 0 (.bool t685); have hcz51_1 := bc BK691 1 (.slice Ao46 t686.length co46); have hfz51_0 := blk_frozen BK691.out 0; have hfz51_1 := blk_frozen BK691.out 1) | (go_at_call 26; (with_reducible refine (big_Sign.calls kj2 t685 _ _ t686 t694 _ ?side1 ?side2 A31.out).mono ?_); (case side1 => exact tc (Kd.R_reads' HO688.out).2.2); (case side2 => exact (Kd.R_reads' HO688.out).2.1); rintro e w52 ⟨rfl, hb⟩; replace HB := bs HB hb; (try clear hb); (try clear hb2); (try clear hk); (try clear hi)))
       go_ret
       exact ⟨by first | rfl | (simp [errW_none, errW_some] <;> rfl) | (simp [*, errW_none, errW_some] <;> rfl), tb HB⟩
      ·rw [if_neg c30] at H
       exact absurd H (by simp)
    ·rw [if_neg c27] at H
     have c27b0 : (t692 == 0) = false := beq_eq_false_iff_ne.mpr c27
     have c27b1 : (t692 != 0) = true := bne_iff_ne.mpr c27
     replace H := Option.bind_eq_some_iff.mp H
     obtain ⟨⟨t695, t696, t699⟩, A530, H⟩ := H
     try dsimp only at H
     have A53 := Aside0.mk A530
     clear A530
     replace H := Option.bind_eq_some_iff.mp H
     obtain ⟨⟨t701, t702, t705⟩, A540, H⟩ := H
     try dsimp only at H
     have A54 := Aside0.mk A540
     clear A540
     have HC55 := Aside0.mk H
     clear H
     have hnb56 := NB675_676.out
     have hnc56 := NB676_675.out
     have hcz57_0 := bc BK675 0 (.bool a0_0)
     have hcz57_1 := bc BK675 1 (.slice A0_1 l0_1.length c0_1)
     have hfz57_0 := blk_frozen BK675.out 0
     have hfz57_1 := blk_frozen BK675.out 1
     have hcz58_0 := bc BK676 0 (.bool a1_0)
     have hcz58_1 := bc BK676 1 (.slice A1_1 l1_1.length c1_1)
     have hfz58_0 := blk_frozen BK676.out 0
     have hfz58_1 := blk_frozen BK676.out 1
     go_upto_region 8 with (first | ((with_reducible refine gate_callee (f := 33) rfl ?_); refine gL (N := some 29) Try.func33 #[.agg #[.bool a0_0, .slice A0_1 l0_1.length c0_1], .agg #[.bool a1_0, .slice A1_1 l1_1.length c1_1]] ?_; (with_reducible refine (big_DivMod.calls kj2 a0_0 _ _ l0_1 a1_0 _ _ l1_1 t681 t682 t685 t686 t689 _ ?side1 ?side2 ?side3 ?side4 A25.out).mono ?_); (case side1 => exact tc (Kd.C_below HR0_1.out HB.out)); (case side2 => exact HC0_1.out); (case side3 => exact tc (Kd.C_below HR1_1.out HB.out)); (case side4 => exact HC1_1.out); rintro e w59 ⟨v683, v687, rfl, ho0, ho1, hb⟩; refine ⟨_, rfl, ?_⟩; have HO684 := rl ho0 HB; have HO688 := rl ho1 HB; replace BK675 := kb BK675 hb; replace BK676 := kb BK676 hb; replace HB := bs HB hb; (try clear hb); (try clear hb2); (try clear hk); (try clear hi); (try clear ho0); (try clear ho1)) | ((with_reducible refine gate_dst (N := 5) rfl ?_); refine bx (N := 5) #[.bool false, .slice none 0 0] 24 ?_; intro gb690 hg w60 hbox hb; replace HO684 := rb HO684 hb; replace HO688 := rb HO688 hb; have BK690 := Aside0.mk (hbox); have GW690 := bz hg HB; have GE690 := bz hg HB; replace HB := bs HB hb; have NB675_690 := nl hg BK675; have NB690_675 := ng hg BK675; replace BK675 := kb BK675 hb; have NB676_690 := nl hg BK676; have NB690_676 := ng hg BK676; replace BK676 := kb BK676 hb; clear hb hbox hg) | ((with_reducible refine gate_dst (N := 6) rfl ?_); refine bx (N := 6) #[.bool false, .slice none 0 0] 24 ?_; intro gb691 hg w61 hbox hb; replace HO684 := rb HO684 hb; replace HO688 := rb HO688 hb; have BK691 := Aside0.mk (hbox); have GW691 := bz hg HB; have GE691 := bz hg HB; replace HB := bs HB hb; have NB675_691 := nl hg BK675; have NB691_675 := ng hg BK675; replace BK675 := kb BK675 hb; have NB676_691 := nl hg BK676; have NB691_676 := ng hg BK676; replace BK676 := kb BK676 hb; have NB690_691 := nl hg BK690; have NB691_690 := ng hg BK690; replace BK690 := kb BK690 hb; clear hb hbox hg; have hnb62 := NB690_675.out; have hnc62 := NB675_690.out; have hnb63 := NB690_676.out; have hnc63 := NB676_690.out; have hnb64 := NB690_691.out; have hnc64 := NB691_690.out; have hcz65_0 := bc BK690 0 (.bool false); have hcz65_1 := bc BK690 1 (.slice none 0 0); have hfz65_0 := blk_frozen BK690.out 0; have hfz65_1 := blk_frozen BK690.out 1; obtain ⟨Ao66, co66, eo66⟩ := Kd.R_slice HO684.out; subst eo66; have hnb67 := NB691_675.out; have hnc67 := NB675_691.out; have hnb68 := NB691_676.out; have hnc68 := NB676_691.out; have hcz69_0 := bc BK691 0 (.bool false); have hcz69_1 := bc BK691 1 (.slice none 0 0); have hfz69_0 := blk_frozen BK691.out 0; have hfz69_1 := blk_frozen BK691.out 1; obtain ⟨Ao70, co70, eo70⟩ := Kd.R_slice HO688.out; subst eo70; have hcz71_0 := bc BK676 0 (.bool a1_0); have hcz71_1 := bc BK676 1 (.slice A1_1 l1_1.length c1_1); have hfz71_0 := blk_frozen BK676.out 0; have hfz71_1 := blk_frozen BK676.out 1) | ((with_reducible refine gate_callee (f := 26) rfl ?_); refine gL (N := some 34) Try.func26 #[.agg #[.bool a1_0, .slice A1_1 l1_1.length c1_1]] ?_; (with_reducible refine (big_Sign.calls kj2 a1_0 _ _ l1_1 t692 _ ?side1 ?side2 A26.out).mono ?_); (case side1 => exact Kd.C_below HR1_1.out (tb HB)); (case side2 => exact HC1_1.out); rintro e w72 ⟨rfl, hb⟩; refine ⟨_, rfl, ?_⟩; replace HO684 := rt HO684 hb; replace HO688 := rt HO688 hb; replace BK675 := kb BK675 hb; replace BK676 := kb BK676 hb; replace BK690 := kb (o' := .cells #[.bool t681, .slice Ao66 t682.length co66] 24 (0, 0)) BK690 hb; replace BK691 := kb (o' := .cells #[.bool t685, .slice Ao70 t686.length co70] 24 (0, 0)) BK691 hb; replace HB := bs HB hb; (try clear hb); (try clear hb2); (try clear hk); (try clear hi); have hcz73_0 := bc BK675 0 (.bool a0_0); have hcz73_1 := bc BK675 1 (.slice A0_1 l0_1.length c0_1); have hfz73_0 := blk_frozen BK675.out 0; have hfz73_1 := blk_frozen BK675.out 1; have hcz74_0 := bc BK676 0 (.bool a1_0); have hcz74_1 := bc BK676 1 (.slice A1_1 l1_1.length c1_1); have hfz74_0 := blk_frozen BK676.out 0; have hfz74_1 := blk_frozen BK676.out 1) | ((with_reducible refine gate_callee (f := 35) rfl ?_); refine gL (N := some 51) Try.func35 #[.agg #[.bool a0_0, .slice A0_1 l0_1.length c0_1], .agg #[.bool a1_0, .slice A1_1 l1_1.length c1_1]] ?_; (with_reducible refine (big_Floor.calls kj2 a0_0 _ _ l0_1 a1_0 _ _ l1_1 t695 t696 t699 _ ?side1 ?side2 ?side3 ?side4 A53.out).mono ?_); (case side1 => exact tc (Kd.C_below HR0_1.out HB.out)); (case side2 => exact HC0_1.out); (case side3 => exact tc (Kd.C_below HR1_1.out HB.out)); (case side4 => exact HC1_1.out); rintro e w75 ⟨v697, rfl, ho0, hb⟩; refine ⟨_, rfl, ?_⟩; have HO698 := Aside0.mk (Kd.R_lower (Kd.R_new' (Kd.R_new' ho0 (Kd.R_lt (tq HO684))) (Kd.R_lt (tq HO688))) (below_size (tb HB))); replace HO684 := re HO684 (Kd.R_base ho0) hb; replace HO688 := re HO688 (Kd.R_base ho0) hb; replace BK675 := kb BK675 hb; replace BK676 := kb BK676 hb; replace BK690 := kb BK690 hb; replace BK691 := kb BK691 hb; replace HB := bs HB hb; (try clear hb); (try clear hb2); (try clear hk); (try clear hi); (try clear ho0)) | ((with_reducible refine gate_dst (N := 8) rfl ?_); refine bx (N := 8) #[.bool false, .slice none 0 0] 24 ?_; intro gb700 hg w76 hbox hb; replace HO684 := rb HO684 hb; replace HO688 := rb HO688 hb; replace HO698 := rb HO698 hb; have BK700 := Aside0.mk (hbox); have GW700 := bz hg HB; have GE700 := bz hg HB; replace HB := bs HB hb; have NB675_700 := nl hg BK675; have NB700_675 := ng hg BK675; replace BK675 := kb BK675 hb; have NB676_700 := nl hg BK676; have NB700_676 := ng hg BK676; replace BK676 := kb BK676 hb; have NB690_700 := nl hg BK690; have NB700_690 := ng hg BK690; replace BK690 := kb BK690 hb; have NB691_700 := nl hg BK691; have NB700_691 := ng hg BK691; replace BK691 := kb BK691 hb; clear hb hbox hg; have hnb77 := NB700_675.out; have hnc77 := NB675_700.out; have hnb78 := NB700_676.out; have hnc78 := NB676_700.out; have hnb79 := NB700_690.out; have hnc79 := NB690_700.out; have hnb80 := NB700_691.out; have hnc80 := NB691_700.out; have hcz81_0 := bc BK700 0 (.bool false); have hcz81_1 := bc BK700 1 (.slice none 0 0); have hfz81_0 := blk_frozen BK700.out 0; have hfz81_1 := blk_frozen BK700.out 1; obtain ⟨Ao82, co82, eo82⟩ := Kd.R_slice HO698.out; subst eo82; have hcz83_0 := bc BK675 0 (.bool a0_0); have hcz83_1 := bc BK675 1 (.slice A0_1 l0_1.length c0_1); have hfz83_0 := blk_frozen BK675.out 0; have hfz83_1 := blk_frozen BK675.out 1; have hcz84_0 := bc BK676 0 (.bool a1_0); have hcz84_1 := bc BK676 1 (.slice A1_1 l1_1.length c1_1); have hfz84_0 := blk_frozen BK676.out 0; have hfz84_1 := blk_frozen BK676.out 1) | ((with_reducible refine gate_callee (f := 37) rfl ?_); refine gL (N := some 57) Try.func37 #[.agg #[.bool a0_0, .slice A0_1 l0_1.length c0_1], .agg #[.bool a1_0, .slice A1_1 l1_1.length c1_1]] ?_; (with_reducible refine (big_Ceil.calls kj2 a0_0 _ _ l0_1 a1_0 _ _ l1_1 t701 t702 t705 _ ?side1 ?side2 ?side3 ?side4 A54.out).mono ?_); (case side1 => exact Kd.C_below HR0_1.out (tb HB)); (case side2 => exact HC0_1.out); (case side3 => exact Kd.C_below HR1_1.out (tb HB)); (case side4 => exact HC1_1.out); rintro e w85 ⟨v703, rfl, ho0, hb⟩; refine ⟨_, rfl, ?_⟩; have HO704 := Aside0.mk (Kd.R_lower (Kd.R_new' (Kd.R_new' (Kd.R_new' ho0 (Kd.R_lt (by (with_reducible repeat first | apply qa | apply qn | apply qd); exact (Kd.R_mono (Kd.R_far (p := ⟨gb700, 1, none⟩) (Kd.R_far (p := ⟨gb700, 0, none⟩) (Kd.R_types HO684.out BK700.out (by decide)) (fun _ hk => hk.2) (.bool t695)) (fun _ hk => hk.2) (.slice Ao82 t696.length co82)) (fun _ h_ => h_.1))))) (Kd.R_lt (by (with_reducible repeat first | apply qa | apply qn | apply qd); exact (Kd.R_mono (Kd.R_far (p := ⟨gb700, 1, none⟩) (Kd.R_far (p := ⟨gb700, 0, none⟩) (Kd.R_types HO688.out BK700.out (by decide)) (fun _ hk => hk.2) (.bool t695)) (fun _ hk => hk.2) (.slice Ao82 t696.length co82)) (fun _ h_ => h_.1))))) (Kd.R_lt (by (with_reducible repeat first | apply qa | apply qn | apply qd); exact (Kd.R_mono (Kd.R_far (p := ⟨gb700, 1, none⟩) (Kd.R_far (p := ⟨gb700, 0, none⟩) (Kd.R_types HO698.out BK700.out (by decide)) (fun _ hk => hk.2) (.bool t695)) (fun _ hk => hk.2) (.slice Ao82 t696.length co82)) (fun _ h_ => h_.1))))) (below_size (tb HB))); replace HO684 := Aside0.mk (Kd.R_elder' (by (with_reducible repeat first | apply qa | apply qn | apply qd); exact (Kd.R_mono (Kd.R_far (p := ⟨gb700, 1, none⟩) (Kd.R_far (p := ⟨gb700, 0, none⟩) (Kd.R_types HO684.out BK700.out (by decide)) (fun _ hk => hk.2) (.bool t695)) (fun _ hk => hk.2) (.slice Ao82 t696.length co82)) (fun _ h_ => h_.1))) (Kd.R_base ho0) hb); replace HO688 := Aside0.mk (Kd.R_elder' (by (with_reducible repeat first | apply qa | apply qn | apply qd); exact (Kd.R_mono (Kd.R_far (p := ⟨gb700, 1, none⟩) (Kd.R_far (p := ⟨gb700, 0, none⟩) (Kd.R_types HO688.out BK700.out (by decide)) (fun _ hk => hk.2) (.bool t695)) (fun _ hk => hk.2) (.slice Ao82 t696.length co82)) (fun _ h_ => h_.1))) (Kd.R_base ho0) hb); replace HO698 := Aside0.mk (Kd.R_elder' (by (with_reducible repeat first | apply qa | apply qn | apply qd); exact (Kd.R_mono (Kd.R_far (p := ⟨gb700, 1, none⟩) (Kd.R_far (p := ⟨gb700, 0, none⟩) (Kd.R_types HO698.out BK700.out (by decide)) (fun _ hk => hk.2) (.bool t695)) (fun _ hk => hk.2) (.slice Ao82 t696.length co82)) (fun _ h_ => h_.1))) (Kd.R_base ho0) hb); replace BK675 := kb BK675 hb; replace BK676 := kb BK676 hb; replace BK690 := kb BK690 hb; replace BK691 := kb BK691 hb; replace BK700 := kb (o' := .cells #[.bool t695, .slice Ao82 t696.length co82] 24 (0, 0)) BK700 hb; replace HB := bs HB hb; (try clear hb); (try clear hb2); (try clear hk); (try clear hi); (try clear ho0)) | ((with_reducible refine gate_dst (N := 10) rfl ?_); refine bx (N := 10) #[.bool false, .slice none 0 0] 24 ?_; intro gb706 hg w86 hbox hb; replace HO684 := rb HO684 hb; replace HO688 := rb HO688 hb; replace HO698 := rb HO698 hb; replace HO704 := rb HO704 hb; have BK706 := Aside0.mk (hbox); have GW706 := bz hg HB; have GE706 := bz hg HB; replace HB := bs HB hb; have NB675_706 := nl hg BK675; have NB706_675 := ng hg BK675; replace BK675 := kb BK675 hb; have NB676_706 := nl hg BK676; have NB706_676 := ng hg BK676; replace BK676 := kb BK676 hb; have NB690_706 := nl hg BK690; have NB706_690 := ng hg BK690; replace BK690 := kb BK690 hb; have NB691_706 := nl hg BK691; have NB706_691 := ng hg BK691; replace BK691 := kb BK691 hb; have NB700_706 := nl hg BK700; have NB706_700 := ng hg BK700; replace BK700 := kb BK700 hb; clear hb hbox hg; have hnb87 := NB706_675.out; have hnc87 := NB675_706.out; have hnb88 := NB706_676.out; have hnc88 := NB676_706.out; have hnb89 := NB706_690.out; have hnc89 := NB690_706.out; have hnb90 := NB706_691.out; have hnc90 := NB691_706.out; have hnb91 := NB706_700.out; have hnc91 := NB700_706.out; have hcz92_0 := bc BK706 0 (.bool false); have hcz92_1 := bc BK706 1 (.slice none 0 0); have hfz92_0 := blk_frozen BK706.out 0; have hfz92_1 := blk_frozen BK706.out 1; obtain ⟨Ao93, co93, eo93⟩ := Kd.R_slice HO704.out; subst eo93))
     (try simp only [Act.put, List.setIfInBounds_toArray, List.set_cons_zero, List.set_cons_succ])
     go_cut [91] from 1 to 0 (fun v91 wc => ∃ (kq : Nat) (x91_54 : Bool), v91 = .bool x91_54 ∧ Aside0 (whetstonelaw02_BigRests.j1 kq x91_54 t685 t686 t695 t696 t701 t702 = some r) ∧ Aside0 (kq ≤ kj2) ∧ Aside0 (Kd.R (Kd.int .u32) 87 wc w.heap.size (fun k_ => some k_ ≠ ((.slice Ao70 t686.length co70) : Value).ownBlock ∧ some k_ ≠ ((.slice Ao82 t696.length co82) : Value).ownBlock ∧ some k_ ≠ ((.slice Ao93 t702.length co93) : Value).ownBlock) (.slice Ao66 t682.length co66) t682) ∧ Aside0 (Kd.R (Kd.int .u32) 87 wc w.heap.size (fun k_ => some k_ ≠ ((.slice Ao66 t682.length co66) : Value).ownBlock ∧ some k_ ≠ ((.slice Ao82 t696.length co82) : Value).ownBlock ∧ some k_ ≠ ((.slice Ao93 t702.length co93) : Value).ownBlock) (.slice Ao70 t686.length co70) t686) ∧ Aside0 (Kd.R (Kd.int .u32) 87 wc w.heap.size (fun k_ => some k_ ≠ ((.slice Ao66 t682.length co66) : Value).ownBlock ∧ some k_ ≠ ((.slice Ao70 t686.length co70) : Value).ownBlock ∧ some k_ ≠ ((.slice Ao93 t702.length co93) : Value).ownBlock) (.slice Ao82 t696.length co82) t696) ∧ Aside0 (Kd.R (Kd.int .u32) 87 wc w.heap.size (fun k_ => some k_ ≠ ((.slice Ao66 t682.length co66) : Value).ownBlock ∧ some k_ ≠ ((.slice Ao70 t686.length co70) : Value).ownBlock ∧ some k_ ≠ ((.slice Ao82 t696.length co82) : Value).ownBlock) (.slice Ao93 t702.length co93) t702) ∧ Aside0 (wc.heap[gb675]? = some (.cells #[.bool a0_0, (.slice A0_1 l0_1.length c0_1)] 24 (0, 0))) ∧ Aside0 (wc.heap[gb676]? = some (.cells #[.bool a1_0, (.slice A1_1 l1_1.length c1_1)] 24 (0, 0))) ∧ Aside0 (wc.heap[gb690]? = some (.cells #[.bool t681, (.slice Ao66 t682.length co66)] 24 (0, 0))) ∧ Aside0 (wc.heap[gb691]? = some (.cells #[.bool t685, (.slice Ao70 t686.length co70)] 24 (0, 0))) ∧ Aside0 (wc.heap[gb700]? = some (.cells #[.bool t695, (.slice Ao82 t696.length co82)] 24 (0, 0))) ∧ Aside0 (wc.heap[gb706]? = some (.cells #[.bool t701, (.slice Ao93 t702.length co93)] 24 (0, 0))) ∧ Aside0 (Below w.heap.size w wc))
     case first =>
      have H := HC55.out
      clear HC55
      by_cases c94 : t689 = 0
      ·rw [if_pos c94] at H
       have c94b0 : (t689 == 0) = true := beq_iff_eq.mpr c94
       have c94b1 : (t689 != 0) = false := bne_eq_false_iff_eq.mpr c94
       clear c94
       (first | rw [c94b0] | rw [c94b1] | (simp only [i64_w, i32_w]; rw [c94b0]) | skip)
       by_cases c95 : t699 = 0
       ·rw [if_pos c95] at H
        have c95b0 : (t699 == 0) = true := beq_iff_eq.mpr c95
        have c95b1 : (t699 != 0) = false := bne_eq_false_iff_eq.mpr c95
        clear c95
        by_cases c96 : t705 = 0
        ·rw [if_pos c96] at H
         have c96b0 : (t705 == 0) = true := beq_iff_eq.mpr c96
         have c96b1 : (t705 != 0) = false := bne_eq_false_iff_eq.mpr c96
         clear c96
         replace H := Option.bind_eq_some_iff.mp H
         obtain ⟨t707, A970, H⟩ := H
         have A97 := Aside0.mk A970
         clear A970
         by_cases c98 : t707 < 0
         ·rw [if_pos c98] at H
          have c98b0 : decide (t707 < 0) = true := decide_eq_true c98
          clear c98
          have H' := Aside0.mk H
          clear H
          try go_wp2
          have n0_ : Aside0 (Kd.R (Kd.int .u32) 87 ((w86.setCell ⟨gb706, 0, none⟩ (.bool t701)).setCell ⟨gb706, 1, none⟩ (.slice Ao93 t702.length co93)) w.heap.size (fun k_ => some k_ ≠ (.slice Ao70 t686.length co70 : Value).ownBlock ∧ some k_ ≠ (.slice Ao82 t696.length co82 : Value).ownBlock ∧ some k_ ≠ (.slice Ao93 t702.length co93 : Value).ownBlock) (.slice Ao66 t682.length co66) t682) := ⟨by (with_reducible repeat first | apply qa | apply qn | apply qd); exact Kd.R_mono (Kd.R_far (p := ⟨gb706, 1, none⟩) (Kd.R_far (p := ⟨gb706, 0, none⟩) (Kd.R_types HO684.out BK706.out (by decide)) (fun _ hk => hk.2) (.bool t701)) (fun _ hk => hk.2) (.slice Ao93 t702.length co93)) (fun _ hk => ⟨hk.1.1.1, ⟨hk.1.1.2, hk.1.2⟩⟩)⟩
          have n1_ : Aside0 (Kd.R (Kd.int .u32) 87 ((w86.setCell ⟨gb706, 0, none⟩ (.bool t701)).setCell ⟨gb706, 1, none⟩ (.slice Ao93 t702.length co93)) w.heap.size (fun k_ => some k_ ≠ (.slice Ao66 t682.length co66 : Value).ownBlock ∧ some k_ ≠ (.slice Ao82 t696.length co82 : Value).ownBlock ∧ some k_ ≠ (.slice Ao93 t702.length co93 : Value).ownBlock) (.slice Ao70 t686.length co70) t686) := ⟨by (with_reducible repeat first | apply qa | apply qn | apply qd); exact Kd.R_mono (Kd.R_far (p := ⟨gb706, 1, none⟩) (Kd.R_far (p := ⟨gb706, 0, none⟩) (Kd.R_types HO688.out BK706.out (by decide)) (fun _ hk => hk.2) (.bool t701)) (fun _ hk => hk.2) (.slice Ao93 t702.length co93)) (fun _ hk => ⟨hk.1.1.1, ⟨hk.1.1.2, hk.1.2⟩⟩)⟩
          have n2_ : Aside0 (Kd.R (Kd.int .u32) 87 ((w86.setCell ⟨gb706, 0, none⟩ (.bool t701)).setCell ⟨gb706, 1, none⟩ (.slice Ao93 t702.length co93)) w.heap.size (fun k_ => some k_ ≠ (.slice Ao66 t682.length co66 : Value).ownBlock ∧ some k_ ≠ (.slice Ao70 t686.length co70 : Value).ownBlock ∧ some k_ ≠ (.slice Ao93 t702.length co93 : Value).ownBlock) (.slice Ao82 t696.length co82) t696) := ⟨by (with_reducible repeat first | apply qa | apply qn | apply qd); exact Kd.R_mono (Kd.R_far (p := ⟨gb706, 1, none⟩) (Kd.R_far (p := ⟨gb706, 0, none⟩) (Kd.R_types HO698.out BK706.out (by decide)) (fun _ hk => hk.2) (.bool t701)) (fun _ hk => hk.2) (.slice Ao93 t702.length co93)) (fun _ hk => ⟨hk.1.1.1.2, ⟨hk.1.1.2, hk.1.2⟩⟩)⟩
          have n3_ : Aside0 (Kd.R (Kd.int .u32) 87 ((w86.setCell ⟨gb706, 0, none⟩ (.bool t701)).setCell ⟨gb706, 1, none⟩ (.slice Ao93 t702.length co93)) w.heap.size (fun k_ => some k_ ≠ (.slice Ao66 t682.length co66 : Value).ownBlock ∧ some k_ ≠ (.slice Ao70 t686.length co70 : Value).ownBlock ∧ some k_ ≠ (.slice Ao82 t696.length co82 : Value).ownBlock) (.slice Ao93 t702.length co93) t702) := ⟨by (with_reducible repeat first | apply qa | apply qn | apply qd); exact Kd.R_mono (Kd.R_far (p := ⟨gb706, 1, none⟩) (Kd.R_far (p := ⟨gb706, 0, none⟩) (Kd.R_types HO704.out BK706.out (by decide)) (fun _ hk => hk.2) (.bool t701)) (fun _ hk => hk.2) (.slice Ao93 t702.length co93)) (fun _ hk => ⟨hk.1.1.1.2, ⟨hk.1.1.2, hk.1.2⟩⟩)⟩
          have n4_ : Aside0 (((w86.setCell ⟨gb706, 0, none⟩ (.bool t701)).setCell ⟨gb706, 1, none⟩ (.slice Ao93 t702.length co93)).heap[gb675]? = some (.cells #[.bool a0_0, .slice A0_1 l0_1.length c0_1] 24 (0, 0))) := ⟨tk BK675⟩
          have n5_ : Aside0 (((w86.setCell ⟨gb706, 0, none⟩ (.bool t701)).setCell ⟨gb706, 1, none⟩ (.slice Ao93 t702.length co93)).heap[gb676]? = some (.cells #[.bool a1_0, .slice A1_1 l1_1.length c1_1] 24 (0, 0))) := ⟨tk BK676⟩
          have n6_ : Aside0 (((w86.setCell ⟨gb706, 0, none⟩ (.bool t701)).setCell ⟨gb706, 1, none⟩ (.slice Ao93 t702.length co93)).heap[gb690]? = some (.cells #[.bool t681, .slice Ao66 t682.length co66] 24 (0, 0))) := ⟨tk BK690⟩
          have n7_ : Aside0 (((w86.setCell ⟨gb706, 0, none⟩ (.bool t701)).setCell ⟨gb706, 1, none⟩ (.slice Ao93 t702.length co93)).heap[gb691]? = some (.cells #[.bool t685, .slice Ao70 t686.length co70] 24 (0, 0))) := ⟨tk BK691⟩
          have n8_ : Aside0 (((w86.setCell ⟨gb706, 0, none⟩ (.bool t701)).setCell ⟨gb706, 1, none⟩ (.slice Ao93 t702.length co93)).heap[gb700]? = some (.cells #[.bool t695, .slice Ao82 t696.length co82] 24 (0, 0))) := ⟨tk BK700⟩
          have n9_ : Aside0 (((w86.setCell ⟨gb706, 0, none⟩ (.bool t701)).setCell ⟨gb706, 1, none⟩ (.slice Ao93 t702.length co93)).heap[gb706]? = some (.cells #[.bool t701, .slice Ao93 t702.length co93] 24 (0, 0))) := ⟨tk BK706⟩
          have n10_ : Aside0 (Below w.heap.size w ((w86.setCell ⟨gb706, 0, none⟩ (.bool t701)).setCell ⟨gb706, 1, none⟩ (.slice Ao93 t702.length co93))) := ⟨tb HB⟩
          (try clear HO684); (try clear HO688); (try clear HO698); (try clear HO704); (try clear BK675); (try clear BK676); (try clear BK690); (try clear BK691); (try clear BK700); (try clear BK706); (try clear HB)
          generalize ((w86.setCell ⟨gb706, 0, none⟩ (.bool t701)).setCell ⟨gb706, 1, none⟩ (.slice Ao93 t702.length co93)) = w99 at n0_ n1_ n2_ n3_ n4_ n5_ n6_ n7_ n8_ n9_ n10_ ⊢
          have HO684 := n0_
          have HO688 := n1_
          have HO698 := n2_
          have HO704 := n3_
          have BK675 := n4_
          have BK676 := n5_
          have BK690 := n6_
          have BK691 := n7_
          have BK700 := n8_
          have BK706 := n9_
          have HB := n10_
          clear n0_ n1_ n2_ n3_ n4_ n5_ n6_ n7_ n8_ n9_ n10_
          replace HO684 := Aside0.mk (Kd.R_drew HO684.out)
          replace HO688 := Aside0.mk (Kd.R_drew HO688.out)
          replace HO698 := Aside0.mk (Kd.R_drew HO698.out)
          replace HO704 := Aside0.mk (Kd.R_drew HO704.out)
          replace BK675 := Aside0.mk (blk_drew BK675.out)
          replace BK676 := Aside0.mk (blk_drew BK676.out)
          replace BK690 := Aside0.mk (blk_drew BK690.out)
          replace BK691 := Aside0.mk (blk_drew BK691.out)
          replace BK700 := Aside0.mk (blk_drew BK700.out)
          replace BK706 := Aside0.mk (blk_drew BK706.out)
          replace HB := Aside0.mk (below_drew1 HB.out)
          refine start_ (n := 32) (S := fun w' => w'.cell? ⟨gb691, 0, none⟩ = some (.bool t685) ∧ w'.cell? ⟨gb691, 1, none⟩ = some (.slice Ao70 t686.length co70)) (ds := []) #[false, false, false, false, false, false, false, false, false, false, false, false, false, false, false, false, false, false, false, false, false, false, false, false, false, false, false, false, false, false, false, false] (by kernel_rfl) rfl rfl ⟨(blk_cell BK691.out 0).trans rfl, (blk_cell BK691.out 1).trans rfl⟩ (fun hHeld => ?_); refine with_tabW whetstonelaw02_BigRests.tab8 whetstonelaw02_BigRests.bits8 (fun HT_ HW_ => ?_)
          generalize w99.drew = w100 at HO684 HO688 HO698 HO704 BK675 BK676 BK690 BK691 BK700 BK706 HB hHeld ⊢
          refine pT (i := 0) (N := some 60) (bb 32 1) HT_ ?_
          refine pT (i := 1) (N := some 61) (bb 32 3) HT_ ?_
          refine pT (i := 2) (N := some 62) (bb 32 7) HT_ ?_
          refine pT (i := 3) (N := some 63) (bb 32 15) HT_ ?_
          refine pT (i := 4) (N := some 64) (bb 32 31) HT_ ?_
          refine pT (i := 5) (N := some 65) (bb 32 63) HT_ ?_
          refine pT (i := 6) (N := some 66) (bb 32 127) HT_ ?_
          refine pT (i := 7) (N := some 67) (bb 32 255) HT_ ?_
          refine pT (i := 8) (N := some 68) (bb 32 511) HT_ ?_
          refine pT (i := 9) (N := some 69) (bb 32 1023) HT_ ?_
          refine pT (i := 10) (N := some 70) (bb 32 2047) HT_ ?_
          refine tW (i := 11) (N := some 71) (bb 32 4095) HT_ HW_ hHeld ?_
          refine oT (i := 12) (N := some 72) (bb 32 8191) HT_ fun K hK => ?_
          refine gS Try.func26 #[.agg #[.bool t685, .slice Ao70 t686.length co70]] ?_
          with_reducible refine (big_Sign.calls kj2 t685 _ _ t686 t707 _ ?side1 ?side2 A97.out).mono ?_
          (case side1 => exact tc (Kd.R_reads' HO688.out).2.2)
          (case side2 => exact (Kd.R_reads' HO688.out).2.1)
          rintro e w101 ⟨rfl, hb⟩
          refine ⟨_, rfl, ?_⟩
          replace HO684 := rb HO684 hb
          replace HO688 := rb HO688 hb
          replace HO698 := rb HO698 hb
          replace HO704 := rb HO704 hb
          replace BK675 := kb BK675 hb
          replace BK676 := kb BK676 hb
          replace BK690 := kb BK690 hb
          replace BK691 := kb BK691 hb
          replace BK700 := kb BK700 hb
          replace BK706 := kb BK706 hb
          replace HB := bs HB hb
          (try clear hb); (try clear hb2); (try clear hk); (try clear hi)
          refine hK.out _ _ ⟨(blk_cell BK691.out 0).trans rfl, (blk_cell BK691.out 1).trans rfl⟩ fun hHeld => nT (N := some 72) ?_
          clear hK K
          refine pT (i := 13) (N := some 73) (bb 32 16383) HT_ ?_
          refine pT (i := 14) (N := some 74) (bb 32 32767) HT_ ?_
          refine pT (i := 15) (N := some 75) (bb 32 65535) HT_ ?_
          refine pure_ (i := 16) (N := some 76) (v := undef) (a' := ?_) #[true, true, true, true, true, true, true, true, true, true, true, true, true, true, true, true, true, false, false, false, false, false, false, false, false, false, false, false, false, false, false, false] rfl rfl (any_of HT_.out (by kernel_rfl)) (fun _ _ _ h => h) (Or.inr ⟨by rfl, rfl⟩) ?_ ?_
          rotate_left
          ·simp only [Act.put, List.setIfInBounds_toArray, List.set_cons_zero, List.set_cons_succ, i64_w, i32_w]
           rfl
          refine pure_ (i := 17) (N := some 77) (v := undef) (a' := ?_) #[true, true, true, true, true, true, true, true, true, true, true, true, true, true, true, true, true, true, false, false, false, false, false, false, false, false, false, false, false, false, false, false] rfl rfl (any_of HT_.out (by kernel_rfl)) (fun _ _ _ h => h) (Or.inr ⟨by rfl, rfl⟩) ?_ ?_
          rotate_left
          ·simp only [Act.put, List.setIfInBounds_toArray, List.set_cons_zero, List.set_cons_succ, i64_w, i32_w]
           rfl
          refine pure_ (i := 18) (N := some 78) (v := undef) (a' := ?_) #[true, true, true, true, true, true, true, true, true, true, true, true, true, true, true, true, true, true, true, false, false, false, false, false, false, false, false, false, false, false, false, false] rfl rfl (any_of HT_.out (by kernel_rfl)) (fun _ _ _ h => h) (Or.inr ⟨by rfl, rfl⟩) ?_ ?_
          rotate_left
          ·simp only [Act.put, List.setIfInBounds_toArray, List.set_cons_zero, List.set_cons_succ, i64_w, i32_w]
           rfl
          refine pure_ (i := 19) (N := some 79) (v := undef) (a' := ?_) #[true, true, true, true, true, true, true, true, true, true, true, true, true, true, true, true, true, true, true, true, false, false, false, false, false, false, false, false, false, false, false, false] rfl rfl (any_of HT_.out (by kernel_rfl)) (fun _ _ _ h => h) (Or.inr ⟨by rfl, rfl⟩) ?_ ?_
          rotate_left
          ·simp only [Act.put, List.setIfInBounds_toArray, List.set_cons_zero, List.set_cons_succ, i64_w, i32_w]
           rfl
          refine pure_ (i := 20) (N := some 80) (v := undef) (a' := ?_) #[true, true, true, true, true, true, true, true, true, true, true, true, true, true, true, true, true, true, true, true, true, false, false, false, false, false, false, false, false, false, false, false] rfl rfl (any_of HT_.out (by kernel_rfl)) (fun _ _ _ h => h) (Or.inr ⟨by rfl, rfl⟩) ?_ ?_
          rotate_left
          ·simp only [Act.put, List.setIfInBounds_toArray, List.set_cons_zero, List.set_cons_succ, i64_w, i32_w]
           rfl
          refine pT (i := 21) (N := some 81) (bb 32 4194303) HT_ ?_
          refine pT (i := 22) (N := some 82) (bb 32 8388607) HT_ ?_
          refine pure_ (i := 23) (N := some 83) (v := undef) (a' := ?_) #[true, true, true, true, true, true, true, true, true, true, true, true, true, true, true, true, true, true, true, true, true, true, true, true, false, false, false, false, false, false, false, false] rfl rfl (any_of HT_.out (by kernel_rfl)) (fun _ _ _ h => h) (Or.inr ⟨by rfl, rfl⟩) ?_ ?_
          rotate_left
          ·simp only [Act.put, List.setIfInBounds_toArray, List.set_cons_zero, List.set_cons_succ, i64_w, i32_w]
           rfl
          refine pure_ (i := 24) (N := some 84) (v := undef) (a' := ?_) #[true, true, true, true, true, true, true, true, true, true, true, true, true, true, true, true, true, true, true, true, true, true, true, true, true, false, false, false, false, false, false, false] rfl rfl (any_of HT_.out (by kernel_rfl)) (fun _ _ _ h => h) (Or.inr ⟨by rfl, rfl⟩) ?_ ?_
          rotate_left
          ·simp only [Act.put, List.setIfInBounds_toArray, List.set_cons_zero, List.set_cons_succ, i64_w, i32_w]
           rfl
          refine pure_ (i := 25) (N := some 85) (v := undef) (a' := ?_) #[true, true, true, true, true, true, true, true, true, true, true, true, true, true, true, true, true, true, true, true, true, true, true, true, true, true, false, false, false, false, false, false] rfl rfl (any_of HT_.out (by kernel_rfl)) (fun _ _ _ h => h) (Or.inr ⟨by rfl, rfl⟩) ?_ ?_
          rotate_left
          ·simp only [Act.put, List.setIfInBounds_toArray, List.set_cons_zero, List.set_cons_succ, i64_w, i32_w]
           rfl
          refine pure_ (i := 26) (N := some 86) (v := undef) (a' := ?_) #[true, true, true, true, true, true, true, true, true, true, true, true, true, true, true, true, true, true, true, true, true, true, true, true, true, true, true, false, false, false, false, false] rfl rfl (any_of HT_.out (by kernel_rfl)) (fun _ _ _ h => h) (Or.inr ⟨by rfl, rfl⟩) ?_ ?_
          rotate_left
          ·simp only [Act.put, List.setIfInBounds_toArray, List.set_cons_zero, List.set_cons_succ, i64_w, i32_w]
           rfl
          refine pure_ (i := 27) (N := some 87) (v := undef) (a' := ?_) #[true, true, true, true, true, true, true, true, true, true, true, true, true, true, true, true, true, true, true, true, true, true, true, true, true, true, true, true, false, false, false, false] rfl rfl (any_of HT_.out (by kernel_rfl)) (fun _ _ _ h => h) (Or.inr ⟨by rfl, rfl⟩) ?_ ?_
          rotate_left
          ·simp only [Act.put, List.setIfInBounds_toArray, List.set_cons_zero, List.set_cons_succ, i64_w, i32_w]
           rfl
          refine pure_ (i := 28) (N := some 88) (v := undef) (a' := ?_) #[true, true, true, true, true, true, true, true, true, true, true, true, true, true, true, true, true, true, true, true, true, true, true, true, true, true, true, true, true, false, false, false] rfl rfl (any_of HT_.out (by kernel_rfl)) (fun _ _ _ h => h) (Or.inr ⟨by rfl, rfl⟩) ?_ ?_
          rotate_left
          ·simp only [Act.put, List.setIfInBounds_toArray, List.set_cons_zero, List.set_cons_succ, i64_w, i32_w]
           rfl
          refine pure_ (i := 29) (N := some 89) (v := undef) (a' := ?_) #[true, true, true, true, true, true, true, true, true, true, true, true, true, true, true, true, true, true, true, true, true, true, true, true, true, true, true, true, true, true, false, false] rfl rfl (any_of HT_.out (by kernel_rfl)) (fun _ _ _ h => h) (Or.inr ⟨by rfl, rfl⟩) ?_ ?_
          rotate_left
          ·simp only [Act.put, List.setIfInBounds_toArray, List.set_cons_zero, List.set_cons_succ, i64_w, i32_w]
           rfl
          refine pure_ (i := 30) (N := some 90) (v := undef) (a' := ?_) #[true, true, true, true, true, true, true, true, true, true, true, true, true, true, true, true, true, true, true, true, true, true, true, true, true, true, true, true, true, true, true, false] rfl rfl (any_of HT_.out (by kernel_rfl)) (fun _ _ _ h => h) (Or.inr ⟨by rfl, rfl⟩) ?_ ?_
          rotate_left
          ·simp only [Act.put, List.setIfInBounds_toArray, List.set_cons_zero, List.set_cons_succ, i64_w, i32_w]
           rfl
          refine pT (i := 31) (N := some 91) (bb 32 4294967295) HT_ ?_
          refine done_ (done_of HT_.out (by kernel_rfl)) ?_
          try go_wp2
          go_meet
          case rel => exact ⟨_, (true), (by first | rfl | (simp; done) | (simp [*]; done)), H', ⟨by have := HJ2.out; first | omega | exact Nat.le_refl _⟩, ⟨tq HO684⟩, ⟨tq HO688⟩, ⟨tq HO698⟩, ⟨tq HO704⟩, ⟨tk BK675⟩, ⟨tk BK676⟩, ⟨tk BK690⟩, ⟨tk BK691⟩, ⟨tk BK700⟩, ⟨tk BK706⟩, ⟨tb HB⟩⟩
         ·rw [if_neg c98] at H
          have c98b0 : decide (t707 < 0) = false := decide_eq_false c98
          clear c98
          replace H := Option.bind_eq_some_iff.mp H
          obtain ⟨⟨t708, t709⟩, A1020, H⟩ := H
          try dsimp only at H
          have A102 := Aside0.mk A1020
          clear A1020
          replace H := Option.bind_eq_some_iff.mp H
          obtain ⟨t712, A1030, H⟩ := H
          have A103 := Aside0.mk A1030
          clear A1030
          by_cases c104 : t712 ≥ 0
          ·rw [if_pos c104] at H
           have c104b0 : decide (0 ≤ t712) = true := decide_eq_true c104
           clear c104
           have H' := Aside0.mk H
           clear H
           try go_wp2
           have n0_ : Aside0 (Kd.R (Kd.int .u32) 87 ((w86.setCell ⟨gb706, 0, none⟩ (.bool t701)).setCell ⟨gb706, 1, none⟩ (.slice Ao93 t702.length co93)) w.heap.size (fun k_ => some k_ ≠ (.slice Ao70 t686.length co70 : Value).ownBlock ∧ some k_ ≠ (.slice Ao82 t696.length co82 : Value).ownBlock ∧ some k_ ≠ (.slice Ao93 t702.length co93 : Value).ownBlock) (.slice Ao66 t682.length co66) t682) := ⟨by (with_reducible repeat first | apply qa | apply qn | apply qd); exact Kd.R_mono (Kd.R_far (p := ⟨gb706, 1, none⟩) (Kd.R_far (p := ⟨gb706, 0, none⟩) (Kd.R_types HO684.out BK706.out (by decide)) (fun _ hk => hk.2) (.bool t701)) (fun _ hk => hk.2) (.slice Ao93 t702.length co93)) (fun _ hk => ⟨hk.1.1.1, ⟨hk.1.1.2, hk.1.2⟩⟩)⟩
           have n1_ : Aside0 (Kd.R (Kd.int .u32) 87 ((w86.setCell ⟨gb706, 0, none⟩ (.bool t701)).setCell ⟨gb706, 1, none⟩ (.slice Ao93 t702.length co93)) w.heap.size (fun k_ => some k_ ≠ (.slice Ao66 t682.length co66 : Value).ownBlock ∧ some k_ ≠ (.slice Ao82 t696.length co82 : Value).ownBlock ∧ some k_ ≠ (.slice Ao93 t702.length co93 : Value).ownBlock) (.slice Ao70 t686.length co70) t686) := ⟨by (with_reducible repeat first | apply qa | apply qn | apply qd); exact Kd.R_mono (Kd.R_far (p := ⟨gb706, 1, none⟩) (Kd.R_far (p := ⟨gb706, 0, none⟩) (Kd.R_types HO688.out BK706.out (by decide)) (fun _ hk => hk.2) (.bool t701)) (fun _ hk => hk.2) (.slice Ao93 t702.length co93)) (fun _ hk => ⟨hk.1.1.1, ⟨hk.1.1.2, hk.1.2⟩⟩)⟩
           have n2_ : Aside0 (Kd.R (Kd.int .u32) 87 ((w86.setCell ⟨gb706, 0, none⟩ (.bool t701)).setCell ⟨gb706, 1, none⟩ (.slice Ao93 t702.length co93)) w.heap.size (fun k_ => some k_ ≠ (.slice Ao66 t682.length co66 : Value).ownBlock ∧ some k_ ≠ (.slice Ao70 t686.length co70 : Value).ownBlock ∧ some k_ ≠ (.slice Ao93 t702.length co93 : Value).ownBlock) (.slice Ao82 t696.length co82) t696) := ⟨by (with_reducible repeat first | apply qa | apply qn | apply qd); exact Kd.R_mono (Kd.R_far (p := ⟨gb706, 1, none⟩) (Kd.R_far (p := ⟨gb706, 0, none⟩) (Kd.R_types HO698.out BK706.out (by decide)) (fun _ hk => hk.2) (.bool t701)) (fun _ hk => hk.2) (.slice Ao93 t702.length co93)) (fun _ hk => ⟨hk.1.1.1.2, ⟨hk.1.1.2, hk.1.2⟩⟩)⟩
           have n3_ : Aside0 (Kd.R (Kd.int .u32) 87 ((w86.setCell ⟨gb706, 0, none⟩ (.bool t701)).setCell ⟨gb706, 1, none⟩ (.slice Ao93 t702.length co93)) w.heap.size (fun k_ => some k_ ≠ (.slice Ao66 t682.length co66 : Value).ownBlock ∧ some k_ ≠ (.slice Ao70 t686.length co70 : Value).ownBlock ∧ some k_ ≠ (.slice Ao82 t696.length co82 : Value).ownBlock) (.slice Ao93 t702.length co93) t702) := ⟨by (with_reducible repeat first | apply qa | apply qn | apply qd); exact Kd.R_mono (Kd.R_far (p := ⟨gb706, 1, none⟩) (Kd.R_far (p := ⟨gb706, 0, none⟩) (Kd.R_types HO704.out BK706.out (by decide)) (fun _ hk => hk.2) (.bool t701)) (fun _ hk => hk.2) (.slice Ao93 t702.length co93)) (fun _ hk => ⟨hk.1.1.1.2, ⟨hk.1.1.2, hk.1.2⟩⟩)⟩
           have n4_ : Aside0 (((w86.setCell ⟨gb706, 0, none⟩ (.bool t701)).setCell ⟨gb706, 1, none⟩ (.slice Ao93 t702.length co93)).heap[gb675]? = some (.cells #[.bool a0_0, .slice A0_1 l0_1.length c0_1] 24 (0, 0))) := ⟨tk BK675⟩
           have n5_ : Aside0 (((w86.setCell ⟨gb706, 0, none⟩ (.bool t701)).setCell ⟨gb706, 1, none⟩ (.slice Ao93 t702.length co93)).heap[gb676]? = some (.cells #[.bool a1_0, .slice A1_1 l1_1.length c1_1] 24 (0, 0))) := ⟨tk BK676⟩
           have n6_ : Aside0 (((w86.setCell ⟨gb706, 0, none⟩ (.bool t701)).setCell ⟨gb706, 1, none⟩ (.slice Ao93 t702.length co93)).heap[gb690]? = some (.cells #[.bool t681, .slice Ao66 t682.length co66] 24 (0, 0))) := ⟨tk BK690⟩
           have n7_ : Aside0 (((w86.setCell ⟨gb706, 0, none⟩ (.bool t701)).setCell ⟨gb706, 1, none⟩ (.slice Ao93 t702.length co93)).heap[gb691]? = some (.cells #[.bool t685, .slice Ao70 t686.length co70] 24 (0, 0))) := ⟨tk BK691⟩
           have n8_ : Aside0 (((w86.setCell ⟨gb706, 0, none⟩ (.bool t701)).setCell ⟨gb706, 1, none⟩ (.slice Ao93 t702.length co93)).heap[gb700]? = some (.cells #[.bool t695, .slice Ao82 t696.length co82] 24 (0, 0))) := ⟨tk BK700⟩
           have n9_ : Aside0 (((w86.setCell ⟨gb706, 0, none⟩ (.bool t701)).setCell ⟨gb706, 1, none⟩ (.slice Ao93 t702.length co93)).heap[gb706]? = some (.cells #[.bool t701, .slice Ao93 t702.length co93] 24 (0, 0))) := ⟨tk BK706⟩
           have n10_ : Aside0 (Below w.heap.size w ((w86.setCell ⟨gb706, 0, none⟩ (.bool t701)).setCell ⟨gb706, 1, none⟩ (.slice Ao93 t702.length co93))) := ⟨tb HB⟩
           (try clear HO684); (try clear HO688); (try clear HO698); (try clear HO704); (try clear BK675); (try clear BK676); (try clear BK690); (try clear BK691); (try clear BK700); (try clear BK706); (try clear HB)
           generalize ((w86.setCell ⟨gb706, 0, none⟩ (.bool t701)).setCell ⟨gb706, 1, none⟩ (.slice Ao93 t702.length co93)) = w105 at n0_ n1_ n2_ n3_ n4_ n5_ n6_ n7_ n8_ n9_ n10_ ⊢
           have HO684 := n0_
           have HO688 := n1_
           have HO698 := n2_
           have HO704 := n3_
           have BK675 := n4_
           have BK676 := n5_
           have BK690 := n6_
           have BK691 := n7_
           have BK700 := n8_
           have BK706 := n9_
           have HB := n10_
           clear n0_ n1_ n2_ n3_ n4_ n5_ n6_ n7_ n8_ n9_ n10_
           replace HO684 := Aside0.mk (Kd.R_drew HO684.out)
           replace HO688 := Aside0.mk (Kd.R_drew HO688.out)
           replace HO698 := Aside0.mk (Kd.R_drew HO698.out)
           replace HO704 := Aside0.mk (Kd.R_drew HO704.out)
           replace BK675 := Aside0.mk (blk_drew BK675.out)
           replace BK676 := Aside0.mk (blk_drew BK676.out)
           replace BK690 := Aside0.mk (blk_drew BK690.out)
           replace BK691 := Aside0.mk (blk_drew BK691.out)
           replace BK700 := Aside0.mk (blk_drew BK700.out)
           replace BK706 := Aside0.mk (blk_drew BK706.out)
           replace HB := Aside0.mk (below_drew1 HB.out)
           refine start_ (n := 32) (S := fun w' => w'.cell? ⟨gb691, 0, none⟩ = some (.bool t685) ∧ w'.cell? ⟨gb691, 1, none⟩ = some (.slice Ao70 t686.length co70) ∧ w'.cell? ⟨gb676, 0, none⟩ = some (.bool a1_0) ∧ w'.cell? ⟨gb676, 1, none⟩ = some (.slice A1_1 l1_1.length c1_1)) (ds := []) #[false, false, false, false, false, false, false, false, false, false, false, false, false, false, false, false, false, false, false, false, false, false, false, false, false, false, false, false, false, false, false, false] (by kernel_rfl) rfl rfl ⟨(blk_cell BK691.out 0).trans rfl, (blk_cell BK691.out 1).trans rfl, (blk_cell BK676.out 0).trans rfl, (blk_cell BK676.out 1).trans rfl⟩ (fun hHeld => ?_); refine with_tabW whetstonelaw02_BigRests.tab8 whetstonelaw02_BigRests.bits8 (fun HT_ HW_ => ?_)
           generalize w105.drew = w106 at HO684 HO688 HO698 HO704 BK675 BK676 BK690 BK691 BK700 BK706 HB hHeld ⊢
           refine pT (i := 0) (N := some 60) (bb 32 1) HT_ ?_
           refine pT (i := 1) (N := some 61) (bb 32 3) HT_ ?_
           refine pT (i := 2) (N := some 62) (bb 32 7) HT_ ?_
           refine pT (i := 3) (N := some 63) (bb 32 15) HT_ ?_
           refine pT (i := 4) (N := some 64) (bb 32 31) HT_ ?_
           refine pT (i := 5) (N := some 65) (bb 32 63) HT_ ?_
           refine pT (i := 6) (N := some 66) (bb 32 127) HT_ ?_
           refine pT (i := 7) (N := some 67) (bb 32 255) HT_ ?_
           refine pT (i := 8) (N := some 68) (bb 32 511) HT_ ?_
           refine pT (i := 9) (N := some 69) (bb 32 1023) HT_ ?_
           refine pT (i := 10) (N := some 70) (bb 32 2047) HT_ ?_
           refine tW (i := 11) (N := some 71) (bb 32 4095) HT_ HW_ hHeld ?_
           refine oT (i := 12) (N := some 72) (bb 32 8191) HT_ fun K hK => ?_
           refine gS Try.func26 #[.agg #[.bool t685, .slice Ao70 t686.length co70]] ?_
           with_reducible refine (big_Sign.calls kj2 t685 _ _ t686 t707 _ ?side1 ?side2 A97.out).mono ?_
           (case side1 => exact tc (Kd.R_reads' HO688.out).2.2)
           (case side2 => exact (Kd.R_reads' HO688.out).2.1)
           rintro e w107 ⟨rfl, hb⟩
           refine ⟨_, rfl, ?_⟩
           replace HO684 := rb HO684 hb
           replace HO688 := rb HO688 hb
           replace HO698 := rb HO698 hb
           replace HO704 := rb HO704 hb
           replace BK675 := kb BK675 hb
           replace BK676 := kb BK676 hb
           replace BK690 := kb BK690 hb
           replace BK691 := kb BK691 hb
           replace BK700 := kb BK700 hb
           replace BK706 := kb BK706 hb
           replace HB := bs HB hb
           (try clear hb); (try clear hb2); (try clear hk); (try clear hi)
           refine hK.out _ _ ⟨(blk_cell BK691.out 0).trans rfl, (blk_cell BK691.out 1).trans rfl, (blk_cell BK676.out 0).trans rfl, (blk_cell BK676.out 1).trans rfl⟩ fun hHeld => nT (N := some 72) ?_
           clear hK K
           refine pT (i := 13) (N := some 73) (bb 32 16383) HT_ ?_
           refine pT (i := 14) (N := some 74) (bb 32 32767) HT_ ?_
           refine pT (i := 15) (N := some 75) (bb 32 65535) HT_ ?_
           refine tW (i := 16) (N := some 76) (bb 32 131071) HT_ HW_ hHeld ?_
           refine tW (i := 17) (N := some 77) (bb 32 262143) HT_ HW_ hHeld ?_
           refine oT (i := 18) (N := some 78) (bb 32 524287) HT_ fun K hK => ?_
           refine gS Try.func30 #[.agg #[.bool a1_0, .slice A1_1 l1_1.length c1_1]] ?_
           with_reducible refine (big_Abs.calls kj2 a1_0 _ _ l1_1 t708 t709 _ ?side1 ?side2 A102.out).mono ?_
           (case side1 => exact tc (Kd.C_below HR1_1.out HB.out))
           (case side2 => exact HC1_1.out)
           rintro e w108 ⟨v710, rfl, ho0, hb⟩
           refine ⟨_, rfl, ?_⟩
           have HO711 := Aside0.mk (Kd.R_lower (Kd.R_new' (Kd.R_new' (Kd.R_new' (Kd.R_new' ho0 (Kd.R_lt (tq HO684))) (Kd.R_lt (tq HO688))) (Kd.R_lt (tq HO698))) (Kd.R_lt (tq HO704))) (below_size (tb HB)))
           replace HO684 := re HO684 (Kd.R_base ho0) hb
           replace HO688 := re HO688 (Kd.R_base ho0) hb
           replace HO698 := re HO698 (Kd.R_base ho0) hb
           replace HO704 := re HO704 (Kd.R_base ho0) hb
           replace BK675 := kb BK675 hb
           replace BK676 := kb BK676 hb
           replace BK690 := kb BK690 hb
           replace BK691 := kb BK691 hb
           replace BK700 := kb BK700 hb
           replace BK706 := kb BK706 hb
           replace HB := bs HB hb
           (try clear hb); (try clear hb2); (try clear hk); (try clear hi); (try clear ho0)
           obtain ⟨Ao109, co109, eo109⟩ := Kd.R_slice HO711.out
           (first | subst eo109 | (injection eo109 with f1_ f2_ f3_; have f4_ := f1_.symm; have f5_ := f3_.symm; clear f1_ f2_ f3_; subst f4_; subst f5_))
           refine hK.out _ _ ⟨(blk_cell BK691.out 0).trans rfl, (blk_cell BK691.out 1).trans rfl, (blk_cell BK676.out 0).trans rfl, (blk_cell BK676.out 1).trans rfl⟩ fun hHeld => nT (N := some 78) ?_
           clear hK K
           refine oT (i := 19) (N := some 79) (bb 32 1048575) HT_ fun K hK => ?_
           refine gS Try.func24 #[.agg #[.bool t685, .slice Ao70 t686.length co70], .agg #[.bool t708, .slice Ao109 t709.length co109]] ?_
           with_reducible refine (big_Cmp.calls kj2 t685 _ _ t686 t708 _ _ t709 t712 _ ?side1 ?side2 ?side3 ?side4 A103.out).mono ?_
           (case side1 => exact tc (Kd.R_reads' HO688.out).2.2)
           (case side2 => exact (Kd.R_reads' HO688.out).2.1)
           (case side3 => exact tc (Kd.R_reads' HO711.out).2.2)
           (case side4 => exact (Kd.R_reads' HO711.out).2.1)
           rintro e w110 ⟨rfl, hb⟩
           refine ⟨_, rfl, ?_⟩
           replace HO684 := rb HO684 hb
           replace HO688 := rb HO688 hb
           replace HO698 := rb HO698 hb
           replace HO704 := rb HO704 hb
           replace BK675 := kb BK675 hb
           replace BK676 := kb BK676 hb
           replace BK690 := kb BK690 hb
           replace BK691 := kb BK691 hb
           replace BK700 := kb BK700 hb
           replace BK706 := kb BK706 hb
           replace HB := bs HB hb
           (try clear hb); (try clear hb2); (try clear hk); (try clear hi)
           refine hK.out _ _ ⟨(blk_cell BK691.out 0).trans rfl, (blk_cell BK691.out 1).trans rfl, (blk_cell BK676.out 0).trans rfl, (blk_cell BK676.out 1).trans rfl⟩ fun hHeld => nT (N := some 79) ?_
           clear hK K
           refine pT (i := 20) (N := some 80) (bb 32 2097151) HT_ ?_
           refine pT (i := 21) (N := some 81) (bb 32 4194303) HT_ ?_
           refine pT (i := 22) (N := some 82) (bb 32 8388607) HT_ ?_
           refine pure_ (i := 23) (N := some 83) (v := undef) (a' := ?_) #[true, true, true, true, true, true, true, true, true, true, true, true, true, true, true, true, true, true, true, true, true, true, true, true, false, false, false, false, false, false, false, false] rfl rfl (any_of HT_.out (by kernel_rfl)) (fun _ _ _ h => h) (Or.inr ⟨by rfl, rfl⟩) ?_ ?_
           rotate_left
           ·simp only [Act.put, List.setIfInBounds_toArray, List.set_cons_zero, List.set_cons_succ, i64_w, i32_w]
            rfl
           refine pure_ (i := 24) (N := some 84) (v := undef) (a' := ?_) #[true, true, true, true, true, true, true, true, true, true, true, true, true, true, true, true, true, true, true, true, true, true, true, true, true, false, false, false, false, false, false, false] rfl rfl (any_of HT_.out (by kernel_rfl)) (fun _ _ _ h => h) (Or.inr ⟨by rfl, rfl⟩) ?_ ?_
           rotate_left
           ·simp only [Act.put, List.setIfInBounds_toArray, List.set_cons_zero, List.set_cons_succ, i64_w, i32_w]
            rfl
           refine pure_ (i := 25) (N := some 85) (v := undef) (a' := ?_) #[true, true, true, true, true, true, true, true, true, true, true, true, true, true, true, true, true, true, true, true, true, true, true, true, true, true, false, false, false, false, false, false] rfl rfl (any_of HT_.out (by kernel_rfl)) (fun _ _ _ h => h) (Or.inr ⟨by rfl, rfl⟩) ?_ ?_
           rotate_left
           ·simp only [Act.put, List.setIfInBounds_toArray, List.set_cons_zero, List.set_cons_succ, i64_w, i32_w]
            rfl
           refine pure_ (i := 26) (N := some 86) (v := undef) (a' := ?_) #[true, true, true, true, true, true, true, true, true, true, true, true, true, true, true, true, true, true, true, true, true, true, true, true, true, true, true, false, false, false, false, false] rfl rfl (any_of HT_.out (by kernel_rfl)) (fun _ _ _ h => h) (Or.inr ⟨by rfl, rfl⟩) ?_ ?_
           rotate_left
           ·simp only [Act.put, List.setIfInBounds_toArray, List.set_cons_zero, List.set_cons_succ, i64_w, i32_w]
            rfl
           refine pure_ (i := 27) (N := some 87) (v := undef) (a' := ?_) #[true, true, true, true, true, true, true, true, true, true, true, true, true, true, true, true, true, true, true, true, true, true, true, true, true, true, true, true, false, false, false, false] rfl rfl (any_of HT_.out (by kernel_rfl)) (fun _ _ _ h => h) (Or.inr ⟨by rfl, rfl⟩) ?_ ?_
           rotate_left
           ·simp only [Act.put, List.setIfInBounds_toArray, List.set_cons_zero, List.set_cons_succ, i64_w, i32_w]
            rfl
           refine pure_ (i := 28) (N := some 88) (v := undef) (a' := ?_) #[true, true, true, true, true, true, true, true, true, true, true, true, true, true, true, true, true, true, true, true, true, true, true, true, true, true, true, true, true, false, false, false] rfl rfl (any_of HT_.out (by kernel_rfl)) (fun _ _ _ h => h) (Or.inr ⟨by rfl, rfl⟩) ?_ ?_
           rotate_left
           ·simp only [Act.put, List.setIfInBounds_toArray, List.set_cons_zero, List.set_cons_succ, i64_w, i32_w]
            rfl
           refine pure_ (i := 29) (N := some 89) (v := undef) (a' := ?_) #[true, true, true, true, true, true, true, true, true, true, true, true, true, true, true, true, true, true, true, true, true, true, true, true, true, true, true, true, true, true, false, false] rfl rfl (any_of HT_.out (by kernel_rfl)) (fun _ _ _ h => h) (Or.inr ⟨by rfl, rfl⟩) ?_ ?_
           rotate_left
           ·simp only [Act.put, List.setIfInBounds_toArray, List.set_cons_zero, List.set_cons_succ, i64_w, i32_w]
            rfl
           refine pure_ (i := 30) (N := some 90) (v := undef) (a' := ?_) #[true, true, true, true, true, true, true, true, true, true, true, true, true, true, true, true, true, true, true, true, true, true, true, true, true, true, true, true, true, true, true, false] rfl rfl (any_of HT_.out (by kernel_rfl)) (fun _ _ _ h => h) (Or.inr ⟨by rfl, rfl⟩) ?_ ?_
           rotate_left
           ·simp only [Act.put, List.setIfInBounds_toArray, List.set_cons_zero, List.set_cons_succ, i64_w, i32_w]
            rfl
           refine pT (i := 31) (N := some 91) (bb 32 4294967295) HT_ ?_
           refine done_ (done_of HT_.out (by kernel_rfl)) ?_
           try go_wp2
           go_meet
           case rel => exact ⟨_, (true), (by first | rfl | (simp; done) | (simp [*]; done)), H', ⟨by have := HJ2.out; first | omega | exact Nat.le_refl _⟩, ⟨by (with_reducible repeat first | apply qa | apply qn | apply qd); exact Kd.R_mono HO684.out (fun _ hk => ⟨hk.1.1, ⟨hk.1.2.1, hk.1.2.2⟩⟩)⟩, ⟨by (with_reducible repeat first | apply qa | apply qn | apply qd); exact Kd.R_mono HO688.out (fun _ hk => ⟨hk.1.1, ⟨hk.1.2.1, hk.1.2.2⟩⟩)⟩, ⟨by (with_reducible repeat first | apply qa | apply qn | apply qd); exact Kd.R_mono HO698.out (fun _ hk => ⟨hk.1.1, ⟨hk.1.2.1, hk.1.2.2⟩⟩)⟩, ⟨by (with_reducible repeat first | apply qa | apply qn | apply qd); exact Kd.R_mono HO704.out (fun _ hk => ⟨hk.1.1, ⟨hk.1.2.1, hk.1.2.2⟩⟩)⟩, ⟨tk BK675⟩, ⟨tk BK676⟩, ⟨tk BK690⟩, ⟨tk BK691⟩, ⟨tk BK700⟩, ⟨tk BK706⟩, ⟨tb HB⟩⟩
          ·rw [if_neg c104] at H
           have c104b0 : decide (0 ≤ t712) = false := decide_eq_false c104
           clear c104
           replace H := Option.bind_eq_some_iff.mp H
           obtain ⟨⟨t713, t714⟩, A1110, H⟩ := H
           try dsimp only at H
           have A111 := Aside0.mk A1110
           clear A1110
           replace H := Option.bind_eq_some_iff.mp H
           obtain ⟨⟨t717, t718⟩, A1120, H⟩ := H
           try dsimp only at H
           have A112 := Aside0.mk A1120
           clear A1120
           replace H := Option.bind_eq_some_iff.mp H
           obtain ⟨t721, A1130, H⟩ := H
           have A113 := Aside0.mk A1130
           clear A1130
           have H' := Aside0.mk H
           clear H
           try go_wp2
           have n0_ : Aside0 (Kd.R (Kd.int .u32) 87 ((w86.setCell ⟨gb706, 0, none⟩ (.bool t701)).setCell ⟨gb706, 1, none⟩ (.slice Ao93 t702.length co93)) w.heap.size (fun k_ => some k_ ≠ (.slice Ao70 t686.length co70 : Value).ownBlock ∧ some k_ ≠ (.slice Ao82 t696.length co82 : Value).ownBlock ∧ some k_ ≠ (.slice Ao93 t702.length co93 : Value).ownBlock) (.slice Ao66 t682.length co66) t682) := ⟨by (with_reducible repeat first | apply qa | apply qn | apply qd); exact Kd.R_mono (Kd.R_far (p := ⟨gb706, 1, none⟩) (Kd.R_far (p := ⟨gb706, 0, none⟩) (Kd.R_types HO684.out BK706.out (by decide)) (fun _ hk => hk.2) (.bool t701)) (fun _ hk => hk.2) (.slice Ao93 t702.length co93)) (fun _ hk => ⟨hk.1.1.1, ⟨hk.1.1.2, hk.1.2⟩⟩)⟩
           have n1_ : Aside0 (Kd.R (Kd.int .u32) 87 ((w86.setCell ⟨gb706, 0, none⟩ (.bool t701)).setCell ⟨gb706, 1, none⟩ (.slice Ao93 t702.length co93)) w.heap.size (fun k_ => some k_ ≠ (.slice Ao66 t682.length co66 : Value).ownBlock ∧ some k_ ≠ (.slice Ao82 t696.length co82 : Value).ownBlock ∧ some k_ ≠ (.slice Ao93 t702.length co93 : Value).ownBlock) (.slice Ao70 t686.length co70) t686) := ⟨by (with_reducible repeat first | apply qa | apply qn | apply qd); exact Kd.R_mono (Kd.R_far (p := ⟨gb706, 1, none⟩) (Kd.R_far (p := ⟨gb706, 0, none⟩) (Kd.R_types HO688.out BK706.out (by decide)) (fun _ hk => hk.2) (.bool t701)) (fun _ hk => hk.2) (.slice Ao93 t702.length co93)) (fun _ hk => ⟨hk.1.1.1, ⟨hk.1.1.2, hk.1.2⟩⟩)⟩
           have n2_ : Aside0 (Kd.R (Kd.int .u32) 87 ((w86.setCell ⟨gb706, 0, none⟩ (.bool t701)).setCell ⟨gb706, 1, none⟩ (.slice Ao93 t702.length co93)) w.heap.size (fun k_ => some k_ ≠ (.slice Ao66 t682.length co66 : Value).ownBlock ∧ some k_ ≠ (.slice Ao70 t686.length co70 : Value).ownBlock ∧ some k_ ≠ (.slice Ao93 t702.length co93 : Value).ownBlock) (.slice Ao82 t696.length co82) t696) := ⟨by (with_reducible repeat first | apply qa | apply qn | apply qd); exact Kd.R_mono (Kd.R_far (p := ⟨gb706, 1, none⟩) (Kd.R_far (p := ⟨gb706, 0, none⟩) (Kd.R_types HO698.out BK706.out (by decide)) (fun _ hk => hk.2) (.bool t701)) (fun _ hk => hk.2) (.slice Ao93 t702.length co93)) (fun _ hk => ⟨hk.1.1.1.2, ⟨hk.1.1.2, hk.1.2⟩⟩)⟩
           have n3_ : Aside0 (Kd.R (Kd.int .u32) 87 ((w86.setCell ⟨gb706, 0, none⟩ (.bool t701)).setCell ⟨gb706, 1, none⟩ (.slice Ao93 t702.length co93)) w.heap.size (fun k_ => some k_ ≠ (.slice Ao66 t682.length co66 : Value).ownBlock ∧ some k_ ≠ (.slice Ao70 t686.length co70 : Value).ownBlock ∧ some k_ ≠ (.slice Ao82 t696.length co82 : Value).ownBlock) (.slice Ao93 t702.length co93) t702) := ⟨by (with_reducible repeat first | apply qa | apply qn | apply qd); exact Kd.R_mono (Kd.R_far (p := ⟨gb706, 1, none⟩) (Kd.R_far (p := ⟨gb706, 0, none⟩) (Kd.R_types HO704.out BK706.out (by decide)) (fun _ hk => hk.2) (.bool t701)) (fun _ hk => hk.2) (.slice Ao93 t702.length co93)) (fun _ hk => ⟨hk.1.1.1.2, ⟨hk.1.1.2, hk.1.2⟩⟩)⟩
           have n4_ : Aside0 (((w86.setCell ⟨gb706, 0, none⟩ (.bool t701)).setCell ⟨gb706, 1, none⟩ (.slice Ao93 t702.length co93)).heap[gb675]? = some (.cells #[.bool a0_0, .slice A0_1 l0_1.length c0_1] 24 (0, 0))) := ⟨tk BK675⟩
           have n5_ : Aside0 (((w86.setCell ⟨gb706, 0, none⟩ (.bool t701)).setCell ⟨gb706, 1, none⟩ (.slice Ao93 t702.length co93)).heap[gb676]? = some (.cells #[.bool a1_0, .slice A1_1 l1_1.length c1_1] 24 (0, 0))) := ⟨tk BK676⟩
           have n6_ : Aside0 (((w86.setCell ⟨gb706, 0, none⟩ (.bool t701)).setCell ⟨gb706, 1, none⟩ (.slice Ao93 t702.length co93)).heap[gb690]? = some (.cells #[.bool t681, .slice Ao66 t682.length co66] 24 (0, 0))) := ⟨tk BK690⟩
           have n7_ : Aside0 (((w86.setCell ⟨gb706, 0, none⟩ (.bool t701)).setCell ⟨gb706, 1, none⟩ (.slice Ao93 t702.length co93)).heap[gb691]? = some (.cells #[.bool t685, .slice Ao70 t686.length co70] 24 (0, 0))) := ⟨tk BK691⟩
           have n8_ : Aside0 (((w86.setCell ⟨gb706, 0, none⟩ (.bool t701)).setCell ⟨gb706, 1, none⟩ (.slice Ao93 t702.length co93)).heap[gb700]? = some (.cells #[.bool t695, .slice Ao82 t696.length co82] 24 (0, 0))) := ⟨tk BK700⟩
           have n9_ : Aside0 (((w86.setCell ⟨gb706, 0, none⟩ (.bool t701)).setCell ⟨gb706, 1, none⟩ (.slice Ao93 t702.length co93)).heap[gb706]? = some (.cells #[.bool t701, .slice Ao93 t702.length co93] 24 (0, 0))) := ⟨tk BK706⟩
           have n10_ : Aside0 (Below w.heap.size w ((w86.setCell ⟨gb706, 0, none⟩ (.bool t701)).setCell ⟨gb706, 1, none⟩ (.slice Ao93 t702.length co93))) := ⟨tb HB⟩
           (try clear HO684); (try clear HO688); (try clear HO698); (try clear HO704); (try clear BK675); (try clear BK676); (try clear BK690); (try clear BK691); (try clear BK700); (try clear BK706); (try clear HB)
           generalize ((w86.setCell ⟨gb706, 0, none⟩ (.bool t701)).setCell ⟨gb706, 1, none⟩ (.slice Ao93 t702.length co93)) = w114 at n0_ n1_ n2_ n3_ n4_ n5_ n6_ n7_ n8_ n9_ n10_ ⊢
           have HO684 := n0_
           have HO688 := n1_
           have HO698 := n2_
           have HO704 := n3_
           have BK675 := n4_
           have BK676 := n5_
           have BK690 := n6_
           have BK691 := n7_
           have BK700 := n8_
           have BK706 := n9_
           have HB := n10_
           clear n0_ n1_ n2_ n3_ n4_ n5_ n6_ n7_ n8_ n9_ n10_
           replace HO684 := Aside0.mk (Kd.R_drew HO684.out)
           replace HO688 := Aside0.mk (Kd.R_drew HO688.out)
           replace HO698 := Aside0.mk (Kd.R_drew HO698.out)
           replace HO704 := Aside0.mk (Kd.R_drew HO704.out)
           replace BK675 := Aside0.mk (blk_drew BK675.out)
           replace BK676 := Aside0.mk (blk_drew BK676.out)
           replace BK690 := Aside0.mk (blk_drew BK690.out)
           replace BK691 := Aside0.mk (blk_drew BK691.out)
           replace BK700 := Aside0.mk (blk_drew BK700.out)
           replace BK706 := Aside0.mk (blk_drew BK706.out)
           replace HB := Aside0.mk (below_drew1 HB.out)
           refine start_ (n := 32) (S := fun w' => w'.cell? ⟨gb691, 0, none⟩ = some (.bool t685) ∧ w'.cell? ⟨gb691, 1, none⟩ = some (.slice Ao70 t686.length co70) ∧ w'.cell? ⟨gb676, 0, none⟩ = some (.bool a1_0) ∧ w'.cell? ⟨gb676, 1, none⟩ = some (.slice A1_1 l1_1.length c1_1) ∧ w'.cell? ⟨gb690, 0, none⟩ = some (.bool t681) ∧ w'.cell? ⟨gb690, 1, none⟩ = some (.slice Ao66 t682.length co66) ∧ w'.cell? ⟨gb675, 0, none⟩ = some (.bool a0_0) ∧ w'.cell? ⟨gb675, 1, none⟩ = some (.slice A0_1 l0_1.length c0_1)) (ds := []) #[false, false, false, false, false, false, false, false, false, false, false, false, false, false, false, false, false, false, false, false, false, false, false, false, false, false, false, false, false, false, false, false] (by kernel_rfl) rfl rfl ⟨(blk_cell BK691.out 0).trans rfl, (blk_cell BK691.out 1).trans rfl, (blk_cell BK676.out 0).trans rfl, (blk_cell BK676.out 1).trans rfl, (blk_cell BK690.out 0).trans rfl, (blk_cell BK690.out 1).trans rfl, (blk_cell BK675.out 0).trans rfl, (blk_cell BK675.out 1).trans rfl⟩ (fun hHeld => ?_); refine with_tabW whetstonelaw02_BigRests.tab8 whetstonelaw02_BigRests.bits8 (fun HT_ HW_ => ?_)
           generalize w114.drew = w115 at HO684 HO688 HO698 HO704 BK675 BK676 BK690 BK691 BK700 BK706 HB hHeld ⊢
           refine pT (i := 0) (N := some 60) (bb 32 1) HT_ ?_
           refine pT (i := 1) (N := some 61) (bb 32 3) HT_ ?_
           refine pT (i := 2) (N := some 62) (bb 32 7) HT_ ?_
           refine pT (i := 3) (N := some 63) (bb 32 15) HT_ ?_
           refine pT (i := 4) (N := some 64) (bb 32 31) HT_ ?_
           refine pT (i := 5) (N := some 65) (bb 32 63) HT_ ?_
           refine pT (i := 6) (N := some 66) (bb 32 127) HT_ ?_
           refine pT (i := 7) (N := some 67) (bb 32 255) HT_ ?_
           refine pT (i := 8) (N := some 68) (bb 32 511) HT_ ?_
           refine pT (i := 9) (N := some 69) (bb 32 1023) HT_ ?_
           refine pT (i := 10) (N := some 70) (bb 32 2047) HT_ ?_
           refine tW (i := 11) (N := some 71) (bb 32 4095) HT_ HW_ hHeld ?_
           refine oT (i := 12) (N := some 72) (bb 32 8191) HT_ fun K hK => ?_
           refine gS Try.func26 #[.agg #[.bool t685, .slice Ao70 t686.length co70]] ?_
           with_reducible refine (big_Sign.calls kj2 t685 _ _ t686 t707 _ ?side1 ?side2 A97.out).mono ?_
           (case side1 => exact tc (Kd.R_reads' HO688.out).2.2)
           (case side2 => exact (Kd.R_reads' HO688.out).2.1)
           rintro e w116 ⟨rfl, hb⟩
           refine ⟨_, rfl, ?_⟩
           replace HO684 := rb HO684 hb
           replace HO688 := rb HO688 hb
           replace HO698 := rb HO698 hb
           replace HO704 := rb HO704 hb
           replace BK675 := kb BK675 hb
           replace BK676 := kb BK676 hb
           replace BK690 := kb BK690 hb
           replace BK691 := kb BK691 hb
           replace BK700 := kb BK700 hb
           replace BK706 := kb BK706 hb
           replace HB := bs HB hb
           (try clear hb); (try clear hb2); (try clear hk); (try clear hi)
           refine hK.out _ _ ⟨(blk_cell BK691.out 0).trans rfl, (blk_cell BK691.out 1).trans rfl, (blk_cell BK676.out 0).trans rfl, (blk_cell BK676.out 1).trans rfl, (blk_cell BK690.out 0).trans rfl, (blk_cell BK690.out 1).trans rfl, (blk_cell BK675.out 0).trans rfl, (blk_cell BK675.out 1).trans rfl⟩ fun hHeld => nT (N := some 72) ?_
           clear hK K
           refine pT (i := 13) (N := some 73) (bb 32 16383) HT_ ?_
           refine pT (i := 14) (N := some 74) (bb 32 32767) HT_ ?_
           refine pT (i := 15) (N := some 75) (bb 32 65535) HT_ ?_
           refine tW (i := 16) (N := some 76) (bb 32 131071) HT_ HW_ hHeld ?_
           refine tW (i := 17) (N := some 77) (bb 32 262143) HT_ HW_ hHeld ?_
           refine oT (i := 18) (N := some 78) (bb 32 524287) HT_ fun K hK => ?_
           refine gS Try.func30 #[.agg #[.bool a1_0, .slice A1_1 l1_1.length c1_1]] ?_
           with_reducible refine (big_Abs.calls kj2 a1_0 _ _ l1_1 t708 t709 _ ?side1 ?side2 A102.out).mono ?_
           (case side1 => exact tc (Kd.C_below HR1_1.out HB.out))
           (case side2 => exact HC1_1.out)
           rintro e w117 ⟨v710, rfl, ho0, hb⟩
           refine ⟨_, rfl, ?_⟩
           have HO711 := Aside0.mk (Kd.R_lower (Kd.R_new' (Kd.R_new' (Kd.R_new' (Kd.R_new' ho0 (Kd.R_lt (tq HO684))) (Kd.R_lt (tq HO688))) (Kd.R_lt (tq HO698))) (Kd.R_lt (tq HO704))) (below_size (tb HB)))
           replace HO684 := re HO684 (Kd.R_base ho0) hb
           replace HO688 := re HO688 (Kd.R_base ho0) hb
           replace HO698 := re HO698 (Kd.R_base ho0) hb
           replace HO704 := re HO704 (Kd.R_base ho0) hb
           replace BK675 := kb BK675 hb
           replace BK676 := kb BK676 hb
           replace BK690 := kb BK690 hb
           replace BK691 := kb BK691 hb
           replace BK700 := kb BK700 hb
           replace BK706 := kb BK706 hb
           replace HB := bs HB hb
           (try clear hb); (try clear hb2); (try clear hk); (try clear hi); (try clear ho0)
           obtain ⟨Ao118, co118, eo118⟩ := Kd.R_slice HO711.out
           (first | subst eo118 | (injection eo118 with f1_ f2_ f3_; have f4_ := f1_.symm; have f5_ := f3_.symm; clear f1_ f2_ f3_; subst f4_; subst f5_))
           refine hK.out _ _ ⟨(blk_cell BK691.out 0).trans rfl, (blk_cell BK691.out 1).trans rfl, (blk_cell BK676.out 0).trans rfl, (blk_cell BK676.out 1).trans rfl, (blk_cell BK690.out 0).trans rfl, (blk_cell BK690.out 1).trans rfl, (blk_cell BK675.out 0).trans rfl, (blk_cell BK675.out 1).trans rfl⟩ fun hHeld => nT (N := some 78) ?_
           clear hK K
           refine oT (i := 19) (N := some 79) (bb 32 1048575) HT_ fun K hK => ?_
           refine gS Try.func24 #[.agg #[.bool t685, .slice Ao70 t686.length co70], .agg #[.bool t708, .slice Ao118 t709.length co118]] ?_
           with_reducible refine (big_Cmp.calls kj2 t685 _ _ t686 t708 _ _ t709 t712 _ ?side1 ?side2 ?side3 ?side4 A103.out).mono ?_
           (case side1 => exact tc (Kd.R_reads' HO688.out).2.2)
           (case side2 => exact (Kd.R_reads' HO688.out).2.1)
           (case side3 => exact tc (Kd.R_reads' HO711.out).2.2)
           (case side4 => exact (Kd.R_reads' HO711.out).2.1)
           rintro e w119 ⟨rfl, hb⟩
           refine ⟨_, rfl, ?_⟩
           replace HO684 := rb HO684 hb
           replace HO688 := rb HO688 hb
           replace HO698 := rb HO698 hb
           replace HO704 := rb HO704 hb
           replace HO711 := rb HO711 hb
           replace BK675 := kb BK675 hb
           replace BK676 := kb BK676 hb
           replace BK690 := kb BK690 hb
           replace BK691 := kb BK691 hb
           replace BK700 := kb BK700 hb
           replace BK706 := kb BK706 hb
           replace HB := bs HB hb
           (try clear hb); (try clear hb2); (try clear hk); (try clear hi)
           refine hK.out _ _ ⟨(blk_cell BK691.out 0).trans rfl, (blk_cell BK691.out 1).trans rfl, (blk_cell BK676.out 0).trans rfl, (blk_cell BK676.out 1).trans rfl, (blk_cell BK690.out 0).trans rfl, (blk_cell BK690.out 1).trans rfl, (blk_cell BK675.out 0).trans rfl, (blk_cell BK675.out 1).trans rfl⟩ fun hHeld => nT (N := some 79) ?_
           clear hK K
           refine pT (i := 20) (N := some 80) (bb 32 2097151) HT_ ?_
           refine pT (i := 21) (N := some 81) (bb 32 4194303) HT_ ?_
           refine pT (i := 22) (N := some 82) (bb 32 8388607) HT_ ?_
           refine tW (i := 23) (N := some 83) (bb 32 16777215) HT_ HW_ hHeld ?_
           refine tW (i := 24) (N := some 84) (bb 32 33554431) HT_ HW_ hHeld ?_
           refine tW (i := 26) (N := some 86) (bb 32 100663295) HT_ HW_ hHeld ?_
           refine tW (i := 28) (N := some 88) (bb 32 369098751) HT_ HW_ hHeld ?_
           refine oT (i := 25) (N := some 85) (bb 32 402653183) HT_ fun K hK => ?_
           refine gS Try.func39 #[.agg #[.bool t681, .slice Ao66 t682.length co66], .agg #[.bool a1_0, .slice A1_1 l1_1.length c1_1]] ?_
           with_reducible refine (big_Mul.calls kj2 t681 _ _ t682 a1_0 _ _ l1_1 t713 t714 _ ?side1 ?side2 ?side3 ?side4 A111.out).mono ?_
           (case side1 => exact tc (Kd.R_reads' HO684.out).2.2)
           (case side2 => exact (Kd.R_reads' HO684.out).2.1)
           (case side3 => exact tc (Kd.C_below HR1_1.out HB.out))
           (case side4 => exact HC1_1.out)
           rintro e w120 ⟨v715, rfl, ho0, hb⟩
           refine ⟨_, rfl, ?_⟩
           have HO716 := Aside0.mk (Kd.R_lower (Kd.R_new' (Kd.R_new' (Kd.R_new' (Kd.R_new' (Kd.R_new' ho0 (Kd.R_lt (tq HO684))) (Kd.R_lt (tq HO688))) (Kd.R_lt (tq HO698))) (Kd.R_lt (tq HO704))) (Kd.R_lt (tq HO711))) (below_size (tb HB)))
           replace HO684 := re HO684 (Kd.R_base ho0) hb
           replace HO688 := re HO688 (Kd.R_base ho0) hb
           replace HO698 := re HO698 (Kd.R_base ho0) hb
           replace HO704 := re HO704 (Kd.R_base ho0) hb
           replace HO711 := re HO711 (Kd.R_base ho0) hb
           replace BK675 := kb BK675 hb
           replace BK676 := kb BK676 hb
           replace BK690 := kb BK690 hb
           replace BK691 := kb BK691 hb
           replace BK700 := kb BK700 hb
           replace BK706 := kb BK706 hb
           replace HB := bs HB hb
           (try clear hb); (try clear hb2); (try clear hk); (try clear hi); (try clear ho0)
           obtain ⟨Ao121, co121, eo121⟩ := Kd.R_slice HO716.out
           (first | subst eo121 | (injection eo121 with f1_ f2_ f3_; have f4_ := f1_.symm; have f5_ := f3_.symm; clear f1_ f2_ f3_; subst f4_; subst f5_))
           refine hK.out _ _ ⟨(blk_cell BK691.out 0).trans rfl, (blk_cell BK691.out 1).trans rfl, (blk_cell BK676.out 0).trans rfl, (blk_cell BK676.out 1).trans rfl, (blk_cell BK690.out 0).trans rfl, (blk_cell BK690.out 1).trans rfl, (blk_cell BK675.out 0).trans rfl, (blk_cell BK675.out 1).trans rfl⟩ fun hHeld => nT (N := some 85) ?_
           clear hK K
           refine oT (i := 27) (N := some 87) (bb 32 536870911) HT_ fun K hK => ?_
           refine gS Try.func20 #[.agg #[.bool t713, .slice Ao121 t714.length co121], .agg #[.bool t685, .slice Ao70 t686.length co70]] ?_
           with_reducible refine (big_Add.calls kj2 t713 _ _ t714 t685 _ _ t686 t717 t718 _ ?side1 ?side2 ?side3 ?side4 A112.out).mono ?_
           (case side1 => exact tc (Kd.R_reads' HO716.out).2.2)
           (case side2 => exact (Kd.R_reads' HO716.out).2.1)
           (case side3 => exact tc (Kd.R_reads' HO688.out).2.2)
           (case side4 => exact (Kd.R_reads' HO688.out).2.1)
           rintro e w122 ⟨v719, rfl, ho0, hb⟩
           refine ⟨_, rfl, ?_⟩
           have HO720 := Aside0.mk (Kd.R_lower (Kd.R_new' (Kd.R_new' (Kd.R_new' (Kd.R_new' (Kd.R_new' (Kd.R_new' ho0 (Kd.R_lt (tq HO684))) (Kd.R_lt (tq HO688))) (Kd.R_lt (tq HO698))) (Kd.R_lt (tq HO704))) (Kd.R_lt (tq HO711))) (Kd.R_lt (tq HO716))) (below_size (tb HB)))
           replace HO684 := re HO684 (Kd.R_base ho0) hb
           replace HO688 := re HO688 (Kd.R_base ho0) hb
           replace HO698 := re HO698 (Kd.R_base ho0) hb
           replace HO704 := re HO704 (Kd.R_base ho0) hb
           replace BK675 := kb BK675 hb
           replace BK676 := kb BK676 hb
           replace BK690 := kb BK690 hb
           replace BK691 := kb BK691 hb
           replace BK700 := kb BK700 hb
           replace BK706 := kb BK706 hb
           replace HB := bs HB hb
           (try clear hb); (try clear hb2); (try clear hk); (try clear hi); (try clear ho0)
           obtain ⟨Ao123, co123, eo123⟩ := Kd.R_slice HO720.out
           (first | subst eo123 | (injection eo123 with f1_ f2_ f3_; have f4_ := f1_.symm; have f5_ := f3_.symm; clear f1_ f2_ f3_; subst f4_; subst f5_))
           refine hK.out _ _ ⟨(blk_cell BK691.out 0).trans rfl, (blk_cell BK691.out 1).trans rfl, (blk_cell BK676.out 0).trans rfl, (blk_cell BK676.out 1).trans rfl, (blk_cell BK690.out 0).trans rfl, (blk_cell BK690.out 1).trans rfl, (blk_cell BK675.out 0).trans rfl, (blk_cell BK675.out 1).trans rfl⟩ fun hHeld => nT (N := some 87) ?_
           clear hK K
           refine oT (i := 29) (N := some 89) (bb 32 1073741823) HT_ fun K hK => ?_
           refine gS Try.func24 #[.agg #[.bool t717, .slice Ao123 t718.length co123], .agg #[.bool a0_0, .slice A0_1 l0_1.length c0_1]] ?_
           with_reducible refine (big_Cmp.calls kj2 t717 _ _ t718 a0_0 _ _ l0_1 t721 _ ?side1 ?side2 ?side3 ?side4 A113.out).mono ?_
           (case side1 => exact tc (Kd.R_reads' HO720.out).2.2)
           (case side2 => exact (Kd.R_reads' HO720.out).2.1)
           (case side3 => exact tc (Kd.C_below HR0_1.out HB.out))
           (case side4 => exact HC0_1.out)
           rintro e w124 ⟨rfl, hb⟩
           refine ⟨_, rfl, ?_⟩
           replace HO684 := rb HO684 hb
           replace HO688 := rb HO688 hb
           replace HO698 := rb HO698 hb
           replace HO704 := rb HO704 hb
           replace BK675 := kb BK675 hb
           replace BK676 := kb BK676 hb
           replace BK690 := kb BK690 hb
           replace BK691 := kb BK691 hb
           replace BK700 := kb BK700 hb
           replace BK706 := kb BK706 hb
           replace HB := bs HB hb
           (try clear hb); (try clear hb2); (try clear hk); (try clear hi)
           refine hK.out _ _ ⟨(blk_cell BK691.out 0).trans rfl, (blk_cell BK691.out 1).trans rfl, (blk_cell BK676.out 0).trans rfl, (blk_cell BK676.out 1).trans rfl, (blk_cell BK690.out 0).trans rfl, (blk_cell BK690.out 1).trans rfl, (blk_cell BK675.out 0).trans rfl, (blk_cell BK675.out 1).trans rfl⟩ fun hHeld => nT (N := some 89) ?_
           clear hK K
           refine pT (i := 30) (N := some 90) (bb 32 2147483647) HT_ ?_
           refine pT (i := 31) (N := some 91) (bb 32 4294967295) HT_ ?_
           refine done_ (done_of HT_.out (by kernel_rfl)) ?_
           try go_wp2
           go_meet
           case rel => exact ⟨_, ((t721 != 0)), (by first | rfl | (simp; done) | (simp [*]; done)), H', ⟨by have := HJ2.out; first | omega | exact Nat.le_refl _⟩, ⟨by (with_reducible repeat first | apply qa | apply qn | apply qd); exact Kd.R_mono HO684.out (fun _ hk => ⟨hk.1.1.1.1, ⟨hk.1.1.1.2.1, hk.1.1.1.2.2⟩⟩)⟩, ⟨by (with_reducible repeat first | apply qa | apply qn | apply qd); exact Kd.R_mono HO688.out (fun _ hk => ⟨hk.1.1.1.1, ⟨hk.1.1.1.2.1, hk.1.1.1.2.2⟩⟩)⟩, ⟨by (with_reducible repeat first | apply qa | apply qn | apply qd); exact Kd.R_mono HO698.out (fun _ hk => ⟨hk.1.1.1.1, ⟨hk.1.1.1.2.1, hk.1.1.1.2.2⟩⟩)⟩, ⟨by (with_reducible repeat first | apply qa | apply qn | apply qd); exact Kd.R_mono HO704.out (fun _ hk => ⟨hk.1.1.1.1, ⟨hk.1.1.1.2.1, hk.1.1.1.2.2⟩⟩)⟩, ⟨tk BK675⟩, ⟨tk BK676⟩, ⟨tk BK690⟩, ⟨tk BK691⟩, ⟨tk BK700⟩, ⟨tk BK706⟩, ⟨tb HB⟩⟩
        ·rw [if_neg c96] at H
         have c96b0 : (t705 == 0) = false := beq_eq_false_iff_ne.mpr c96
         have c96b1 : (t705 != 0) = true := bne_iff_ne.mpr c96
         have H' := Aside0.mk H
         clear H
         try go_wp2
         have n0_ : Aside0 (Kd.R (Kd.int .u32) 87 ((w86.setCell ⟨gb706, 0, none⟩ (.bool t701)).setCell ⟨gb706, 1, none⟩ (.slice Ao93 t702.length co93)) w.heap.size (fun k_ => some k_ ≠ (.slice Ao70 t686.length co70 : Value).ownBlock ∧ some k_ ≠ (.slice Ao82 t696.length co82 : Value).ownBlock ∧ some k_ ≠ (.slice Ao93 t702.length co93 : Value).ownBlock) (.slice Ao66 t682.length co66) t682) := ⟨by (with_reducible repeat first | apply qa | apply qn | apply qd); exact Kd.R_mono (Kd.R_far (p := ⟨gb706, 1, none⟩) (Kd.R_far (p := ⟨gb706, 0, none⟩) (Kd.R_types HO684.out BK706.out (by decide)) (fun _ hk => hk.2) (.bool t701)) (fun _ hk => hk.2) (.slice Ao93 t702.length co93)) (fun _ hk => ⟨hk.1.1.1, ⟨hk.1.1.2, hk.1.2⟩⟩)⟩
         have n1_ : Aside0 (Kd.R (Kd.int .u32) 87 ((w86.setCell ⟨gb706, 0, none⟩ (.bool t701)).setCell ⟨gb706, 1, none⟩ (.slice Ao93 t702.length co93)) w.heap.size (fun k_ => some k_ ≠ (.slice Ao66 t682.length co66 : Value).ownBlock ∧ some k_ ≠ (.slice Ao82 t696.length co82 : Value).ownBlock ∧ some k_ ≠ (.slice Ao93 t702.length co93 : Value).ownBlock) (.slice Ao70 t686.length co70) t686) := ⟨by (with_reducible repeat first | apply qa | apply qn | apply qd); exact Kd.R_mono (Kd.R_far (p := ⟨gb706, 1, none⟩) (Kd.R_far (p := ⟨gb706, 0, none⟩) (Kd.R_types HO688.out BK706.out (by decide)) (fun _ hk => hk.2) (.bool t701)) (fun _ hk => hk.2) (.slice Ao93 t702.length co93)) (fun _ hk => ⟨hk.1.1.1, ⟨hk.1.1.2, hk.1.2⟩⟩)⟩
         have n2_ : Aside0 (Kd.R (Kd.int .u32) 87 ((w86.setCell ⟨gb706, 0, none⟩ (.bool t701)).setCell ⟨gb706, 1, none⟩ (.slice Ao93 t702.length co93)) w.heap.size (fun k_ => some k_ ≠ (.slice Ao66 t682.length co66 : Value).ownBlock ∧ some k_ ≠ (.slice Ao70 t686.length co70 : Value).ownBlock ∧ some k_ ≠ (.slice Ao93 t702.length co93 : Value).ownBlock) (.slice Ao82 t696.length co82) t696) := ⟨by (with_reducible repeat first | apply qa | apply qn | apply qd); exact Kd.R_mono (Kd.R_far (p := ⟨gb706, 1, none⟩) (Kd.R_far (p := ⟨gb706, 0, none⟩) (Kd.R_types HO698.out BK706.out (by decide)) (fun _ hk => hk.2) (.bool t701)) (fun _ hk => hk.2) (.slice Ao93 t702.length co93)) (fun _ hk => ⟨hk.1.1.1.2, ⟨hk.1.1.2, hk.1.2⟩⟩)⟩
         have n3_ : Aside0 (Kd.R (Kd.int .u32) 87 ((w86.setCell ⟨gb706, 0, none⟩ (.bool t701)).setCell ⟨gb706, 1, none⟩ (.slice Ao93 t702.length co93)) w.heap.size (fun k_ => some k_ ≠ (.slice Ao66 t682.length co66 : Value).ownBlock ∧ some k_ ≠ (.slice Ao70 t686.length co70 : Value).ownBlock ∧ some k_ ≠ (.slice Ao82 t696.length co82 : Value).ownBlock) (.slice Ao93 t702.length co93) t702) := ⟨by (with_reducible repeat first | apply qa | apply qn | apply qd); exact Kd.R_mono (Kd.R_far (p := ⟨gb706, 1, none⟩) (Kd.R_far (p := ⟨gb706, 0, none⟩) (Kd.R_types HO704.out BK706.out (by decide)) (fun _ hk => hk.2) (.bool t701)) (fun _ hk => hk.2) (.slice Ao93 t702.length co93)) (fun _ hk => ⟨hk.1.1.1.2, ⟨hk.1.1.2, hk.1.2⟩⟩)⟩
         have n4_ : Aside0 (((w86.setCell ⟨gb706, 0, none⟩ (.bool t701)).setCell ⟨gb706, 1, none⟩ (.slice Ao93 t702.length co93)).heap[gb675]? = some (.cells #[.bool a0_0, .slice A0_1 l0_1.length c0_1] 24 (0, 0))) := ⟨tk BK675⟩
         have n5_ : Aside0 (((w86.setCell ⟨gb706, 0, none⟩ (.bool t701)).setCell ⟨gb706, 1, none⟩ (.slice Ao93 t702.length co93)).heap[gb676]? = some (.cells #[.bool a1_0, .slice A1_1 l1_1.length c1_1] 24 (0, 0))) := ⟨tk BK676⟩
         have n6_ : Aside0 (((w86.setCell ⟨gb706, 0, none⟩ (.bool t701)).setCell ⟨gb706, 1, none⟩ (.slice Ao93 t702.length co93)).heap[gb690]? = some (.cells #[.bool t681, .slice Ao66 t682.length co66] 24 (0, 0))) := ⟨tk BK690⟩
         have n7_ : Aside0 (((w86.setCell ⟨gb706, 0, none⟩ (.bool t701)).setCell ⟨gb706, 1, none⟩ (.slice Ao93 t702.length co93)).heap[gb691]? = some (.cells #[.bool t685, .slice Ao70 t686.length co70] 24 (0, 0))) := ⟨tk BK691⟩
         have n8_ : Aside0 (((w86.setCell ⟨gb706, 0, none⟩ (.bool t701)).setCell ⟨gb706, 1, none⟩ (.slice Ao93 t702.length co93)).heap[gb700]? = some (.cells #[.bool t695, .slice Ao82 t696.length co82] 24 (0, 0))) := ⟨tk BK700⟩
         have n9_ : Aside0 (((w86.setCell ⟨gb706, 0, none⟩ (.bool t701)).setCell ⟨gb706, 1, none⟩ (.slice Ao93 t702.length co93)).heap[gb706]? = some (.cells #[.bool t701, .slice Ao93 t702.length co93] 24 (0, 0))) := ⟨tk BK706⟩
         have n10_ : Aside0 (Below w.heap.size w ((w86.setCell ⟨gb706, 0, none⟩ (.bool t701)).setCell ⟨gb706, 1, none⟩ (.slice Ao93 t702.length co93))) := ⟨tb HB⟩
         (try clear HO684); (try clear HO688); (try clear HO698); (try clear HO704); (try clear BK675); (try clear BK676); (try clear BK690); (try clear BK691); (try clear BK700); (try clear BK706); (try clear HB)
         generalize ((w86.setCell ⟨gb706, 0, none⟩ (.bool t701)).setCell ⟨gb706, 1, none⟩ (.slice Ao93 t702.length co93)) = w125 at n0_ n1_ n2_ n3_ n4_ n5_ n6_ n7_ n8_ n9_ n10_ ⊢
         have HO684 := n0_
         have HO688 := n1_
         have HO698 := n2_
         have HO704 := n3_
         have BK675 := n4_
         have BK676 := n5_
         have BK690 := n6_
         have BK691 := n7_
         have BK700 := n8_
         have BK706 := n9_
         have HB := n10_
         clear n0_ n1_ n2_ n3_ n4_ n5_ n6_ n7_ n8_ n9_ n10_
         replace HO684 := Aside0.mk (Kd.R_drew HO684.out)
         replace HO688 := Aside0.mk (Kd.R_drew HO688.out)
         replace HO698 := Aside0.mk (Kd.R_drew HO698.out)
         replace HO704 := Aside0.mk (Kd.R_drew HO704.out)
         replace BK675 := Aside0.mk (blk_drew BK675.out)
         replace BK676 := Aside0.mk (blk_drew BK676.out)
         replace BK690 := Aside0.mk (blk_drew BK690.out)
         replace BK691 := Aside0.mk (blk_drew BK691.out)
         replace BK700 := Aside0.mk (blk_drew BK700.out)
         replace BK706 := Aside0.mk (blk_drew BK706.out)
         replace HB := Aside0.mk (below_drew1 HB.out)
         refine start_ (n := 32) (S := fun w' => True) (ds := []) #[false, false, false, false, false, false, false, false, false, false, false, false, false, false, false, false, false, false, false, false, false, false, false, false, false, false, false, false, false, false, false, false] (by kernel_rfl) rfl rfl trivial (fun hHeld => ?_); refine with_tabW whetstonelaw02_BigRests.tab8 whetstonelaw02_BigRests.bits8 (fun HT_ HW_ => ?_)
         generalize w125.drew = w126 at HO684 HO688 HO698 HO704 BK675 BK676 BK690 BK691 BK700 BK706 HB hHeld ⊢
         refine pT (i := 0) (N := some 60) (bb 32 1) HT_ ?_
         refine pT (i := 1) (N := some 61) (bb 32 3) HT_ ?_
         refine pT (i := 2) (N := some 62) (bb 32 7) HT_ ?_
         refine pT (i := 3) (N := some 63) (bb 32 15) HT_ ?_
         refine pT (i := 4) (N := some 64) (bb 32 31) HT_ ?_
         refine pT (i := 5) (N := some 65) (bb 32 63) HT_ ?_
         refine pT (i := 6) (N := some 66) (bb 32 127) HT_ ?_
         refine pT (i := 7) (N := some 67) (bb 32 255) HT_ ?_
         refine pT (i := 8) (N := some 68) (bb 32 511) HT_ ?_
         refine pT (i := 9) (N := some 69) (bb 32 1023) HT_ ?_
         refine pT (i := 10) (N := some 70) (bb 32 2047) HT_ ?_
         refine pure_ (i := 11) (N := some 71) (v := undef) (a' := ?_) #[true, true, true, true, true, true, true, true, true, true, true, true, false, false, false, false, false, false, false, false, false, false, false, false, false, false, false, false, false, false, false, false] rfl rfl (any_of HT_.out (by kernel_rfl)) (fun _ _ _ h => h) (Or.inr ⟨by rfl, rfl⟩) ?_ ?_
         rotate_left
         ·simp only [Act.put, List.setIfInBounds_toArray, List.set_cons_zero, List.set_cons_succ, i64_w, i32_w]
          rfl
         refine pure_ (i := 12) (N := some 72) (v := undef) (a' := ?_) #[true, true, true, true, true, true, true, true, true, true, true, true, true, false, false, false, false, false, false, false, false, false, false, false, false, false, false, false, false, false, false, false] rfl rfl (any_of HT_.out (by kernel_rfl)) (fun _ _ _ h => h) (Or.inr ⟨by rfl, rfl⟩) ?_ ?_
         rotate_left
         ·simp only [Act.put, List.setIfInBounds_toArray, List.set_cons_zero, List.set_cons_succ, i64_w, i32_w]
          rfl
         refine pure_ (i := 13) (N := some 73) (v := undef) (a' := ?_) #[true, true, true, true, true, true, true, true, true, true, true, true, true, true, false, false, false, false, false, false, false, false, false, false, false, false, false, false, false, false, false, false] rfl rfl (any_of HT_.out (by kernel_rfl)) (fun _ _ _ h => h) (Or.inr ⟨by rfl, rfl⟩) ?_ ?_
         rotate_left
         ·simp only [Act.put, List.setIfInBounds_toArray, List.set_cons_zero, List.set_cons_succ, i64_w, i32_w]
          rfl
         refine pT (i := 14) (N := some 74) (bb 32 32767) HT_ ?_
         refine pT (i := 15) (N := some 75) (bb 32 65535) HT_ ?_
         refine pure_ (i := 16) (N := some 76) (v := undef) (a' := ?_) #[true, true, true, true, true, true, true, true, true, true, true, true, true, true, true, true, true, false, false, false, false, false, false, false, false, false, false, false, false, false, false, false] rfl rfl (any_of HT_.out (by kernel_rfl)) (fun _ _ _ h => h) (Or.inr ⟨by rfl, rfl⟩) ?_ ?_
         rotate_left
         ·simp only [Act.put, List.setIfInBounds_toArray, List.set_cons_zero, List.set_cons_succ, i64_w, i32_w]
          rfl
         refine pure_ (i := 17) (N := some 77) (v := undef) (a' := ?_) #[true, true, true, true, true, true, true, true, true, true, true, true, true, true, true, true, true, true, false, false, false, false, false, false, false, false, false, false, false, false, false, false] rfl rfl (any_of HT_.out (by kernel_rfl)) (fun _ _ _ h => h) (Or.inr ⟨by rfl, rfl⟩) ?_ ?_
         rotate_left
         ·simp only [Act.put, List.setIfInBounds_toArray, List.set_cons_zero, List.set_cons_succ, i64_w, i32_w]
          rfl
         refine pure_ (i := 18) (N := some 78) (v := undef) (a' := ?_) #[true, true, true, true, true, true, true, true, true, true, true, true, true, true, true, true, true, true, true, false, false, false, false, false, false, false, false, false, false, false, false, false] rfl rfl (any_of HT_.out (by kernel_rfl)) (fun _ _ _ h => h) (Or.inr ⟨by rfl, rfl⟩) ?_ ?_
         rotate_left
         ·simp only [Act.put, List.setIfInBounds_toArray, List.set_cons_zero, List.set_cons_succ, i64_w, i32_w]
          rfl
         refine pure_ (i := 19) (N := some 79) (v := undef) (a' := ?_) #[true, true, true, true, true, true, true, true, true, true, true, true, true, true, true, true, true, true, true, true, false, false, false, false, false, false, false, false, false, false, false, false] rfl rfl (any_of HT_.out (by kernel_rfl)) (fun _ _ _ h => h) (Or.inr ⟨by rfl, rfl⟩) ?_ ?_
         rotate_left
         ·simp only [Act.put, List.setIfInBounds_toArray, List.set_cons_zero, List.set_cons_succ, i64_w, i32_w]
          rfl
         refine pure_ (i := 20) (N := some 80) (v := undef) (a' := ?_) #[true, true, true, true, true, true, true, true, true, true, true, true, true, true, true, true, true, true, true, true, true, false, false, false, false, false, false, false, false, false, false, false] rfl rfl (any_of HT_.out (by kernel_rfl)) (fun _ _ _ h => h) (Or.inr ⟨by rfl, rfl⟩) ?_ ?_
         rotate_left
         ·simp only [Act.put, List.setIfInBounds_toArray, List.set_cons_zero, List.set_cons_succ, i64_w, i32_w]
          rfl
         refine pT (i := 21) (N := some 81) (bb 32 4194303) HT_ ?_
         refine pT (i := 22) (N := some 82) (bb 32 8388607) HT_ ?_
         refine pure_ (i := 23) (N := some 83) (v := undef) (a' := ?_) #[true, true, true, true, true, true, true, true, true, true, true, true, true, true, true, true, true, true, true, true, true, true, true, true, false, false, false, false, false, false, false, false] rfl rfl (any_of HT_.out (by kernel_rfl)) (fun _ _ _ h => h) (Or.inr ⟨by rfl, rfl⟩) ?_ ?_
         rotate_left
         ·simp only [Act.put, List.setIfInBounds_toArray, List.set_cons_zero, List.set_cons_succ, i64_w, i32_w]
          rfl
         refine pure_ (i := 24) (N := some 84) (v := undef) (a' := ?_) #[true, true, true, true, true, true, true, true, true, true, true, true, true, true, true, true, true, true, true, true, true, true, true, true, true, false, false, false, false, false, false, false] rfl rfl (any_of HT_.out (by kernel_rfl)) (fun _ _ _ h => h) (Or.inr ⟨by rfl, rfl⟩) ?_ ?_
         rotate_left
         ·simp only [Act.put, List.setIfInBounds_toArray, List.set_cons_zero, List.set_cons_succ, i64_w, i32_w]
          rfl
         refine pure_ (i := 25) (N := some 85) (v := undef) (a' := ?_) #[true, true, true, true, true, true, true, true, true, true, true, true, true, true, true, true, true, true, true, true, true, true, true, true, true, true, false, false, false, false, false, false] rfl rfl (any_of HT_.out (by kernel_rfl)) (fun _ _ _ h => h) (Or.inr ⟨by rfl, rfl⟩) ?_ ?_
         rotate_left
         ·simp only [Act.put, List.setIfInBounds_toArray, List.set_cons_zero, List.set_cons_succ, i64_w, i32_w]
          rfl
         refine pure_ (i := 26) (N := some 86) (v := undef) (a' := ?_) #[true, true, true, true, true, true, true, true, true, true, true, true, true, true, true, true, true, true, true, true, true, true, true, true, true, true, true, false, false, false, false, false] rfl rfl (any_of HT_.out (by kernel_rfl)) (fun _ _ _ h => h) (Or.inr ⟨by rfl, rfl⟩) ?_ ?_
         rotate_left
         ·simp only [Act.put, List.setIfInBounds_toArray, List.set_cons_zero, List.set_cons_succ, i64_w, i32_w]
          rfl
         refine pure_ (i := 27) (N := some 87) (v := undef) (a' := ?_) #[true, true, true, true, true, true, true, true, true, true, true, true, true, true, true, true, true, true, true, true, true, true, true, true, true, true, true, true, false, false, false, false] rfl rfl (any_of HT_.out (by kernel_rfl)) (fun _ _ _ h => h) (Or.inr ⟨by rfl, rfl⟩) ?_ ?_
         rotate_left
         ·simp only [Act.put, List.setIfInBounds_toArray, List.set_cons_zero, List.set_cons_succ, i64_w, i32_w]
          rfl
         refine pure_ (i := 28) (N := some 88) (v := undef) (a' := ?_) #[true, true, true, true, true, true, true, true, true, true, true, true, true, true, true, true, true, true, true, true, true, true, true, true, true, true, true, true, true, false, false, false] rfl rfl (any_of HT_.out (by kernel_rfl)) (fun _ _ _ h => h) (Or.inr ⟨by rfl, rfl⟩) ?_ ?_
         rotate_left
         ·simp only [Act.put, List.setIfInBounds_toArray, List.set_cons_zero, List.set_cons_succ, i64_w, i32_w]
          rfl
         refine pure_ (i := 29) (N := some 89) (v := undef) (a' := ?_) #[true, true, true, true, true, true, true, true, true, true, true, true, true, true, true, true, true, true, true, true, true, true, true, true, true, true, true, true, true, true, false, false] rfl rfl (any_of HT_.out (by kernel_rfl)) (fun _ _ _ h => h) (Or.inr ⟨by rfl, rfl⟩) ?_ ?_
         rotate_left
         ·simp only [Act.put, List.setIfInBounds_toArray, List.set_cons_zero, List.set_cons_succ, i64_w, i32_w]
          rfl
         refine pure_ (i := 30) (N := some 90) (v := undef) (a' := ?_) #[true, true, true, true, true, true, true, true, true, true, true, true, true, true, true, true, true, true, true, true, true, true, true, true, true, true, true, true, true, true, true, false] rfl rfl (any_of HT_.out (by kernel_rfl)) (fun _ _ _ h => h) (Or.inr ⟨by rfl, rfl⟩) ?_ ?_
         rotate_left
         ·simp only [Act.put, List.setIfInBounds_toArray, List.set_cons_zero, List.set_cons_succ, i64_w, i32_w]
          rfl
         refine pT (i := 31) (N := some 91) (bb 32 4294967295) HT_ ?_
         refine done_ (done_of HT_.out (by kernel_rfl)) ?_
         try go_wp2
         go_meet
         case rel => exact ⟨_, (true), (by first | rfl | (simp; done) | (simp [*]; done)), H', ⟨by have := HJ2.out; first | omega | exact Nat.le_refl _⟩, ⟨tq HO684⟩, ⟨tq HO688⟩, ⟨tq HO698⟩, ⟨tq HO704⟩, ⟨tk BK675⟩, ⟨tk BK676⟩, ⟨tk BK690⟩, ⟨tk BK691⟩, ⟨tk BK700⟩, ⟨tk BK706⟩, ⟨tb HB⟩⟩
       ·rw [if_neg c95] at H
        have c95b0 : (t699 == 0) = false := beq_eq_false_iff_ne.mpr c95
        have c95b1 : (t699 != 0) = true := bne_iff_ne.mpr c95
        have H' := Aside0.mk H
        clear H
        try go_wp2
        have n0_ : Aside0 (Kd.R (Kd.int .u32) 87 ((w86.setCell ⟨gb706, 0, none⟩ (.bool t701)).setCell ⟨gb706, 1, none⟩ (.slice Ao93 t702.length co93)) w.heap.size (fun k_ => some k_ ≠ (.slice Ao70 t686.length co70 : Value).ownBlock ∧ some k_ ≠ (.slice Ao82 t696.length co82 : Value).ownBlock ∧ some k_ ≠ (.slice Ao93 t702.length co93 : Value).ownBlock) (.slice Ao66 t682.length co66) t682) := ⟨by (with_reducible repeat first | apply qa | apply qn | apply qd); exact Kd.R_mono (Kd.R_far (p := ⟨gb706, 1, none⟩) (Kd.R_far (p := ⟨gb706, 0, none⟩) (Kd.R_types HO684.out BK706.out (by decide)) (fun _ hk => hk.2) (.bool t701)) (fun _ hk => hk.2) (.slice Ao93 t702.length co93)) (fun _ hk => ⟨hk.1.1.1, ⟨hk.1.1.2, hk.1.2⟩⟩)⟩
        have n1_ : Aside0 (Kd.R (Kd.int .u32) 87 ((w86.setCell ⟨gb706, 0, none⟩ (.bool t701)).setCell ⟨gb706, 1, none⟩ (.slice Ao93 t702.length co93)) w.heap.size (fun k_ => some k_ ≠ (.slice Ao66 t682.length co66 : Value).ownBlock ∧ some k_ ≠ (.slice Ao82 t696.length co82 : Value).ownBlock ∧ some k_ ≠ (.slice Ao93 t702.length co93 : Value).ownBlock) (.slice Ao70 t686.length co70) t686) := ⟨by (with_reducible repeat first | apply qa | apply qn | apply qd); exact Kd.R_mono (Kd.R_far (p := ⟨gb706, 1, none⟩) (Kd.R_far (p := ⟨gb706, 0, none⟩) (Kd.R_types HO688.out BK706.out (by decide)) (fun _ hk => hk.2) (.bool t701)) (fun _ hk => hk.2) (.slice Ao93 t702.length co93)) (fun _ hk => ⟨hk.1.1.1, ⟨hk.1.1.2, hk.1.2⟩⟩)⟩
        have n2_ : Aside0 (Kd.R (Kd.int .u32) 87 ((w86.setCell ⟨gb706, 0, none⟩ (.bool t701)).setCell ⟨gb706, 1, none⟩ (.slice Ao93 t702.length co93)) w.heap.size (fun k_ => some k_ ≠ (.slice Ao66 t682.length co66 : Value).ownBlock ∧ some k_ ≠ (.slice Ao70 t686.length co70 : Value).ownBlock ∧ some k_ ≠ (.slice Ao93 t702.length co93 : Value).ownBlock) (.slice Ao82 t696.length co82) t696) := ⟨by (with_reducible repeat first | apply qa | apply qn | apply qd); exact Kd.R_mono (Kd.R_far (p := ⟨gb706, 1, none⟩) (Kd.R_far (p := ⟨gb706, 0, none⟩) (Kd.R_types HO698.out BK706.out (by decide)) (fun _ hk => hk.2) (.bool t701)) (fun _ hk => hk.2) (.slice Ao93 t702.length co93)) (fun _ hk => ⟨hk.1.1.1.2, ⟨hk.1.1.2, hk.1.2⟩⟩)⟩
        have n3_ : Aside0 (Kd.R (Kd.int .u32) 87 ((w86.setCell ⟨gb706, 0, none⟩ (.bool t701)).setCell ⟨gb706, 1, none⟩ (.slice Ao93 t702.length co93)) w.heap.size (fun k_ => some k_ ≠ (.slice Ao66 t682.length co66 : Value).ownBlock ∧ some k_ ≠ (.slice Ao70 t686.length co70 : Value).ownBlock ∧ some k_ ≠ (.slice Ao82 t696.length co82 : Value).ownBlock) (.slice Ao93 t702.length co93) t702) := ⟨by (with_reducible repeat first | apply qa | apply qn | apply qd); exact Kd.R_mono (Kd.R_far (p := ⟨gb706, 1, none⟩) (Kd.R_far (p := ⟨gb706, 0, none⟩) (Kd.R_types HO704.out BK706.out (by decide)) (fun _ hk => hk.2) (.bool t701)) (fun _ hk => hk.2) (.slice Ao93 t702.length co93)) (fun _ hk => ⟨hk.1.1.1.2, ⟨hk.1.1.2, hk.1.2⟩⟩)⟩
        have n4_ : Aside0 (((w86.setCell ⟨gb706, 0, none⟩ (.bool t701)).setCell ⟨gb706, 1, none⟩ (.slice Ao93 t702.length co93)).heap[gb675]? = some (.cells #[.bool a0_0, .slice A0_1 l0_1.length c0_1] 24 (0, 0))) := ⟨tk BK675⟩
        have n5_ : Aside0 (((w86.setCell ⟨gb706, 0, none⟩ (.bool t701)).setCell ⟨gb706, 1, none⟩ (.slice Ao93 t702.length co93)).heap[gb676]? = some (.cells #[.bool a1_0, .slice A1_1 l1_1.length c1_1] 24 (0, 0))) := ⟨tk BK676⟩
        have n6_ : Aside0 (((w86.setCell ⟨gb706, 0, none⟩ (.bool t701)).setCell ⟨gb706, 1, none⟩ (.slice Ao93 t702.length co93)).heap[gb690]? = some (.cells #[.bool t681, .slice Ao66 t682.length co66] 24 (0, 0))) := ⟨tk BK690⟩
        have n7_ : Aside0 (((w86.setCell ⟨gb706, 0, none⟩ (.bool t701)).setCell ⟨gb706, 1, none⟩ (.slice Ao93 t702.length co93)).heap[gb691]? = some (.cells #[.bool t685, .slice Ao70 t686.length co70] 24 (0, 0))) := ⟨tk BK691⟩
        have n8_ : Aside0 (((w86.setCell ⟨gb706, 0, none⟩ (.bool t701)).setCell ⟨gb706, 1, none⟩ (.slice Ao93 t702.length co93)).heap[gb700]? = some (.cells #[.bool t695, .slice Ao82 t696.length co82] 24 (0, 0))) := ⟨tk BK700⟩
        have n9_ : Aside0 (((w86.setCell ⟨gb706, 0, none⟩ (.bool t701)).setCell ⟨gb706, 1, none⟩ (.slice Ao93 t702.length co93)).heap[gb706]? = some (.cells #[.bool t701, .slice Ao93 t702.length co93] 24 (0, 0))) := ⟨tk BK706⟩
        have n10_ : Aside0 (Below w.heap.size w ((w86.setCell ⟨gb706, 0, none⟩ (.bool t701)).setCell ⟨gb706, 1, none⟩ (.slice Ao93 t702.length co93))) := ⟨tb HB⟩
        (try clear HO684); (try clear HO688); (try clear HO698); (try clear HO704); (try clear BK675); (try clear BK676); (try clear BK690); (try clear BK691); (try clear BK700); (try clear BK706); (try clear HB)
        generalize ((w86.setCell ⟨gb706, 0, none⟩ (.bool t701)).setCell ⟨gb706, 1, none⟩ (.slice Ao93 t702.length co93)) = w127 at n0_ n1_ n2_ n3_ n4_ n5_ n6_ n7_ n8_ n9_ n10_ ⊢
        have HO684 := n0_
        have HO688 := n1_
        have HO698 := n2_
        have HO704 := n3_
        have BK675 := n4_
        have BK676 := n5_
        have BK690 := n6_
        have BK691 := n7_
        have BK700 := n8_
        have BK706 := n9_
        have HB := n10_
        clear n0_ n1_ n2_ n3_ n4_ n5_ n6_ n7_ n8_ n9_ n10_
        replace HO684 := Aside0.mk (Kd.R_drew HO684.out)
        replace HO688 := Aside0.mk (Kd.R_drew HO688.out)
        replace HO698 := Aside0.mk (Kd.R_drew HO698.out)
        replace HO704 := Aside0.mk (Kd.R_drew HO704.out)
        replace BK675 := Aside0.mk (blk_drew BK675.out)
        replace BK676 := Aside0.mk (blk_drew BK676.out)
        replace BK690 := Aside0.mk (blk_drew BK690.out)
        replace BK691 := Aside0.mk (blk_drew BK691.out)
        replace BK700 := Aside0.mk (blk_drew BK700.out)
        replace BK706 := Aside0.mk (blk_drew BK706.out)
        replace HB := Aside0.mk (below_drew1 HB.out)
        refine start_ (n := 32) (S := fun w' => True) (ds := []) #[false, false, false, false, false, false, false, false, false, false, false, false, false, false, false, false, false, false, false, false, false, false, false, false, false, false, false, false, false, false, false, false] (by kernel_rfl) rfl rfl trivial (fun hHeld => ?_); refine with_tabW whetstonelaw02_BigRests.tab8 whetstonelaw02_BigRests.bits8 (fun HT_ HW_ => ?_)
        generalize w127.drew = w128 at HO684 HO688 HO698 HO704 BK675 BK676 BK690 BK691 BK700 BK706 HB hHeld ⊢
        refine pT (i := 0) (N := some 60) (bb 32 1) HT_ ?_
        refine pT (i := 1) (N := some 61) (bb 32 3) HT_ ?_
        refine pT (i := 2) (N := some 62) (bb 32 7) HT_ ?_
        refine pT (i := 3) (N := some 63) (bb 32 15) HT_ ?_
        refine pT (i := 4) (N := some 64) (bb 32 31) HT_ ?_
        refine pT (i := 5) (N := some 65) (bb 32 63) HT_ ?_
        refine pT (i := 6) (N := some 66) (bb 32 127) HT_ ?_
        refine pure_ (i := 7) (N := some 67) (v := undef) (a' := ?_) #[true, true, true, true, true, true, true, true, false, false, false, false, false, false, false, false, false, false, false, false, false, false, false, false, false, false, false, false, false, false, false, false] rfl rfl (any_of HT_.out (by kernel_rfl)) (fun _ _ _ h => h) (Or.inr ⟨by rfl, rfl⟩) ?_ ?_
        rotate_left
        ·simp only [Act.put, List.setIfInBounds_toArray, List.set_cons_zero, List.set_cons_succ, i64_w, i32_w]
         rfl
        refine pure_ (i := 8) (N := some 68) (v := undef) (a' := ?_) #[true, true, true, true, true, true, true, true, true, false, false, false, false, false, false, false, false, false, false, false, false, false, false, false, false, false, false, false, false, false, false, false] rfl rfl (any_of HT_.out (by kernel_rfl)) (fun _ _ _ h => h) (Or.inr ⟨by rfl, rfl⟩) ?_ ?_
        rotate_left
        ·simp only [Act.put, List.setIfInBounds_toArray, List.set_cons_zero, List.set_cons_succ, i64_w, i32_w]
         rfl
        refine pT (i := 9) (N := some 69) (bb 32 1023) HT_ ?_
        refine pT (i := 10) (N := some 70) (bb 32 2047) HT_ ?_
        refine pure_ (i := 11) (N := some 71) (v := undef) (a' := ?_) #[true, true, true, true, true, true, true, true, true, true, true, true, false, false, false, false, false, false, false, false, false, false, false, false, false, false, false, false, false, false, false, false] rfl rfl (any_of HT_.out (by kernel_rfl)) (fun _ _ _ h => h) (Or.inr ⟨by rfl, rfl⟩) ?_ ?_
        rotate_left
        ·simp only [Act.put, List.setIfInBounds_toArray, List.set_cons_zero, List.set_cons_succ, i64_w, i32_w]
         rfl
        refine pure_ (i := 12) (N := some 72) (v := undef) (a' := ?_) #[true, true, true, true, true, true, true, true, true, true, true, true, true, false, false, false, false, false, false, false, false, false, false, false, false, false, false, false, false, false, false, false] rfl rfl (any_of HT_.out (by kernel_rfl)) (fun _ _ _ h => h) (Or.inr ⟨by rfl, rfl⟩) ?_ ?_
        rotate_left
        ·simp only [Act.put, List.setIfInBounds_toArray, List.set_cons_zero, List.set_cons_succ, i64_w, i32_w]
         rfl
        refine pure_ (i := 13) (N := some 73) (v := undef) (a' := ?_) #[true, true, true, true, true, true, true, true, true, true, true, true, true, true, false, false, false, false, false, false, false, false, false, false, false, false, false, false, false, false, false, false] rfl rfl (any_of HT_.out (by kernel_rfl)) (fun _ _ _ h => h) (Or.inr ⟨by rfl, rfl⟩) ?_ ?_
        rotate_left
        ·simp only [Act.put, List.setIfInBounds_toArray, List.set_cons_zero, List.set_cons_succ, i64_w, i32_w]
         rfl
        refine pT (i := 14) (N := some 74) (bb 32 32767) HT_ ?_
        refine pT (i := 15) (N := some 75) (bb 32 65535) HT_ ?_
        refine pure_ (i := 16) (N := some 76) (v := undef) (a' := ?_) #[true, true, true, true, true, true, true, true, true, true, true, true, true, true, true, true, true, false, false, false, false, false, false, false, false, false, false, false, false, false, false, false] rfl rfl (any_of HT_.out (by kernel_rfl)) (fun _ _ _ h => h) (Or.inr ⟨by rfl, rfl⟩) ?_ ?_
        rotate_left
        ·simp only [Act.put, List.setIfInBounds_toArray, List.set_cons_zero, List.set_cons_succ, i64_w, i32_w]
         rfl
        refine pure_ (i := 17) (N := some 77) (v := undef) (a' := ?_) #[true, true, true, true, true, true, true, true, true, true, true, true, true, true, true, true, true, true, false, false, false, false, false, false, false, false, false, false, false, false, false, false] rfl rfl (any_of HT_.out (by kernel_rfl)) (fun _ _ _ h => h) (Or.inr ⟨by rfl, rfl⟩) ?_ ?_
        rotate_left
        ·simp only [Act.put, List.setIfInBounds_toArray, List.set_cons_zero, List.set_cons_succ, i64_w, i32_w]
         rfl
        refine pure_ (i := 18) (N := some 78) (v := undef) (a' := ?_) #[true, true, true, true, true, true, true, true, true, true, true, true, true, true, true, true, true, true, true, false, false, false, false, false, false, false, false, false, false, false, false, false] rfl rfl (any_of HT_.out (by kernel_rfl)) (fun _ _ _ h => h) (Or.inr ⟨by rfl, rfl⟩) ?_ ?_
        rotate_left
        ·simp only [Act.put, List.setIfInBounds_toArray, List.set_cons_zero, List.set_cons_succ, i64_w, i32_w]
         rfl
        refine pure_ (i := 19) (N := some 79) (v := undef) (a' := ?_) #[true, true, true, true, true, true, true, true, true, true, true, true, true, true, true, true, true, true, true, true, false, false, false, false, false, false, false, false, false, false, false, false] rfl rfl (any_of HT_.out (by kernel_rfl)) (fun _ _ _ h => h) (Or.inr ⟨by rfl, rfl⟩) ?_ ?_
        rotate_left
        ·simp only [Act.put, List.setIfInBounds_toArray, List.set_cons_zero, List.set_cons_succ, i64_w, i32_w]
         rfl
        refine pure_ (i := 20) (N := some 80) (v := undef) (a' := ?_) #[true, true, true, true, true, true, true, true, true, true, true, true, true, true, true, true, true, true, true, true, true, false, false, false, false, false, false, false, false, false, false, false] rfl rfl (any_of HT_.out (by kernel_rfl)) (fun _ _ _ h => h) (Or.inr ⟨by rfl, rfl⟩) ?_ ?_
        rotate_left
        ·simp only [Act.put, List.setIfInBounds_toArray, List.set_cons_zero, List.set_cons_succ, i64_w, i32_w]
         rfl
        refine pT (i := 21) (N := some 81) (bb 32 4194303) HT_ ?_
        refine pT (i := 22) (N := some 82) (bb 32 8388607) HT_ ?_
        refine pure_ (i := 23) (N := some 83) (v := undef) (a' := ?_) #[true, true, true, true, true, true, true, true, true, true, true, true, true, true, true, true, true, true, true, true, true, true, true, true, false, false, false, false, false, false, false, false] rfl rfl (any_of HT_.out (by kernel_rfl)) (fun _ _ _ h => h) (Or.inr ⟨by rfl, rfl⟩) ?_ ?_
        rotate_left
        ·simp only [Act.put, List.setIfInBounds_toArray, List.set_cons_zero, List.set_cons_succ, i64_w, i32_w]
         rfl
        refine pure_ (i := 24) (N := some 84) (v := undef) (a' := ?_) #[true, true, true, true, true, true, true, true, true, true, true, true, true, true, true, true, true, true, true, true, true, true, true, true, true, false, false, false, false, false, false, false] rfl rfl (any_of HT_.out (by kernel_rfl)) (fun _ _ _ h => h) (Or.inr ⟨by rfl, rfl⟩) ?_ ?_
        rotate_left
        ·simp only [Act.put, List.setIfInBounds_toArray, List.set_cons_zero, List.set_cons_succ, i64_w, i32_w]
         rfl
        refine pure_ (i := 25) (N := some 85) (v := undef) (a' := ?_) #[true, true, true, true, true, true, true, true, true, true, true, true, true, true, true, true, true, true, true, true, true, true, true, true, true, true, false, false, false, false, false, false] rfl rfl (any_of HT_.out (by kernel_rfl)) (fun _ _ _ h => h) (Or.inr ⟨by rfl, rfl⟩) ?_ ?_
        rotate_left
        ·simp only [Act.put, List.setIfInBounds_toArray, List.set_cons_zero, List.set_cons_succ, i64_w, i32_w]
         rfl
        refine pure_ (i := 26) (N := some 86) (v := undef) (a' := ?_) #[true, true, true, true, true, true, true, true, true, true, true, true, true, true, true, true, true, true, true, true, true, true, true, true, true, true, true, false, false, false, false, false] rfl rfl (any_of HT_.out (by kernel_rfl)) (fun _ _ _ h => h) (Or.inr ⟨by rfl, rfl⟩) ?_ ?_
        rotate_left
        ·simp only [Act.put, List.setIfInBounds_toArray, List.set_cons_zero, List.set_cons_succ, i64_w, i32_w]
         rfl
        refine pure_ (i := 27) (N := some 87) (v := undef) (a' := ?_) #[true, true, true, true, true, true, true, true, true, true, true, true, true, true, true, true, true, true, true, true, true, true, true, true, true, true, true, true, false, false, false, false] rfl rfl (any_of HT_.out (by kernel_rfl)) (fun _ _ _ h => h) (Or.inr ⟨by rfl, rfl⟩) ?_ ?_
        rotate_left
        ·simp only [Act.put, List.setIfInBounds_toArray, List.set_cons_zero, List.set_cons_succ, i64_w, i32_w]
         rfl
        refine pure_ (i := 28) (N := some 88) (v := undef) (a' := ?_) #[true, true, true, true, true, true, true, true, true, true, true, true, true, true, true, true, true, true, true, true, true, true, true, true, true, true, true, true, true, false, false, false] rfl rfl (any_of HT_.out (by kernel_rfl)) (fun _ _ _ h => h) (Or.inr ⟨by rfl, rfl⟩) ?_ ?_
        rotate_left
        ·simp only [Act.put, List.setIfInBounds_toArray, List.set_cons_zero, List.set_cons_succ, i64_w, i32_w]
         rfl
        refine pure_ (i := 29) (N := some 89) (v := undef) (a' := ?_) #[true, true, true, true, true, true, true, true, true, true, true, true, true, true, true, true, true, true, true, true, true, true, true, true, true, true, true, true, true, true, false, false] rfl rfl (any_of HT_.out (by kernel_rfl)) (fun _ _ _ h => h) (Or.inr ⟨by rfl, rfl⟩) ?_ ?_
        rotate_left
        ·simp only [Act.put, List.setIfInBounds_toArray, List.set_cons_zero, List.set_cons_succ, i64_w, i32_w]
         rfl
        refine pure_ (i := 30) (N := some 90) (v := undef) (a' := ?_) #[true, true, true, true, true, true, true, true, true, true, true, true, true, true, true, true, true, true, true, true, true, true, true, true, true, true, true, true, true, true, true, false] rfl rfl (any_of HT_.out (by kernel_rfl)) (fun _ _ _ h => h) (Or.inr ⟨by rfl, rfl⟩) ?_ ?_
        rotate_left
        ·simp only [Act.put, List.setIfInBounds_toArray, List.set_cons_zero, List.set_cons_succ, i64_w, i32_w]
         rfl
        refine pT (i := 31) (N := some 91) (bb 32 4294967295) HT_ ?_
        refine done_ (done_of HT_.out (by kernel_rfl)) ?_
        try go_wp2
        go_meet
        case rel => exact ⟨_, (true), (by first | rfl | (simp; done) | (simp [*]; done)), H', ⟨by have := HJ2.out; first | omega | exact Nat.le_refl _⟩, ⟨tq HO684⟩, ⟨tq HO688⟩, ⟨tq HO698⟩, ⟨tq HO704⟩, ⟨tk BK675⟩, ⟨tk BK676⟩, ⟨tk BK690⟩, ⟨tk BK691⟩, ⟨tk BK700⟩, ⟨tk BK706⟩, ⟨tb HB⟩⟩
      ·rw [if_neg c94] at H
       have c94b0 : (t689 == 0) = false := beq_eq_false_iff_ne.mpr c94
       have c94b1 : (t689 != 0) = true := bne_iff_ne.mpr c94
       (first | rw [c94b0] | rw [c94b1] | (simp only [i64_w, i32_w]; rw [c94b0]) | skip)
       have H' := Aside0.mk H
       clear H
       try go_wp2
       have n0_ : Aside0 (Kd.R (Kd.int .u32) 87 ((w86.setCell ⟨gb706, 0, none⟩ (.bool t701)).setCell ⟨gb706, 1, none⟩ (.slice Ao93 t702.length co93)) w.heap.size (fun k_ => some k_ ≠ (.slice Ao70 t686.length co70 : Value).ownBlock ∧ some k_ ≠ (.slice Ao82 t696.length co82 : Value).ownBlock ∧ some k_ ≠ (.slice Ao93 t702.length co93 : Value).ownBlock) (.slice Ao66 t682.length co66) t682) := ⟨by (with_reducible repeat first | apply qa | apply qn | apply qd); exact Kd.R_mono (Kd.R_far (p := ⟨gb706, 1, none⟩) (Kd.R_far (p := ⟨gb706, 0, none⟩) (Kd.R_types HO684.out BK706.out (by decide)) (fun _ hk => hk.2) (.bool t701)) (fun _ hk => hk.2) (.slice Ao93 t702.length co93)) (fun _ hk => ⟨hk.1.1.1, ⟨hk.1.1.2, hk.1.2⟩⟩)⟩
       have n1_ : Aside0 (Kd.R (Kd.int .u32) 87 ((w86.setCell ⟨gb706, 0, none⟩ (.bool t701)).setCell ⟨gb706, 1, none⟩ (.slice Ao93 t702.length co93)) w.heap.size (fun k_ => some k_ ≠ (.slice Ao66 t682.length co66 : Value).ownBlock ∧ some k_ ≠ (.slice Ao82 t696.length co82 : Value).ownBlock ∧ some k_ ≠ (.slice Ao93 t702.length co93 : Value).ownBlock) (.slice Ao70 t686.length co70) t686) := ⟨by (with_reducible repeat first | apply qa | apply qn | apply qd); exact Kd.R_mono (Kd.R_far (p := ⟨gb706, 1, none⟩) (Kd.R_far (p := ⟨gb706, 0, none⟩) (Kd.R_types HO688.out BK706.out (by decide)) (fun _ hk => hk.2) (.bool t701)) (fun _ hk => hk.2) (.slice Ao93 t702.length co93)) (fun _ hk => ⟨hk.1.1.1, ⟨hk.1.1.2, hk.1.2⟩⟩)⟩
       have n2_ : Aside0 (Kd.R (Kd.int .u32) 87 ((w86.setCell ⟨gb706, 0, none⟩ (.bool t701)).setCell ⟨gb706, 1, none⟩ (.slice Ao93 t702.length co93)) w.heap.size (fun k_ => some k_ ≠ (.slice Ao66 t682.length co66 : Value).ownBlock ∧ some k_ ≠ (.slice Ao70 t686.length co70 : Value).ownBlock ∧ some k_ ≠ (.slice Ao93 t702.length co93 : Value).ownBlock) (.slice Ao82 t696.length co82) t696) := ⟨by (with_reducible repeat first | apply qa | apply qn | apply qd); exact Kd.R_mono (Kd.R_far (p := ⟨gb706, 1, none⟩) (Kd.R_far (p := ⟨gb706, 0, none⟩) (Kd.R_types HO698.out BK706.out (by decide)) (fun _ hk => hk.2) (.bool t701)) (fun _ hk => hk.2) (.slice Ao93 t702.length co93)) (fun _ hk => ⟨hk.1.1.1.2, ⟨hk.1.1.2, hk.1.2⟩⟩)⟩
       have n3_ : Aside0 (Kd.R (Kd.int .u32) 87 ((w86.setCell ⟨gb706, 0, none⟩ (.bool t701)).setCell ⟨gb706, 1, none⟩ (.slice Ao93 t702.length co93)) w.heap.size (fun k_ => some k_ ≠ (.slice Ao66 t682.length co66 : Value).ownBlock ∧ some k_ ≠ (.slice Ao70 t686.length co70 : Value).ownBlock ∧ some k_ ≠ (.slice Ao82 t696.length co82 : Value).ownBlock) (.slice Ao93 t702.length co93) t702) := ⟨by (with_reducible repeat first | apply qa | apply qn | apply qd); exact Kd.R_mono (Kd.R_far (p := ⟨gb706, 1, none⟩) (Kd.R_far (p := ⟨gb706, 0, none⟩) (Kd.R_types HO704.out BK706.out (by decide)) (fun _ hk => hk.2) (.bool t701)) (fun _ hk => hk.2) (.slice Ao93 t702.length co93)) (fun _ hk => ⟨hk.1.1.1.2, ⟨hk.1.1.2, hk.1.2⟩⟩)⟩
       have n4_ : Aside0 (((w86.setCell ⟨gb706, 0, none⟩ (.bool t701)).setCell ⟨gb706, 1, none⟩ (.slice Ao93 t702.length co93)).heap[gb675]? = some (.cells #[.bool a0_0, .slice A0_1 l0_1.length c0_1] 24 (0, 0))) := ⟨tk BK675⟩
       have n5_ : Aside0 (((w86.setCell ⟨gb706, 0, none⟩ (.bool t701)).setCell ⟨gb706, 1, none⟩ (.slice Ao93 t702.length co93)).heap[gb676]? = some (.cells #[.bool a1_0, .slice A1_1 l1_1.length c1_1] 24 (0, 0))) := ⟨tk BK676⟩
       have n6_ : Aside0 (((w86.setCell ⟨gb706, 0, none⟩ (.bool t701)).setCell ⟨gb706, 1, none⟩ (.slice Ao93 t702.length co93)).heap[gb690]? = some (.cells #[.bool t681, .slice Ao66 t682.length co66] 24 (0, 0))) := ⟨tk BK690⟩
       have n7_ : Aside0 (((w86.setCell ⟨gb706, 0, none⟩ (.bool t701)).setCell ⟨gb706, 1, none⟩ (.slice Ao93 t702.length co93)).heap[gb691]? = some (.cells #[.bool t685, .slice Ao70 t686.length co70] 24 (0, 0))) := ⟨tk BK691⟩
       have n8_ : Aside0 (((w86.setCell ⟨gb706, 0, none⟩ (.bool t701)).setCell ⟨gb706, 1, none⟩ (.slice Ao93 t702.length co93)).heap[gb700]? = some (.cells #[.bool t695, .slice Ao82 t696.length co82] 24 (0, 0))) := ⟨tk BK700⟩
       have n9_ : Aside0 (((w86.setCell ⟨gb706, 0, none⟩ (.bool t701)).setCell ⟨gb706, 1, none⟩ (.slice Ao93 t702.length co93)).heap[gb706]? = some (.cells #[.bool t701, .slice Ao93 t702.length co93] 24 (0, 0))) := ⟨tk BK706⟩
       have n10_ : Aside0 (Below w.heap.size w ((w86.setCell ⟨gb706, 0, none⟩ (.bool t701)).setCell ⟨gb706, 1, none⟩ (.slice Ao93 t702.length co93))) := ⟨tb HB⟩
       (try clear HO684); (try clear HO688); (try clear HO698); (try clear HO704); (try clear BK675); (try clear BK676); (try clear BK690); (try clear BK691); (try clear BK700); (try clear BK706); (try clear HB)
       generalize ((w86.setCell ⟨gb706, 0, none⟩ (.bool t701)).setCell ⟨gb706, 1, none⟩ (.slice Ao93 t702.length co93)) = w129 at n0_ n1_ n2_ n3_ n4_ n5_ n6_ n7_ n8_ n9_ n10_ ⊢
       have HO684 := n0_
       have HO688 := n1_
       have HO698 := n2_
       have HO704 := n3_
       have BK675 := n4_
       have BK676 := n5_
       have BK690 := n6_
       have BK691 := n7_
       have BK700 := n8_
       have BK706 := n9_
       have HB := n10_
       clear n0_ n1_ n2_ n3_ n4_ n5_ n6_ n7_ n8_ n9_ n10_
       replace HO684 := Aside0.mk (Kd.R_drew HO684.out)
       replace HO688 := Aside0.mk (Kd.R_drew HO688.out)
       replace HO698 := Aside0.mk (Kd.R_drew HO698.out)
       replace HO704 := Aside0.mk (Kd.R_drew HO704.out)
       replace BK675 := Aside0.mk (blk_drew BK675.out)
       replace BK676 := Aside0.mk (blk_drew BK676.out)
       replace BK690 := Aside0.mk (blk_drew BK690.out)
       replace BK691 := Aside0.mk (blk_drew BK691.out)
       replace BK700 := Aside0.mk (blk_drew BK700.out)
       replace BK706 := Aside0.mk (blk_drew BK706.out)
       replace HB := Aside0.mk (below_drew1 HB.out)
       refine start_ (n := 32) (S := fun w' => True) (ds := []) #[false, false, false, false, false, false, false, false, false, false, false, false, false, false, false, false, false, false, false, false, false, false, false, false, false, false, false, false, false, false, false, false] (by kernel_rfl) rfl rfl trivial (fun hHeld => ?_); refine with_tabW whetstonelaw02_BigRests.tab8 whetstonelaw02_BigRests.bits8 (fun HT_ HW_ => ?_)
       generalize w129.drew = w130 at HO684 HO688 HO698 HO704 BK675 BK676 BK690 BK691 BK700 BK706 HB hHeld ⊢
       refine pT (i := 0) (N := some 60) (bb 32 1) HT_ ?_
       refine pT (i := 1) (N := some 61) (bb 32 3) HT_ ?_
       refine pT (i := 2) (N := some 62) (bb 32 7) HT_ ?_
       refine pure_ (i := 3) (N := some 63) (v := undef) (a' := ?_) #[true, true, true, true, false, false, false, false, false, false, false, false, false, false, false, false, false, false, false, false, false, false, false, false, false, false, false, false, false, false, false, false] rfl rfl (any_of HT_.out (by kernel_rfl)) (fun _ _ _ h => h) (Or.inr ⟨by rfl, rfl⟩) ?_ ?_
       rotate_left
       ·simp only [Act.put, List.setIfInBounds_toArray, List.set_cons_zero, List.set_cons_succ, i64_w, i32_w]
        rfl
       refine pure_ (i := 4) (N := some 64) (v := undef) (a' := ?_) #[true, true, true, true, true, false, false, false, false, false, false, false, false, false, false, false, false, false, false, false, false, false, false, false, false, false, false, false, false, false, false, false] rfl rfl (any_of HT_.out (by kernel_rfl)) (fun _ _ _ h => h) (Or.inr ⟨by rfl, rfl⟩) ?_ ?_
       rotate_left
       ·simp only [Act.put, List.setIfInBounds_toArray, List.set_cons_zero, List.set_cons_succ, i64_w, i32_w]
        rfl
       refine pT (i := 5) (N := some 65) (bb 32 63) HT_ ?_
       refine pT (i := 6) (N := some 66) (bb 32 127) HT_ ?_
       refine pure_ (i := 7) (N := some 67) (v := undef) (a' := ?_) #[true, true, true, true, true, true, true, true, false, false, false, false, false, false, false, false, false, false, false, false, false, false, false, false, false, false, false, false, false, false, false, false] rfl rfl (any_of HT_.out (by kernel_rfl)) (fun _ _ _ h => h) (Or.inr ⟨by rfl, rfl⟩) ?_ ?_
       rotate_left
       ·simp only [Act.put, List.setIfInBounds_toArray, List.set_cons_zero, List.set_cons_succ, i64_w, i32_w]
        rfl
       refine pure_ (i := 8) (N := some 68) (v := undef) (a' := ?_) #[true, true, true, true, true, true, true, true, true, false, false, false, false, false, false, false, false, false, false, false, false, false, false, false, false, false, false, false, false, false, false, false] rfl rfl (any_of HT_.out (by kernel_rfl)) (fun _ _ _ h => h) (Or.inr ⟨by rfl, rfl⟩) ?_ ?_
       rotate_left
       ·simp only [Act.put, List.setIfInBounds_toArray, List.set_cons_zero, List.set_cons_succ, i64_w, i32_w]
        rfl
       refine pT (i := 9) (N := some 69) (bb 32 1023) HT_ ?_
       refine pT (i := 10) (N := some 70) (bb 32 2047) HT_ ?_
       refine pure_ (i := 11) (N := some 71) (v := undef) (a' := ?_) #[true, true, true, true, true, true, true, true, true, true, true, true, false, false, false, false, false, false, false, false, false, false, false, false, false, false, false, false, false, false, false, false] rfl rfl (any_of HT_.out (by kernel_rfl)) (fun _ _ _ h => h) (Or.inr ⟨by rfl, rfl⟩) ?_ ?_
       rotate_left
       ·simp only [Act.put, List.setIfInBounds_toArray, List.set_cons_zero, List.set_cons_succ, i64_w, i32_w]
        rfl
       refine pure_ (i := 12) (N := some 72) (v := undef) (a' := ?_) #[true, true, true, true, true, true, true, true, true, true, true, true, true, false, false, false, false, false, false, false, false, false, false, false, false, false, false, false, false, false, false, false] rfl rfl (any_of HT_.out (by kernel_rfl)) (fun _ _ _ h => h) (Or.inr ⟨by rfl, rfl⟩) ?_ ?_
       rotate_left
       ·simp only [Act.put, List.setIfInBounds_toArray, List.set_cons_zero, List.set_cons_succ, i64_w, i32_w]
        rfl
       refine pure_ (i := 13) (N := some 73) (v := undef) (a' := ?_) #[true, true, true, true, true, true, true, true, true, true, true, true, true, true, false, false, false, false, false, false, false, false, false, false, false, false, false, false, false, false, false, false] rfl rfl (any_of HT_.out (by kernel_rfl)) (fun _ _ _ h => h) (Or.inr ⟨by rfl, rfl⟩) ?_ ?_
       rotate_left
       ·simp only [Act.put, List.setIfInBounds_toArray, List.set_cons_zero, List.set_cons_succ, i64_w, i32_w]
        rfl
       refine pT (i := 14) (N := some 74) (bb 32 32767) HT_ ?_
       refine pT (i := 15) (N := some 75) (bb 32 65535) HT_ ?_
       refine pure_ (i := 16) (N := some 76) (v := undef) (a' := ?_) #[true, true, true, true, true, true, true, true, true, true, true, true, true, true, true, true, true, false, false, false, false, false, false, false, false, false, false, false, false, false, false, false] rfl rfl (any_of HT_.out (by kernel_rfl)) (fun _ _ _ h => h) (Or.inr ⟨by rfl, rfl⟩) ?_ ?_
       rotate_left
       ·simp only [Act.put, List.setIfInBounds_toArray, List.set_cons_zero, List.set_cons_succ, i64_w, i32_w]
        rfl
       refine pure_ (i := 17) (N := some 77) (v := undef) (a' := ?_) #[true, true, true, true, true, true, true, true, true, true, true, true, true, true, true, true, true, true, false, false, false, false, false, false, false, false, false, false, false, false, false, false] rfl rfl (any_of HT_.out (by kernel_rfl)) (fun _ _ _ h => h) (Or.inr ⟨by rfl, rfl⟩) ?_ ?_
       rotate_left
       ·simp only [Act.put, List.setIfInBounds_toArray, List.set_cons_zero, List.set_cons_succ, i64_w, i32_w]
        rfl
       refine pure_ (i := 18) (N := some 78) (v := undef) (a' := ?_) #[true, true, true, true, true, true, true, true, true, true, true, true, true, true, true, true, true, true, true, false, false, false, false, false, false, false, false, false, false, false, false, false] rfl rfl (any_of HT_.out (by kernel_rfl)) (fun _ _ _ h => h) (Or.inr ⟨by rfl, rfl⟩) ?_ ?_
       rotate_left
       ·simp only [Act.put, List.setIfInBounds_toArray, List.set_cons_zero, List.set_cons_succ, i64_w, i32_w]
        rfl
       refine pure_ (i := 19) (N := some 79) (v := undef) (a' := ?_) #[true, true, true, true, true, true, true, true, true, true, true, true, true, true, true, true, true, true, true, true, false, false, false, false, false, false, false, false, false, false, false, false] rfl rfl (any_of HT_.out (by kernel_rfl)) (fun _ _ _ h => h) (Or.inr ⟨by rfl, rfl⟩) ?_ ?_
       rotate_left
       ·simp only [Act.put, List.setIfInBounds_toArray, List.set_cons_zero, List.set_cons_succ, i64_w, i32_w]
        rfl
       refine pure_ (i := 20) (N := some 80) (v := undef) (a' := ?_) #[true, true, true, true, true, true, true, true, true, true, true, true, true, true, true, true, true, true, true, true, true, false, false, false, false, false, false, false, false, false, false, false] rfl rfl (any_of HT_.out (by kernel_rfl)) (fun _ _ _ h => h) (Or.inr ⟨by rfl, rfl⟩) ?_ ?_
       rotate_left
       ·simp only [Act.put, List.setIfInBounds_toArray, List.set_cons_zero, List.set_cons_succ, i64_w, i32_w]
        rfl
       refine pT (i := 21) (N := some 81) (bb 32 4194303) HT_ ?_
       refine pT (i := 22) (N := some 82) (bb 32 8388607) HT_ ?_
       refine pure_ (i := 23) (N := some 83) (v := undef) (a' := ?_) #[true, true, true, true, true, true, true, true, true, true, true, true, true, true, true, true, true, true, true, true, true, true, true, true, false, false, false, false, false, false, false, false] rfl rfl (any_of HT_.out (by kernel_rfl)) (fun _ _ _ h => h) (Or.inr ⟨by rfl, rfl⟩) ?_ ?_
       rotate_left
       ·simp only [Act.put, List.setIfInBounds_toArray, List.set_cons_zero, List.set_cons_succ, i64_w, i32_w]
        rfl
       refine pure_ (i := 24) (N := some 84) (v := undef) (a' := ?_) #[true, true, true, true, true, true, true, true, true, true, true, true, true, true, true, true, true, true, true, true, true, true, true, true, true, false, false, false, false, false, false, false] rfl rfl (any_of HT_.out (by kernel_rfl)) (fun _ _ _ h => h) (Or.inr ⟨by rfl, rfl⟩) ?_ ?_
       rotate_left
       ·simp only [Act.put, List.setIfInBounds_toArray, List.set_cons_zero, List.set_cons_succ, i64_w, i32_w]
        rfl
       refine pure_ (i := 25) (N := some 85) (v := undef) (a' := ?_) #[true, true, true, true, true, true, true, true, true, true, true, true, true, true, true, true, true, true, true, true, true, true, true, true, true, true, false, false, false, false, false, false] rfl rfl (any_of HT_.out (by kernel_rfl)) (fun _ _ _ h => h) (Or.inr ⟨by rfl, rfl⟩) ?_ ?_
       rotate_left
       ·simp only [Act.put, List.setIfInBounds_toArray, List.set_cons_zero, List.set_cons_succ, i64_w, i32_w]
        rfl
       refine pure_ (i := 26) (N := some 86) (v := undef) (a' := ?_) #[true, true, true, true, true, true, true, true, true, true, true, true, true, true, true, true, true, true, true, true, true, true, true, true, true, true, true, false, false, false, false, false] rfl rfl (any_of HT_.out (by kernel_rfl)) (fun _ _ _ h => h) (Or.inr ⟨by rfl, rfl⟩) ?_ ?_
       rotate_left
       ·simp only [Act.put, List.setIfInBounds_toArray, List.set_cons_zero, List.set_cons_succ, i64_w, i32_w]
        rfl
       refine pure_ (i := 27) (N := some 87) (v := undef) (a' := ?_) #[true, true, true, true, true, true, true, true, true, true, true, true, true, true, true, true, true, true, true, true, true, true, true, true, true, true, true, true, false, false, false, false] rfl rfl (any_of HT_.out (by kernel_rfl)) (fun _ _ _ h => h) (Or.inr ⟨by rfl, rfl⟩) ?_ ?_
       rotate_left
       ·simp only [Act.put, List.setIfInBounds_toArray, List.set_cons_zero, List.set_cons_succ, i64_w, i32_w]
        rfl
       refine pure_ (i := 28) (N := some 88) (v := undef) (a' := ?_) #[true, true, true, true, true, true, true, true, true, true, true, true, true, true, true, true, true, true, true, true, true, true, true, true, true, true, true, true, true, false, false, false] rfl rfl (any_of HT_.out (by kernel_rfl)) (fun _ _ _ h => h) (Or.inr ⟨by rfl, rfl⟩) ?_ ?_
       rotate_left
       ·simp only [Act.put, List.setIfInBounds_toArray, List.set_cons_zero, List.set_cons_succ, i64_w, i32_w]
        rfl
       refine pure_ (i := 29) (N := some 89) (v := undef) (a' := ?_) #[true, true, true, true, true, true, true, true, true, true, true, true, true, true, true, true, true, true, true, true, true, true, true, true, true, true, true, true, true, true, false, false] rfl rfl (any_of HT_.out (by kernel_rfl)) (fun _ _ _ h => h) (Or.inr ⟨by rfl, rfl⟩) ?_ ?_
       rotate_left
       ·simp only [Act.put, List.setIfInBounds_toArray, List.set_cons_zero, List.set_cons_succ, i64_w, i32_w]
        rfl
       refine pure_ (i := 30) (N := some 90) (v := undef) (a' := ?_) #[true, true, true, true, true, true, true, true, true, true, true, true, true, true, true, true, true, true, true, true, true, true, true, true, true, true, true, true, true, true, true, false] rfl rfl (any_of HT_.out (by kernel_rfl)) (fun _ _ _ h => h) (Or.inr ⟨by rfl, rfl⟩) ?_ ?_
       rotate_left
       ·simp only [Act.put, List.setIfInBounds_toArray, List.set_cons_zero, List.set_cons_succ, i64_w, i32_w]
        rfl
       refine pT (i := 31) (N := some 91) (bb 32 4294967295) HT_ ?_
       refine done_ (done_of HT_.out (by kernel_rfl)) ?_
       try go_wp2
       go_meet
       case rel => exact ⟨_, (true), (by first | rfl | (simp; done) | (simp [*]; done)), H', ⟨by have := HJ2.out; first | omega | exact Nat.le_refl _⟩, ⟨tq HO684⟩, ⟨tq HO688⟩, ⟨tq HO698⟩, ⟨tq HO704⟩, ⟨tk BK675⟩, ⟨tk BK676⟩, ⟨tk BK690⟩, ⟨tk BK691⟩, ⟨tk BK700⟩, ⟨tk BK706⟩, ⟨tb HB⟩⟩
     case rest =>
      clear HC55
      (try clear c1); (try clear p2); (try clear c9); (try clear c94); (try clear c94b0); (try clear c94b1); (try clear c95); (try clear c95b0); (try clear c95b1)
      obtain ⟨kq, x91_54, rfl, HA, HJ54, HO_691001, HO_692001, HO_701001, HO_707001, BK675, BK676, BK690, BK691, BK700, BK706, HB⟩ := hcut
      cases kq with
      | zero => exact absurd HA.out (by simp [whetstonelaw02_BigRests.j1])
      | succ kj54 =>
       have H := HA.out
       clear HA
       simp only [whetstonelaw02_BigRests.j1] at H
       by_cases c131 : x91_54 = true
       ·subst c131
        have H1 : (none) = some r := by rw [if_pos rfl] at H; exact H
        clear H
        have H := H1
        clear H1
        exact absurd H (by simp)
       ·replace c131 := Bool.eq_false_iff.mpr c131
        subst c131
        have H1 : ((big_Sub.f kj54 t701 t702 t695 t696).bind fun bt722 => ((big_Sign.f kj54 t685 t686).bind fun t727 => (if t727 = 0 then ((big_Sign.f kj54 bt722.1 bt722.2).bind fun t728 => (if t728 = 0 then (some true) else ((big_Sign.f kj54 t685 t686).bind fun t729 => (if t729 > 0 then ((big_Of.f kj54 1).bind fun bt730 => ((big_Cmp.f kj54 bt722.1 bt722.2 bt730.1 bt730.2).bind fun t734 => (some (t734 == 0)))) else (none))))) else ((big_Sign.f kj54 t685 t686).bind fun t735 => (if t735 > 0 then ((big_Of.f kj54 1).bind fun bt736 => ((big_Cmp.f kj54 bt722.1 bt722.2 bt736.1 bt736.2).bind fun t740 => (some (t740 == 0)))) else (none)))))) = some r := by rw [if_neg (show ¬ (false = true) by decide)] at H; exact H
        clear H
        have H := H1
        clear H1
        replace H := Option.bind_eq_some_iff.mp H
        obtain ⟨⟨t722, t723⟩, A1320, H⟩ := H
        try dsimp only at H
        have A132 := Aside0.mk A1320
        clear A1320
        replace H := Option.bind_eq_some_iff.mp H
        obtain ⟨t727, A1330, H⟩ := H
        have A133 := Aside0.mk A1330
        clear A1330
        by_cases c134 : t727 = 0
        ·rw [if_pos c134] at H
         have c134b0 : (t727 == 0) = true := beq_iff_eq.mpr c134
         have c134b1 : (t727 != 0) = false := bne_eq_false_iff_eq.mpr c134
         clear c134
         replace H := Option.bind_eq_some_iff.mp H
         obtain ⟨t728, A1350, H⟩ := H
         have A135 := Aside0.mk A1350
         clear A1350
         by_cases c136 : t728 = 0
         ·rw [if_pos c136] at H
          have c136b0 : (t728 == 0) = true := beq_iff_eq.mpr c136
          have c136b1 : (t728 != 0) = false := bne_eq_false_iff_eq.mpr c136
          clear c136
          obtain rfl := Option.some.inj H
          have hnb137 := NB706_675.out
          have hnc137 := NB675_706.out
          have hnb138 := NB706_676.out
          have hnc138 := NB676_706.out
          have hnb139 := NB706_690.out
          have hnc139 := NB690_706.out
          have hnb140 := NB706_691.out
          have hnc140 := NB691_706.out
          have hnb141 := NB706_700.out
          have hnc141 := NB700_706.out
          have hcz142_0 := bc BK706 0 (.bool t701)
          have hcz142_1 := bc BK706 1 (.slice Ao93 t702.length co93)
          have hfz142_0 := blk_frozen BK706.out 0
          have hfz142_1 := blk_frozen BK706.out 1
          have hnb143 := NB700_675.out
          have hnc143 := NB675_700.out
          have hnb144 := NB700_676.out
          have hnc144 := NB676_700.out
          have hnb145 := NB700_690.out
          have hnc145 := NB690_700.out
          have hnb146 := NB700_691.out
          have hnc146 := NB691_700.out
          have hcz147_0 := bc BK700 0 (.bool t695)
          have hcz147_1 := bc BK700 1 (.slice Ao82 t696.length co82)
          have hfz147_0 := blk_frozen BK700.out 0
          have hfz147_1 := blk_frozen BK700.out 1
          try go_wp2_with (first | ((with_reducible refine gate_callee (f := 22) rfl ?_); refine gL (N := some 94) Try.func22 #[.agg #[.bool t701, .slice Ao93 t702.length co93], .agg #[.bool t695, .slice Ao82 t696.length co82]] ?_; (with_reducible refine (big_Sub.calls kj54 t701 _ _ t702 t695 _ _ t696 t722 t723 _ ?side1 ?side2 ?side3 ?side4 A132.out).mono ?_); (case side1 => exact tc (Kd.R_reads' HO_707001.out).2.2); (case side2 => exact (Kd.R_reads' HO_707001.out).2.1); (case side3 => exact tc (Kd.R_reads' HO_701001.out).2.2); (case side4 => exact (Kd.R_reads' HO_701001.out).2.1); rintro e w148 ⟨v724, rfl, ho0, hb⟩; refine ⟨_, rfl, ?_⟩; have HO725 := Aside0.mk (Kd.R_lower (Kd.R_new' (Kd.R_new' (Kd.R_new' (Kd.R_new' ho0 (Kd.R_lt (tq HO_691001))) (Kd.R_lt (tq HO_692001))) (Kd.R_lt (tq HO_701001))) (Kd.R_lt (tq HO_707001))) (below_size (tb HB))); replace HO_692001 := re HO_692001 (Kd.R_base ho0) hb; replace BK675 := kb BK675 hb; replace BK676 := kb BK676 hb; replace BK690 := kb BK690 hb; replace BK691 := kb BK691 hb; replace BK700 := kb BK700 hb; replace BK706 := kb BK706 hb; replace HB := bs HB hb; (try clear hb); (try clear hb2); (try clear hk); (try clear hi); (try clear ho0)) | ((with_reducible refine gate_dst (N := 12) rfl ?_); refine bx (N := 12) #[.bool false, .slice none 0 0] 24 ?_; intro gb726 hg w149 hbox hb; replace HO_692001 := rb HO_692001 hb; replace HO725 := rb HO725 hb; have BK726 := Aside0.mk (hbox); have GW726 := bz hg HB; have GE726 := bz hg HB; replace HB := bs HB hb; have NB675_726 := nl hg BK675; have NB726_675 := ng hg BK675; have NB676_726 := nl hg BK676; have NB726_676 := ng hg BK676; have NB690_726 := nl hg BK690; have NB726_690 := ng hg BK690; have NB691_726 := nl hg BK691; have NB726_691 := ng hg BK691; replace BK691 := kb BK691 hb; have NB700_726 := nl hg BK700; have NB726_700 := ng hg BK700; have NB706_726 := nl hg BK706; have NB726_706 := ng hg BK706; clear hb hbox hg; have hnb150 := NB726_675.out; have hnc150 := NB675_726.out; have hnb151 := NB726_676.out; have hnc151 := NB676_726.out; have hnb152 := NB726_690.out; have hnc152 := NB690_726.out; have hnb153 := NB726_691.out; have hnc153 := NB691_726.out; have hnb154 := NB726_700.out; have hnc154 := NB700_726.out; have hnb155 := NB726_706.out; have hnc155 := NB706_726.out; have hcz156_0 := bc BK726 0 (.bool false); have hcz156_1 := bc BK726 1 (.slice none 0 0); have hfz156_0 := blk_frozen BK726.out 0; have hfz156_1 := blk_frozen BK726.out 1; obtain ⟨Ao157, co157, eo157⟩ := Kd.R_slice HO725.out; subst eo157))
          have n1_ : Aside0 (Kd.R (Kd.int .u32) 87 ((w149.setCell ⟨gb726, 0, none⟩ (.bool t722)).setCell ⟨gb726, 1, none⟩ (.slice Ao157 t723.length co157)) w.heap.size (fun k_ => some k_ ≠ (.slice Ao66 t682.length co66 : Value).ownBlock ∧ some k_ ≠ (.slice Ao82 t696.length co82 : Value).ownBlock ∧ some k_ ≠ (.slice Ao93 t702.length co93 : Value).ownBlock ∧ some k_ ≠ (.slice Ao157 t723.length co157 : Value).ownBlock) (.slice Ao70 t686.length co70) t686) := ⟨by (with_reducible repeat first | apply qa | apply qn | apply qd); exact Kd.R_mono (Kd.R_far (p := ⟨gb726, 1, none⟩) (Kd.R_far (p := ⟨gb726, 0, none⟩) (Kd.R_types HO_692001.out BK726.out (by decide)) (fun _ hk => hk.2) (.bool t722)) (fun _ hk => hk.2) (.slice Ao157 t723.length co157)) (fun _ hk => ⟨hk.1.1.1, ⟨hk.1.1.2.1, ⟨hk.1.1.2.2, hk.1.2⟩⟩⟩)⟩
          have n4_ : Aside0 (Kd.R (Kd.int .u32) 87 ((w149.setCell ⟨gb726, 0, none⟩ (.bool t722)).setCell ⟨gb726, 1, none⟩ (.slice Ao157 t723.length co157)) w.heap.size (fun k_ => some k_ ≠ (.slice Ao66 t682.length co66 : Value).ownBlock ∧ some k_ ≠ (.slice Ao70 t686.length co70 : Value).ownBlock ∧ some k_ ≠ (.slice Ao82 t696.length co82 : Value).ownBlock ∧ some k_ ≠ (.slice Ao93 t702.length co93 : Value).ownBlock) (.slice Ao157 t723.length co157) t723) := ⟨by (with_reducible repeat first | apply qa | apply qn | apply qd); exact Kd.R_mono (Kd.R_far (p := ⟨gb726, 1, none⟩) (Kd.R_far (p := ⟨gb726, 0, none⟩) (Kd.R_types HO725.out BK726.out (by decide)) (fun _ hk => hk.2) (.bool t722)) (fun _ hk => hk.2) (.slice Ao157 t723.length co157)) (fun _ hk => ⟨hk.1.1.1.1.2, ⟨hk.1.1.1.2, ⟨hk.1.1.2, hk.1.2⟩⟩⟩)⟩
          have n8_ : Aside0 (((w149.setCell ⟨gb726, 0, none⟩ (.bool t722)).setCell ⟨gb726, 1, none⟩ (.slice Ao157 t723.length co157)).heap[gb691]? = some (.cells #[.bool t685, .slice Ao70 t686.length co70] 24 (0, 0))) := ⟨tk BK691⟩
          have n11_ : Aside0 (((w149.setCell ⟨gb726, 0, none⟩ (.bool t722)).setCell ⟨gb726, 1, none⟩ (.slice Ao157 t723.length co157)).heap[gb726]? = some (.cells #[.bool t722, .slice Ao157 t723.length co157] 24 (0, 0))) := ⟨tk BK726⟩
          have n12_ : Aside0 (Below w.heap.size w ((w149.setCell ⟨gb726, 0, none⟩ (.bool t722)).setCell ⟨gb726, 1, none⟩ (.slice Ao157 t723.length co157))) := ⟨tb HB⟩
          (try clear HO_691001); (try clear HO_692001); (try clear HO_701001); (try clear HO_707001); (try clear HO725); (try clear BK675); (try clear BK676); (try clear BK690); (try clear BK691); (try clear BK700); (try clear BK706); (try clear BK726); (try clear HB)
          generalize ((w149.setCell ⟨gb726, 0, none⟩ (.bool t722)).setCell ⟨gb726, 1, none⟩ (.slice Ao157 t723.length co157)) = w158 at n1_ n4_ n8_ n11_ n12_ ⊢
          have HO_692001 := n1_
          have HO725 := n4_
          have BK691 := n8_
          have BK726 := n11_
          have HB := n12_
          clear n1_ n4_ n8_ n11_ n12_
          replace HO_692001 := Aside0.mk (Kd.R_drew HO_692001.out)
          replace HO725 := Aside0.mk (Kd.R_drew HO725.out)
          replace BK691 := Aside0.mk (blk_drew BK691.out)
          replace BK726 := Aside0.mk (blk_drew BK726.out)
          replace HB := Aside0.mk (below_drew1 HB.out)
          refine start_ (n := 20) (S := fun w' => w'.cell? ⟨gb691, 0, none⟩ = some (.bool t685) ∧ w'.cell? ⟨gb691, 1, none⟩ = some (.slice Ao70 t686.length co70) ∧ w'.cell? ⟨gb726, 0, none⟩ = some (.bool t722) ∧ w'.cell? ⟨gb726, 1, none⟩ = some (.slice Ao157 t723.length co157)) (ds := []) #[false, false, false, false, false, false, false, false, false, false, false, false, false, false, false, false, false, false, false, false] (by kernel_rfl) rfl rfl ⟨(blk_cell BK691.out 0).trans rfl, (blk_cell BK691.out 1).trans rfl, (blk_cell BK726.out 0).trans rfl, (blk_cell BK726.out 1).trans rfl⟩ (fun hHeld => ?_); refine with_tabW whetstonelaw02_BigRests.tab11 whetstonelaw02_BigRests.bits11 (fun HT_ HW_ => ?_)
          generalize w158.drew = w159 at HO_692001 HO725 BK691 BK726 HB hHeld ⊢
          refine tW (i := 0) (N := some 95) (bb 20 1) HT_ HW_ hHeld ?_
          refine oT (i := 1) (N := some 96) (bb 20 3) HT_ fun K hK => ?_
          refine gS Try.func26 #[.agg #[.bool t685, .slice Ao70 t686.length co70]] ?_
          with_reducible refine (big_Sign.calls kj54 t685 _ _ t686 t727 _ ?side1 ?side2 A133.out).mono ?_
          (case side1 => exact tc (Kd.R_reads' HO_692001.out).2.2)
          (case side2 => exact (Kd.R_reads' HO_692001.out).2.1)
          rintro e w160 ⟨rfl, hb⟩
          refine ⟨_, rfl, ?_⟩
          replace HO725 := rb HO725 hb
          replace BK691 := kb BK691 hb
          replace BK726 := kb BK726 hb
          replace HB := bs HB hb
          (try clear hb); (try clear hb2); (try clear hk); (try clear hi)
          refine hK.out _ _ ⟨(blk_cell BK691.out 0).trans rfl, (blk_cell BK691.out 1).trans rfl, (blk_cell BK726.out 0).trans rfl, (blk_cell BK726.out 1).trans rfl⟩ fun hHeld => nT (N := some 96) ?_
          clear hK K
          refine pT (i := 2) (N := some 97) (bb 20 7) HT_ ?_
          refine pT (i := 3) (N := some 98) (bb 20 15) HT_ ?_
          refine tW (i := 4) (N := some 99) (bb 20 31) HT_ HW_ hHeld ?_
          refine oT (i := 5) (N := some 100) (bb 20 63) HT_ fun K hK => ?_
          refine gS Try.func26 #[.agg #[.bool t722, .slice Ao157 t723.length co157]] ?_
          with_reducible refine (big_Sign.calls kj54 t722 _ _ t723 t728 _ ?side1 ?side2 A135.out).mono ?_
          (case side1 => exact tc (Kd.R_reads' HO725.out).2.2)
          (case side2 => exact (Kd.R_reads' HO725.out).2.1)
          rintro e w161 ⟨rfl, hb⟩
          refine ⟨_, rfl, ?_⟩
          replace BK691 := kb BK691 hb
          replace BK726 := kb BK726 hb
          replace HB := bs HB hb
          (try clear hb); (try clear hb2); (try clear hk); (try clear hi)
          refine hK.out _ _ ⟨(blk_cell BK691.out 0).trans rfl, (blk_cell BK691.out 1).trans rfl, (blk_cell BK726.out 0).trans rfl, (blk_cell BK726.out 1).trans rfl⟩ fun hHeld => nT (N := some 100) ?_
          clear hK K
          refine pT (i := 6) (N := some 101) (bb 20 127) HT_ ?_
          refine pT (i := 7) (N := some 102) (bb 20 255) HT_ ?_
          refine pT (i := 8) (N := some 103) (bb 20 511) HT_ ?_
          refine pure_ (i := 9) (N := some 104) (v := undef) (a' := ?_) #[true, true, true, true, true, true, true, true, true, true, false, false, false, false, false, false, false, false, false, false] rfl rfl (any_of HT_.out (by kernel_rfl)) (fun _ _ _ h => h) (Or.inr ⟨by rfl, rfl⟩) ?_ ?_
          rotate_left
          ·simp only [Act.put, List.setIfInBounds_toArray, List.set_cons_zero, List.set_cons_succ, i64_w, i32_w]
           rfl
          refine pure_ (i := 10) (N := some 105) (v := undef) (a' := ?_) #[true, true, true, true, true, true, true, true, true, true, true, false, false, false, false, false, false, false, false, false] rfl rfl (any_of HT_.out (by kernel_rfl)) (fun _ _ _ h => h) (Or.inr ⟨by rfl, rfl⟩) ?_ ?_
          rotate_left
          ·simp only [Act.put, List.setIfInBounds_toArray, List.set_cons_zero, List.set_cons_succ, i64_w, i32_w]
           rfl
          refine pure_ (i := 11) (N := some 106) (v := undef) (a' := ?_) #[true, true, true, true, true, true, true, true, true, true, true, true, false, false, false, false, false, false, false, false] rfl rfl (any_of HT_.out (by kernel_rfl)) (fun _ _ _ h => h) (Or.inr ⟨by rfl, rfl⟩) ?_ ?_
          rotate_left
          ·simp only [Act.put, List.setIfInBounds_toArray, List.set_cons_zero, List.set_cons_succ, i64_w, i32_w]
           rfl
          refine pure_ (i := 12) (N := some 107) (v := undef) (a' := ?_) #[true, true, true, true, true, true, true, true, true, true, true, true, true, false, false, false, false, false, false, false] rfl rfl (any_of HT_.out (by kernel_rfl)) (fun _ _ _ h => h) (Or.inr ⟨by rfl, rfl⟩) ?_ ?_
          rotate_left
          ·simp only [Act.put, List.setIfInBounds_toArray, List.set_cons_zero, List.set_cons_succ, i64_w, i32_w]
           rfl
          refine pure_ (i := 13) (N := some 108) (v := undef) (a' := ?_) #[true, true, true, true, true, true, true, true, true, true, true, true, true, true, false, false, false, false, false, false] rfl rfl (any_of HT_.out (by kernel_rfl)) (fun _ _ _ h => h) (Or.inr ⟨by rfl, rfl⟩) ?_ ?_
          rotate_left
          ·simp only [Act.put, List.setIfInBounds_toArray, List.set_cons_zero, List.set_cons_succ, i64_w, i32_w]
           rfl
          refine pure_ (i := 14) (N := some 109) (v := undef) (a' := ?_) #[true, true, true, true, true, true, true, true, true, true, true, true, true, true, true, false, false, false, false, false] rfl rfl (any_of HT_.out (by kernel_rfl)) (fun _ _ _ h => h) (Or.inr ⟨by rfl, rfl⟩) ?_ ?_
          rotate_left
          ·simp only [Act.put, List.setIfInBounds_toArray, List.set_cons_zero, List.set_cons_succ, i64_w, i32_w]
           rfl
          refine pure_ (i := 15) (N := some 110) (v := undef) (a' := ?_) #[true, true, true, true, true, true, true, true, true, true, true, true, true, true, true, true, false, false, false, false] rfl rfl (any_of HT_.out (by kernel_rfl)) (fun _ _ _ h => h) (Or.inr ⟨by rfl, rfl⟩) ?_ ?_
          rotate_left
          ·simp only [Act.put, List.setIfInBounds_toArray, List.set_cons_zero, List.set_cons_succ, i64_w, i32_w]
           rfl
          refine pure_ (i := 16) (N := some 111) (v := undef) (a' := ?_) #[true, true, true, true, true, true, true, true, true, true, true, true, true, true, true, true, true, false, false, false] rfl rfl (any_of HT_.out (by kernel_rfl)) (fun _ _ _ h => h) (Or.inr ⟨by rfl, rfl⟩) ?_ ?_
          rotate_left
          ·simp only [Act.put, List.setIfInBounds_toArray, List.set_cons_zero, List.set_cons_succ, i64_w, i32_w]
           rfl
          refine pure_ (i := 17) (N := some 112) (v := undef) (a' := ?_) #[true, true, true, true, true, true, true, true, true, true, true, true, true, true, true, true, true, true, false, false] rfl rfl (any_of HT_.out (by kernel_rfl)) (fun _ _ _ h => h) (Or.inr ⟨by rfl, rfl⟩) ?_ ?_
          rotate_left
          ·simp only [Act.put, List.setIfInBounds_toArray, List.set_cons_zero, List.set_cons_succ, i64_w, i32_w]
           rfl
          refine pT (i := 18) (N := some 113) (bb 20 524287) HT_ ?_
          refine pT (i := 19) (N := some 4) (bb 20 1048575) HT_ ?_
          refine done_ (done_of HT_.out (by kernel_rfl)) ?_
          try go_wp2
          go_ret
          exact ⟨by first | rfl | (simp [errW_none, errW_some] <;> rfl) | (simp [*, errW_none, errW_some] <;> rfl), tb HB⟩
         ·rw [if_neg c136] at H
          have c136b0 : (t728 == 0) = false := beq_eq_false_iff_ne.mpr c136
          have c136b1 : (t728 != 0) = true := bne_iff_ne.mpr c136
          replace H := Option.bind_eq_some_iff.mp H
          obtain ⟨t729, A1620, H⟩ := H
          have A162 := Aside0.mk A1620
          clear A1620
          by_cases c163 : t729 > 0
          ·rw [if_pos c163] at H
           have c163b0 : decide (0 < t729) = true := decide_eq_true c163
           clear c163
           replace H := Option.bind_eq_some_iff.mp H
           obtain ⟨⟨t730, t731⟩, A1640, H⟩ := H
           try dsimp only at H
           have A164 := Aside0.mk A1640
           clear A1640
           replace H := Option.bind_eq_some_iff.mp H
           obtain ⟨t734, A1650, H⟩ := H
           have A165 := Aside0.mk A1650
           clear A1650
           obtain rfl := Option.some.inj H
           have hnb166 := NB706_675.out
           have hnc166 := NB675_706.out
           have hnb167 := NB706_676.out
           have hnc167 := NB676_706.out
           have hnb168 := NB706_690.out
           have hnc168 := NB690_706.out
           have hnb169 := NB706_691.out
           have hnc169 := NB691_706.out
           have hnb170 := NB706_700.out
           have hnc170 := NB700_706.out
           have hcz171_0 := bc BK706 0 (.bool t701)
           have hcz171_1 := bc BK706 1 (.slice Ao93 t702.length co93)
           have hfz171_0 := blk_frozen BK706.out 0
           have hfz171_1 := blk_frozen BK706.out 1
           have hnb172 := NB700_675.out
           have hnc172 := NB675_700.out
           have hnb173 := NB700_676.out
           have hnc173 := NB676_700.out
           have hnb174 := NB700_690.out
           have hnc174 := NB690_700.out
           have hnb175 := NB700_691.out
           have hnc175 := NB691_700.out
           have hcz176_0 := bc BK700 0 (.bool t695)
           have hcz176_1 := bc BK700 1 (.slice Ao82 t696.length co82)
           have hfz176_0 := blk_frozen BK700.out 0
           have hfz176_1 := blk_frozen BK700.out 1
           try go_wp2_with (first | ((with_reducible refine gate_callee (f := 22) rfl ?_); refine gL (N := some 94) Try.func22 #[.agg #[.bool t701, .slice Ao93 t702.length co93], .agg #[.bool t695, .slice Ao82 t696.length co82]] ?_; (with_reducible refine (big_Sub.calls kj54 t701 _ _ t702 t695 _ _ t696 t722 t723 _ ?side1 ?side2 ?side3 ?side4 A132.out).mono ?_); (case side1 => exact tc (Kd.R_reads' HO_707001.out).2.2); (case side2 => exact (Kd.R_reads' HO_707001.out).2.1); (case side3 => exact tc (Kd.R_reads' HO_701001.out).2.2); (case side4 => exact (Kd.R_reads' HO_701001.out).2.1); rintro e w177 ⟨v724, rfl, ho0, hb⟩; refine ⟨_, rfl, ?_⟩; have HO725 := Aside0.mk (Kd.R_lower (Kd.R_new' (Kd.R_new' (Kd.R_new' (Kd.R_new' ho0 (Kd.R_lt (tq HO_691001))) (Kd.R_lt (tq HO_692001))) (Kd.R_lt (tq HO_701001))) (Kd.R_lt (tq HO_707001))) (below_size (tb HB))); replace HO_691001 := re HO_691001 (Kd.R_base ho0) hb; replace HO_692001 := re HO_692001 (Kd.R_base ho0) hb; replace HO_701001 := re HO_701001 (Kd.R_base ho0) hb; replace HO_707001 := re HO_707001 (Kd.R_base ho0) hb; replace BK675 := kb BK675 hb; replace BK676 := kb BK676 hb; replace BK690 := kb BK690 hb; replace BK691 := kb BK691 hb; replace BK700 := kb BK700 hb; replace BK706 := kb BK706 hb; replace HB := bs HB hb; (try clear hb); (try clear hb2); (try clear hk); (try clear hi); (try clear ho0)) | ((with_reducible refine gate_dst (N := 12) rfl ?_); refine bx (N := 12) #[.bool false, .slice none 0 0] 24 ?_; intro gb726 hg w178 hbox hb; replace HO_691001 := rb HO_691001 hb; replace HO_692001 := rb HO_692001 hb; replace HO_701001 := rb HO_701001 hb; replace HO_707001 := rb HO_707001 hb; replace HO725 := rb HO725 hb; have BK726 := Aside0.mk (hbox); have GW726 := bz hg HB; have GE726 := bz hg HB; replace HB := bs HB hb; have NB675_726 := nl hg BK675; have NB726_675 := ng hg BK675; have NB676_726 := nl hg BK676; have NB726_676 := ng hg BK676; have NB690_726 := nl hg BK690; have NB726_690 := ng hg BK690; have NB691_726 := nl hg BK691; have NB726_691 := ng hg BK691; replace BK691 := kb BK691 hb; have NB700_726 := nl hg BK700; have NB726_700 := ng hg BK700; have NB706_726 := nl hg BK706; have NB726_706 := ng hg BK706; clear hb hbox hg; have hnb179 := NB726_675.out; have hnc179 := NB675_726.out; have hnb180 := NB726_676.out; have hnc180 := NB676_726.out; have hnb181 := NB726_690.out; have hnc181 := NB690_726.out; have hnb182 := NB726_691.out; have hnc182 := NB691_726.out; have hnb183 := NB726_700.out; have hnc183 := NB700_726.out; have hnb184 := NB726_706.out; have hnc184 := NB706_726.out; have hcz185_0 := bc BK726 0 (.bool false); have hcz185_1 := bc BK726 1 (.slice none 0 0); have hfz185_0 := blk_frozen BK726.out 0; have hfz185_1 := blk_frozen BK726.out 1; obtain ⟨Ao186, co186, eo186⟩ := Kd.R_slice HO725.out; subst eo186))
           have n0_ : Aside0 (Kd.R (Kd.int .u32) 87 ((w178.setCell ⟨gb726, 0, none⟩ (.bool t722)).setCell ⟨gb726, 1, none⟩ (.slice Ao186 t723.length co186)) w.heap.size (fun k_ => some k_ ≠ (.slice Ao70 t686.length co70 : Value).ownBlock ∧ some k_ ≠ (.slice Ao82 t696.length co82 : Value).ownBlock ∧ some k_ ≠ (.slice Ao93 t702.length co93 : Value).ownBlock ∧ some k_ ≠ (.slice Ao186 t723.length co186 : Value).ownBlock) (.slice Ao66 t682.length co66) t682) := ⟨by (with_reducible repeat first | apply qa | apply qn | apply qd); exact Kd.R_mono (Kd.R_far (p := ⟨gb726, 1, none⟩) (Kd.R_far (p := ⟨gb726, 0, none⟩) (Kd.R_types HO_691001.out BK726.out (by decide)) (fun _ hk => hk.2) (.bool t722)) (fun _ hk => hk.2) (.slice Ao186 t723.length co186)) (fun _ hk => ⟨hk.1.1.1, ⟨hk.1.1.2.1, ⟨hk.1.1.2.2, hk.1.2⟩⟩⟩)⟩
           have n1_ : Aside0 (Kd.R (Kd.int .u32) 87 ((w178.setCell ⟨gb726, 0, none⟩ (.bool t722)).setCell ⟨gb726, 1, none⟩ (.slice Ao186 t723.length co186)) w.heap.size (fun k_ => some k_ ≠ (.slice Ao66 t682.length co66 : Value).ownBlock ∧ some k_ ≠ (.slice Ao82 t696.length co82 : Value).ownBlock ∧ some k_ ≠ (.slice Ao93 t702.length co93 : Value).ownBlock ∧ some k_ ≠ (.slice Ao186 t723.length co186 : Value).ownBlock) (.slice Ao70 t686.length co70) t686) := ⟨by (with_reducible repeat first | apply qa | apply qn | apply qd); exact Kd.R_mono (Kd.R_far (p := ⟨gb726, 1, none⟩) (Kd.R_far (p := ⟨gb726, 0, none⟩) (Kd.R_types HO_692001.out BK726.out (by decide)) (fun _ hk => hk.2) (.bool t722)) (fun _ hk => hk.2) (.slice Ao186 t723.length co186)) (fun _ hk => ⟨hk.1.1.1, ⟨hk.1.1.2.1, ⟨hk.1.1.2.2, hk.1.2⟩⟩⟩)⟩
           have n2_ : Aside0 (Kd.R (Kd.int .u32) 87 ((w178.setCell ⟨gb726, 0, none⟩ (.bool t722)).setCell ⟨gb726, 1, none⟩ (.slice Ao186 t723.length co186)) w.heap.size (fun k_ => some k_ ≠ (.slice Ao66 t682.length co66 : Value).ownBlock ∧ some k_ ≠ (.slice Ao70 t686.length co70 : Value).ownBlock ∧ some k_ ≠ (.slice Ao93 t702.length co93 : Value).ownBlock ∧ some k_ ≠ (.slice Ao186 t723.length co186 : Value).ownBlock) (.slice Ao82 t696.length co82) t696) := ⟨by (with_reducible repeat first | apply qa | apply qn | apply qd); exact Kd.R_mono (Kd.R_far (p := ⟨gb726, 1, none⟩) (Kd.R_far (p := ⟨gb726, 0, none⟩) (Kd.R_types HO_701001.out BK726.out (by decide)) (fun _ hk => hk.2) (.bool t722)) (fun _ hk => hk.2) (.slice Ao186 t723.length co186)) (fun _ hk => ⟨hk.1.1.1, ⟨hk.1.1.2.1, ⟨hk.1.1.2.2, hk.1.2⟩⟩⟩)⟩
           have n3_ : Aside0 (Kd.R (Kd.int .u32) 87 ((w178.setCell ⟨gb726, 0, none⟩ (.bool t722)).setCell ⟨gb726, 1, none⟩ (.slice Ao186 t723.length co186)) w.heap.size (fun k_ => some k_ ≠ (.slice Ao66 t682.length co66 : Value).ownBlock ∧ some k_ ≠ (.slice Ao70 t686.length co70 : Value).ownBlock ∧ some k_ ≠ (.slice Ao82 t696.length co82 : Value).ownBlock ∧ some k_ ≠ (.slice Ao186 t723.length co186 : Value).ownBlock) (.slice Ao93 t702.length co93) t702) := ⟨by (with_reducible repeat first | apply qa | apply qn | apply qd); exact Kd.R_mono (Kd.R_far (p := ⟨gb726, 1, none⟩) (Kd.R_far (p := ⟨gb726, 0, none⟩) (Kd.R_types HO_707001.out BK726.out (by decide)) (fun _ hk => hk.2) (.bool t722)) (fun _ hk => hk.2) (.slice Ao186 t723.length co186)) (fun _ hk => ⟨hk.1.1.1, ⟨hk.1.1.2.1, ⟨hk.1.1.2.2, hk.1.2⟩⟩⟩)⟩
           have n4_ : Aside0 (Kd.R (Kd.int .u32) 87 ((w178.setCell ⟨gb726, 0, none⟩ (.bool t722)).setCell ⟨gb726, 1, none⟩ (.slice Ao186 t723.length co186)) w.heap.size (fun k_ => some k_ ≠ (.slice Ao66 t682.length co66 : Value).ownBlock ∧ some k_ ≠ (.slice Ao70 t686.length co70 : Value).ownBlock ∧ some k_ ≠ (.slice Ao82 t696.length co82 : Value).ownBlock ∧ some k_ ≠ (.slice Ao93 t702.length co93 : Value).ownBlock) (.slice Ao186 t723.length co186) t723) := ⟨by (with_reducible repeat first | apply qa | apply qn | apply qd); exact Kd.R_mono (Kd.R_far (p := ⟨gb726, 1, none⟩) (Kd.R_far (p := ⟨gb726, 0, none⟩) (Kd.R_types HO725.out BK726.out (by decide)) (fun _ hk => hk.2) (.bool t722)) (fun _ hk => hk.2) (.slice Ao186 t723.length co186)) (fun _ hk => ⟨hk.1.1.1.1.2, ⟨hk.1.1.1.2, ⟨hk.1.1.2, hk.1.2⟩⟩⟩)⟩
           have n8_ : Aside0 (((w178.setCell ⟨gb726, 0, none⟩ (.bool t722)).setCell ⟨gb726, 1, none⟩ (.slice Ao186 t723.length co186)).heap[gb691]? = some (.cells #[.bool t685, .slice Ao70 t686.length co70] 24 (0, 0))) := ⟨tk BK691⟩
           have n11_ : Aside0 (((w178.setCell ⟨gb726, 0, none⟩ (.bool t722)).setCell ⟨gb726, 1, none⟩ (.slice Ao186 t723.length co186)).heap[gb726]? = some (.cells #[.bool t722, .slice Ao186 t723.length co186] 24 (0, 0))) := ⟨tk BK726⟩
           have n12_ : Aside0 (Below w.heap.size w ((w178.setCell ⟨gb726, 0, none⟩ (.bool t722)).setCell ⟨gb726, 1, none⟩ (.slice Ao186 t723.length co186))) := ⟨tb HB⟩
           (try clear HO_691001); (try clear HO_692001); (try clear HO_701001); (try clear HO_707001); (try clear HO725); (try clear BK675); (try clear BK676); (try clear BK690); (try clear BK691); (try clear BK700); (try clear BK706); (try clear BK726); (try clear HB)
           generalize ((w178.setCell ⟨gb726, 0, none⟩ (.bool t722)).setCell ⟨gb726, 1, none⟩ (.slice Ao186 t723.length co186)) = w187 at n0_ n1_ n2_ n3_ n4_ n8_ n11_ n12_ ⊢
           have HO_691001 := n0_
           have HO_692001 := n1_
           have HO_701001 := n2_
           have HO_707001 := n3_
           have HO725 := n4_
           have BK691 := n8_
           have BK726 := n11_
           have HB := n12_
           clear n0_ n1_ n2_ n3_ n4_ n8_ n11_ n12_
           replace HO_691001 := Aside0.mk (Kd.R_drew HO_691001.out)
           replace HO_692001 := Aside0.mk (Kd.R_drew HO_692001.out)
           replace HO_701001 := Aside0.mk (Kd.R_drew HO_701001.out)
           replace HO_707001 := Aside0.mk (Kd.R_drew HO_707001.out)
           replace HO725 := Aside0.mk (Kd.R_drew HO725.out)
           replace BK691 := Aside0.mk (blk_drew BK691.out)
           replace BK726 := Aside0.mk (blk_drew BK726.out)
           replace HB := Aside0.mk (below_drew1 HB.out)
           refine start_ (n := 20) (S := fun w' => w'.cell? ⟨gb691, 0, none⟩ = some (.bool t685) ∧ w'.cell? ⟨gb691, 1, none⟩ = some (.slice Ao70 t686.length co70) ∧ w'.cell? ⟨gb726, 0, none⟩ = some (.bool t722) ∧ w'.cell? ⟨gb726, 1, none⟩ = some (.slice Ao186 t723.length co186)) (ds := []) #[false, false, false, false, false, false, false, false, false, false, false, false, false, false, false, false, false, false, false, false] (by kernel_rfl) rfl rfl ⟨(blk_cell BK691.out 0).trans rfl, (blk_cell BK691.out 1).trans rfl, (blk_cell BK726.out 0).trans rfl, (blk_cell BK726.out 1).trans rfl⟩ (fun hHeld => ?_); refine with_tabW whetstonelaw02_BigRests.tab11 whetstonelaw02_BigRests.bits11 (fun HT_ HW_ => ?_)
           generalize w187.drew = w188 at HO_691001 HO_692001 HO_701001 HO_707001 HO725 BK691 BK726 HB hHeld ⊢
           refine tW (i := 0) (N := some 95) (bb 20 1) HT_ HW_ hHeld ?_
           refine oT (i := 1) (N := some 96) (bb 20 3) HT_ fun K hK => ?_
           refine gS Try.func26 #[.agg #[.bool t685, .slice Ao70 t686.length co70]] ?_
           with_reducible refine (big_Sign.calls kj54 t685 _ _ t686 t727 _ ?side1 ?side2 A133.out).mono ?_
           (case side1 => exact tc (Kd.R_reads' HO_692001.out).2.2)
           (case side2 => exact (Kd.R_reads' HO_692001.out).2.1)
           rintro e w189 ⟨rfl, hb⟩
           refine ⟨_, rfl, ?_⟩
           replace HO_691001 := rb HO_691001 hb
           replace HO_692001 := rb HO_692001 hb
           replace HO_701001 := rb HO_701001 hb
           replace HO_707001 := rb HO_707001 hb
           replace HO725 := rb HO725 hb
           replace BK691 := kb BK691 hb
           replace BK726 := kb BK726 hb
           replace HB := bs HB hb
           (try clear hb); (try clear hb2); (try clear hk); (try clear hi)
           refine hK.out _ _ ⟨(blk_cell BK691.out 0).trans rfl, (blk_cell BK691.out 1).trans rfl, (blk_cell BK726.out 0).trans rfl, (blk_cell BK726.out 1).trans rfl⟩ fun hHeld => nT (N := some 96) ?_
           clear hK K
           refine pT (i := 2) (N := some 97) (bb 20 7) HT_ ?_
           refine pT (i := 3) (N := some 98) (bb 20 15) HT_ ?_
           refine tW (i := 4) (N := some 99) (bb 20 31) HT_ HW_ hHeld ?_
           refine oT (i := 5) (N := some 100) (bb 20 63) HT_ fun K hK => ?_
           refine gS Try.func26 #[.agg #[.bool t722, .slice Ao186 t723.length co186]] ?_
           with_reducible refine (big_Sign.calls kj54 t722 _ _ t723 t728 _ ?side1 ?side2 A135.out).mono ?_
           (case side1 => exact tc (Kd.R_reads' HO725.out).2.2)
           (case side2 => exact (Kd.R_reads' HO725.out).2.1)
           rintro e w190 ⟨rfl, hb⟩
           refine ⟨_, rfl, ?_⟩
           replace HO_691001 := rb HO_691001 hb
           replace HO_692001 := rb HO_692001 hb
           replace HO_701001 := rb HO_701001 hb
           replace HO_707001 := rb HO_707001 hb
           replace HO725 := rb HO725 hb
           replace BK691 := kb BK691 hb
           replace BK726 := kb BK726 hb
           replace HB := bs HB hb
           (try clear hb); (try clear hb2); (try clear hk); (try clear hi)
           refine hK.out _ _ ⟨(blk_cell BK691.out 0).trans rfl, (blk_cell BK691.out 1).trans rfl, (blk_cell BK726.out 0).trans rfl, (blk_cell BK726.out 1).trans rfl⟩ fun hHeld => nT (N := some 100) ?_
           clear hK K
           refine pT (i := 6) (N := some 101) (bb 20 127) HT_ ?_
           refine pT (i := 7) (N := some 102) (bb 20 255) HT_ ?_
           refine pT (i := 8) (N := some 103) (bb 20 511) HT_ ?_
           refine tW (i := 9) (N := some 104) (bb 20 1023) HT_ HW_ hHeld ?_
           refine oT (i := 10) (N := some 105) (bb 20 2047) HT_ fun K hK => ?_
           refine gS Try.func26 #[.agg #[.bool t685, .slice Ao70 t686.length co70]] ?_
           with_reducible refine (big_Sign.calls kj54 t685 _ _ t686 t729 _ ?side1 ?side2 A162.out).mono ?_
           (case side1 => exact tc (Kd.R_reads' HO_692001.out).2.2)
           (case side2 => exact (Kd.R_reads' HO_692001.out).2.1)
           rintro e w191 ⟨rfl, hb⟩
           refine ⟨_, rfl, ?_⟩
           replace HO_691001 := rb HO_691001 hb
           replace HO_692001 := rb HO_692001 hb
           replace HO_701001 := rb HO_701001 hb
           replace HO_707001 := rb HO_707001 hb
           replace HO725 := rb HO725 hb
           replace BK691 := kb BK691 hb
           replace BK726 := kb BK726 hb
           replace HB := bs HB hb
           (try clear hb); (try clear hb2); (try clear hk); (try clear hi)
           refine hK.out _ _ ⟨(blk_cell BK691.out 0).trans rfl, (blk_cell BK691.out 1).trans rfl, (blk_cell BK726.out 0).trans rfl, (blk_cell BK726.out 1).trans rfl⟩ fun hHeld => nT (N := some 105) ?_
           clear hK K
           refine pT (i := 11) (N := some 106) (bb 20 4095) HT_ ?_
           refine pT (i := 12) (N := some 107) (bb 20 8191) HT_ ?_
           refine tW (i := 13) (N := some 108) (bb 20 16383) HT_ HW_ hHeld ?_
           refine oT (i := 14) (N := some 109) (bb 20 32767) HT_ fun K hK => ?_
           refine gS Try.func40 #[.int .i64 1] ?_
           with_reducible refine (big_Of.calls kj54 1 t730 t731 _ A164.out).mono ?_
           rintro e w192 ⟨v732, rfl, ho0, hb⟩
           refine ⟨_, rfl, ?_⟩
           have HO733 := Aside0.mk (Kd.R_lower (Kd.R_new' (Kd.R_new' (Kd.R_new' (Kd.R_new' (Kd.R_new' ho0 (Kd.R_lt (tq HO_691001))) (Kd.R_lt (tq HO_692001))) (Kd.R_lt (tq HO_701001))) (Kd.R_lt (tq HO_707001))) (Kd.R_lt (tq HO725))) (below_size (tb HB)))
           replace HO725 := re HO725 (Kd.R_base ho0) hb
           replace BK691 := kb BK691 hb
           replace BK726 := kb BK726 hb
           replace HB := bs HB hb
           (try clear hb); (try clear hb2); (try clear hk); (try clear hi); (try clear ho0)
           obtain ⟨Ao193, co193, eo193⟩ := Kd.R_slice HO733.out
           (first | subst eo193 | (injection eo193 with f1_ f2_ f3_; have f4_ := f1_.symm; have f5_ := f3_.symm; clear f1_ f2_ f3_; subst f4_; subst f5_))
           refine hK.out _ _ ⟨(blk_cell BK691.out 0).trans rfl, (blk_cell BK691.out 1).trans rfl, (blk_cell BK726.out 0).trans rfl, (blk_cell BK726.out 1).trans rfl⟩ fun hHeld => nT (N := some 109) ?_
           clear hK K
           refine oT (i := 15) (N := some 110) (bb 20 65535) HT_ fun K hK => ?_
           refine gS Try.func24 #[.agg #[.bool t722, .slice Ao186 t723.length co186], .agg #[.bool t730, .slice Ao193 t731.length co193]] ?_
           with_reducible refine (big_Cmp.calls kj54 t722 _ _ t723 t730 _ _ t731 t734 _ ?side1 ?side2 ?side3 ?side4 A165.out).mono ?_
           (case side1 => exact tc (Kd.R_reads' HO725.out).2.2)
           (case side2 => exact (Kd.R_reads' HO725.out).2.1)
           (case side3 => exact tc (Kd.R_reads' HO733.out).2.2)
           (case side4 => exact (Kd.R_reads' HO733.out).2.1)
           rintro e w194 ⟨rfl, hb⟩
           refine ⟨_, rfl, ?_⟩
           replace BK691 := kb BK691 hb
           replace BK726 := kb BK726 hb
           replace HB := bs HB hb
           (try clear hb); (try clear hb2); (try clear hk); (try clear hi)
           refine hK.out _ _ ⟨(blk_cell BK691.out 0).trans rfl, (blk_cell BK691.out 1).trans rfl, (blk_cell BK726.out 0).trans rfl, (blk_cell BK726.out 1).trans rfl⟩ fun hHeld => nT (N := some 110) ?_
           clear hK K
           refine pT (i := 16) (N := some 111) (bb 20 131071) HT_ ?_
           refine pT (i := 17) (N := some 112) (bb 20 262143) HT_ ?_
           refine pT (i := 18) (N := some 113) (bb 20 524287) HT_ ?_
           refine pT (i := 19) (N := some 4) (bb 20 1048575) HT_ ?_
           refine done_ (done_of HT_.out (by kernel_rfl)) ?_
           try go_wp2
           go_ret
           exact ⟨by first | rfl | (simp [errW_none, errW_some] <;> rfl) | (simp [*, errW_none, errW_some] <;> rfl), tb HB⟩
          ·rw [if_neg c163] at H
           exact absurd H (by simp)
        ·rw [if_neg c134] at H
         have c134b0 : (t727 == 0) = false := beq_eq_false_iff_ne.mpr c134
         have c134b1 : (t727 != 0) = true := bne_iff_ne.mpr c134
         replace H := Option.bind_eq_some_iff.mp H
         obtain ⟨t735, A1950, H⟩ := H
         have A195 := Aside0.mk A1950
         clear A1950
         by_cases c196 : t735 > 0
         ·rw [if_pos c196] at H
          have c196b0 : decide (0 < t735) = true := decide_eq_true c196
          clear c196
          replace H := Option.bind_eq_some_iff.mp H
          obtain ⟨⟨t736, t737⟩, A1970, H⟩ := H
          try dsimp only at H
          have A197 := Aside0.mk A1970
          clear A1970
          replace H := Option.bind_eq_some_iff.mp H
          obtain ⟨t740, A1980, H⟩ := H
          have A198 := Aside0.mk A1980
          clear A1980
          obtain rfl := Option.some.inj H
          have hnb199 := NB706_675.out
          have hnc199 := NB675_706.out
          have hnb200 := NB706_676.out
          have hnc200 := NB676_706.out
          have hnb201 := NB706_690.out
          have hnc201 := NB690_706.out
          have hnb202 := NB706_691.out
          have hnc202 := NB691_706.out
          have hnb203 := NB706_700.out
          have hnc203 := NB700_706.out
          have hcz204_0 := bc BK706 0 (.bool t701)
          have hcz204_1 := bc BK706 1 (.slice Ao93 t702.length co93)
          have hfz204_0 := blk_frozen BK706.out 0
          have hfz204_1 := blk_frozen BK706.out 1
          have hnb205 := NB700_675.out
          have hnc205 := NB675_700.out
          have hnb206 := NB700_676.out
          have hnc206 := NB676_700.out
          have hnb207 := NB700_690.out
          have hnc207 := NB690_700.out
          have hnb208 := NB700_691.out
          have hnc208 := NB691_700.out
          have hcz209_0 := bc BK700 0 (.bool t695)
          have hcz209_1 := bc BK700 1 (.slice Ao82 t696.length co82)
          have hfz209_0 := blk_frozen BK700.out 0
          have hfz209_1 := blk_frozen BK700.out 1
          try go_wp2_with (first | ((with_reducible refine gate_callee (f := 22) rfl ?_); refine gL (N := some 94) Try.func22 #[.agg #[.bool t701, .slice Ao93 t702.length co93], .agg #[.bool t695, .slice Ao82 t696.length co82]] ?_; (with_reducible refine (big_Sub.calls kj54 t701 _ _ t702 t695 _ _ t696 t722 t723 _ ?side1 ?side2 ?side3 ?side4 A132.out).mono ?_); (case side1 => exact tc (Kd.R_reads' HO_707001.out).2.2); (case side2 => exact (Kd.R_reads' HO_707001.out).2.1); (case side3 => exact tc (Kd.R_reads' HO_701001.out).2.2); (case side4 => exact (Kd.R_reads' HO_701001.out).2.1); rintro e w210 ⟨v724, rfl, ho0, hb⟩; refine ⟨_, rfl, ?_⟩; have HO725 := Aside0.mk (Kd.R_lower (Kd.R_new' (Kd.R_new' (Kd.R_new' (Kd.R_new' ho0 (Kd.R_lt (tq HO_691001))) (Kd.R_lt (tq HO_692001))) (Kd.R_lt (tq HO_701001))) (Kd.R_lt (tq HO_707001))) (below_size (tb HB))); replace HO_691001 := re HO_691001 (Kd.R_base ho0) hb; replace HO_692001 := re HO_692001 (Kd.R_base ho0) hb; replace HO_701001 := re HO_701001 (Kd.R_base ho0) hb; replace HO_707001 := re HO_707001 (Kd.R_base ho0) hb; replace BK675 := kb BK675 hb; replace BK676 := kb BK676 hb; replace BK690 := kb BK690 hb; replace BK691 := kb BK691 hb; replace BK700 := kb BK700 hb; replace BK706 := kb BK706 hb; replace HB := bs HB hb; (try clear hb); (try clear hb2); (try clear hk); (try clear hi); (try clear ho0)) | ((with_reducible refine gate_dst (N := 12) rfl ?_); refine bx (N := 12) #[.bool false, .slice none 0 0] 24 ?_; intro gb726 hg w211 hbox hb; replace HO_691001 := rb HO_691001 hb; replace HO_692001 := rb HO_692001 hb; replace HO_701001 := rb HO_701001 hb; replace HO_707001 := rb HO_707001 hb; replace HO725 := rb HO725 hb; have BK726 := Aside0.mk (hbox); have GW726 := bz hg HB; have GE726 := bz hg HB; replace HB := bs HB hb; have NB675_726 := nl hg BK675; have NB726_675 := ng hg BK675; have NB676_726 := nl hg BK676; have NB726_676 := ng hg BK676; have NB690_726 := nl hg BK690; have NB726_690 := ng hg BK690; have NB691_726 := nl hg BK691; have NB726_691 := ng hg BK691; replace BK691 := kb BK691 hb; have NB700_726 := nl hg BK700; have NB726_700 := ng hg BK700; have NB706_726 := nl hg BK706; have NB726_706 := ng hg BK706; clear hb hbox hg; have hnb212 := NB726_675.out; have hnc212 := NB675_726.out; have hnb213 := NB726_676.out; have hnc213 := NB676_726.out; have hnb214 := NB726_690.out; have hnc214 := NB690_726.out; have hnb215 := NB726_691.out; have hnc215 := NB691_726.out; have hnb216 := NB726_700.out; have hnc216 := NB700_726.out; have hnb217 := NB726_706.out; have hnc217 := NB706_726.out; have hcz218_0 := bc BK726 0 (.bool false); have hcz218_1 := bc BK726 1 (.slice none 0 0); have hfz218_0 := blk_frozen BK726.out 0; have hfz218_1 := blk_frozen BK726.out 1; obtain ⟨Ao219, co219, eo219⟩ := Kd.R_slice HO725.out; subst eo219))
          have n0_ : Aside0 (Kd.R (Kd.int .u32) 87 ((w211.setCell ⟨gb726, 0, none⟩ (.bool t722)).setCell ⟨gb726, 1, none⟩ (.slice Ao219 t723.length co219)) w.heap.size (fun k_ => some k_ ≠ (.slice Ao70 t686.length co70 : Value).ownBlock ∧ some k_ ≠ (.slice Ao82 t696.length co82 : Value).ownBlock ∧ some k_ ≠ (.slice Ao93 t702.length co93 : Value).ownBlock ∧ some k_ ≠ (.slice Ao219 t723.length co219 : Value).ownBlock) (.slice Ao66 t682.length co66) t682) := ⟨by (with_reducible repeat first | apply qa | apply qn | apply qd); exact Kd.R_mono (Kd.R_far (p := ⟨gb726, 1, none⟩) (Kd.R_far (p := ⟨gb726, 0, none⟩) (Kd.R_types HO_691001.out BK726.out (by decide)) (fun _ hk => hk.2) (.bool t722)) (fun _ hk => hk.2) (.slice Ao219 t723.length co219)) (fun _ hk => ⟨hk.1.1.1, ⟨hk.1.1.2.1, ⟨hk.1.1.2.2, hk.1.2⟩⟩⟩)⟩
          have n1_ : Aside0 (Kd.R (Kd.int .u32) 87 ((w211.setCell ⟨gb726, 0, none⟩ (.bool t722)).setCell ⟨gb726, 1, none⟩ (.slice Ao219 t723.length co219)) w.heap.size (fun k_ => some k_ ≠ (.slice Ao66 t682.length co66 : Value).ownBlock ∧ some k_ ≠ (.slice Ao82 t696.length co82 : Value).ownBlock ∧ some k_ ≠ (.slice Ao93 t702.length co93 : Value).ownBlock ∧ some k_ ≠ (.slice Ao219 t723.length co219 : Value).ownBlock) (.slice Ao70 t686.length co70) t686) := ⟨by (with_reducible repeat first | apply qa | apply qn | apply qd); exact Kd.R_mono (Kd.R_far (p := ⟨gb726, 1, none⟩) (Kd.R_far (p := ⟨gb726, 0, none⟩) (Kd.R_types HO_692001.out BK726.out (by decide)) (fun _ hk => hk.2) (.bool t722)) (fun _ hk => hk.2) (.slice Ao219 t723.length co219)) (fun _ hk => ⟨hk.1.1.1, ⟨hk.1.1.2.1, ⟨hk.1.1.2.2, hk.1.2⟩⟩⟩)⟩
          have n2_ : Aside0 (Kd.R (Kd.int .u32) 87 ((w211.setCell ⟨gb726, 0, none⟩ (.bool t722)).setCell ⟨gb726, 1, none⟩ (.slice Ao219 t723.length co219)) w.heap.size (fun k_ => some k_ ≠ (.slice Ao66 t682.length co66 : Value).ownBlock ∧ some k_ ≠ (.slice Ao70 t686.length co70 : Value).ownBlock ∧ some k_ ≠ (.slice Ao93 t702.length co93 : Value).ownBlock ∧ some k_ ≠ (.slice Ao219 t723.length co219 : Value).ownBlock) (.slice Ao82 t696.length co82) t696) := ⟨by (with_reducible repeat first | apply qa | apply qn | apply qd); exact Kd.R_mono (Kd.R_far (p := ⟨gb726, 1, none⟩) (Kd.R_far (p := ⟨gb726, 0, none⟩) (Kd.R_types HO_701001.out BK726.out (by decide)) (fun _ hk => hk.2) (.bool t722)) (fun _ hk => hk.2) (.slice Ao219 t723.length co219)) (fun _ hk => ⟨hk.1.1.1, ⟨hk.1.1.2.1, ⟨hk.1.1.2.2, hk.1.2⟩⟩⟩)⟩
          have n3_ : Aside0 (Kd.R (Kd.int .u32) 87 ((w211.setCell ⟨gb726, 0, none⟩ (.bool t722)).setCell ⟨gb726, 1, none⟩ (.slice Ao219 t723.length co219)) w.heap.size (fun k_ => some k_ ≠ (.slice Ao66 t682.length co66 : Value).ownBlock ∧ some k_ ≠ (.slice Ao70 t686.length co70 : Value).ownBlock ∧ some k_ ≠ (.slice Ao82 t696.length co82 : Value).ownBlock ∧ some k_ ≠ (.slice Ao219 t723.length co219 : Value).ownBlock) (.slice Ao93 t702.length co93) t702) := ⟨by (with_reducible repeat first | apply qa | apply qn | apply qd); exact Kd.R_mono (Kd.R_far (p := ⟨gb726, 1, none⟩) (Kd.R_far (p := ⟨gb726, 0, none⟩) (Kd.R_types HO_707001.out BK726.out (by decide)) (fun _ hk => hk.2) (.bool t722)) (fun _ hk => hk.2) (.slice Ao219 t723.length co219)) (fun _ hk => ⟨hk.1.1.1, ⟨hk.1.1.2.1, ⟨hk.1.1.2.2, hk.1.2⟩⟩⟩)⟩
          have n4_ : Aside0 (Kd.R (Kd.int .u32) 87 ((w211.setCell ⟨gb726, 0, none⟩ (.bool t722)).setCell ⟨gb726, 1, none⟩ (.slice Ao219 t723.length co219)) w.heap.size (fun k_ => some k_ ≠ (.slice Ao66 t682.length co66 : Value).ownBlock ∧ some k_ ≠ (.slice Ao70 t686.length co70 : Value).ownBlock ∧ some k_ ≠ (.slice Ao82 t696.length co82 : Value).ownBlock ∧ some k_ ≠ (.slice Ao93 t702.length co93 : Value).ownBlock) (.slice Ao219 t723.length co219) t723) := ⟨by (with_reducible repeat first | apply qa | apply qn | apply qd); exact Kd.R_mono (Kd.R_far (p := ⟨gb726, 1, none⟩) (Kd.R_far (p := ⟨gb726, 0, none⟩) (Kd.R_types HO725.out BK726.out (by decide)) (fun _ hk => hk.2) (.bool t722)) (fun _ hk => hk.2) (.slice Ao219 t723.length co219)) (fun _ hk => ⟨hk.1.1.1.1.2, ⟨hk.1.1.1.2, ⟨hk.1.1.2, hk.1.2⟩⟩⟩)⟩
          have n8_ : Aside0 (((w211.setCell ⟨gb726, 0, none⟩ (.bool t722)).setCell ⟨gb726, 1, none⟩ (.slice Ao219 t723.length co219)).heap[gb691]? = some (.cells #[.bool t685, .slice Ao70 t686.length co70] 24 (0, 0))) := ⟨tk BK691⟩
          have n11_ : Aside0 (((w211.setCell ⟨gb726, 0, none⟩ (.bool t722)).setCell ⟨gb726, 1, none⟩ (.slice Ao219 t723.length co219)).heap[gb726]? = some (.cells #[.bool t722, .slice Ao219 t723.length co219] 24 (0, 0))) := ⟨tk BK726⟩
          have n12_ : Aside0 (Below w.heap.size w ((w211.setCell ⟨gb726, 0, none⟩ (.bool t722)).setCell ⟨gb726, 1, none⟩ (.slice Ao219 t723.length co219))) := ⟨tb HB⟩
          (try clear HO_691001); (try clear HO_692001); (try clear HO_701001); (try clear HO_707001); (try clear HO725); (try clear BK675); (try clear BK676); (try clear BK690); (try clear BK691); (try clear BK700); (try clear BK706); (try clear BK726); (try clear HB)
          generalize ((w211.setCell ⟨gb726, 0, none⟩ (.bool t722)).setCell ⟨gb726, 1, none⟩ (.slice Ao219 t723.length co219)) = w220 at n0_ n1_ n2_ n3_ n4_ n8_ n11_ n12_ ⊢
          have HO_691001 := n0_
          have HO_692001 := n1_
          have HO_701001 := n2_
          have HO_707001 := n3_
          have HO725 := n4_
          have BK691 := n8_
          have BK726 := n11_
          have HB := n12_
          clear n0_ n1_ n2_ n3_ n4_ n8_ n11_ n12_
          replace HO_691001 := Aside0.mk (Kd.R_drew HO_691001.out)
          replace HO_692001 := Aside0.mk (Kd.R_drew HO_692001.out)
          replace HO_701001 := Aside0.mk (Kd.R_drew HO_701001.out)
          replace HO_707001 := Aside0.mk (Kd.R_drew HO_707001.out)
          replace HO725 := Aside0.mk (Kd.R_drew HO725.out)
          replace BK691 := Aside0.mk (blk_drew BK691.out)
          replace BK726 := Aside0.mk (blk_drew BK726.out)
          replace HB := Aside0.mk (below_drew1 HB.out)
          refine start_ (n := 20) (S := fun w' => w'.cell? ⟨gb691, 0, none⟩ = some (.bool t685) ∧ w'.cell? ⟨gb691, 1, none⟩ = some (.slice Ao70 t686.length co70) ∧ w'.cell? ⟨gb726, 0, none⟩ = some (.bool t722) ∧ w'.cell? ⟨gb726, 1, none⟩ = some (.slice Ao219 t723.length co219)) (ds := []) #[false, false, false, false, false, false, false, false, false, false, false, false, false, false, false, false, false, false, false, false] (by kernel_rfl) rfl rfl ⟨(blk_cell BK691.out 0).trans rfl, (blk_cell BK691.out 1).trans rfl, (blk_cell BK726.out 0).trans rfl, (blk_cell BK726.out 1).trans rfl⟩ (fun hHeld => ?_); refine with_tabW whetstonelaw02_BigRests.tab11 whetstonelaw02_BigRests.bits11 (fun HT_ HW_ => ?_)
          generalize w220.drew = w221 at HO_691001 HO_692001 HO_701001 HO_707001 HO725 BK691 BK726 HB hHeld ⊢
          refine tW (i := 0) (N := some 95) (bb 20 1) HT_ HW_ hHeld ?_
          refine oT (i := 1) (N := some 96) (bb 20 3) HT_ fun K hK => ?_
          refine gS Try.func26 #[.agg #[.bool t685, .slice Ao70 t686.length co70]] ?_
          with_reducible refine (big_Sign.calls kj54 t685 _ _ t686 t727 _ ?side1 ?side2 A133.out).mono ?_
          (case side1 => exact tc (Kd.R_reads' HO_692001.out).2.2)
          (case side2 => exact (Kd.R_reads' HO_692001.out).2.1)
          rintro e w222 ⟨rfl, hb⟩
          refine ⟨_, rfl, ?_⟩
          replace HO_691001 := rb HO_691001 hb
          replace HO_692001 := rb HO_692001 hb
          replace HO_701001 := rb HO_701001 hb
          replace HO_707001 := rb HO_707001 hb
          replace HO725 := rb HO725 hb
          replace BK691 := kb BK691 hb
          replace BK726 := kb BK726 hb
          replace HB := bs HB hb
          (try clear hb); (try clear hb2); (try clear hk); (try clear hi)
          refine hK.out _ _ ⟨(blk_cell BK691.out 0).trans rfl, (blk_cell BK691.out 1).trans rfl, (blk_cell BK726.out 0).trans rfl, (blk_cell BK726.out 1).trans rfl⟩ fun hHeld => nT (N := some 96) ?_
          clear hK K
          refine pT (i := 2) (N := some 97) (bb 20 7) HT_ ?_
          refine pT (i := 3) (N := some 98) (bb 20 15) HT_ ?_
          refine pure_ (i := 4) (N := some 99) (v := undef) (a' := ?_) #[true, true, true, true, true, false, false, false, false, false, false, false, false, false, false, false, false, false, false, false] rfl rfl (any_of HT_.out (by kernel_rfl)) (fun _ _ _ h => h) (Or.inr ⟨by rfl, rfl⟩) ?_ ?_
          rotate_left
          ·simp only [Act.put, List.setIfInBounds_toArray, List.set_cons_zero, List.set_cons_succ, i64_w, i32_w]
           rfl
          refine pure_ (i := 5) (N := some 100) (v := undef) (a' := ?_) #[true, true, true, true, true, true, false, false, false, false, false, false, false, false, false, false, false, false, false, false] rfl rfl (any_of HT_.out (by kernel_rfl)) (fun _ _ _ h => h) (Or.inr ⟨by rfl, rfl⟩) ?_ ?_
          rotate_left
          ·simp only [Act.put, List.setIfInBounds_toArray, List.set_cons_zero, List.set_cons_succ, i64_w, i32_w]
           rfl
          refine pure_ (i := 6) (N := some 101) (v := undef) (a' := ?_) #[true, true, true, true, true, true, true, false, false, false, false, false, false, false, false, false, false, false, false, false] rfl rfl (any_of HT_.out (by kernel_rfl)) (fun _ _ _ h => h) (Or.inr ⟨by rfl, rfl⟩) ?_ ?_
          rotate_left
          ·simp only [Act.put, List.setIfInBounds_toArray, List.set_cons_zero, List.set_cons_succ, i64_w, i32_w]
           rfl
          refine pT (i := 7) (N := some 102) (bb 20 255) HT_ ?_
          refine pT (i := 8) (N := some 103) (bb 20 511) HT_ ?_
          refine tW (i := 9) (N := some 104) (bb 20 1023) HT_ HW_ hHeld ?_
          refine oT (i := 10) (N := some 105) (bb 20 2047) HT_ fun K hK => ?_
          refine gS Try.func26 #[.agg #[.bool t685, .slice Ao70 t686.length co70]] ?_
          with_reducible refine (big_Sign.calls kj54 t685 _ _ t686 t735 _ ?side1 ?side2 A195.out).mono ?_
          (case side1 => exact tc (Kd.R_reads' HO_692001.out).2.2)
          (case side2 => exact (Kd.R_reads' HO_692001.out).2.1)
          rintro e w223 ⟨rfl, hb⟩
          refine ⟨_, rfl, ?_⟩
          replace HO_691001 := rb HO_691001 hb
          replace HO_692001 := rb HO_692001 hb
          replace HO_701001 := rb HO_701001 hb
          replace HO_707001 := rb HO_707001 hb
          replace HO725 := rb HO725 hb
          replace BK691 := kb BK691 hb
          replace BK726 := kb BK726 hb
          replace HB := bs HB hb
          (try clear hb); (try clear hb2); (try clear hk); (try clear hi)
          refine hK.out _ _ ⟨(blk_cell BK691.out 0).trans rfl, (blk_cell BK691.out 1).trans rfl, (blk_cell BK726.out 0).trans rfl, (blk_cell BK726.out 1).trans rfl⟩ fun hHeld => nT (N := some 105) ?_
          clear hK K
          refine pT (i := 11) (N := some 106) (bb 20 4095) HT_ ?_
          refine pT (i := 12) (N := some 107) (bb 20 8191) HT_ ?_
          refine tW (i := 13) (N := some 108) (bb 20 16383) HT_ HW_ hHeld ?_
          refine oT (i := 14) (N := some 109) (bb 20 32767) HT_ fun K hK => ?_
          refine gS Try.func40 #[.int .i64 1] ?_
          with_reducible refine (big_Of.calls kj54 1 t736 t737 _ A197.out).mono ?_
          rintro e w224 ⟨v738, rfl, ho0, hb⟩
          refine ⟨_, rfl, ?_⟩
          have HO739 := Aside0.mk (Kd.R_lower (Kd.R_new' (Kd.R_new' (Kd.R_new' (Kd.R_new' (Kd.R_new' ho0 (Kd.R_lt (tq HO_691001))) (Kd.R_lt (tq HO_692001))) (Kd.R_lt (tq HO_701001))) (Kd.R_lt (tq HO_707001))) (Kd.R_lt (tq HO725))) (below_size (tb HB)))
          replace HO725 := re HO725 (Kd.R_base ho0) hb
          replace BK691 := kb BK691 hb
          replace BK726 := kb BK726 hb
          replace HB := bs HB hb
          (try clear hb); (try clear hb2); (try clear hk); (try clear hi); (try clear ho0)
          obtain ⟨Ao225, co225, eo225⟩ := Kd.R_slice HO739.out
          (first | subst eo225 | (injection eo225 with f1_ f2_ f3_; have f4_ := f1_.symm; have f5_ := f3_.symm; clear f1_ f2_ f3_; subst f4_; subst f5_))
          refine hK.out _ _ ⟨(blk_cell BK691.out 0).trans rfl, (blk_cell BK691.out 1).trans rfl, (blk_cell BK726.out 0).trans rfl, (blk_cell BK726.out 1).trans rfl⟩ fun hHeld => nT (N := some 109) ?_
          clear hK K
          refine oT (i := 15) (N := some 110) (bb 20 65535) HT_ fun K hK => ?_
          refine gS Try.func24 #[.agg #[.bool t722, .slice Ao219 t723.length co219], .agg #[.bool t736, .slice Ao225 t737.length co225]] ?_
          with_reducible refine (big_Cmp.calls kj54 t722 _ _ t723 t736 _ _ t737 t740 _ ?side1 ?side2 ?side3 ?side4 A198.out).mono ?_
          (case side1 => exact tc (Kd.R_reads' HO725.out).2.2)
          (case side2 => exact (Kd.R_reads' HO725.out).2.1)
          (case side3 => exact tc (Kd.R_reads' HO739.out).2.2)
          (case side4 => exact (Kd.R_reads' HO739.out).2.1)
          rintro e w226 ⟨rfl, hb⟩
          refine ⟨_, rfl, ?_⟩
          replace BK691 := kb BK691 hb
          replace BK726 := kb BK726 hb
          replace HB := bs HB hb
          (try clear hb); (try clear hb2); (try clear hk); (try clear hi)
          refine hK.out _ _ ⟨(blk_cell BK691.out 0).trans rfl, (blk_cell BK691.out 1).trans rfl, (blk_cell BK726.out 0).trans rfl, (blk_cell BK726.out 1).trans rfl⟩ fun hHeld => nT (N := some 110) ?_
          clear hK K
          refine pT (i := 16) (N := some 111) (bb 20 131071) HT_ ?_
          refine pT (i := 17) (N := some 112) (bb 20 262143) HT_ ?_
          refine pT (i := 18) (N := some 113) (bb 20 524287) HT_ ?_
          refine pT (i := 19) (N := some 4) (bb 20 1048575) HT_ ?_
          refine done_ (done_of HT_.out (by kernel_rfl)) ?_
          try go_wp2
          go_ret
          exact ⟨by first | rfl | (simp [errW_none, errW_some] <;> rfl) | (simp [*, errW_none, errW_some] <;> rfl), tb HB⟩
         ·rw [if_neg c196] at H
          exact absurd H (by simp)

/-- THE ONE PURE STATEMENT of whetstonelaw02_BigRests: yours. -/
def whetstonelaw02_BigRests.Pure : Prop := ∀ (a0_0 : Bool) (l0_1 : List Int) (a1_0 : Bool) (l1_1 : List Int), l0_1.length ≤ maxLen → (∀ x ∈ l0_1, (Lit.int .u32 x).wf = true) → l1_1.length ≤ maxLen → (∀ x ∈ l1_1, (Lit.int .u32 x).wf = true) → ∃ k, whetstonelaw02_BigRests.f k a0_0 l0_1 a1_0 l1_1 = some true
theorem whetstonelaw02_BigRests.walk (P : whetstonelaw02_BigRests.Pure) (a0_0 : Bool) (A0_1 : Option Addr) (n0_1 c0_1 : Nat) (z0_1 : List Int) (a1_0 : Bool) (A1_1 : Option Addr) (n1_1 c1_1 : Nat) (z1_1 : List Int) (w : World) (w0_1 : (A0_1 = none ∧ n0_1 = 0 ∧ c0_1 = 0 ∧ z0_1 = []) ∨ ∃ x, A0_1 = some x ∧ n0_1 ≤ c0_1 ∧ c0_1 ≤ maxLen ∧ z0_1.length = c0_1 ∧ (∀ i, i < z0_1.length → w.cell? (x.add i) = some (.int .u32 (z0_1.getD i 0))) ∧ ∀ n ∈ z0_1, (Lit.int .u32 n).wf = true) (w1_1 : (A1_1 = none ∧ n1_1 = 0 ∧ c1_1 = 0 ∧ z1_1 = []) ∨ ∃ x, A1_1 = some x ∧ n1_1 ≤ c1_1 ∧ c1_1 ≤ maxLen ∧ z1_1.length = c1_1 ∧ (∀ i, i < z1_1.length → w.cell? (x.add i) = some (.int .u32 (z1_1.getD i 0))) ∧ ∀ n ∈ z1_1, (Lit.int .u32 n).wf = true) :
  Calls Try.prog 9 #[.agg #[.bool a0_0, .slice A0_1 n0_1 c0_1], .agg #[.bool a1_0, .slice A1_1 n1_1 c1_1]] w fun e w' => e = .returned (.bool true) ∧ Below w.heap.size w w' := by
 obtain ⟨l0_1, rfl, hr0_1, hm0_1, hw0_1, hc0_1⟩ := ReadsInt.ofRowC w0_1
 obtain ⟨l1_1, rfl, hr1_1, hm1_1, hw1_1, hc1_1⟩ := ReadsInt.ofRowC w1_1
 obtain ⟨k, h⟩ := P a0_0 l0_1 a1_0 l1_1 hm0_1 hw0_1 hm1_1 hw1_1
 refine (whetstonelaw02_BigRests.calls k a0_0 _ _ l0_1 a1_0 _ _ l1_1 true w (Kd.C_of_reads (d := (0 : Int)) (h1 := fun _ => rfl) hr0_1) hc0_1 (Kd.C_of_reads (d := (0 : Int)) (h1 := fun _ => rfl) hr1_1) hc1_1 h).mono ?_
 rintro e w' ⟨rfl, hd⟩
 exact ⟨rfl, hd⟩

end Go.Proofs.Ytjpnaapimnoamaa.QBigRests
