-- written by wip/wprint, a program of this session
import Derived.Test.YtjpnaapimnoamaaQBigSumsx0
import Derived.Test.YtjpnaapimnoamaaQBigSumsx1
import Derived.Test.YtjpnaapimnoamaaQBigSumsx4
import Derived.Test.YtjpnaapimnoamaaQBigSumsx9
import Derived.Test.YtjpnaapimnoamaaQBigSumsx10
import Derived.Test.YtjpnaapimnoamaaQBigSumsx14
import Derived.Test.YtjpnaapimnoamaaQBigSumsx15
import Derived.Test.YtjpnaapimnoamaaQBigSumsx16
import Derived.Test.YtjpnaapimnoamaaQBigSumsx17
import Derived.Test.YtjpnaapimnoamaaQBigSumsx18d
namespace Go.Proofs.Ytjpnaapimnoamaa.QBigSums
open Go.RowKit Go.Proofs.YtjpnaapimnoamaaW.PrintWords Go.Proofs.YtjpnaapimnoamaaW.PrintLast Go.Proofs.YtjpnaapimnoamaaW.PrintMore
open Go.Proofs.YtjpnaapimnoamaaW.PrintWords.Kd renaming R_alloc → qa, R_drewN → qn, R_drew → qd
open Go.Proofs.YtjpnaapimnoamaaW.PrintWords renaming below_alloc → ba, pw_below_drewN → bn, below_drew1 → bd
attribute [local go_sem] max2_int min2_int max_two min_two max_three min_three max_four min_four   -- for this text's walks alone
set_option linter.unusedVariables false
set_option linter.unusedSimpArgs false

set_option maxHeartbeats 8000000 in
set_option maxRecDepth 100000 in
theorem whetstonelaw02_BigSums.calls (k : Nat) (a0_0 : Bool) (A0_1 : Option Addr) (c0_1 : Nat) (l0_1 : List Int) (a1_0 : Bool) (A1_1 : Option Addr) (c1_1 : Nat) (l1_1 : List Int) (r : Bool) (w : World) (hr0_1 : Kd.C (Kd.int .u32) w A0_1 l0_1.length l0_1) (hc0_1 : l0_1.length ≤ c0_1) (hr1_1 : Kd.C (Kd.int .u32) w A1_1 l1_1.length l1_1) (hc1_1 : l1_1.length ≤ c1_1) (h : whetstonelaw02_BigSums.f k a0_0 l0_1 a1_0 l1_1 = some r) :
  Calls Try.prog 4 #[.agg #[.bool a0_0, .slice A0_1 l0_1.length c0_1], .agg #[.bool a1_0, .slice A1_1 l1_1.length c1_1]] w fun e w' => e = .returned (.bool r) ∧ Below w.heap.size w w' := by
 have hu24 := Try.underlying24
 have hu32 := Try.underlying32
 have HR0_1 := Aside0.mk hr0_1
 have HC0_1 := Aside0.mk hc0_1
 clear hr0_1 hc0_1
 have HR1_1 := Aside0.mk hr1_1
 have HC1_1 := Aside0.mk hc1_1
 clear hr1_1 hc1_1
 have HB := Aside0.mk (Below.refl w.heap.size w)
 have H : ((whetstonelaw02_small.f a0_0 l0_1).bind fun t727 => (if t727 = true then ((whetstonelaw02_small.f a1_0 l1_1).bind fun t728 => (whetstonelaw02_BigSums.j0 k (!t728) a0_0 l0_1 a1_0 l1_1)) else (whetstonelaw02_BigSums.j0 k true a0_0 l0_1 a1_0 l1_1))) = some r := h
 clear h
 have HC3 := Aside0.mk H
 clear H
 go_enter Try.func4, Try.ntmps4
 go_upto_region 1 with (first | ((with_reducible refine gate_dst (N := 2) rfl ?_); refine bx (N := 2) #[.bool a0_0, .slice A0_1 l0_1.length c0_1] 24 ?_; intro gb725 hg w4 hbox hb; have BK725 := Aside0.mk (hbox); have GW725 := bz hg HB; have GE725 := bz hg HB; replace HB := bs HB hb; clear hb hbox hg) | ((with_reducible refine gate_dst (N := 3) rfl ?_); refine bx (N := 3) #[.bool a1_0, .slice A1_1 l1_1.length c1_1] 24 ?_; intro gb726 hg w5 hbox hb; have BK726 := Aside0.mk (hbox); have GW726 := bz hg HB; have GE726 := bz hg HB; replace HB := bs HB hb; have NB725_726 := nl hg BK725; have NB726_725 := ng hg BK725; replace BK725 := kb BK725 hb; clear hb hbox hg))
 (try simp only [Act.put, List.setIfInBounds_toArray, List.set_cons_zero, List.set_cons_succ])
 go_cut [14] from 1 to 0 (fun v14 wc => ∃ (kq : Nat) (x14_2 : Bool), v14 = .bool x14_2 ∧ Aside0 (whetstonelaw02_BigSums.j0 kq x14_2 a0_0 l0_1 a1_0 l1_1 = some r) ∧ Aside0 (kq ≤ k) ∧ Aside0 (wc.heap[gb725]? = some (.cells #[.bool a0_0, (.slice A0_1 l0_1.length c0_1)] 24 (0, 0))) ∧ Aside0 (wc.heap[gb726]? = some (.cells #[.bool a1_0, (.slice A1_1 l1_1.length c1_1)] 24 (0, 0))) ∧ Aside0 (Below w.heap.size w wc))
 case first =>
  have H := HC3.out
  clear HC3
  replace H := Option.bind_eq_some_iff.mp H
  obtain ⟨t727, A60, H⟩ := H
  have A6 := Aside0.mk A60
  clear A60
  by_cases c7 : t727 = true
  ·subst c7
   have H1 : ((whetstonelaw02_small.f a1_0 l1_1).bind fun t728 => (whetstonelaw02_BigSums.j0 k (!t728) a0_0 l0_1 a1_0 l1_1)) = some r := by rw [if_pos rfl] at H; exact H
   clear H
   have H := H1
   clear H1
   replace H := Option.bind_eq_some_iff.mp H
   obtain ⟨t728, A80, H⟩ := H
   have A8 := Aside0.mk A80
   clear A80
   have H' := Aside0.mk H
   clear H
   have hnb9 := NB725_726.out
   have hnc9 := NB726_725.out
   have hcz10_0 := bc BK725 0 (.bool a0_0)
   have hcz10_1 := bc BK725 1 (.slice A0_1 l0_1.length c0_1)
   have hfz10_0 := blk_frozen BK725.out 0
   have hfz10_1 := blk_frozen BK725.out 1
   go_wp2_with (first | ((with_reducible refine gate_callee (f := 12) rfl ?_); refine gL (N := some 8) Try.func12 #[.agg #[.bool a0_0, .slice A0_1 l0_1.length c0_1]] ?_; (with_reducible refine (whetstonelaw02_small.calls a0_0 _ _ l0_1 true _ ?side1 ?side2 A6.out).mono ?_); (case side1 => exact tc (Kd.C_below HR0_1.out HB.out)); (case side2 => exact HC0_1.out); rintro e w11 ⟨rfl, hb⟩; refine ⟨_, rfl, ?_⟩; replace BK725 := kb BK725 hb; replace BK726 := kb BK726 hb; replace HB := bs HB hb; (try clear hb); (try clear hb2); (try clear hk); (try clear hi); have hcz12_0 := bc BK726 0 (.bool a1_0); have hcz12_1 := bc BK726 1 (.slice A1_1 l1_1.length c1_1); have hfz12_0 := blk_frozen BK726.out 0; have hfz12_1 := blk_frozen BK726.out 1) | (go_at_call 12; (with_reducible refine (whetstonelaw02_small.calls a1_0 _ _ l1_1 t728 _ ?side1 ?side2 A8.out).mono ?_); (case side1 => exact tc (Kd.C_below HR1_1.out HB.out)); (case side2 => exact HC1_1.out); rintro e w13 ⟨rfl, hb⟩; replace BK725 := kb BK725 hb; replace BK726 := kb BK726 hb; replace HB := bs HB hb; (try clear hb); (try clear hb2); (try clear hk); (try clear hi)))
   go_meet
   case rel => exact ⟨_, (!t728), (by first | rfl | (simp; done) | (simp [*]; done)), H', ⟨by first | omega | exact Nat.le_refl _⟩, ⟨tk BK725⟩, ⟨tk BK726⟩, ⟨tb HB⟩⟩
  ·replace c7 := Bool.eq_false_iff.mpr c7
   subst c7
   have H1 : (whetstonelaw02_BigSums.j0 k true a0_0 l0_1 a1_0 l1_1) = some r := by rw [if_neg (show ¬ (false = true) by decide)] at H; exact H
   clear H
   have H := H1
   clear H1
   have H' := Aside0.mk H
   clear H
   have hnb14 := NB725_726.out
   have hnc14 := NB726_725.out
   have hcz15_0 := bc BK725 0 (.bool a0_0)
   have hcz15_1 := bc BK725 1 (.slice A0_1 l0_1.length c0_1)
   have hfz15_0 := blk_frozen BK725.out 0
   have hfz15_1 := blk_frozen BK725.out 1
   go_wp2_with (first | ((with_reducible refine gate_callee (f := 12) rfl ?_); refine gL (N := some 8) Try.func12 #[.agg #[.bool a0_0, .slice A0_1 l0_1.length c0_1]] ?_; (with_reducible refine (whetstonelaw02_small.calls a0_0 _ _ l0_1 false _ ?side1 ?side2 A6.out).mono ?_); (case side1 => exact tc (Kd.C_below HR0_1.out HB.out)); (case side2 => exact HC0_1.out); rintro e w16 ⟨rfl, hb⟩; refine ⟨_, rfl, ?_⟩; replace BK725 := kb BK725 hb; replace BK726 := kb BK726 hb; replace HB := bs HB hb; (try clear hb); (try clear hb2); (try clear hk); (try clear hi)))
   go_meet
   case rel => exact ⟨_, (true), (by first | rfl | (simp; done) | (simp [*]; done)), H', ⟨by first | omega | exact Nat.le_refl _⟩, ⟨tk BK725⟩, ⟨tk BK726⟩, ⟨tb HB⟩⟩
 case rest =>
  clear HC3
  (try clear c1); (try clear p2); (try clear c4); (try clear c7); (try clear c9); (try clear c12); (try clear c14); (try clear hcz10_0); (try clear hcz10_1); (try clear hcz12_0); (try clear hcz12_1); (try clear hcz15_0); (try clear hcz15_1); (try clear hfz10_0); (try clear hfz10_1); (try clear hfz12_0); (try clear hfz12_1); (try clear hfz15_0); (try clear hfz15_1)
  obtain ⟨kq, x14_2, rfl, HA, HJ2, BK725, BK726, HB⟩ := hcut
  cases kq with
  | zero => exact absurd HA.out (by simp [whetstonelaw02_BigSums.j0])
  | succ kj2 =>
   have H := HA.out
   clear HA
   simp only [whetstonelaw02_BigSums.j0] at H
   by_cases c17 : x14_2 = true
   ·subst c17
    have H1 : ((whetstonelaw02_signed.f kj2).bind fun t729 => (some t729)) = some r := by rw [if_pos rfl] at H; exact H
    clear H
    have H := H1
    clear H1
    replace H := Option.bind_eq_some_iff.mp H
    obtain ⟨t729, A180, H⟩ := H
    have A18 := Aside0.mk A180
    clear A180
    obtain rfl := Option.some.inj H
    go_wp2_with (first | ((with_reducible refine gate_callee (f := 13) rfl ?_); refine gL (N := some 15) Try.func13 #[] ?_; (with_reducible refine (whetstonelaw02_signed.calls kj2  t729 _ A18.out).mono ?_); rintro e w19 ⟨rfl, hb⟩; refine ⟨_, rfl, ?_⟩; replace HB := bs HB hb; (try clear hb); (try clear hb2); (try clear hk); (try clear hi)))
    go_ret
    exact ⟨by first | rfl | (simp [errW_none, errW_some] <;> rfl) | (simp [*, errW_none, errW_some] <;> rfl), tb HB⟩
   ·replace c17 := Bool.eq_false_iff.mpr c17
    subst c17
    have H1 : ((whetstonelaw02_of.f kj2 a0_0 l0_1).bind fun bt730 => ((whetstonelaw02_of.f kj2 a1_0 l1_1).bind fun bt734 => ((whetstonelaw02_signed.f kj2).bind fun t740 => (if t740 = true then ((big_Add.f kj2 a0_0 l0_1 a1_0 l1_1).bind fun bt741 => ((whetstoneref02_Add.f kj2 bt730.1 bt730.2 bt734.1 bt734.2).bind fun bt745 => ((whetstonelaw02_same.f kj2 bt741.1 bt741.2 bt745.1 bt745.2).bind fun t749 => (if t749 = true then ((big_Sub.f kj2 a0_0 l0_1 a1_0 l1_1).bind fun bt750 => ((whetstoneref02_Sub.f kj2 bt730.1 bt730.2 bt734.1 bt734.2).bind fun bt754 => ((whetstonelaw02_same.f kj2 bt750.1 bt750.2 bt754.1 bt754.2).bind fun t758 => (if t758 = true then ((big_Cmp.f kj2 a0_0 l0_1 a1_0 l1_1).bind fun t759 => ((whetstoneref02_Cmp.f kj2 bt730.1 bt730.2 bt734.1 bt734.2).bind fun t760 => (if t759 = t760 then ((big_Sign.f kj2 a0_0 l0_1).bind fun t761 => ((whetstoneref02_Sign.f kj2 bt730.1 bt730.2).bind fun t762 => (if t761 = t762 then ((big_Neg.f kj2 a0_0 l0_1).bind fun bt763 => ((whetstoneref02_Neg.f kj2 bt730.1 bt730.2).bind fun bt767 => ((whetstonelaw02_same.f kj2 bt763.1 bt763.2 bt767.1 bt767.2).bind fun t771 => (if t771 = true then ((big_Abs.f kj2 a0_0 l0_1).bind fun bt772 => ((whetstoneref02_Abs.f kj2 bt730.1 bt730.2).bind fun bt776 => ((whetstonelaw02_same.f kj2 bt772.1 bt772.2 bt776.1 bt776.2).bind fun t780 => (if t780 = true then ((big_Norm.f kj2 a0_0 l0_1).bind fun bt781 => ((whetstonelaw02_same.f kj2 bt781.1 bt781.2 bt730.1 bt730.2).bind fun t785 => (some t785))) else (none))))) else (none))))) else (none)))) else (none)))) else (none))))) else (none))))) else (none))))) = some r := by rw [if_neg (show ¬ (false = true) by decide)] at H; exact H
    clear H
    have H := H1
    clear H1
    replace H := Option.bind_eq_some_iff.mp H
    obtain ⟨⟨t730, t731⟩, A200, H⟩ := H
    try dsimp only at H
    have A20 := Aside0.mk A200
    clear A200
    replace H := Option.bind_eq_some_iff.mp H
    obtain ⟨⟨t734, t735⟩, A210, H⟩ := H
    try dsimp only at H
    have A21 := Aside0.mk A210
    clear A210
    replace H := Option.bind_eq_some_iff.mp H
    obtain ⟨t740, A220, H⟩ := H
    have A22 := Aside0.mk A220
    clear A220
    by_cases c23 : t740 = true
    ·subst c23
     have H1 : ((big_Add.f kj2 a0_0 l0_1 a1_0 l1_1).bind fun bt741 => ((whetstoneref02_Add.f kj2 t730 t731 t734 t735).bind fun bt745 => ((whetstonelaw02_same.f kj2 bt741.1 bt741.2 bt745.1 bt745.2).bind fun t749 => (if t749 = true then ((big_Sub.f kj2 a0_0 l0_1 a1_0 l1_1).bind fun bt750 => ((whetstoneref02_Sub.f kj2 t730 t731 t734 t735).bind fun bt754 => ((whetstonelaw02_same.f kj2 bt750.1 bt750.2 bt754.1 bt754.2).bind fun t758 => (if t758 = true then ((big_Cmp.f kj2 a0_0 l0_1 a1_0 l1_1).bind fun t759 => ((whetstoneref02_Cmp.f kj2 t730 t731 t734 t735).bind fun t760 => (if t759 = t760 then ((big_Sign.f kj2 a0_0 l0_1).bind fun t761 => ((whetstoneref02_Sign.f kj2 t730 t731).bind fun t762 => (if t761 = t762 then ((big_Neg.f kj2 a0_0 l0_1).bind fun bt763 => ((whetstoneref02_Neg.f kj2 t730 t731).bind fun bt767 => ((whetstonelaw02_same.f kj2 bt763.1 bt763.2 bt767.1 bt767.2).bind fun t771 => (if t771 = true then ((big_Abs.f kj2 a0_0 l0_1).bind fun bt772 => ((whetstoneref02_Abs.f kj2 t730 t731).bind fun bt776 => ((whetstonelaw02_same.f kj2 bt772.1 bt772.2 bt776.1 bt776.2).bind fun t780 => (if t780 = true then ((big_Norm.f kj2 a0_0 l0_1).bind fun bt781 => ((whetstonelaw02_same.f kj2 bt781.1 bt781.2 t730 t731).bind fun t785 => (some t785))) else (none))))) else (none))))) else (none)))) else (none)))) else (none))))) else (none))))) = some r := by rw [if_pos rfl] at H; exact H
     clear H
     have H := H1
     clear H1
     replace H := Option.bind_eq_some_iff.mp H
     obtain ⟨⟨t741, t742⟩, A240, H⟩ := H
     try dsimp only at H
     have A24 := Aside0.mk A240
     clear A240
     replace H := Option.bind_eq_some_iff.mp H
     obtain ⟨⟨t745, t746⟩, A250, H⟩ := H
     try dsimp only at H
     have A25 := Aside0.mk A250
     clear A250
     replace H := Option.bind_eq_some_iff.mp H
     obtain ⟨t749, A260, H⟩ := H
     have A26 := Aside0.mk A260
     clear A260
     by_cases c27 : t749 = true
     ·subst c27
      have H1 : ((big_Sub.f kj2 a0_0 l0_1 a1_0 l1_1).bind fun bt750 => ((whetstoneref02_Sub.f kj2 t730 t731 t734 t735).bind fun bt754 => ((whetstonelaw02_same.f kj2 bt750.1 bt750.2 bt754.1 bt754.2).bind fun t758 => (if t758 = true then ((big_Cmp.f kj2 a0_0 l0_1 a1_0 l1_1).bind fun t759 => ((whetstoneref02_Cmp.f kj2 t730 t731 t734 t735).bind fun t760 => (if t759 = t760 then ((big_Sign.f kj2 a0_0 l0_1).bind fun t761 => ((whetstoneref02_Sign.f kj2 t730 t731).bind fun t762 => (if t761 = t762 then ((big_Neg.f kj2 a0_0 l0_1).bind fun bt763 => ((whetstoneref02_Neg.f kj2 t730 t731).bind fun bt767 => ((whetstonelaw02_same.f kj2 bt763.1 bt763.2 bt767.1 bt767.2).bind fun t771 => (if t771 = true then ((big_Abs.f kj2 a0_0 l0_1).bind fun bt772 => ((whetstoneref02_Abs.f kj2 t730 t731).bind fun bt776 => ((whetstonelaw02_same.f kj2 bt772.1 bt772.2 bt776.1 bt776.2).bind fun t780 => (if t780 = true then ((big_Norm.f kj2 a0_0 l0_1).bind fun bt781 => ((whetstonelaw02_same.f kj2 bt781.1 bt781.2 t730 t731).bind fun t785 => (some t785))) else (none))))) else (none))))) else (none)))) else (none)))) else (none))))) = some r := by rw [if_pos rfl] at H; exact H
      clear H
      have H := H1
      clear H1
      replace H := Option.bind_eq_some_iff.mp H
      obtain ⟨⟨t750, t751⟩, A280, H⟩ := H
      try dsimp only at H
      have A28 := Aside0.mk A280
      clear A280
      replace H := Option.bind_eq_some_iff.mp H
      obtain ⟨⟨t754, t755⟩, A290, H⟩ := H
      try dsimp only at H
      have A29 := Aside0.mk A290
      clear A290
      replace H := Option.bind_eq_some_iff.mp H
      obtain ⟨t758, A300, H⟩ := H
      have A30 := Aside0.mk A300
      clear A300
      by_cases c31 : t758 = true
      ·subst c31
       have H1 : ((big_Cmp.f kj2 a0_0 l0_1 a1_0 l1_1).bind fun t759 => ((whetstoneref02_Cmp.f kj2 t730 t731 t734 t735).bind fun t760 => (if t759 = t760 then ((big_Sign.f kj2 a0_0 l0_1).bind fun t761 => ((whetstoneref02_Sign.f kj2 t730 t731).bind fun t762 => (if t761 = t762 then ((big_Neg.f kj2 a0_0 l0_1).bind fun bt763 => ((whetstoneref02_Neg.f kj2 t730 t731).bind fun bt767 => ((whetstonelaw02_same.f kj2 bt763.1 bt763.2 bt767.1 bt767.2).bind fun t771 => (if t771 = true then ((big_Abs.f kj2 a0_0 l0_1).bind fun bt772 => ((whetstoneref02_Abs.f kj2 t730 t731).bind fun bt776 => ((whetstonelaw02_same.f kj2 bt772.1 bt772.2 bt776.1 bt776.2).bind fun t780 => (if t780 = true then ((big_Norm.f kj2 a0_0 l0_1).bind fun bt781 => ((whetstonelaw02_same.f kj2 bt781.1 bt781.2 t730 t731).bind fun t785 => (some t785))) else (none))))) else (none))))) else (none)))) else (none)))) = some r := by rw [if_pos rfl] at H; exact H
       clear H
       have H := H1
       clear H1
       replace H := Option.bind_eq_some_iff.mp H
       obtain ⟨t759, A320, H⟩ := H
       have A32 := Aside0.mk A320
       clear A320
       replace H := Option.bind_eq_some_iff.mp H
       obtain ⟨t760, A330, H⟩ := H
       have A33 := Aside0.mk A330
       clear A330
       by_cases c34 : t759 = t760
       ·rw [if_pos c34] at H
        have c34b0 : (t759 == t760) = true := beq_iff_eq.mpr c34
        have c34b1 : (t759 != t760) = false := bne_eq_false_iff_eq.mpr c34
        clear c34
        replace H := Option.bind_eq_some_iff.mp H
        obtain ⟨t761, A350, H⟩ := H
        have A35 := Aside0.mk A350
        clear A350
        replace H := Option.bind_eq_some_iff.mp H
        obtain ⟨t762, A360, H⟩ := H
        have A36 := Aside0.mk A360
        clear A360
        by_cases c37 : t761 = t762
        ·rw [if_pos c37] at H
         have c37b0 : (t761 == t762) = true := beq_iff_eq.mpr c37
         have c37b1 : (t761 != t762) = false := bne_eq_false_iff_eq.mpr c37
         clear c37
         replace H := Option.bind_eq_some_iff.mp H
         obtain ⟨⟨t763, t764⟩, A380, H⟩ := H
         try dsimp only at H
         have A38 := Aside0.mk A380
         clear A380
         replace H := Option.bind_eq_some_iff.mp H
         obtain ⟨⟨t767, t768⟩, A390, H⟩ := H
         try dsimp only at H
         have A39 := Aside0.mk A390
         clear A390
         replace H := Option.bind_eq_some_iff.mp H
         obtain ⟨t771, A400, H⟩ := H
         have A40 := Aside0.mk A400
         clear A400
         by_cases c41 : t771 = true
         ·subst c41
          have H1 : ((big_Abs.f kj2 a0_0 l0_1).bind fun bt772 => ((whetstoneref02_Abs.f kj2 t730 t731).bind fun bt776 => ((whetstonelaw02_same.f kj2 bt772.1 bt772.2 bt776.1 bt776.2).bind fun t780 => (if t780 = true then ((big_Norm.f kj2 a0_0 l0_1).bind fun bt781 => ((whetstonelaw02_same.f kj2 bt781.1 bt781.2 t730 t731).bind fun t785 => (some t785))) else (none))))) = some r := by rw [if_pos rfl] at H; exact H
          clear H
          have H := H1
          clear H1
          replace H := Option.bind_eq_some_iff.mp H
          obtain ⟨⟨t772, t773⟩, A420, H⟩ := H
          try dsimp only at H
          have A42 := Aside0.mk A420
          clear A420
          replace H := Option.bind_eq_some_iff.mp H
          obtain ⟨⟨t776, t777⟩, A430, H⟩ := H
          try dsimp only at H
          have A43 := Aside0.mk A430
          clear A430
          replace H := Option.bind_eq_some_iff.mp H
          obtain ⟨t780, A440, H⟩ := H
          have A44 := Aside0.mk A440
          clear A440
          by_cases c45 : t780 = true
          ·subst c45
           have H1 : ((big_Norm.f kj2 a0_0 l0_1).bind fun bt781 => ((whetstonelaw02_same.f kj2 bt781.1 bt781.2 t730 t731).bind fun t785 => (some t785))) = some r := by rw [if_pos rfl] at H; exact H
           clear H
           have H := H1
           clear H1
           replace H := Option.bind_eq_some_iff.mp H
           obtain ⟨⟨t781, t782⟩, A460, H⟩ := H
           try dsimp only at H
           have A46 := Aside0.mk A460
           clear A460
           replace H := Option.bind_eq_some_iff.mp H
           obtain ⟨t785, A470, H⟩ := H
           have A47 := Aside0.mk A470
           clear A470
           obtain rfl := Option.some.inj H
           try go_wp2
           replace BK725 := Aside0.mk (blk_drew BK725.out)
           replace BK726 := Aside0.mk (blk_drew BK726.out)
           replace HB := Aside0.mk (below_drew1 HB.out)
           refine start_ (n := 8) (S := fun w' => w'.cell? ⟨gb725, 0, none⟩ = some (.bool a0_0) ∧ w'.cell? ⟨gb725, 1, none⟩ = some (.slice A0_1 l0_1.length c0_1) ∧ w'.cell? ⟨gb726, 0, none⟩ = some (.bool a1_0) ∧ w'.cell? ⟨gb726, 1, none⟩ = some (.slice A1_1 l1_1.length c1_1)) (ds := []) #[false, false, false, false, false, false, false, false] (by kernel_rfl) rfl rfl ⟨(blk_cell BK725.out 0).trans rfl, (blk_cell BK725.out 1).trans rfl, (blk_cell BK726.out 0).trans rfl, (blk_cell BK726.out 1).trans rfl⟩ (fun hHeld => ?_); refine with_tabW whetstonelaw02_BigSums.tab3 whetstonelaw02_BigSums.bits3 (fun HT_ HW_ => ?_)
           generalize wc.drew = w48 at BK725 BK726 HB hHeld ⊢
           refine tW (i := 0) (N := some 16) (bb 8 1) HT_ HW_ hHeld ?_
           refine tW (i := 2) (N := some 18) (bb 8 5) HT_ HW_ hHeld ?_
           refine join_ (σ := Value × Value × Nat × Nat) 2 #[true, true, true, true, true, true, false, false] (fun s_ => [(17, .agg #[.bool t730, s_.1]), (19, .agg #[.bool t734, s_.2.1]), (5, .pointer (some ⟨s_.2.2.1, 0, none⟩)), (6, .pointer (some ⟨s_.2.2.2, 0, none⟩))]) (fun s_ w' => (w'.cell? ⟨gb725, 0, none⟩ = some (.bool a0_0) ∧ w'.cell? ⟨gb725, 1, none⟩ = some (.slice A0_1 l0_1.length c0_1) ∧ w'.cell? ⟨gb726, 0, none⟩ = some (.bool a1_0) ∧ w'.cell? ⟨gb726, 1, none⟩ = some (.slice A1_1 l1_1.length c1_1)) ∧ (Kd.R (Kd.int .i64) 3 w' w.heap.size (fun k_ => some k_ ≠ (s_.2.1 : Value).ownBlock) s_.1 t731) ∧ (Kd.R (Kd.int .i64) 3 w' w.heap.size (fun k_ => some k_ ≠ (s_.1 : Value).ownBlock) s_.2.1 t735) ∧ (w'.heap[gb725]? = some (.cells #[.bool a0_0, .slice A0_1 l0_1.length c0_1] 24 (0, 0))) ∧ (w'.heap[gb726]? = some (.cells #[.bool a1_0, .slice A1_1 l1_1.length c1_1] 24 (0, 0))) ∧ (w'.heap[s_.2.2.1]? = some (.cells #[.bool false, .slice none 0 0] 32 (0, 0))) ∧ (w'.heap[s_.2.2.2]? = some (.cells #[.bool false, .slice none 0 0] 32 (0, 0))) ∧ (w.heap.size ≤ s_.2.2.1) ∧ (w.heap.size ≤ s_.2.2.1) ∧ (gb725 ≠ s_.2.2.1) ∧ (s_.2.2.1 ≠ gb725) ∧ (gb726 ≠ s_.2.2.1) ∧ (s_.2.2.1 ≠ gb726) ∧ (s_.2.2.2 ≠ s_.2.2.1) ∧ (s_.2.2.1 ≠ s_.2.2.2) ∧ (w.heap.size ≤ s_.2.2.2) ∧ (w.heap.size ≤ s_.2.2.2) ∧ (gb725 ≠ s_.2.2.2) ∧ (s_.2.2.2 ≠ gb725) ∧ (gb726 ≠ s_.2.2.2) ∧ (s_.2.2.2 ≠ gb726) ∧ (Below w.heap.size w w')) ?_ ?_
           rotate_left
           ·intro hJ1_3_4_5
            refine join_ (σ := Value × Value × Nat) 3 #[true, true, true, true, true, false, false, false] (fun s_ => [(17, .agg #[.bool t730, s_.1]), (19, .agg #[.bool t734, s_.2.1]), (5, .pointer (some ⟨s_.2.2, 0, none⟩))]) (fun s_ w' => (w'.cell? ⟨gb725, 0, none⟩ = some (.bool a0_0) ∧ w'.cell? ⟨gb725, 1, none⟩ = some (.slice A0_1 l0_1.length c0_1) ∧ w'.cell? ⟨gb726, 0, none⟩ = some (.bool a1_0) ∧ w'.cell? ⟨gb726, 1, none⟩ = some (.slice A1_1 l1_1.length c1_1)) ∧ (Kd.R (Kd.int .i64) 3 w' w.heap.size (fun k_ => some k_ ≠ (s_.2.1 : Value).ownBlock) s_.1 t731) ∧ (Kd.R (Kd.int .i64) 3 w' w.heap.size (fun k_ => some k_ ≠ (s_.1 : Value).ownBlock) s_.2.1 t735) ∧ (w'.heap[gb725]? = some (.cells #[.bool a0_0, .slice A0_1 l0_1.length c0_1] 24 (0, 0))) ∧ (w'.heap[gb726]? = some (.cells #[.bool a1_0, .slice A1_1 l1_1.length c1_1] 24 (0, 0))) ∧ (w'.heap[s_.2.2]? = some (.cells #[.bool false, .slice none 0 0] 32 (0, 0))) ∧ (w.heap.size ≤ s_.2.2) ∧ (w.heap.size ≤ s_.2.2) ∧ (gb725 ≠ s_.2.2) ∧ (s_.2.2 ≠ gb725) ∧ (gb726 ≠ s_.2.2) ∧ (s_.2.2 ≠ gb726) ∧ (Below w.heap.size w w')) ?_ ?_
            rotate_left
            ·intro hJ1_3_4
             refine join_ (σ := Value × Value × Nat) 3 #[true, true, true, true, false, true, false, false] (fun s_ => [(17, .agg #[.bool t730, s_.1]), (19, .agg #[.bool t734, s_.2.1]), (6, .pointer (some ⟨s_.2.2, 0, none⟩))]) (fun s_ w' => (w'.cell? ⟨gb725, 0, none⟩ = some (.bool a0_0) ∧ w'.cell? ⟨gb725, 1, none⟩ = some (.slice A0_1 l0_1.length c0_1) ∧ w'.cell? ⟨gb726, 0, none⟩ = some (.bool a1_0) ∧ w'.cell? ⟨gb726, 1, none⟩ = some (.slice A1_1 l1_1.length c1_1)) ∧ (Kd.R (Kd.int .i64) 3 w' w.heap.size (fun k_ => some k_ ≠ (s_.2.1 : Value).ownBlock) s_.1 t731) ∧ (Kd.R (Kd.int .i64) 3 w' w.heap.size (fun k_ => some k_ ≠ (s_.1 : Value).ownBlock) s_.2.1 t735) ∧ (w'.heap[gb725]? = some (.cells #[.bool a0_0, .slice A0_1 l0_1.length c0_1] 24 (0, 0))) ∧ (w'.heap[gb726]? = some (.cells #[.bool a1_0, .slice A1_1 l1_1.length c1_1] 24 (0, 0))) ∧ (w'.heap[s_.2.2]? = some (.cells #[.bool false, .slice none 0 0] 32 (0, 0))) ∧ (w.heap.size ≤ s_.2.2) ∧ (w.heap.size ≤ s_.2.2) ∧ (gb725 ≠ s_.2.2) ∧ (s_.2.2 ≠ gb725) ∧ (gb726 ≠ s_.2.2) ∧ (s_.2.2 ≠ gb726) ∧ (Below w.heap.size w w')) ?_ ?_
             rotate_left
             ·intro hJ1_3_5
              refine join_ (σ := Value × Nat × Nat) 3 #[true, true, true, false, true, true, false, false] (fun s_ => [(17, .agg #[.bool t730, s_.1]), (5, .pointer (some ⟨s_.2.1, 0, none⟩)), (6, .pointer (some ⟨s_.2.2, 0, none⟩))]) (fun s_ w' => (w'.cell? ⟨gb725, 0, none⟩ = some (.bool a0_0) ∧ w'.cell? ⟨gb725, 1, none⟩ = some (.slice A0_1 l0_1.length c0_1) ∧ w'.cell? ⟨gb726, 0, none⟩ = some (.bool a1_0) ∧ w'.cell? ⟨gb726, 1, none⟩ = some (.slice A1_1 l1_1.length c1_1)) ∧ (Kd.R (Kd.int .i64) 3 w' w.heap.size (fun _ => True) s_.1 t731) ∧ (w'.heap[gb725]? = some (.cells #[.bool a0_0, .slice A0_1 l0_1.length c0_1] 24 (0, 0))) ∧ (w'.heap[gb726]? = some (.cells #[.bool a1_0, .slice A1_1 l1_1.length c1_1] 24 (0, 0))) ∧ (w'.heap[s_.2.1]? = some (.cells #[.bool false, .slice none 0 0] 32 (0, 0))) ∧ (w'.heap[s_.2.2]? = some (.cells #[.bool false, .slice none 0 0] 32 (0, 0))) ∧ (w.heap.size ≤ s_.2.1) ∧ (w.heap.size ≤ s_.2.1) ∧ (gb725 ≠ s_.2.1) ∧ (s_.2.1 ≠ gb725) ∧ (gb726 ≠ s_.2.1) ∧ (s_.2.1 ≠ gb726) ∧ (s_.2.2 ≠ s_.2.1) ∧ (s_.2.1 ≠ s_.2.2) ∧ (w.heap.size ≤ s_.2.2) ∧ (w.heap.size ≤ s_.2.2) ∧ (gb725 ≠ s_.2.2) ∧ (s_.2.2 ≠ gb725) ∧ (gb726 ≠ s_.2.2) ∧ (s_.2.2 ≠ gb726) ∧ (Below w.heap.size w w')) ?_ ?_
              rotate_left
              ·intro hJ1_4_5
               refine join_ (σ := Value × Value) 4 #[true, true, true, true, false, false, false, false] (fun s_ => [(17, .agg #[.bool t730, s_.1]), (19, .agg #[.bool t734, s_.2])]) (fun s_ w' => (w'.cell? ⟨gb725, 0, none⟩ = some (.bool a0_0) ∧ w'.cell? ⟨gb725, 1, none⟩ = some (.slice A0_1 l0_1.length c0_1) ∧ w'.cell? ⟨gb726, 0, none⟩ = some (.bool a1_0) ∧ w'.cell? ⟨gb726, 1, none⟩ = some (.slice A1_1 l1_1.length c1_1)) ∧ (Kd.R (Kd.int .i64) 3 w' w.heap.size (fun k_ => some k_ ≠ (s_.2 : Value).ownBlock) s_.1 t731) ∧ (Kd.R (Kd.int .i64) 3 w' w.heap.size (fun k_ => some k_ ≠ (s_.1 : Value).ownBlock) s_.2 t735) ∧ (w'.heap[gb725]? = some (.cells #[.bool a0_0, .slice A0_1 l0_1.length c0_1] 24 (0, 0))) ∧ (w'.heap[gb726]? = some (.cells #[.bool a1_0, .slice A1_1 l1_1.length c1_1] 24 (0, 0))) ∧ (Below w.heap.size w w')) ?_ ?_
               rotate_left
               ·intro hJ1_3
                refine join_ (σ := Value × Nat) 4 #[true, true, true, false, true, false, false, false] (fun s_ => [(17, .agg #[.bool t730, s_.1]), (5, .pointer (some ⟨s_.2, 0, none⟩))]) (fun s_ w' => (w'.cell? ⟨gb725, 0, none⟩ = some (.bool a0_0) ∧ w'.cell? ⟨gb725, 1, none⟩ = some (.slice A0_1 l0_1.length c0_1) ∧ w'.cell? ⟨gb726, 0, none⟩ = some (.bool a1_0) ∧ w'.cell? ⟨gb726, 1, none⟩ = some (.slice A1_1 l1_1.length c1_1)) ∧ (Kd.R (Kd.int .i64) 3 w' w.heap.size (fun _ => True) s_.1 t731) ∧ (w'.heap[gb725]? = some (.cells #[.bool a0_0, .slice A0_1 l0_1.length c0_1] 24 (0, 0))) ∧ (w'.heap[gb726]? = some (.cells #[.bool a1_0, .slice A1_1 l1_1.length c1_1] 24 (0, 0))) ∧ (w'.heap[s_.2]? = some (.cells #[.bool false, .slice none 0 0] 32 (0, 0))) ∧ (w.heap.size ≤ s_.2) ∧ (w.heap.size ≤ s_.2) ∧ (gb725 ≠ s_.2) ∧ (s_.2 ≠ gb725) ∧ (gb726 ≠ s_.2) ∧ (s_.2 ≠ gb726) ∧ (Below w.heap.size w w')) ?_ ?_
                rotate_left
                ·intro hJ1_4
                 refine join_ (σ := Value × Nat) 4 #[true, true, true, false, false, true, false, false] (fun s_ => [(17, .agg #[.bool t730, s_.1]), (6, .pointer (some ⟨s_.2, 0, none⟩))]) (fun s_ w' => (w'.cell? ⟨gb725, 0, none⟩ = some (.bool a0_0) ∧ w'.cell? ⟨gb725, 1, none⟩ = some (.slice A0_1 l0_1.length c0_1) ∧ w'.cell? ⟨gb726, 0, none⟩ = some (.bool a1_0) ∧ w'.cell? ⟨gb726, 1, none⟩ = some (.slice A1_1 l1_1.length c1_1)) ∧ (Kd.R (Kd.int .i64) 3 w' w.heap.size (fun _ => True) s_.1 t731) ∧ (w'.heap[gb725]? = some (.cells #[.bool a0_0, .slice A0_1 l0_1.length c0_1] 24 (0, 0))) ∧ (w'.heap[gb726]? = some (.cells #[.bool a1_0, .slice A1_1 l1_1.length c1_1] 24 (0, 0))) ∧ (w'.heap[s_.2]? = some (.cells #[.bool false, .slice none 0 0] 32 (0, 0))) ∧ (w.heap.size ≤ s_.2) ∧ (w.heap.size ≤ s_.2) ∧ (gb725 ≠ s_.2) ∧ (s_.2 ≠ gb725) ∧ (gb726 ≠ s_.2) ∧ (s_.2 ≠ gb726) ∧ (Below w.heap.size w w')) ?_ ?_
                 rotate_left
                 ·intro hJ1_5
                  refine join_ (σ := Nat × Nat) 4 #[true, false, true, false, true, true, false, false] (fun s_ => [(5, .pointer (some ⟨s_.1, 0, none⟩)), (6, .pointer (some ⟨s_.2, 0, none⟩))]) (fun s_ w' => (w'.cell? ⟨gb725, 0, none⟩ = some (.bool a0_0) ∧ w'.cell? ⟨gb725, 1, none⟩ = some (.slice A0_1 l0_1.length c0_1) ∧ w'.cell? ⟨gb726, 0, none⟩ = some (.bool a1_0) ∧ w'.cell? ⟨gb726, 1, none⟩ = some (.slice A1_1 l1_1.length c1_1)) ∧ (w'.heap[gb725]? = some (.cells #[.bool a0_0, .slice A0_1 l0_1.length c0_1] 24 (0, 0))) ∧ (w'.heap[gb726]? = some (.cells #[.bool a1_0, .slice A1_1 l1_1.length c1_1] 24 (0, 0))) ∧ (w'.heap[s_.1]? = some (.cells #[.bool false, .slice none 0 0] 32 (0, 0))) ∧ (w'.heap[s_.2]? = some (.cells #[.bool false, .slice none 0 0] 32 (0, 0))) ∧ (w.heap.size ≤ s_.1) ∧ (w.heap.size ≤ s_.1) ∧ (gb725 ≠ s_.1) ∧ (s_.1 ≠ gb725) ∧ (gb726 ≠ s_.1) ∧ (s_.1 ≠ gb726) ∧ (s_.2 ≠ s_.1) ∧ (s_.1 ≠ s_.2) ∧ (w.heap.size ≤ s_.2) ∧ (w.heap.size ≤ s_.2) ∧ (gb725 ≠ s_.2) ∧ (s_.2 ≠ gb725) ∧ (gb726 ≠ s_.2) ∧ (s_.2 ≠ gb726) ∧ (Below w.heap.size w w')) ?_ ?_
                  rotate_left
                  ·intro hJ4_5
                   refine join_ (σ := Value) 5 #[true, true, true, false, false, false, false, false] (fun s_ => [(17, .agg #[.bool t730, s_])]) (fun s_ w' => (w'.cell? ⟨gb725, 0, none⟩ = some (.bool a0_0) ∧ w'.cell? ⟨gb725, 1, none⟩ = some (.slice A0_1 l0_1.length c0_1) ∧ w'.cell? ⟨gb726, 0, none⟩ = some (.bool a1_0) ∧ w'.cell? ⟨gb726, 1, none⟩ = some (.slice A1_1 l1_1.length c1_1)) ∧ (Kd.R (Kd.int .i64) 3 w' w.heap.size (fun _ => True) s_ t731) ∧ (w'.heap[gb725]? = some (.cells #[.bool a0_0, .slice A0_1 l0_1.length c0_1] 24 (0, 0))) ∧ (w'.heap[gb726]? = some (.cells #[.bool a1_0, .slice A1_1 l1_1.length c1_1] 24 (0, 0))) ∧ (Below w.heap.size w w')) ?_ ?_
                   rotate_left
                   ·intro hJ1
                    refine join_ (σ := Nat) 5 #[true, false, true, false, true, false, false, false] (fun s_ => [(5, .pointer (some ⟨s_, 0, none⟩))]) (fun s_ w' => (w'.cell? ⟨gb725, 0, none⟩ = some (.bool a0_0) ∧ w'.cell? ⟨gb725, 1, none⟩ = some (.slice A0_1 l0_1.length c0_1) ∧ w'.cell? ⟨gb726, 0, none⟩ = some (.bool a1_0) ∧ w'.cell? ⟨gb726, 1, none⟩ = some (.slice A1_1 l1_1.length c1_1)) ∧ (w'.heap[gb725]? = some (.cells #[.bool a0_0, .slice A0_1 l0_1.length c0_1] 24 (0, 0))) ∧ (w'.heap[gb726]? = some (.cells #[.bool a1_0, .slice A1_1 l1_1.length c1_1] 24 (0, 0))) ∧ (w'.heap[s_]? = some (.cells #[.bool false, .slice none 0 0] 32 (0, 0))) ∧ (w.heap.size ≤ s_) ∧ (w.heap.size ≤ s_) ∧ (gb725 ≠ s_) ∧ (s_ ≠ gb725) ∧ (gb726 ≠ s_) ∧ (s_ ≠ gb726) ∧ (Below w.heap.size w w')) ?_ ?_
                    rotate_left
                    ·intro hJ4
                     refine join_ (σ := Nat) 5 #[true, false, true, false, false, true, false, false] (fun s_ => [(6, .pointer (some ⟨s_, 0, none⟩))]) (fun s_ w' => (w'.cell? ⟨gb725, 0, none⟩ = some (.bool a0_0) ∧ w'.cell? ⟨gb725, 1, none⟩ = some (.slice A0_1 l0_1.length c0_1) ∧ w'.cell? ⟨gb726, 0, none⟩ = some (.bool a1_0) ∧ w'.cell? ⟨gb726, 1, none⟩ = some (.slice A1_1 l1_1.length c1_1)) ∧ (w'.heap[gb725]? = some (.cells #[.bool a0_0, .slice A0_1 l0_1.length c0_1] 24 (0, 0))) ∧ (w'.heap[gb726]? = some (.cells #[.bool a1_0, .slice A1_1 l1_1.length c1_1] 24 (0, 0))) ∧ (w'.heap[s_]? = some (.cells #[.bool false, .slice none 0 0] 32 (0, 0))) ∧ (w.heap.size ≤ s_) ∧ (w.heap.size ≤ s_) ∧ (gb725 ≠ s_) ∧ (s_ ≠ gb725) ∧ (gb726 ≠ s_) ∧ (s_ ≠ gb726) ∧ (Below w.heap.size w w')) ?_ ?_
                     rotate_left
                     ·intro hJ5
                      refine three_ (i := 1) (j := 4) (k := 5) (Ni := some 17) (Nj := some 5) (Nk := some 6) #[true, true, true, false, false, false, false, false] #[true, false, true, false, true, false, false, false] #[true, false, true, false, false, true, false, false] rfl rfl rfl rfl rfl rfl (three_of HT_.out (by kernel_rfl)) (by decide) (by decide) (by decide) (fun K hK => ?_) (fun K hK => ?_) (fun K hK => ?_)
                      ·skip
                       refine gS Try.func18 #[.agg #[.bool a0_0, .slice A0_1 l0_1.length c0_1]] ?_
                       with_reducible refine (whetstonelaw02_of.calls kj2 a0_0 _ _ l0_1 t730 t731 _ ?side1 ?side2 A20.out).mono ?_
                       (case side1 => exact tc (Kd.C_below HR0_1.out HB.out))
                       (case side2 => exact HC0_1.out)
                       rintro e w49 ⟨v732, rfl, ho0, hb⟩
                       refine ⟨_, rfl, ?_⟩
                       have HO733 := rl ho0 HB
                       replace BK725 := kb BK725 hb
                       replace BK726 := kb BK726 hb
                       replace HB := bs HB hb
                       (try clear hb); (try clear hb2); (try clear hk); (try clear hi); (try clear ho0)
                       refine hK.out _ _ ⟨(blk_cell BK725.out 0).trans rfl, (blk_cell BK725.out 1).trans rfl, (blk_cell BK726.out 0).trans rfl, (blk_cell BK726.out 1).trans rfl⟩ fun hHeld => nT (N := some 17) ?_
                       clear hK K
                       exact norm_ (by first | (simp only [putAll, Act.put, List.setIfInBounds_toArray, List.set_cons_zero, List.set_cons_succ]; done) | (simp only [putAll, Act.put, List.setIfInBounds_toArray, List.set_cons_zero, List.set_cons_succ]; rfl)) (hJ1 (v732) _ ⟨hHeld, (tq HO733), (tk BK725), (tk BK726), (tb HB)⟩)
                      ·skip
                       refine box_step ?hg (N := 5) ?hd (cs := #[.bool false, .slice none 0 0]) (t := 32) ?hr ?_; (case hd => rfl); (case hg => rfl); (case hr => first | (go_simp; done) | (go_simp; rfl))
                       intro gb738 hg w49 hbox hb
                       have n0_ := kb BK725 hb
                       have n1_ := kb BK726 hb
                       have n2_ := bs HB hb
                       have n3_ := Aside0.mk (hbox)
                       have n4_ := bz hg HB
                       have n5_ := bz hg HB
                       have n6_ := nl hg BK725
                       have n7_ := ng hg BK725
                       have n8_ := nl hg BK726
                       have n9_ := ng hg BK726
                       clear BK725 BK726 HB
                       have BK725 := n0_
                       have BK726 := n1_
                       have HB := n2_
                       have BK738 := n3_
                       have GW738 := n4_
                       have GE738 := n5_
                       have NB725_738 := n6_
                       have NB738_725 := n7_
                       have NB726_738 := n8_
                       have NB738_726 := n9_
                       clear n0_ n1_ n2_ n3_ n4_ n5_ n6_ n7_ n8_ n9_ hb hbox hg
                       refine hK.out _ _ ⟨(blk_cell BK725.out 0).trans rfl, (blk_cell BK725.out 1).trans rfl, (blk_cell BK726.out 0).trans rfl, (blk_cell BK726.out 1).trans rfl⟩ fun hHeld => nT (N := some 5) ?_
                       clear hK K
                       exact norm_ (by first | (simp only [putAll, Act.put, List.setIfInBounds_toArray, List.set_cons_zero, List.set_cons_succ]; done) | (simp only [putAll, Act.put, List.setIfInBounds_toArray, List.set_cons_zero, List.set_cons_succ]; rfl)) (hJ4 (gb738) _ ⟨hHeld, (tk BK725), (tk BK726), (tk BK738), GW738.out, GE738.out, NB725_738.out, NB738_725.out, NB726_738.out, NB738_726.out, (tb HB)⟩)
                      ·skip
                       refine box_step ?hg (N := 6) ?hd (cs := #[.bool false, .slice none 0 0]) (t := 32) ?hr ?_; (case hd => rfl); (case hg => rfl); (case hr => first | (go_simp; done) | (go_simp; rfl))
                       intro gb739 hg w49 hbox hb
                       have n0_ := kb BK725 hb
                       have n1_ := kb BK726 hb
                       have n2_ := bs HB hb
                       have n3_ := Aside0.mk (hbox)
                       have n4_ := bz hg HB
                       have n5_ := bz hg HB
                       have n6_ := nl hg BK725
                       have n7_ := ng hg BK725
                       have n8_ := nl hg BK726
                       have n9_ := ng hg BK726
                       clear BK725 BK726 HB
                       have BK725 := n0_
                       have BK726 := n1_
                       have HB := n2_
                       have BK739 := n3_
                       have GW739 := n4_
                       have GE739 := n5_
                       have NB725_739 := n6_
                       have NB739_725 := n7_
                       have NB726_739 := n8_
                       have NB739_726 := n9_
                       clear n0_ n1_ n2_ n3_ n4_ n5_ n6_ n7_ n8_ n9_ hb hbox hg
                       refine hK.out _ _ ⟨(blk_cell BK725.out 0).trans rfl, (blk_cell BK725.out 1).trans rfl, (blk_cell BK726.out 0).trans rfl, (blk_cell BK726.out 1).trans rfl⟩ fun hHeld => nT (N := some 6) ?_
                       clear hK K
                       exact norm_ (by first | (simp only [putAll, Act.put, List.setIfInBounds_toArray, List.set_cons_zero, List.set_cons_succ]; done) | (simp only [putAll, Act.put, List.setIfInBounds_toArray, List.set_cons_zero, List.set_cons_succ]; rfl)) (hJ5 (gb739) _ ⟨hHeld, (tk BK725), (tk BK726), (tk BK739), GW739.out, GE739.out, NB725_739.out, NB739_725.out, NB726_739.out, NB739_726.out, (tb HB)⟩)
                     ·skip
                      rintro gb739 w50 ⟨hS_, h0_, h1_, h2_, h3_, h4_, h5_, h6_, h7_, h8_, h9_⟩
                      have n0_ : Aside0 (w50.heap[gb725]? = some (.cells #[.bool a0_0, .slice A0_1 l0_1.length c0_1] 24 (0, 0))) := ⟨h0_⟩
                      have n1_ : Aside0 (w50.heap[gb726]? = some (.cells #[.bool a1_0, .slice A1_1 l1_1.length c1_1] 24 (0, 0))) := ⟨h1_⟩
                      have n2_ : Aside0 (w50.heap[gb739]? = some (.cells #[.bool false, .slice none 0 0] 32 (0, 0))) := ⟨h2_⟩
                      have n3_ : Aside0 (w.heap.size ≤ gb739) := ⟨h3_⟩
                      have n4_ : Aside0 (w.heap.size ≤ gb739) := ⟨h4_⟩
                      have n5_ : Aside0 (gb725 ≠ gb739) := ⟨h5_⟩
                      have n6_ : Aside0 (gb739 ≠ gb725) := ⟨h6_⟩
                      have n7_ : Aside0 (gb726 ≠ gb739) := ⟨h7_⟩
                      have n8_ : Aside0 (gb739 ≠ gb726) := ⟨h8_⟩
                      have n9_ : Aside0 (Below w.heap.size w w50) := ⟨h9_⟩
                      clear BK725 BK726 HB h0_ h1_ h2_ h3_ h4_ h5_ h6_ h7_ h8_ h9_
                      have BK725 := n0_
                      have BK726 := n1_
                      have BK739 := n2_
                      have GW739 := n3_
                      have GE739 := n4_
                      have NB725_739 := n5_
                      have NB739_725 := n6_
                      have NB726_739 := n7_
                      have NB739_726 := n8_
                      have HB := n9_
                      clear n0_ n1_ n2_ n3_ n4_ n5_ n6_ n7_ n8_ n9_
                      have hHeld : w50.cell? ⟨gb725, 0, none⟩ = some (.bool a0_0) ∧ w50.cell? ⟨gb725, 1, none⟩ = some (.slice A0_1 l0_1.length c0_1) ∧ w50.cell? ⟨gb726, 0, none⟩ = some (.bool a1_0) ∧ w50.cell? ⟨gb726, 1, none⟩ = some (.slice A1_1 l1_1.length c1_1) := hS_
                      refine norm_ (a' := ?_) ?_ ?_
                      rotate_left
                      ·simp only [putAll, Act.put, List.setIfInBounds_toArray, List.set_cons_zero, List.set_cons_succ]
                       rfl
                      refine two_ (i := 1) (j := 4) (Ni := some 17) (Nj := some 5) #[true, true, true, false, false, true, false, false] #[true, false, true, false, true, true, false, false] rfl rfl rfl rfl (two_of HT_.out (by kernel_rfl)) (by decide) (by decide) (fun K hK => ?_) (fun K hK => ?_)
                      ·skip
                       refine gS Try.func18 #[.agg #[.bool a0_0, .slice A0_1 l0_1.length c0_1]] ?_
                       with_reducible refine (whetstonelaw02_of.calls kj2 a0_0 _ _ l0_1 t730 t731 _ ?side1 ?side2 A20.out).mono ?_
                       (case side1 => exact tc (Kd.C_below HR0_1.out HB.out))
                       (case side2 => exact HC0_1.out)
                       rintro e w51 ⟨v732, rfl, ho0, hb⟩
                       refine ⟨_, rfl, ?_⟩
                       have HO733 := rl ho0 HB
                       replace BK725 := kb BK725 hb
                       replace BK726 := kb BK726 hb
                       replace BK739 := kb BK739 hb
                       replace HB := bs HB hb
                       (try clear hb); (try clear hb2); (try clear hk); (try clear hi); (try clear ho0)
                       refine hK.out _ _ ⟨(blk_cell BK725.out 0).trans rfl, (blk_cell BK725.out 1).trans rfl, (blk_cell BK726.out 0).trans rfl, (blk_cell BK726.out 1).trans rfl⟩ fun hHeld => nT (N := some 17) ?_
                       clear hK K
                       exact norm_ (by first | (simp only [putAll, Act.put, List.setIfInBounds_toArray, List.set_cons_zero, List.set_cons_succ]; done) | (simp only [putAll, Act.put, List.setIfInBounds_toArray, List.set_cons_zero, List.set_cons_succ]; rfl)) (hJ1_5 (v732, gb739) _ ⟨hHeld, (tq HO733), (tk BK725), (tk BK726), (tk BK739), GW739.out, GE739.out, NB725_739.out, NB739_725.out, NB726_739.out, NB739_726.out, (tb HB)⟩)
                      ·skip
                       refine box_step ?hg (N := 5) ?hd (cs := #[.bool false, .slice none 0 0]) (t := 32) ?hr ?_; (case hd => rfl); (case hg => rfl); (case hr => first | (go_simp; done) | (go_simp; rfl))
                       intro gb738 hg w51 hbox hb
                       have n0_ := kb BK725 hb
                       have n1_ := kb BK726 hb
                       have n2_ := kb BK739 hb
                       have n3_ := bs HB hb
                       have n4_ := Aside0.mk (hbox)
                       have n5_ := bz hg HB
                       have n6_ := bz hg HB
                       have n7_ := nl hg BK725
                       have n8_ := ng hg BK725
                       have n9_ := nl hg BK726
                       have n10_ := ng hg BK726
                       have n11_ := nl hg BK739
                       have n12_ := ng hg BK739
                       clear BK725 BK726 BK739 HB
                       have BK725 := n0_
                       have BK726 := n1_
                       have BK739 := n2_
                       have HB := n3_
                       have BK738 := n4_
                       have GW738 := n5_
                       have GE738 := n6_
                       have NB725_738 := n7_
                       have NB738_725 := n8_
                       have NB726_738 := n9_
                       have NB738_726 := n10_
                       have NB739_738 := n11_
                       have NB738_739 := n12_
                       clear n0_ n1_ n2_ n3_ n4_ n5_ n6_ n7_ n8_ n9_ n10_ n11_ n12_ hb hbox hg
                       refine hK.out _ _ ⟨(blk_cell BK725.out 0).trans rfl, (blk_cell BK725.out 1).trans rfl, (blk_cell BK726.out 0).trans rfl, (blk_cell BK726.out 1).trans rfl⟩ fun hHeld => nT (N := some 5) ?_
                       clear hK K
                       exact norm_ (by first | (simp only [putAll, Act.put, List.setIfInBounds_toArray, List.set_cons_zero, List.set_cons_succ]; done) | (simp only [putAll, Act.put, List.setIfInBounds_toArray, List.set_cons_zero, List.set_cons_succ]; rfl)) (hJ4_5 (gb738, gb739) _ ⟨hHeld, (tk BK725), (tk BK726), (tk BK738), (tk BK739), GW738.out, GE738.out, NB725_738.out, NB738_725.out, NB726_738.out, NB738_726.out, NB739_738.out, NB738_739.out, GW739.out, GE739.out, NB725_739.out, NB739_725.out, NB726_739.out, NB739_726.out, (tb HB)⟩)
                    ·skip
                     rintro gb738 w50 ⟨hS_, h0_, h1_, h2_, h3_, h4_, h5_, h6_, h7_, h8_, h9_⟩
                     have n0_ : Aside0 (w50.heap[gb725]? = some (.cells #[.bool a0_0, .slice A0_1 l0_1.length c0_1] 24 (0, 0))) := ⟨h0_⟩
                     have n1_ : Aside0 (w50.heap[gb726]? = some (.cells #[.bool a1_0, .slice A1_1 l1_1.length c1_1] 24 (0, 0))) := ⟨h1_⟩
                     have n2_ : Aside0 (w50.heap[gb738]? = some (.cells #[.bool false, .slice none 0 0] 32 (0, 0))) := ⟨h2_⟩
                     have n3_ : Aside0 (w.heap.size ≤ gb738) := ⟨h3_⟩
                     have n4_ : Aside0 (w.heap.size ≤ gb738) := ⟨h4_⟩
                     have n5_ : Aside0 (gb725 ≠ gb738) := ⟨h5_⟩
                     have n6_ : Aside0 (gb738 ≠ gb725) := ⟨h6_⟩
                     have n7_ : Aside0 (gb726 ≠ gb738) := ⟨h7_⟩
                     have n8_ : Aside0 (gb738 ≠ gb726) := ⟨h8_⟩
                     have n9_ : Aside0 (Below w.heap.size w w50) := ⟨h9_⟩
                     clear BK725 BK726 HB h0_ h1_ h2_ h3_ h4_ h5_ h6_ h7_ h8_ h9_
                     have BK725 := n0_
                     have BK726 := n1_
                     have BK738 := n2_
                     have GW738 := n3_
                     have GE738 := n4_
                     have NB725_738 := n5_
                     have NB738_725 := n6_
                     have NB726_738 := n7_
                     have NB738_726 := n8_
                     have HB := n9_
                     clear n0_ n1_ n2_ n3_ n4_ n5_ n6_ n7_ n8_ n9_
                     have hHeld : w50.cell? ⟨gb725, 0, none⟩ = some (.bool a0_0) ∧ w50.cell? ⟨gb725, 1, none⟩ = some (.slice A0_1 l0_1.length c0_1) ∧ w50.cell? ⟨gb726, 0, none⟩ = some (.bool a1_0) ∧ w50.cell? ⟨gb726, 1, none⟩ = some (.slice A1_1 l1_1.length c1_1) := hS_
                     refine norm_ (a' := ?_) ?_ ?_
                     rotate_left
                     ·simp only [putAll, Act.put, List.setIfInBounds_toArray, List.set_cons_zero, List.set_cons_succ]
                      rfl
                     refine two_ (i := 1) (j := 5) (Ni := some 17) (Nj := some 6) #[true, true, true, false, true, false, false, false] #[true, false, true, false, true, true, false, false] rfl rfl rfl rfl (two_of HT_.out (by kernel_rfl)) (by decide) (by decide) (fun K hK => ?_) (fun K hK => ?_)
                     ·skip
                      refine gS Try.func18 #[.agg #[.bool a0_0, .slice A0_1 l0_1.length c0_1]] ?_
                      with_reducible refine (whetstonelaw02_of.calls kj2 a0_0 _ _ l0_1 t730 t731 _ ?side1 ?side2 A20.out).mono ?_
                      (case side1 => exact tc (Kd.C_below HR0_1.out HB.out))
                      (case side2 => exact HC0_1.out)
                      rintro e w51 ⟨v732, rfl, ho0, hb⟩
                      refine ⟨_, rfl, ?_⟩
                      have HO733 := rl ho0 HB
                      replace BK725 := kb BK725 hb
                      replace BK726 := kb BK726 hb
                      replace BK738 := kb BK738 hb
                      replace HB := bs HB hb
                      (try clear hb); (try clear hb2); (try clear hk); (try clear hi); (try clear ho0)
                      refine hK.out _ _ ⟨(blk_cell BK725.out 0).trans rfl, (blk_cell BK725.out 1).trans rfl, (blk_cell BK726.out 0).trans rfl, (blk_cell BK726.out 1).trans rfl⟩ fun hHeld => nT (N := some 17) ?_
                      clear hK K
                      exact norm_ (by first | (simp only [putAll, Act.put, List.setIfInBounds_toArray, List.set_cons_zero, List.set_cons_succ]; done) | (simp only [putAll, Act.put, List.setIfInBounds_toArray, List.set_cons_zero, List.set_cons_succ]; rfl)) (hJ1_4 (v732, gb738) _ ⟨hHeld, (tq HO733), (tk BK725), (tk BK726), (tk BK738), GW738.out, GE738.out, NB725_738.out, NB738_725.out, NB726_738.out, NB738_726.out, (tb HB)⟩)
                     ·skip
                      refine box_step ?hg (N := 6) ?hd (cs := #[.bool false, .slice none 0 0]) (t := 32) ?hr ?_; (case hd => rfl); (case hg => rfl); (case hr => first | (go_simp; done) | (go_simp; rfl))
                      intro gb739 hg w51 hbox hb
                      have n0_ := kb BK725 hb
                      have n1_ := kb BK726 hb
                      have n2_ := kb BK738 hb
                      have n3_ := bs HB hb
                      have n4_ := Aside0.mk (hbox)
                      have n5_ := bz hg HB
                      have n6_ := bz hg HB
                      have n7_ := nl hg BK725
                      have n8_ := ng hg BK725
                      have n9_ := nl hg BK726
                      have n10_ := ng hg BK726
                      have n11_ := nl hg BK738
                      have n12_ := ng hg BK738
                      clear BK725 BK726 BK738 HB
                      have BK725 := n0_
                      have BK726 := n1_
                      have BK738 := n2_
                      have HB := n3_
                      have BK739 := n4_
                      have GW739 := n5_
                      have GE739 := n6_
                      have NB725_739 := n7_
                      have NB739_725 := n8_
                      have NB726_739 := n9_
                      have NB739_726 := n10_
                      have NB738_739 := n11_
                      have NB739_738 := n12_
                      clear n0_ n1_ n2_ n3_ n4_ n5_ n6_ n7_ n8_ n9_ n10_ n11_ n12_ hb hbox hg
                      refine hK.out _ _ ⟨(blk_cell BK725.out 0).trans rfl, (blk_cell BK725.out 1).trans rfl, (blk_cell BK726.out 0).trans rfl, (blk_cell BK726.out 1).trans rfl⟩ fun hHeld => nT (N := some 6) ?_
                      clear hK K
                      exact norm_ (by first | (simp only [putAll, Act.put, List.setIfInBounds_toArray, List.set_cons_zero, List.set_cons_succ]; done) | (simp only [putAll, Act.put, List.setIfInBounds_toArray, List.set_cons_zero, List.set_cons_succ]; rfl)) (hJ4_5 (gb738, gb739) _ ⟨hHeld, (tk BK725), (tk BK726), (tk BK738), (tk BK739), GW738.out, GE738.out, NB725_738.out, NB738_725.out, NB726_738.out, NB738_726.out, NB739_738.out, NB738_739.out, GW739.out, GE739.out, NB725_739.out, NB739_725.out, NB726_739.out, NB739_726.out, (tb HB)⟩)
                   ·skip
                    rintro v732 w50 ⟨hS_, h0_, h1_, h2_, h3_⟩
                    have n0_ : Aside0 (Kd.R (Kd.int .i64) 3 w50 w.heap.size (fun _ => True) v732 t731) := ⟨h0_⟩
                    have n1_ : Aside0 (w50.heap[gb725]? = some (.cells #[.bool a0_0, .slice A0_1 l0_1.length c0_1] 24 (0, 0))) := ⟨h1_⟩
                    have n2_ : Aside0 (w50.heap[gb726]? = some (.cells #[.bool a1_0, .slice A1_1 l1_1.length c1_1] 24 (0, 0))) := ⟨h2_⟩
                    have n3_ : Aside0 (Below w.heap.size w w50) := ⟨h3_⟩
                    clear BK725 BK726 HB h0_ h1_ h2_ h3_
                    have HO733 := n0_
                    have BK725 := n1_
                    have BK726 := n2_
                    have HB := n3_
                    clear n0_ n1_ n2_ n3_
                    have hHeld : w50.cell? ⟨gb725, 0, none⟩ = some (.bool a0_0) ∧ w50.cell? ⟨gb725, 1, none⟩ = some (.slice A0_1 l0_1.length c0_1) ∧ w50.cell? ⟨gb726, 0, none⟩ = some (.bool a1_0) ∧ w50.cell? ⟨gb726, 1, none⟩ = some (.slice A1_1 l1_1.length c1_1) := hS_
                    refine norm_ (a' := ?_) ?_ ?_
                    rotate_left
                    ·simp only [putAll, Act.put, List.setIfInBounds_toArray, List.set_cons_zero, List.set_cons_succ]
                     rfl
                    refine three_ (i := 3) (j := 4) (k := 5) (Ni := some 19) (Nj := some 5) (Nk := some 6) #[true, true, true, true, false, false, false, false] #[true, true, true, false, true, false, false, false] #[true, true, true, false, false, true, false, false] rfl rfl rfl rfl rfl rfl (three_of HT_.out (by kernel_rfl)) (by decide) (by decide) (by decide) (fun K hK => ?_) (fun K hK => ?_) (fun K hK => ?_)
                    ·skip
                     refine gS Try.func18 #[.agg #[.bool a1_0, .slice A1_1 l1_1.length c1_1]] ?_
                     with_reducible refine (whetstonelaw02_of.calls kj2 a1_0 _ _ l1_1 t734 t735 _ ?side1 ?side2 A21.out).mono ?_
                     (case side1 => exact tc (Kd.C_below HR1_1.out HB.out))
                     (case side2 => exact HC1_1.out)
                     rintro e w51 ⟨v736, rfl, ho0, hb⟩
                     refine ⟨_, rfl, ?_⟩
                     have HO737 := Aside0.mk (Kd.R_lower (Kd.R_new' ho0 (Kd.R_lt (tq HO733))) (below_size (tb HB)))
                     replace HO733 := re HO733 (Kd.R_base ho0) hb
                     replace BK725 := kb BK725 hb
                     replace BK726 := kb BK726 hb
                     replace HB := bs HB hb
                     (try clear hb); (try clear hb2); (try clear hk); (try clear hi); (try clear ho0)
                     refine hK.out _ _ ⟨(blk_cell BK725.out 0).trans rfl, (blk_cell BK725.out 1).trans rfl, (blk_cell BK726.out 0).trans rfl, (blk_cell BK726.out 1).trans rfl⟩ fun hHeld => nT (N := some 19) ?_
                     clear hK K
                     exact norm_ (by first | (simp only [putAll, Act.put, List.setIfInBounds_toArray, List.set_cons_zero, List.set_cons_succ]; done) | (simp only [putAll, Act.put, List.setIfInBounds_toArray, List.set_cons_zero, List.set_cons_succ]; rfl)) (hJ1_3 (v732, v736) _ ⟨hHeld, (by (with_reducible repeat first | apply qa | apply qn | apply qd); exact Kd.R_mono HO733.out (fun _ hk => hk.2)), (by (with_reducible repeat first | apply qa | apply qn | apply qd); exact Kd.R_mono HO737.out (fun _ hk => hk.2)), (tk BK725), (tk BK726), (tb HB)⟩)
                    ·skip
                     refine box_step ?hg (N := 5) ?hd (cs := #[.bool false, .slice none 0 0]) (t := 32) ?hr ?_; (case hd => rfl); (case hg => rfl); (case hr => first | (go_simp; done) | (go_simp; rfl))
                     intro gb738 hg w51 hbox hb
                     have n0_ := rb HO733 hb
                     have n1_ := kb BK725 hb
                     have n2_ := kb BK726 hb
                     have n3_ := bs HB hb
                     have n4_ := Aside0.mk (hbox)
                     have n5_ := bz hg HB
                     have n6_ := bz hg HB
                     have n7_ := nl hg BK725
                     have n8_ := ng hg BK725
                     have n9_ := nl hg BK726
                     have n10_ := ng hg BK726
                     clear HO733 BK725 BK726 HB
                     have HO733 := n0_
                     have BK725 := n1_
                     have BK726 := n2_
                     have HB := n3_
                     have BK738 := n4_
                     have GW738 := n5_
                     have GE738 := n6_
                     have NB725_738 := n7_
                     have NB738_725 := n8_
                     have NB726_738 := n9_
                     have NB738_726 := n10_
                     clear n0_ n1_ n2_ n3_ n4_ n5_ n6_ n7_ n8_ n9_ n10_ hb hbox hg
                     refine hK.out _ _ ⟨(blk_cell BK725.out 0).trans rfl, (blk_cell BK725.out 1).trans rfl, (blk_cell BK726.out 0).trans rfl, (blk_cell BK726.out 1).trans rfl⟩ fun hHeld => nT (N := some 5) ?_
                     clear hK K
                     exact norm_ (by first | (simp only [putAll, Act.put, List.setIfInBounds_toArray, List.set_cons_zero, List.set_cons_succ]; done) | (simp only [putAll, Act.put, List.setIfInBounds_toArray, List.set_cons_zero, List.set_cons_succ]; rfl)) (hJ1_4 (v732, gb738) _ ⟨hHeld, (tq HO733), (tk BK725), (tk BK726), (tk BK738), GW738.out, GE738.out, NB725_738.out, NB738_725.out, NB726_738.out, NB738_726.out, (tb HB)⟩)
                    ·skip
                     refine box_step ?hg (N := 6) ?hd (cs := #[.bool false, .slice none 0 0]) (t := 32) ?hr ?_; (case hd => rfl); (case hg => rfl); (case hr => first | (go_simp; done) | (go_simp; rfl))
                     intro gb739 hg w51 hbox hb
                     have n0_ := rb HO733 hb
                     have n1_ := kb BK725 hb
                     have n2_ := kb BK726 hb
                     have n3_ := bs HB hb
                     have n4_ := Aside0.mk (hbox)
                     have n5_ := bz hg HB
                     have n6_ := bz hg HB
                     have n7_ := nl hg BK725
                     have n8_ := ng hg BK725
                     have n9_ := nl hg BK726
                     have n10_ := ng hg BK726
                     clear HO733 BK725 BK726 HB
                     have HO733 := n0_
                     have BK725 := n1_
                     have BK726 := n2_
                     have HB := n3_
                     have BK739 := n4_
                     have GW739 := n5_
                     have GE739 := n6_
                     have NB725_739 := n7_
                     have NB739_725 := n8_
                     have NB726_739 := n9_
                     have NB739_726 := n10_
                     clear n0_ n1_ n2_ n3_ n4_ n5_ n6_ n7_ n8_ n9_ n10_ hb hbox hg
                     refine hK.out _ _ ⟨(blk_cell BK725.out 0).trans rfl, (blk_cell BK725.out 1).trans rfl, (blk_cell BK726.out 0).trans rfl, (blk_cell BK726.out 1).trans rfl⟩ fun hHeld => nT (N := some 6) ?_
                     clear hK K
                     exact norm_ (by first | (simp only [putAll, Act.put, List.setIfInBounds_toArray, List.set_cons_zero, List.set_cons_succ]; done) | (simp only [putAll, Act.put, List.setIfInBounds_toArray, List.set_cons_zero, List.set_cons_succ]; rfl)) (hJ1_5 (v732, gb739) _ ⟨hHeld, (tq HO733), (tk BK725), (tk BK726), (tk BK739), GW739.out, GE739.out, NB725_739.out, NB739_725.out, NB726_739.out, NB739_726.out, (tb HB)⟩)
                  ·skip
                   rintro ⟨gb738, gb739⟩ w51 ⟨hS_, h0_, h1_, h2_, h3_, h4_, h5_, h6_, h7_, h8_, h9_, h10_, h11_, h12_, h13_, h14_, h15_, h16_, h17_, h18_⟩
                   have n0_ : Aside0 (w51.heap[gb725]? = some (.cells #[.bool a0_0, .slice A0_1 l0_1.length c0_1] 24 (0, 0))) := ⟨h0_⟩
                   have n1_ : Aside0 (w51.heap[gb726]? = some (.cells #[.bool a1_0, .slice A1_1 l1_1.length c1_1] 24 (0, 0))) := ⟨h1_⟩
                   have n2_ : Aside0 (w51.heap[gb738]? = some (.cells #[.bool false, .slice none 0 0] 32 (0, 0))) := ⟨h2_⟩
                   have n3_ : Aside0 (w51.heap[gb739]? = some (.cells #[.bool false, .slice none 0 0] 32 (0, 0))) := ⟨h3_⟩
                   have n4_ : Aside0 (w.heap.size ≤ gb738) := ⟨h4_⟩
                   have n5_ : Aside0 (w.heap.size ≤ gb738) := ⟨h5_⟩
                   have n6_ : Aside0 (gb725 ≠ gb738) := ⟨h6_⟩
                   have n7_ : Aside0 (gb738 ≠ gb725) := ⟨h7_⟩
                   have n8_ : Aside0 (gb726 ≠ gb738) := ⟨h8_⟩
                   have n9_ : Aside0 (gb738 ≠ gb726) := ⟨h9_⟩
                   have n10_ : Aside0 (gb739 ≠ gb738) := ⟨h10_⟩
                   have n11_ : Aside0 (gb738 ≠ gb739) := ⟨h11_⟩
                   have n12_ : Aside0 (w.heap.size ≤ gb739) := ⟨h12_⟩
                   have n13_ : Aside0 (w.heap.size ≤ gb739) := ⟨h13_⟩
                   have n14_ : Aside0 (gb725 ≠ gb739) := ⟨h14_⟩
                   have n15_ : Aside0 (gb739 ≠ gb725) := ⟨h15_⟩
                   have n16_ : Aside0 (gb726 ≠ gb739) := ⟨h16_⟩
                   have n17_ : Aside0 (gb739 ≠ gb726) := ⟨h17_⟩
                   have n18_ : Aside0 (Below w.heap.size w w51) := ⟨h18_⟩
                   clear BK725 BK726 HB h0_ h1_ h2_ h3_ h4_ h5_ h6_ h7_ h8_ h9_ h10_ h11_ h12_ h13_ h14_ h15_ h16_ h17_ h18_
                   have BK725 := n0_
                   have BK726 := n1_
                   have BK738 := n2_
                   have BK739 := n3_
                   have GW738 := n4_
                   have GE738 := n5_
                   have NB725_738 := n6_
                   have NB738_725 := n7_
                   have NB726_738 := n8_
                   have NB738_726 := n9_
                   have NB739_738 := n10_
                   have NB738_739 := n11_
                   have GW739 := n12_
                   have GE739 := n13_
                   have NB725_739 := n14_
                   have NB739_725 := n15_
                   have NB726_739 := n16_
                   have NB739_726 := n17_
                   have HB := n18_
                   clear n0_ n1_ n2_ n3_ n4_ n5_ n6_ n7_ n8_ n9_ n10_ n11_ n12_ n13_ n14_ n15_ n16_ n17_ n18_
                   have hHeld : w51.cell? ⟨gb725, 0, none⟩ = some (.bool a0_0) ∧ w51.cell? ⟨gb725, 1, none⟩ = some (.slice A0_1 l0_1.length c0_1) ∧ w51.cell? ⟨gb726, 0, none⟩ = some (.bool a1_0) ∧ w51.cell? ⟨gb726, 1, none⟩ = some (.slice A1_1 l1_1.length c1_1) := hS_
                   refine norm_ (a' := ?_) ?_ ?_
                   rotate_left
                   ·simp only [putAll, Act.put, List.setIfInBounds_toArray, List.set_cons_zero, List.set_cons_succ]
                    rfl
                   refine oT (i := 1) (N := some 17) (bb 8 55) HT_ fun K hK => ?_
                   refine gS Try.func18 #[.agg #[.bool a0_0, .slice A0_1 l0_1.length c0_1]] ?_
                   with_reducible refine (whetstonelaw02_of.calls kj2 a0_0 _ _ l0_1 t730 t731 _ ?side1 ?side2 A20.out).mono ?_
                   (case side1 => exact tc (Kd.C_below HR0_1.out HB.out))
                   (case side2 => exact HC0_1.out)
                   rintro e w52 ⟨v732, rfl, ho0, hb⟩
                   refine ⟨_, rfl, ?_⟩
                   have HO733 := rl ho0 HB
                   replace BK725 := kb BK725 hb
                   replace BK726 := kb BK726 hb
                   replace BK738 := kb BK738 hb
                   replace BK739 := kb BK739 hb
                   replace HB := bs HB hb
                   (try clear hb); (try clear hb2); (try clear hk); (try clear hi); (try clear ho0)
                   refine hK.out _ _ ⟨(blk_cell BK725.out 0).trans rfl, (blk_cell BK725.out 1).trans rfl, (blk_cell BK726.out 0).trans rfl, (blk_cell BK726.out 1).trans rfl⟩ fun hHeld => nT (N := some 17) ?_
                   clear hK K
                   exact norm_ (by first | (simp only [putAll, Act.put, List.setIfInBounds_toArray, List.set_cons_zero, List.set_cons_succ]; done) | (simp only [putAll, Act.put, List.setIfInBounds_toArray, List.set_cons_zero, List.set_cons_succ]; rfl)) (hJ1_4_5 (v732, gb738, gb739) _ ⟨hHeld, (tq HO733), (tk BK725), (tk BK726), (tk BK738), (tk BK739), GW738.out, GE738.out, NB725_738.out, NB738_725.out, NB726_738.out, NB738_726.out, NB739_738.out, NB738_739.out, GW739.out, GE739.out, NB725_739.out, NB739_725.out, NB726_739.out, NB739_726.out, (tb HB)⟩)
                 ·skip
                  rintro ⟨v732, gb739⟩ w51 ⟨hS_, h0_, h1_, h2_, h3_, h4_, h5_, h6_, h7_, h8_, h9_, h10_⟩
                  have n0_ : Aside0 (Kd.R (Kd.int .i64) 3 w51 w.heap.size (fun _ => True) v732 t731) := ⟨h0_⟩
                  have n1_ : Aside0 (w51.heap[gb725]? = some (.cells #[.bool a0_0, .slice A0_1 l0_1.length c0_1] 24 (0, 0))) := ⟨h1_⟩
                  have n2_ : Aside0 (w51.heap[gb726]? = some (.cells #[.bool a1_0, .slice A1_1 l1_1.length c1_1] 24 (0, 0))) := ⟨h2_⟩
                  have n3_ : Aside0 (w51.heap[gb739]? = some (.cells #[.bool false, .slice none 0 0] 32 (0, 0))) := ⟨h3_⟩
                  have n4_ : Aside0 (w.heap.size ≤ gb739) := ⟨h4_⟩
                  have n5_ : Aside0 (w.heap.size ≤ gb739) := ⟨h5_⟩
                  have n6_ : Aside0 (gb725 ≠ gb739) := ⟨h6_⟩
                  have n7_ : Aside0 (gb739 ≠ gb725) := ⟨h7_⟩
                  have n8_ : Aside0 (gb726 ≠ gb739) := ⟨h8_⟩
                  have n9_ : Aside0 (gb739 ≠ gb726) := ⟨h9_⟩
                  have n10_ : Aside0 (Below w.heap.size w w51) := ⟨h10_⟩
                  clear BK725 BK726 HB h0_ h1_ h2_ h3_ h4_ h5_ h6_ h7_ h8_ h9_ h10_
                  have HO733 := n0_
                  have BK725 := n1_
                  have BK726 := n2_
                  have BK739 := n3_
                  have GW739 := n4_
                  have GE739 := n5_
                  have NB725_739 := n6_
                  have NB739_725 := n7_
                  have NB726_739 := n8_
                  have NB739_726 := n9_
                  have HB := n10_
                  clear n0_ n1_ n2_ n3_ n4_ n5_ n6_ n7_ n8_ n9_ n10_
                  have hHeld : w51.cell? ⟨gb725, 0, none⟩ = some (.bool a0_0) ∧ w51.cell? ⟨gb725, 1, none⟩ = some (.slice A0_1 l0_1.length c0_1) ∧ w51.cell? ⟨gb726, 0, none⟩ = some (.bool a1_0) ∧ w51.cell? ⟨gb726, 1, none⟩ = some (.slice A1_1 l1_1.length c1_1) := hS_
                  refine norm_ (a' := ?_) ?_ ?_
                  rotate_left
                  ·simp only [putAll, Act.put, List.setIfInBounds_toArray, List.set_cons_zero, List.set_cons_succ]
                   rfl
                  refine two_ (i := 3) (j := 4) (Ni := some 19) (Nj := some 5) #[true, true, true, true, false, true, false, false] #[true, true, true, false, true, true, false, false] rfl rfl rfl rfl (two_of HT_.out (by kernel_rfl)) (by decide) (by decide) (fun K hK => ?_) (fun K hK => ?_)
                  ·skip
                   refine gS Try.func18 #[.agg #[.bool a1_0, .slice A1_1 l1_1.length c1_1]] ?_
                   with_reducible refine (whetstonelaw02_of.calls kj2 a1_0 _ _ l1_1 t734 t735 _ ?side1 ?side2 A21.out).mono ?_
                   (case side1 => exact tc (Kd.C_below HR1_1.out HB.out))
                   (case side2 => exact HC1_1.out)
                   rintro e w52 ⟨v736, rfl, ho0, hb⟩
                   refine ⟨_, rfl, ?_⟩
                   have HO737 := Aside0.mk (Kd.R_lower (Kd.R_new' ho0 (Kd.R_lt (tq HO733))) (below_size (tb HB)))
                   replace HO733 := re HO733 (Kd.R_base ho0) hb
                   replace BK725 := kb BK725 hb
                   replace BK726 := kb BK726 hb
                   replace BK739 := kb BK739 hb
                   replace HB := bs HB hb
                   (try clear hb); (try clear hb2); (try clear hk); (try clear hi); (try clear ho0)
                   refine hK.out _ _ ⟨(blk_cell BK725.out 0).trans rfl, (blk_cell BK725.out 1).trans rfl, (blk_cell BK726.out 0).trans rfl, (blk_cell BK726.out 1).trans rfl⟩ fun hHeld => nT (N := some 19) ?_
                   clear hK K
                   exact norm_ (by first | (simp only [putAll, Act.put, List.setIfInBounds_toArray, List.set_cons_zero, List.set_cons_succ]; done) | (simp only [putAll, Act.put, List.setIfInBounds_toArray, List.set_cons_zero, List.set_cons_succ]; rfl)) (hJ1_3_5 (v732, v736, gb739) _ ⟨hHeld, (by (with_reducible repeat first | apply qa | apply qn | apply qd); exact Kd.R_mono HO733.out (fun _ hk => hk.2)), (by (with_reducible repeat first | apply qa | apply qn | apply qd); exact Kd.R_mono HO737.out (fun _ hk => hk.2)), (tk BK725), (tk BK726), (tk BK739), GW739.out, GE739.out, NB725_739.out, NB739_725.out, NB726_739.out, NB739_726.out, (tb HB)⟩)
                  ·skip
                   refine box_step ?hg (N := 5) ?hd (cs := #[.bool false, .slice none 0 0]) (t := 32) ?hr ?_; (case hd => rfl); (case hg => rfl); (case hr => first | (go_simp; done) | (go_simp; rfl))
                   intro gb738 hg w52 hbox hb
                   have n0_ := rb HO733 hb
                   have n1_ := kb BK725 hb
                   have n2_ := kb BK726 hb
                   have n3_ := kb BK739 hb
                   have n4_ := bs HB hb
                   have n5_ := Aside0.mk (hbox)
                   have n6_ := bz hg HB
                   have n7_ := bz hg HB
                   have n8_ := nl hg BK725
                   have n9_ := ng hg BK725
                   have n10_ := nl hg BK726
                   have n11_ := ng hg BK726
                   have n12_ := nl hg BK739
                   have n13_ := ng hg BK739
                   clear HO733 BK725 BK726 BK739 HB
                   have HO733 := n0_
                   have BK725 := n1_
                   have BK726 := n2_
                   have BK739 := n3_
                   have HB := n4_
                   have BK738 := n5_
                   have GW738 := n6_
                   have GE738 := n7_
                   have NB725_738 := n8_
                   have NB738_725 := n9_
                   have NB726_738 := n10_
                   have NB738_726 := n11_
                   have NB739_738 := n12_
                   have NB738_739 := n13_
                   clear n0_ n1_ n2_ n3_ n4_ n5_ n6_ n7_ n8_ n9_ n10_ n11_ n12_ n13_ hb hbox hg
                   refine hK.out _ _ ⟨(blk_cell BK725.out 0).trans rfl, (blk_cell BK725.out 1).trans rfl, (blk_cell BK726.out 0).trans rfl, (blk_cell BK726.out 1).trans rfl⟩ fun hHeld => nT (N := some 5) ?_
                   clear hK K
                   exact norm_ (by first | (simp only [putAll, Act.put, List.setIfInBounds_toArray, List.set_cons_zero, List.set_cons_succ]; done) | (simp only [putAll, Act.put, List.setIfInBounds_toArray, List.set_cons_zero, List.set_cons_succ]; rfl)) (hJ1_4_5 (v732, gb738, gb739) _ ⟨hHeld, (tq HO733), (tk BK725), (tk BK726), (tk BK738), (tk BK739), GW738.out, GE738.out, NB725_738.out, NB738_725.out, NB726_738.out, NB738_726.out, NB739_738.out, NB738_739.out, GW739.out, GE739.out, NB725_739.out, NB739_725.out, NB726_739.out, NB739_726.out, (tb HB)⟩)
                ·skip
                 rintro ⟨v732, gb738⟩ w51 ⟨hS_, h0_, h1_, h2_, h3_, h4_, h5_, h6_, h7_, h8_, h9_, h10_⟩
                 have n0_ : Aside0 (Kd.R (Kd.int .i64) 3 w51 w.heap.size (fun _ => True) v732 t731) := ⟨h0_⟩
                 have n1_ : Aside0 (w51.heap[gb725]? = some (.cells #[.bool a0_0, .slice A0_1 l0_1.length c0_1] 24 (0, 0))) := ⟨h1_⟩
                 have n2_ : Aside0 (w51.heap[gb726]? = some (.cells #[.bool a1_0, .slice A1_1 l1_1.length c1_1] 24 (0, 0))) := ⟨h2_⟩
                 have n3_ : Aside0 (w51.heap[gb738]? = some (.cells #[.bool false, .slice none 0 0] 32 (0, 0))) := ⟨h3_⟩
                 have n4_ : Aside0 (w.heap.size ≤ gb738) := ⟨h4_⟩
                 have n5_ : Aside0 (w.heap.size ≤ gb738) := ⟨h5_⟩
                 have n6_ : Aside0 (gb725 ≠ gb738) := ⟨h6_⟩
                 have n7_ : Aside0 (gb738 ≠ gb725) := ⟨h7_⟩
                 have n8_ : Aside0 (gb726 ≠ gb738) := ⟨h8_⟩
                 have n9_ : Aside0 (gb738 ≠ gb726) := ⟨h9_⟩
                 have n10_ : Aside0 (Below w.heap.size w w51) := ⟨h10_⟩
                 clear BK725 BK726 HB h0_ h1_ h2_ h3_ h4_ h5_ h6_ h7_ h8_ h9_ h10_
                 have HO733 := n0_
                 have BK725 := n1_
                 have BK726 := n2_
                 have BK738 := n3_
                 have GW738 := n4_
                 have GE738 := n5_
                 have NB725_738 := n6_
                 have NB738_725 := n7_
                 have NB726_738 := n8_
                 have NB738_726 := n9_
                 have HB := n10_
                 clear n0_ n1_ n2_ n3_ n4_ n5_ n6_ n7_ n8_ n9_ n10_
                 have hHeld : w51.cell? ⟨gb725, 0, none⟩ = some (.bool a0_0) ∧ w51.cell? ⟨gb725, 1, none⟩ = some (.slice A0_1 l0_1.length c0_1) ∧ w51.cell? ⟨gb726, 0, none⟩ = some (.bool a1_0) ∧ w51.cell? ⟨gb726, 1, none⟩ = some (.slice A1_1 l1_1.length c1_1) := hS_
                 refine norm_ (a' := ?_) ?_ ?_
                 rotate_left
                 ·simp only [putAll, Act.put, List.setIfInBounds_toArray, List.set_cons_zero, List.set_cons_succ]
                  rfl
                 refine two_ (i := 3) (j := 5) (Ni := some 19) (Nj := some 6) #[true, true, true, true, true, false, false, false] #[true, true, true, false, true, true, false, false] rfl rfl rfl rfl (two_of HT_.out (by kernel_rfl)) (by decide) (by decide) (fun K hK => ?_) (fun K hK => ?_)
                 ·skip
                  refine gS Try.func18 #[.agg #[.bool a1_0, .slice A1_1 l1_1.length c1_1]] ?_
                  with_reducible refine (whetstonelaw02_of.calls kj2 a1_0 _ _ l1_1 t734 t735 _ ?side1 ?side2 A21.out).mono ?_
                  (case side1 => exact tc (Kd.C_below HR1_1.out HB.out))
                  (case side2 => exact HC1_1.out)
                  rintro e w52 ⟨v736, rfl, ho0, hb⟩
                  refine ⟨_, rfl, ?_⟩
                  have HO737 := Aside0.mk (Kd.R_lower (Kd.R_new' ho0 (Kd.R_lt (tq HO733))) (below_size (tb HB)))
                  replace HO733 := re HO733 (Kd.R_base ho0) hb
                  replace BK725 := kb BK725 hb
                  replace BK726 := kb BK726 hb
                  replace BK738 := kb BK738 hb
                  replace HB := bs HB hb
                  (try clear hb); (try clear hb2); (try clear hk); (try clear hi); (try clear ho0)
                  refine hK.out _ _ ⟨(blk_cell BK725.out 0).trans rfl, (blk_cell BK725.out 1).trans rfl, (blk_cell BK726.out 0).trans rfl, (blk_cell BK726.out 1).trans rfl⟩ fun hHeld => nT (N := some 19) ?_
                  clear hK K
                  exact norm_ (by first | (simp only [putAll, Act.put, List.setIfInBounds_toArray, List.set_cons_zero, List.set_cons_succ]; done) | (simp only [putAll, Act.put, List.setIfInBounds_toArray, List.set_cons_zero, List.set_cons_succ]; rfl)) (hJ1_3_4 (v732, v736, gb738) _ ⟨hHeld, (by (with_reducible repeat first | apply qa | apply qn | apply qd); exact Kd.R_mono HO733.out (fun _ hk => hk.2)), (by (with_reducible repeat first | apply qa | apply qn | apply qd); exact Kd.R_mono HO737.out (fun _ hk => hk.2)), (tk BK725), (tk BK726), (tk BK738), GW738.out, GE738.out, NB725_738.out, NB738_725.out, NB726_738.out, NB738_726.out, (tb HB)⟩)
                 ·skip
                  refine box_step ?hg (N := 6) ?hd (cs := #[.bool false, .slice none 0 0]) (t := 32) ?hr ?_; (case hd => rfl); (case hg => rfl); (case hr => first | (go_simp; done) | (go_simp; rfl))
                  intro gb739 hg w52 hbox hb
                  have n0_ := rb HO733 hb
                  have n1_ := kb BK725 hb
                  have n2_ := kb BK726 hb
                  have n3_ := kb BK738 hb
                  have n4_ := bs HB hb
                  have n5_ := Aside0.mk (hbox)
                  have n6_ := bz hg HB
                  have n7_ := bz hg HB
                  have n8_ := nl hg BK725
                  have n9_ := ng hg BK725
                  have n10_ := nl hg BK726
                  have n11_ := ng hg BK726
                  have n12_ := nl hg BK738
                  have n13_ := ng hg BK738
                  clear HO733 BK725 BK726 BK738 HB
                  have HO733 := n0_
                  have BK725 := n1_
                  have BK726 := n2_
                  have BK738 := n3_
                  have HB := n4_
                  have BK739 := n5_
                  have GW739 := n6_
                  have GE739 := n7_
                  have NB725_739 := n8_
                  have NB739_725 := n9_
                  have NB726_739 := n10_
                  have NB739_726 := n11_
                  have NB738_739 := n12_
                  have NB739_738 := n13_
                  clear n0_ n1_ n2_ n3_ n4_ n5_ n6_ n7_ n8_ n9_ n10_ n11_ n12_ n13_ hb hbox hg
                  refine hK.out _ _ ⟨(blk_cell BK725.out 0).trans rfl, (blk_cell BK725.out 1).trans rfl, (blk_cell BK726.out 0).trans rfl, (blk_cell BK726.out 1).trans rfl⟩ fun hHeld => nT (N := some 6) ?_
                  clear hK K
                  exact norm_ (by first | (simp only [putAll, Act.put, List.setIfInBounds_toArray, List.set_cons_zero, List.set_cons_succ]; done) | (simp only [putAll, Act.put, List.setIfInBounds_toArray, List.set_cons_zero, List.set_cons_succ]; rfl)) (hJ1_4_5 (v732, gb738, gb739) _ ⟨hHeld, (tq HO733), (tk BK725), (tk BK726), (tk BK738), (tk BK739), GW738.out, GE738.out, NB725_738.out, NB738_725.out, NB726_738.out, NB738_726.out, NB739_738.out, NB738_739.out, GW739.out, GE739.out, NB725_739.out, NB739_725.out, NB726_739.out, NB739_726.out, (tb HB)⟩)
               ·skip
                rintro ⟨v732, v736⟩ w51 ⟨hS_, h0_, h1_, h2_, h3_, h4_⟩
                have n0_ : Aside0 (Kd.R (Kd.int .i64) 3 w51 w.heap.size (fun k_ => some k_ ≠ (v736 : Value).ownBlock) v732 t731) := ⟨h0_⟩
                have n1_ : Aside0 (Kd.R (Kd.int .i64) 3 w51 w.heap.size (fun k_ => some k_ ≠ (v732 : Value).ownBlock) v736 t735) := ⟨h1_⟩
                have n2_ : Aside0 (w51.heap[gb725]? = some (.cells #[.bool a0_0, .slice A0_1 l0_1.length c0_1] 24 (0, 0))) := ⟨h2_⟩
                have n3_ : Aside0 (w51.heap[gb726]? = some (.cells #[.bool a1_0, .slice A1_1 l1_1.length c1_1] 24 (0, 0))) := ⟨h3_⟩
                have n4_ : Aside0 (Below w.heap.size w w51) := ⟨h4_⟩
                clear BK725 BK726 HB h0_ h1_ h2_ h3_ h4_
                have HO733 := n0_
                have HO737 := n1_
                have BK725 := n2_
                have BK726 := n3_
                have HB := n4_
                clear n0_ n1_ n2_ n3_ n4_
                have hHeld : w51.cell? ⟨gb725, 0, none⟩ = some (.bool a0_0) ∧ w51.cell? ⟨gb725, 1, none⟩ = some (.slice A0_1 l0_1.length c0_1) ∧ w51.cell? ⟨gb726, 0, none⟩ = some (.bool a1_0) ∧ w51.cell? ⟨gb726, 1, none⟩ = some (.slice A1_1 l1_1.length c1_1) := hS_
                refine norm_ (a' := ?_) ?_ ?_
                rotate_left
                ·simp only [putAll, Act.put, List.setIfInBounds_toArray, List.set_cons_zero, List.set_cons_succ]
                 rfl
                refine two_ (i := 4) (j := 5) (Ni := some 5) (Nj := some 6) #[true, true, true, true, true, false, false, false] #[true, true, true, true, false, true, false, false] rfl rfl rfl rfl (two_of HT_.out (by kernel_rfl)) (by decide) (by decide) (fun K hK => ?_) (fun K hK => ?_)
                ·skip
                 refine box_step ?hg (N := 5) ?hd (cs := #[.bool false, .slice none 0 0]) (t := 32) ?hr ?_; (case hd => rfl); (case hg => rfl); (case hr => first | (go_simp; done) | (go_simp; rfl))
                 intro gb738 hg w52 hbox hb
                 have n0_ := rb HO733 hb
                 have n1_ := rb HO737 hb
                 have n2_ := kb BK725 hb
                 have n3_ := kb BK726 hb
                 have n4_ := bs HB hb
                 have n5_ := Aside0.mk (hbox)
                 have n6_ := bz hg HB
                 have n7_ := bz hg HB
                 have n8_ := nl hg BK725
                 have n9_ := ng hg BK725
                 have n10_ := nl hg BK726
                 have n11_ := ng hg BK726
                 clear HO733 HO737 BK725 BK726 HB
                 have HO733 := n0_
                 have HO737 := n1_
                 have BK725 := n2_
                 have BK726 := n3_
                 have HB := n4_
                 have BK738 := n5_
                 have GW738 := n6_
                 have GE738 := n7_
                 have NB725_738 := n8_
                 have NB738_725 := n9_
                 have NB726_738 := n10_
                 have NB738_726 := n11_
                 clear n0_ n1_ n2_ n3_ n4_ n5_ n6_ n7_ n8_ n9_ n10_ n11_ hb hbox hg
                 refine hK.out _ _ ⟨(blk_cell BK725.out 0).trans rfl, (blk_cell BK725.out 1).trans rfl, (blk_cell BK726.out 0).trans rfl, (blk_cell BK726.out 1).trans rfl⟩ fun hHeld => nT (N := some 5) ?_
                 clear hK K
                 exact norm_ (by first | (simp only [putAll, Act.put, List.setIfInBounds_toArray, List.set_cons_zero, List.set_cons_succ]; done) | (simp only [putAll, Act.put, List.setIfInBounds_toArray, List.set_cons_zero, List.set_cons_succ]; rfl)) (hJ1_3_4 (v732, v736, gb738) _ ⟨hHeld, (tq HO733), (tq HO737), (tk BK725), (tk BK726), (tk BK738), GW738.out, GE738.out, NB725_738.out, NB738_725.out, NB726_738.out, NB738_726.out, (tb HB)⟩)
                ·skip
                 refine box_step ?hg (N := 6) ?hd (cs := #[.bool false, .slice none 0 0]) (t := 32) ?hr ?_; (case hd => rfl); (case hg => rfl); (case hr => first | (go_simp; done) | (go_simp; rfl))
                 intro gb739 hg w52 hbox hb
                 have n0_ := rb HO733 hb
                 have n1_ := rb HO737 hb
                 have n2_ := kb BK725 hb
                 have n3_ := kb BK726 hb
                 have n4_ := bs HB hb
                 have n5_ := Aside0.mk (hbox)
                 have n6_ := bz hg HB
                 have n7_ := bz hg HB
                 have n8_ := nl hg BK725
                 have n9_ := ng hg BK725
                 have n10_ := nl hg BK726
                 have n11_ := ng hg BK726
                 clear HO733 HO737 BK725 BK726 HB
                 have HO733 := n0_
                 have HO737 := n1_
                 have BK725 := n2_
                 have BK726 := n3_
                 have HB := n4_
                 have BK739 := n5_
                 have GW739 := n6_
                 have GE739 := n7_
                 have NB725_739 := n8_
                 have NB739_725 := n9_
                 have NB726_739 := n10_
                 have NB739_726 := n11_
                 clear n0_ n1_ n2_ n3_ n4_ n5_ n6_ n7_ n8_ n9_ n10_ n11_ hb hbox hg
                 refine hK.out _ _ ⟨(blk_cell BK725.out 0).trans rfl, (blk_cell BK725.out 1).trans rfl, (blk_cell BK726.out 0).trans rfl, (blk_cell BK726.out 1).trans rfl⟩ fun hHeld => nT (N := some 6) ?_
                 clear hK K
                 exact norm_ (by first | (simp only [putAll, Act.put, List.setIfInBounds_toArray, List.set_cons_zero, List.set_cons_succ]; done) | (simp only [putAll, Act.put, List.setIfInBounds_toArray, List.set_cons_zero, List.set_cons_succ]; rfl)) (hJ1_3_5 (v732, v736, gb739) _ ⟨hHeld, (tq HO733), (tq HO737), (tk BK725), (tk BK726), (tk BK739), GW739.out, GE739.out, NB725_739.out, NB739_725.out, NB726_739.out, NB739_726.out, (tb HB)⟩)
              ·skip
               rintro ⟨v732, gb738, gb739⟩ w52 ⟨hS_, h0_, h1_, h2_, h3_, h4_, h5_, h6_, h7_, h8_, h9_, h10_, h11_, h12_, h13_, h14_, h15_, h16_, h17_, h18_, h19_⟩
               have n0_ : Aside0 (Kd.R (Kd.int .i64) 3 w52 w.heap.size (fun _ => True) v732 t731) := ⟨h0_⟩
               have n1_ : Aside0 (w52.heap[gb725]? = some (.cells #[.bool a0_0, .slice A0_1 l0_1.length c0_1] 24 (0, 0))) := ⟨h1_⟩
               have n2_ : Aside0 (w52.heap[gb726]? = some (.cells #[.bool a1_0, .slice A1_1 l1_1.length c1_1] 24 (0, 0))) := ⟨h2_⟩
               have n3_ : Aside0 (w52.heap[gb738]? = some (.cells #[.bool false, .slice none 0 0] 32 (0, 0))) := ⟨h3_⟩
               have n4_ : Aside0 (w52.heap[gb739]? = some (.cells #[.bool false, .slice none 0 0] 32 (0, 0))) := ⟨h4_⟩
               have n5_ : Aside0 (w.heap.size ≤ gb738) := ⟨h5_⟩
               have n6_ : Aside0 (w.heap.size ≤ gb738) := ⟨h6_⟩
               have n7_ : Aside0 (gb725 ≠ gb738) := ⟨h7_⟩
               have n8_ : Aside0 (gb738 ≠ gb725) := ⟨h8_⟩
               have n9_ : Aside0 (gb726 ≠ gb738) := ⟨h9_⟩
               have n10_ : Aside0 (gb738 ≠ gb726) := ⟨h10_⟩
               have n11_ : Aside0 (gb739 ≠ gb738) := ⟨h11_⟩
               have n12_ : Aside0 (gb738 ≠ gb739) := ⟨h12_⟩
               have n13_ : Aside0 (w.heap.size ≤ gb739) := ⟨h13_⟩
               have n14_ : Aside0 (w.heap.size ≤ gb739) := ⟨h14_⟩
               have n15_ : Aside0 (gb725 ≠ gb739) := ⟨h15_⟩
               have n16_ : Aside0 (gb739 ≠ gb725) := ⟨h16_⟩
               have n17_ : Aside0 (gb726 ≠ gb739) := ⟨h17_⟩
               have n18_ : Aside0 (gb739 ≠ gb726) := ⟨h18_⟩
               have n19_ : Aside0 (Below w.heap.size w w52) := ⟨h19_⟩
               clear BK725 BK726 HB h0_ h1_ h2_ h3_ h4_ h5_ h6_ h7_ h8_ h9_ h10_ h11_ h12_ h13_ h14_ h15_ h16_ h17_ h18_ h19_
               have HO733 := n0_
               have BK725 := n1_
               have BK726 := n2_
               have BK738 := n3_
               have BK739 := n4_
               have GW738 := n5_
               have GE738 := n6_
               have NB725_738 := n7_
               have NB738_725 := n8_
               have NB726_738 := n9_
               have NB738_726 := n10_
               have NB739_738 := n11_
               have NB738_739 := n12_
               have GW739 := n13_
               have GE739 := n14_
               have NB725_739 := n15_
               have NB739_725 := n16_
               have NB726_739 := n17_
               have NB739_726 := n18_
               have HB := n19_
               clear n0_ n1_ n2_ n3_ n4_ n5_ n6_ n7_ n8_ n9_ n10_ n11_ n12_ n13_ n14_ n15_ n16_ n17_ n18_ n19_
               have hHeld : w52.cell? ⟨gb725, 0, none⟩ = some (.bool a0_0) ∧ w52.cell? ⟨gb725, 1, none⟩ = some (.slice A0_1 l0_1.length c0_1) ∧ w52.cell? ⟨gb726, 0, none⟩ = some (.bool a1_0) ∧ w52.cell? ⟨gb726, 1, none⟩ = some (.slice A1_1 l1_1.length c1_1) := hS_
               refine norm_ (a' := ?_) ?_ ?_
               rotate_left
               ·simp only [putAll, Act.put, List.setIfInBounds_toArray, List.set_cons_zero, List.set_cons_succ]
                rfl
               refine oT (i := 3) (N := some 19) (bb 8 63) HT_ fun K hK => ?_
               refine gS Try.func18 #[.agg #[.bool a1_0, .slice A1_1 l1_1.length c1_1]] ?_
               with_reducible refine (whetstonelaw02_of.calls kj2 a1_0 _ _ l1_1 t734 t735 _ ?side1 ?side2 A21.out).mono ?_
               (case side1 => exact tc (Kd.C_below HR1_1.out HB.out))
               (case side2 => exact HC1_1.out)
               rintro e w53 ⟨v736, rfl, ho0, hb⟩
               refine ⟨_, rfl, ?_⟩
               have HO737 := Aside0.mk (Kd.R_lower (Kd.R_new' ho0 (Kd.R_lt (tq HO733))) (below_size (tb HB)))
               replace HO733 := re HO733 (Kd.R_base ho0) hb
               replace BK725 := kb BK725 hb
               replace BK726 := kb BK726 hb
               replace BK738 := kb BK738 hb
               replace BK739 := kb BK739 hb
               replace HB := bs HB hb
               (try clear hb); (try clear hb2); (try clear hk); (try clear hi); (try clear ho0)
               refine hK.out _ _ ⟨(blk_cell BK725.out 0).trans rfl, (blk_cell BK725.out 1).trans rfl, (blk_cell BK726.out 0).trans rfl, (blk_cell BK726.out 1).trans rfl⟩ fun hHeld => nT (N := some 19) ?_
               clear hK K
               exact norm_ (by first | (simp only [putAll, Act.put, List.setIfInBounds_toArray, List.set_cons_zero, List.set_cons_succ]; done) | (simp only [putAll, Act.put, List.setIfInBounds_toArray, List.set_cons_zero, List.set_cons_succ]; rfl)) (hJ1_3_4_5 (v732, v736, gb738, gb739) _ ⟨hHeld, (by (with_reducible repeat first | apply qa | apply qn | apply qd); exact Kd.R_mono HO733.out (fun _ hk => hk.2)), (by (with_reducible repeat first | apply qa | apply qn | apply qd); exact Kd.R_mono HO737.out (fun _ hk => hk.2)), (tk BK725), (tk BK726), (tk BK738), (tk BK739), GW738.out, GE738.out, NB725_738.out, NB738_725.out, NB726_738.out, NB738_726.out, NB739_738.out, NB738_739.out, GW739.out, GE739.out, NB725_739.out, NB739_725.out, NB726_739.out, NB739_726.out, (tb HB)⟩)
             ·skip
              rintro ⟨v732, v736, gb739⟩ w52 ⟨hS_, h0_, h1_, h2_, h3_, h4_, h5_, h6_, h7_, h8_, h9_, h10_, h11_⟩
              have n0_ : Aside0 (Kd.R (Kd.int .i64) 3 w52 w.heap.size (fun k_ => some k_ ≠ (v736 : Value).ownBlock) v732 t731) := ⟨h0_⟩
              have n1_ : Aside0 (Kd.R (Kd.int .i64) 3 w52 w.heap.size (fun k_ => some k_ ≠ (v732 : Value).ownBlock) v736 t735) := ⟨h1_⟩
              have n2_ : Aside0 (w52.heap[gb725]? = some (.cells #[.bool a0_0, .slice A0_1 l0_1.length c0_1] 24 (0, 0))) := ⟨h2_⟩
              have n3_ : Aside0 (w52.heap[gb726]? = some (.cells #[.bool a1_0, .slice A1_1 l1_1.length c1_1] 24 (0, 0))) := ⟨h3_⟩
              have n4_ : Aside0 (w52.heap[gb739]? = some (.cells #[.bool false, .slice none 0 0] 32 (0, 0))) := ⟨h4_⟩
              have n5_ : Aside0 (w.heap.size ≤ gb739) := ⟨h5_⟩
              have n6_ : Aside0 (w.heap.size ≤ gb739) := ⟨h6_⟩
              have n7_ : Aside0 (gb725 ≠ gb739) := ⟨h7_⟩
              have n8_ : Aside0 (gb739 ≠ gb725) := ⟨h8_⟩
              have n9_ : Aside0 (gb726 ≠ gb739) := ⟨h9_⟩
              have n10_ : Aside0 (gb739 ≠ gb726) := ⟨h10_⟩
              have n11_ : Aside0 (Below w.heap.size w w52) := ⟨h11_⟩
              clear BK725 BK726 HB h0_ h1_ h2_ h3_ h4_ h5_ h6_ h7_ h8_ h9_ h10_ h11_
              have HO733 := n0_
              have HO737 := n1_
              have BK725 := n2_
              have BK726 := n3_
              have BK739 := n4_
              have GW739 := n5_
              have GE739 := n6_
              have NB725_739 := n7_
              have NB739_725 := n8_
              have NB726_739 := n9_
              have NB739_726 := n10_
              have HB := n11_
              clear n0_ n1_ n2_ n3_ n4_ n5_ n6_ n7_ n8_ n9_ n10_ n11_
              have hHeld : w52.cell? ⟨gb725, 0, none⟩ = some (.bool a0_0) ∧ w52.cell? ⟨gb725, 1, none⟩ = some (.slice A0_1 l0_1.length c0_1) ∧ w52.cell? ⟨gb726, 0, none⟩ = some (.bool a1_0) ∧ w52.cell? ⟨gb726, 1, none⟩ = some (.slice A1_1 l1_1.length c1_1) := hS_
              refine norm_ (a' := ?_) ?_ ?_
              rotate_left
              ·simp only [putAll, Act.put, List.setIfInBounds_toArray, List.set_cons_zero, List.set_cons_succ]
               rfl
              refine oT (i := 4) (N := some 5) (bb 8 63) HT_ fun K hK => ?_
              refine box_step ?hg (N := 5) ?hd (cs := #[.bool false, .slice none 0 0]) (t := 32) ?hr ?_; (case hd => rfl); (case hg => rfl); (case hr => first | (go_simp; done) | (go_simp; rfl))
              intro gb738 hg w53 hbox hb
              have n0_ := rb HO733 hb
              have n1_ := rb HO737 hb
              have n2_ := kb BK725 hb
              have n3_ := kb BK726 hb
              have n4_ := kb BK739 hb
              have n5_ := bs HB hb
              have n6_ := Aside0.mk (hbox)
              have n7_ := bz hg HB
              have n8_ := bz hg HB
              have n9_ := nl hg BK725
              have n10_ := ng hg BK725
              have n11_ := nl hg BK726
              have n12_ := ng hg BK726
              have n13_ := nl hg BK739
              have n14_ := ng hg BK739
              clear HO733 HO737 BK725 BK726 BK739 HB
              have HO733 := n0_
              have HO737 := n1_
              have BK725 := n2_
              have BK726 := n3_
              have BK739 := n4_
              have HB := n5_
              have BK738 := n6_
              have GW738 := n7_
              have GE738 := n8_
              have NB725_738 := n9_
              have NB738_725 := n10_
              have NB726_738 := n11_
              have NB738_726 := n12_
              have NB739_738 := n13_
              have NB738_739 := n14_
              clear n0_ n1_ n2_ n3_ n4_ n5_ n6_ n7_ n8_ n9_ n10_ n11_ n12_ n13_ n14_ hb hbox hg
              refine hK.out _ _ ⟨(blk_cell BK725.out 0).trans rfl, (blk_cell BK725.out 1).trans rfl, (blk_cell BK726.out 0).trans rfl, (blk_cell BK726.out 1).trans rfl⟩ fun hHeld => nT (N := some 5) ?_
              clear hK K
              exact norm_ (by first | (simp only [putAll, Act.put, List.setIfInBounds_toArray, List.set_cons_zero, List.set_cons_succ]; done) | (simp only [putAll, Act.put, List.setIfInBounds_toArray, List.set_cons_zero, List.set_cons_succ]; rfl)) (hJ1_3_4_5 (v732, v736, gb738, gb739) _ ⟨hHeld, (tq HO733), (tq HO737), (tk BK725), (tk BK726), (tk BK738), (tk BK739), GW738.out, GE738.out, NB725_738.out, NB738_725.out, NB726_738.out, NB738_726.out, NB739_738.out, NB738_739.out, GW739.out, GE739.out, NB725_739.out, NB739_725.out, NB726_739.out, NB739_726.out, (tb HB)⟩)
            ·skip
             rintro ⟨v732, v736, gb738⟩ w52 ⟨hS_, h0_, h1_, h2_, h3_, h4_, h5_, h6_, h7_, h8_, h9_, h10_, h11_⟩
             have n0_ : Aside0 (Kd.R (Kd.int .i64) 3 w52 w.heap.size (fun k_ => some k_ ≠ (v736 : Value).ownBlock) v732 t731) := ⟨h0_⟩
             have n1_ : Aside0 (Kd.R (Kd.int .i64) 3 w52 w.heap.size (fun k_ => some k_ ≠ (v732 : Value).ownBlock) v736 t735) := ⟨h1_⟩
             have n2_ : Aside0 (w52.heap[gb725]? = some (.cells #[.bool a0_0, .slice A0_1 l0_1.length c0_1] 24 (0, 0))) := ⟨h2_⟩
             have n3_ : Aside0 (w52.heap[gb726]? = some (.cells #[.bool a1_0, .slice A1_1 l1_1.length c1_1] 24 (0, 0))) := ⟨h3_⟩
             have n4_ : Aside0 (w52.heap[gb738]? = some (.cells #[.bool false, .slice none 0 0] 32 (0, 0))) := ⟨h4_⟩
             have n5_ : Aside0 (w.heap.size ≤ gb738) := ⟨h5_⟩
             have n6_ : Aside0 (w.heap.size ≤ gb738) := ⟨h6_⟩
             have n7_ : Aside0 (gb725 ≠ gb738) := ⟨h7_⟩
             have n8_ : Aside0 (gb738 ≠ gb725) := ⟨h8_⟩
             have n9_ : Aside0 (gb726 ≠ gb738) := ⟨h9_⟩
             have n10_ : Aside0 (gb738 ≠ gb726) := ⟨h10_⟩
             have n11_ : Aside0 (Below w.heap.size w w52) := ⟨h11_⟩
             clear BK725 BK726 HB h0_ h1_ h2_ h3_ h4_ h5_ h6_ h7_ h8_ h9_ h10_ h11_
             have HO733 := n0_
             have HO737 := n1_
             have BK725 := n2_
             have BK726 := n3_
             have BK738 := n4_
             have GW738 := n5_
             have GE738 := n6_
             have NB725_738 := n7_
             have NB738_725 := n8_
             have NB726_738 := n9_
             have NB738_726 := n10_
             have HB := n11_
             clear n0_ n1_ n2_ n3_ n4_ n5_ n6_ n7_ n8_ n9_ n10_ n11_
             have hHeld : w52.cell? ⟨gb725, 0, none⟩ = some (.bool a0_0) ∧ w52.cell? ⟨gb725, 1, none⟩ = some (.slice A0_1 l0_1.length c0_1) ∧ w52.cell? ⟨gb726, 0, none⟩ = some (.bool a1_0) ∧ w52.cell? ⟨gb726, 1, none⟩ = some (.slice A1_1 l1_1.length c1_1) := hS_
             refine norm_ (a' := ?_) ?_ ?_
             rotate_left
             ·simp only [putAll, Act.put, List.setIfInBounds_toArray, List.set_cons_zero, List.set_cons_succ]
              rfl
             refine oT (i := 5) (N := some 6) (bb 8 63) HT_ fun K hK => ?_
             refine box_step ?hg (N := 6) ?hd (cs := #[.bool false, .slice none 0 0]) (t := 32) ?hr ?_; (case hd => rfl); (case hg => rfl); (case hr => first | (go_simp; done) | (go_simp; rfl))
             intro gb739 hg w53 hbox hb
             have n0_ := rb HO733 hb
             have n1_ := rb HO737 hb
             have n2_ := kb BK725 hb
             have n3_ := kb BK726 hb
             have n4_ := kb BK738 hb
             have n5_ := bs HB hb
             have n6_ := Aside0.mk (hbox)
             have n7_ := bz hg HB
             have n8_ := bz hg HB
             have n9_ := nl hg BK725
             have n10_ := ng hg BK725
             have n11_ := nl hg BK726
             have n12_ := ng hg BK726
             have n13_ := nl hg BK738
             have n14_ := ng hg BK738
             clear HO733 HO737 BK725 BK726 BK738 HB
             have HO733 := n0_
             have HO737 := n1_
             have BK725 := n2_
             have BK726 := n3_
             have BK738 := n4_
             have HB := n5_
             have BK739 := n6_
             have GW739 := n7_
             have GE739 := n8_
             have NB725_739 := n9_
             have NB739_725 := n10_
             have NB726_739 := n11_
             have NB739_726 := n12_
             have NB738_739 := n13_
             have NB739_738 := n14_
             clear n0_ n1_ n2_ n3_ n4_ n5_ n6_ n7_ n8_ n9_ n10_ n11_ n12_ n13_ n14_ hb hbox hg
             refine hK.out _ _ ⟨(blk_cell BK725.out 0).trans rfl, (blk_cell BK725.out 1).trans rfl, (blk_cell BK726.out 0).trans rfl, (blk_cell BK726.out 1).trans rfl⟩ fun hHeld => nT (N := some 6) ?_
             clear hK K
             exact norm_ (by first | (simp only [putAll, Act.put, List.setIfInBounds_toArray, List.set_cons_zero, List.set_cons_succ]; done) | (simp only [putAll, Act.put, List.setIfInBounds_toArray, List.set_cons_zero, List.set_cons_succ]; rfl)) (hJ1_3_4_5 (v732, v736, gb738, gb739) _ ⟨hHeld, (tq HO733), (tq HO737), (tk BK725), (tk BK726), (tk BK738), (tk BK739), GW738.out, GE738.out, NB725_738.out, NB738_725.out, NB726_738.out, NB738_726.out, NB739_738.out, NB738_739.out, GW739.out, GE739.out, NB725_739.out, NB739_725.out, NB726_739.out, NB739_726.out, (tb HB)⟩)
           rintro ⟨v732, v736, gb738, gb739⟩ w53 ⟨hS_, h0_, h1_, h2_, h3_, h4_, h5_, h6_, h7_, h8_, h9_, h10_, h11_, h12_, h13_, h14_, h15_, h16_, h17_, h18_, h19_, h20_⟩
           have n0_ : Aside0 (Kd.R (Kd.int .i64) 3 w53 w.heap.size (fun k_ => some k_ ≠ (v736 : Value).ownBlock) v732 t731) := ⟨h0_⟩
           have n1_ : Aside0 (Kd.R (Kd.int .i64) 3 w53 w.heap.size (fun k_ => some k_ ≠ (v732 : Value).ownBlock) v736 t735) := ⟨h1_⟩
           have n2_ : Aside0 (w53.heap[gb725]? = some (.cells #[.bool a0_0, .slice A0_1 l0_1.length c0_1] 24 (0, 0))) := ⟨h2_⟩
           have n3_ : Aside0 (w53.heap[gb726]? = some (.cells #[.bool a1_0, .slice A1_1 l1_1.length c1_1] 24 (0, 0))) := ⟨h3_⟩
           have n4_ : Aside0 (w53.heap[gb738]? = some (.cells #[.bool false, .slice none 0 0] 32 (0, 0))) := ⟨h4_⟩
           have n5_ : Aside0 (w53.heap[gb739]? = some (.cells #[.bool false, .slice none 0 0] 32 (0, 0))) := ⟨h5_⟩
           have n6_ : Aside0 (w.heap.size ≤ gb738) := ⟨h6_⟩
           have n7_ : Aside0 (w.heap.size ≤ gb738) := ⟨h7_⟩
           have n8_ : Aside0 (gb725 ≠ gb738) := ⟨h8_⟩
           have n9_ : Aside0 (gb738 ≠ gb725) := ⟨h9_⟩
           have n10_ : Aside0 (gb726 ≠ gb738) := ⟨h10_⟩
           have n11_ : Aside0 (gb738 ≠ gb726) := ⟨h11_⟩
           have n12_ : Aside0 (gb739 ≠ gb738) := ⟨h12_⟩
           have n13_ : Aside0 (gb738 ≠ gb739) := ⟨h13_⟩
           have n14_ : Aside0 (w.heap.size ≤ gb739) := ⟨h14_⟩
           have n15_ : Aside0 (w.heap.size ≤ gb739) := ⟨h15_⟩
           have n16_ : Aside0 (gb725 ≠ gb739) := ⟨h16_⟩
           have n17_ : Aside0 (gb739 ≠ gb725) := ⟨h17_⟩
           have n18_ : Aside0 (gb726 ≠ gb739) := ⟨h18_⟩
           have n19_ : Aside0 (gb739 ≠ gb726) := ⟨h19_⟩
           have n20_ : Aside0 (Below w.heap.size w w53) := ⟨h20_⟩
           clear BK725 BK726 HB h0_ h1_ h2_ h3_ h4_ h5_ h6_ h7_ h8_ h9_ h10_ h11_ h12_ h13_ h14_ h15_ h16_ h17_ h18_ h19_ h20_
           have HO733 := n0_
           have HO737 := n1_
           have BK725 := n2_
           have BK726 := n3_
           have BK738 := n4_
           have BK739 := n5_
           have GW738 := n6_
           have GE738 := n7_
           have NB725_738 := n8_
           have NB738_725 := n9_
           have NB726_738 := n10_
           have NB738_726 := n11_
           have NB739_738 := n12_
           have NB738_739 := n13_
           have GW739 := n14_
           have GE739 := n15_
           have NB725_739 := n16_
           have NB739_725 := n17_
           have NB726_739 := n18_
           have NB739_726 := n19_
           have HB := n20_
           clear n0_ n1_ n2_ n3_ n4_ n5_ n6_ n7_ n8_ n9_ n10_ n11_ n12_ n13_ n14_ n15_ n16_ n17_ n18_ n19_ n20_
           have hHeld : w53.cell? ⟨gb725, 0, none⟩ = some (.bool a0_0) ∧ w53.cell? ⟨gb725, 1, none⟩ = some (.slice A0_1 l0_1.length c0_1) ∧ w53.cell? ⟨gb726, 0, none⟩ = some (.bool a1_0) ∧ w53.cell? ⟨gb726, 1, none⟩ = some (.slice A1_1 l1_1.length c1_1) := hS_
           obtain ⟨Ao55, co55, eo55⟩ := Kd.R_slice HO733.out
           (first | subst eo55 | (injection eo55 with f1_ f2_ f3_; have f4_ := f1_.symm; have f5_ := f3_.symm; clear f1_ f2_ f3_; subst f4_; subst f5_))
           obtain ⟨Ao58, co58, eo58⟩ := Kd.R_slice HO737.out
           (first | subst eo58 | (injection eo58 with f1_ f2_ f3_; have f4_ := f1_.symm; have f5_ := f3_.symm; clear f1_ f2_ f3_; subst f4_; subst f5_))
           refine norm_ (a' := ?_) ?_ ?_
           rotate_left
           ·simp only [putAll, Act.put, List.setIfInBounds_toArray, List.set_cons_zero, List.set_cons_succ]
            rfl
           refine oT (i := 6) (N := none) (bb 8 127) HT_ fun K hK => ?_
           have hs54 := bc BK738 0 (.bool false)
           have hfs54 := blk_frozen BK738.out 0
           have hns54_0 := NB725_738.out
           have hns54_1 := NB726_738.out
           have hns54_3 := NB739_738.out
           have hms54_0 := NB738_725.out
           have hms54_1 := NB738_726.out
           have hms54_3 := NB738_739.out
           have hs56 := bc BK738 1 (.slice none 0 0)
           have hfs56 := blk_frozen BK738.out 1
           have hns56_0 := NB725_738.out
           have hns56_1 := NB726_738.out
           have hns56_3 := NB739_738.out
           have hms56_0 := NB738_725.out
           have hms56_1 := NB738_726.out
           have hms56_3 := NB738_739.out
           refine skip_ (w1 := ?_) (by rfl) rfl ?_ ?_
           rotate_left
           ·go_simp
            rfl
           refine hK.out _ _ ⟨((cell_far (p := ⟨gb738, _, none⟩) NB725_738.out _).trans (((cell_far (p := ⟨gb738, _, none⟩) NB725_738.out _).trans (hHeld.1)))), ((cell_far (p := ⟨gb738, _, none⟩) NB725_738.out _).trans (((cell_far (p := ⟨gb738, _, none⟩) NB725_738.out _).trans (hHeld.2.1)))), ((cell_far (p := ⟨gb738, _, none⟩) NB726_738.out _).trans (((cell_far (p := ⟨gb738, _, none⟩) NB726_738.out _).trans (hHeld.2.2.1)))), ((cell_far (p := ⟨gb738, _, none⟩) NB726_738.out _).trans (((cell_far (p := ⟨gb738, _, none⟩) NB726_738.out _).trans (hHeld.2.2.2))))⟩ (fun hHeld => ?_)
           clear hK K
           refine oT (i := 7) (N := none) (bb 8 255) HT_ fun K hK => ?_
           have hs57 := bc BK739 0 (.bool false)
           have hfs57 := blk_frozen BK739.out 0
           have hns57_0 := NB725_739.out
           have hns57_1 := NB726_739.out
           have hns57_2 := NB738_739.out
           have hms57_0 := NB739_725.out
           have hms57_1 := NB739_726.out
           have hms57_2 := NB739_738.out
           have hs59 := bc BK739 1 (.slice none 0 0)
           have hfs59 := blk_frozen BK739.out 1
           have hns59_0 := NB725_739.out
           have hns59_1 := NB726_739.out
           have hns59_2 := NB738_739.out
           have hms59_0 := NB739_725.out
           have hms59_1 := NB739_726.out
           have hms59_2 := NB739_738.out
           refine skip_ (w1 := ?_) (by rfl) rfl ?_ ?_
           rotate_left
           ·go_simp
            rfl
           refine hK.out _ _ ⟨((cell_far (p := ⟨gb739, _, none⟩) NB725_739.out _).trans (((cell_far (p := ⟨gb739, _, none⟩) NB725_739.out _).trans (hHeld.1)))), ((cell_far (p := ⟨gb739, _, none⟩) NB725_739.out _).trans (((cell_far (p := ⟨gb739, _, none⟩) NB725_739.out _).trans (hHeld.2.1)))), ((cell_far (p := ⟨gb739, _, none⟩) NB726_739.out _).trans (((cell_far (p := ⟨gb739, _, none⟩) NB726_739.out _).trans (hHeld.2.2.1)))), ((cell_far (p := ⟨gb739, _, none⟩) NB726_739.out _).trans (((cell_far (p := ⟨gb739, _, none⟩) NB726_739.out _).trans (hHeld.2.2.2))))⟩ (fun hHeld => ?_)
           clear hK K
           refine done_ (done_of HT_.out (by kernel_rfl)) ?_
           try go_wp2
           have n0_ : Aside0 (Kd.R (Kd.int .i64) 3 ((((w53.setCell ⟨gb738, 0, none⟩ (.bool t730)).setCell ⟨gb738, 1, none⟩ (.slice Ao55 t731.length co55)).setCell ⟨gb739, 0, none⟩ (.bool t734)).setCell ⟨gb739, 1, none⟩ (.slice Ao58 t735.length co58)) w.heap.size (fun k_ => some k_ ≠ (.slice Ao58 t735.length co58 : Value).ownBlock) (.slice Ao55 t731.length co55) t731) := ⟨by (with_reducible repeat first | apply qa | apply qn | apply qd); exact Kd.R_mono (Kd.R_far (p := ⟨gb739, 1, none⟩) (Kd.R_far (p := ⟨gb739, 0, none⟩) (Kd.R_far (p := ⟨gb738, 1, none⟩) (Kd.R_far (p := ⟨gb738, 0, none⟩) (Kd.R_types (Kd.R_types HO733.out BK738.out (by decide)) BK739.out (by decide)) (fun _ hk => hk.1.2) (.bool t730)) (fun _ hk => hk.1.2) (.slice Ao55 t731.length co55)) (fun _ hk => hk.2) (.bool t734)) (fun _ hk => hk.2) (.slice Ao58 t735.length co58)) (fun _ hk => hk.1.1)⟩
           have n1_ : Aside0 (Kd.R (Kd.int .i64) 3 ((((w53.setCell ⟨gb738, 0, none⟩ (.bool t730)).setCell ⟨gb738, 1, none⟩ (.slice Ao55 t731.length co55)).setCell ⟨gb739, 0, none⟩ (.bool t734)).setCell ⟨gb739, 1, none⟩ (.slice Ao58 t735.length co58)) w.heap.size (fun k_ => some k_ ≠ (.slice Ao55 t731.length co55 : Value).ownBlock) (.slice Ao58 t735.length co58) t735) := ⟨by (with_reducible repeat first | apply qa | apply qn | apply qd); exact Kd.R_mono (Kd.R_far (p := ⟨gb739, 1, none⟩) (Kd.R_far (p := ⟨gb739, 0, none⟩) (Kd.R_far (p := ⟨gb738, 1, none⟩) (Kd.R_far (p := ⟨gb738, 0, none⟩) (Kd.R_types (Kd.R_types HO737.out BK738.out (by decide)) BK739.out (by decide)) (fun _ hk => hk.1.2) (.bool t730)) (fun _ hk => hk.1.2) (.slice Ao55 t731.length co55)) (fun _ hk => hk.2) (.bool t734)) (fun _ hk => hk.2) (.slice Ao58 t735.length co58)) (fun _ hk => hk.1.1)⟩
           have n2_ : Aside0 (((((w53.setCell ⟨gb738, 0, none⟩ (.bool t730)).setCell ⟨gb738, 1, none⟩ (.slice Ao55 t731.length co55)).setCell ⟨gb739, 0, none⟩ (.bool t734)).setCell ⟨gb739, 1, none⟩ (.slice Ao58 t735.length co58)).heap[gb725]? = some (.cells #[.bool a0_0, .slice A0_1 l0_1.length c0_1] 24 (0, 0))) := ⟨tk BK725⟩
           have n3_ : Aside0 (((((w53.setCell ⟨gb738, 0, none⟩ (.bool t730)).setCell ⟨gb738, 1, none⟩ (.slice Ao55 t731.length co55)).setCell ⟨gb739, 0, none⟩ (.bool t734)).setCell ⟨gb739, 1, none⟩ (.slice Ao58 t735.length co58)).heap[gb726]? = some (.cells #[.bool a1_0, .slice A1_1 l1_1.length c1_1] 24 (0, 0))) := ⟨tk BK726⟩
           have n4_ : Aside0 (((((w53.setCell ⟨gb738, 0, none⟩ (.bool t730)).setCell ⟨gb738, 1, none⟩ (.slice Ao55 t731.length co55)).setCell ⟨gb739, 0, none⟩ (.bool t734)).setCell ⟨gb739, 1, none⟩ (.slice Ao58 t735.length co58)).heap[gb738]? = some (.cells #[.bool t730, .slice Ao55 t731.length co55] 32 (0, 0))) := ⟨tk BK738⟩
           have n5_ : Aside0 (((((w53.setCell ⟨gb738, 0, none⟩ (.bool t730)).setCell ⟨gb738, 1, none⟩ (.slice Ao55 t731.length co55)).setCell ⟨gb739, 0, none⟩ (.bool t734)).setCell ⟨gb739, 1, none⟩ (.slice Ao58 t735.length co58)).heap[gb739]? = some (.cells #[.bool t734, .slice Ao58 t735.length co58] 32 (0, 0))) := ⟨tk BK739⟩
           have n6_ : Aside0 (Below w.heap.size w ((((w53.setCell ⟨gb738, 0, none⟩ (.bool t730)).setCell ⟨gb738, 1, none⟩ (.slice Ao55 t731.length co55)).setCell ⟨gb739, 0, none⟩ (.bool t734)).setCell ⟨gb739, 1, none⟩ (.slice Ao58 t735.length co58))) := ⟨tb HB⟩
           (try clear HO733); (try clear HO737); (try clear BK725); (try clear BK726); (try clear BK738); (try clear BK739); (try clear HB)
           generalize ((((w53.setCell ⟨gb738, 0, none⟩ (.bool t730)).setCell ⟨gb738, 1, none⟩ (.slice Ao55 t731.length co55)).setCell ⟨gb739, 0, none⟩ (.bool t734)).setCell ⟨gb739, 1, none⟩ (.slice Ao58 t735.length co58)) = w60 at n0_ n1_ n2_ n3_ n4_ n5_ n6_ ⊢
           have HO733 := n0_
           have HO737 := n1_
           have BK725 := n2_
           have BK726 := n3_
           have BK738 := n4_
           have BK739 := n5_
           have HB := n6_
           clear n0_ n1_ n2_ n3_ n4_ n5_ n6_
           replace HO733 := Aside0.mk (Kd.R_drew HO733.out)
           replace HO737 := Aside0.mk (Kd.R_drew HO737.out)
           replace BK725 := Aside0.mk (blk_drew BK725.out)
           replace BK726 := Aside0.mk (blk_drew BK726.out)
           replace BK738 := Aside0.mk (blk_drew BK738.out)
           replace BK739 := Aside0.mk (blk_drew BK739.out)
           replace HB := Aside0.mk (below_drew1 HB.out)
           refine start_ (n := 56) (S := fun w' => w'.cell? ⟨gb725, 0, none⟩ = some (.bool a0_0) ∧ w'.cell? ⟨gb725, 1, none⟩ = some (.slice A0_1 l0_1.length c0_1) ∧ w'.cell? ⟨gb726, 0, none⟩ = some (.bool a1_0) ∧ w'.cell? ⟨gb726, 1, none⟩ = some (.slice A1_1 l1_1.length c1_1) ∧ w'.cell? ⟨gb738, 0, none⟩ = some (.bool t730) ∧ w'.cell? ⟨gb738, 1, none⟩ = some (.slice Ao55 t731.length co55) ∧ w'.cell? ⟨gb739, 0, none⟩ = some (.bool t734) ∧ w'.cell? ⟨gb739, 1, none⟩ = some (.slice Ao58 t735.length co58)) (ds := []) #[false, false, false, false, false, false, false, false, false, false, false, false, false, false, false, false, false, false, false, false, false, false, false, false, false, false, false, false, false, false, false, false, false, false, false, false, false, false, false, false, false, false, false, false, false, false, false, false, false, false, false, false, false, false, false, false] (by kernel_rfl) rfl rfl ⟨(blk_cell BK725.out 0).trans rfl, (blk_cell BK725.out 1).trans rfl, (blk_cell BK726.out 0).trans rfl, (blk_cell BK726.out 1).trans rfl, (blk_cell BK738.out 0).trans rfl, (blk_cell BK738.out 1).trans rfl, (blk_cell BK739.out 0).trans rfl, (blk_cell BK739.out 1).trans rfl⟩ (fun hHeld => ?_); refine with_tabW whetstonelaw02_BigSums.tab4 whetstonelaw02_BigSums.bits4 (fun HT_ HW_ => ?_)
           generalize w60.drew = w61 at HO733 HO737 BK725 BK726 BK738 BK739 HB hHeld ⊢
           refine oT (i := 0) (N := some 20) (bb 56 1) HT_ fun K hK => ?_
           refine gS Try.func13 #[] ?_
           with_reducible refine (whetstonelaw02_signed.calls kj2  true _ A22.out).mono ?_
           rintro e w62 ⟨rfl, hb⟩
           refine ⟨_, rfl, ?_⟩
           replace HO733 := rb HO733 hb
           replace HO737 := rb HO737 hb
           replace BK725 := kb BK725 hb
           replace BK726 := kb BK726 hb
           replace BK738 := kb BK738 hb
           replace BK739 := kb BK739 hb
           replace HB := bs HB hb
           (try clear hb); (try clear hb2); (try clear hk); (try clear hi)
           refine hK.out _ _ ⟨(blk_cell BK725.out 0).trans rfl, (blk_cell BK725.out 1).trans rfl, (blk_cell BK726.out 0).trans rfl, (blk_cell BK726.out 1).trans rfl, (blk_cell BK738.out 0).trans rfl, (blk_cell BK738.out 1).trans rfl, (blk_cell BK739.out 0).trans rfl, (blk_cell BK739.out 1).trans rfl⟩ fun hHeld => nT (N := some 20) ?_
           clear hK K
           refine pT (i := 1) (N := some 21) (bb 56 3) HT_ ?_
           refine tW (i := 2) (N := some 22) (bb 56 7) HT_ HW_ hHeld ?_
           refine tW (i := 3) (N := some 23) (bb 56 15) HT_ HW_ hHeld ?_
           refine tW (i := 5) (N := some 25) (bb 56 47) HT_ HW_ hHeld ?_
           refine tW (i := 6) (N := some 26) (bb 56 111) HT_ HW_ hHeld ?_
           refine oT (i := 4) (N := some 24) (bb 56 127) HT_ fun K hK => ?_
           refine gS Try.func20 #[.agg #[.bool a0_0, .slice A0_1 l0_1.length c0_1], .agg #[.bool a1_0, .slice A1_1 l1_1.length c1_1]] ?_
           with_reducible refine (big_Add.calls kj2 a0_0 _ _ l0_1 a1_0 _ _ l1_1 t741 t742 _ ?side1 ?side2 ?side3 ?side4 A24.out).mono ?_
           (case side1 => exact tc (Kd.C_below HR0_1.out HB.out))
           (case side2 => exact HC0_1.out)
           (case side3 => exact tc (Kd.C_below HR1_1.out HB.out))
           (case side4 => exact HC1_1.out)
           rintro e w63 ⟨v743, rfl, ho0, hb⟩
           refine ⟨_, rfl, ?_⟩
           replace HO733 := rb HO733 hb
           replace HO737 := rb HO737 hb
           have HO744 := rl ho0 HB
           replace BK725 := kb BK725 hb
           replace BK726 := kb BK726 hb
           replace BK738 := kb BK738 hb
           replace BK739 := kb BK739 hb
           replace HB := bs HB hb
           (try clear hb); (try clear hb2); (try clear hk); (try clear hi); (try clear ho0)
           refine hK.out _ _ ⟨(blk_cell BK725.out 0).trans rfl, (blk_cell BK725.out 1).trans rfl, (blk_cell BK726.out 0).trans rfl, (blk_cell BK726.out 1).trans rfl, (blk_cell BK738.out 0).trans rfl, (blk_cell BK738.out 1).trans rfl, (blk_cell BK739.out 0).trans rfl, (blk_cell BK739.out 1).trans rfl⟩ fun hHeld => nT (N := some 24) ?_
           clear hK K
           refine oT (i := 7) (N := some 27) (bb 56 255) HT_ fun K hK => ?_
           refine gS Try.func21 #[.agg #[.bool t730, .slice Ao55 t731.length co55], .agg #[.bool t734, .slice Ao58 t735.length co58]] ?_
           with_reducible refine (whetstoneref02_Add.calls kj2 t730 _ _ t731 t734 _ _ t735 t745 t746 _ ?side1 ?side2 ?side3 ?side4 A25.out).mono ?_
           (case side1 => exact tc (Kd.R_reads' HO733.out).2.2)
           (case side2 => exact (Kd.R_reads' HO733.out).2.1)
           (case side3 => exact tc (Kd.R_reads' HO737.out).2.2)
           (case side4 => exact (Kd.R_reads' HO737.out).2.1)
           rintro e w64 ⟨v747, rfl, ho0, hb⟩
           refine ⟨_, rfl, ?_⟩
           replace HO744 := rb HO744 hb
           have HO748 := Aside0.mk (Kd.R_lower (Kd.R_new' (Kd.R_new' ho0 (Kd.R_lt (tq HO733))) (Kd.R_lt (tq HO737))) (below_size (tb HB)))
           replace HO733 := re HO733 (Kd.R_base ho0) hb
           replace HO737 := re HO737 (Kd.R_base ho0) hb
           replace BK725 := kb BK725 hb
           replace BK726 := kb BK726 hb
           replace BK738 := kb BK738 hb
           replace BK739 := kb BK739 hb
           replace HB := bs HB hb
           (try clear hb); (try clear hb2); (try clear hk); (try clear hi); (try clear ho0)
           obtain ⟨Ao65, co65, eo65⟩ := Kd.R_slice HO744.out
           (first | subst eo65 | (injection eo65 with f1_ f2_ f3_; have f4_ := f1_.symm; have f5_ := f3_.symm; clear f1_ f2_ f3_; subst f4_; subst f5_))
           obtain ⟨Ao66, co66, eo66⟩ := Kd.R_slice HO748.out
           (first | subst eo66 | (injection eo66 with f1_ f2_ f3_; have f4_ := f1_.symm; have f5_ := f3_.symm; clear f1_ f2_ f3_; subst f4_; subst f5_))
           refine hK.out _ _ ⟨(blk_cell BK725.out 0).trans rfl, (blk_cell BK725.out 1).trans rfl, (blk_cell BK726.out 0).trans rfl, (blk_cell BK726.out 1).trans rfl, (blk_cell BK738.out 0).trans rfl, (blk_cell BK738.out 1).trans rfl, (blk_cell BK739.out 0).trans rfl, (blk_cell BK739.out 1).trans rfl⟩ fun hHeld => nT (N := some 27) ?_
           clear hK K
           refine oT (i := 8) (N := some 28) (bb 56 511) HT_ fun K hK => ?_
           refine gS Try.func19 #[.agg #[.bool t741, .slice Ao65 t742.length co65], .agg #[.bool t745, .slice Ao66 t746.length co66]] ?_
           with_reducible refine (whetstonelaw02_same.calls kj2 t741 _ _ t742 t745 _ _ t746 true _ ?side1 ?side2 ?side3 ?side4 A26.out).mono ?_
           (case side1 => exact tc (Kd.R_reads' HO744.out).2.2)
           (case side2 => exact (Kd.R_reads' HO744.out).2.1)
           (case side3 => exact tc (Kd.R_reads' HO748.out).2.2)
           (case side4 => exact (Kd.R_reads' HO748.out).2.1)
           rintro e w67 ⟨rfl, hb⟩
           refine ⟨_, rfl, ?_⟩
           replace HO733 := rb HO733 hb
           replace HO737 := rb HO737 hb
           replace HO744 := rb HO744 hb
           replace HO748 := rb HO748 hb
           replace BK725 := kb BK725 hb
           replace BK726 := kb BK726 hb
           replace BK738 := kb BK738 hb
           replace BK739 := kb BK739 hb
           replace HB := bs HB hb
           (try clear hb); (try clear hb2); (try clear hk); (try clear hi)
           refine hK.out _ _ ⟨(blk_cell BK725.out 0).trans rfl, (blk_cell BK725.out 1).trans rfl, (blk_cell BK726.out 0).trans rfl, (blk_cell BK726.out 1).trans rfl, (blk_cell BK738.out 0).trans rfl, (blk_cell BK738.out 1).trans rfl, (blk_cell BK739.out 0).trans rfl, (blk_cell BK739.out 1).trans rfl⟩ fun hHeld => nT (N := some 28) ?_
           clear hK K
           refine pT (i := 9) (N := some 29) (bb 56 1023) HT_ ?_
           refine pT (i := 10) (N := some 30) (bb 56 2047) HT_ ?_
           refine tW (i := 11) (N := some 31) (bb 56 4095) HT_ HW_ hHeld ?_
           refine tW (i := 12) (N := some 32) (bb 56 8191) HT_ HW_ hHeld ?_
           refine tW (i := 14) (N := some 34) (bb 56 24575) HT_ HW_ hHeld ?_
           refine tW (i := 15) (N := some 35) (bb 56 57343) HT_ HW_ hHeld ?_
           refine oT (i := 13) (N := some 33) (bb 56 65535) HT_ fun K hK => ?_
           refine gS Try.func22 #[.agg #[.bool a0_0, .slice A0_1 l0_1.length c0_1], .agg #[.bool a1_0, .slice A1_1 l1_1.length c1_1]] ?_
           with_reducible refine (big_Sub.calls kj2 a0_0 _ _ l0_1 a1_0 _ _ l1_1 t750 t751 _ ?side1 ?side2 ?side3 ?side4 A28.out).mono ?_
           (case side1 => exact tc (Kd.C_below HR0_1.out HB.out))
           (case side2 => exact HC0_1.out)
           (case side3 => exact tc (Kd.C_below HR1_1.out HB.out))
           (case side4 => exact HC1_1.out)
           rintro e w68 ⟨v752, rfl, ho0, hb⟩
           refine ⟨_, rfl, ?_⟩
           replace HO733 := rb HO733 hb
           replace HO737 := rb HO737 hb
           replace HO748 := rb HO748 hb
           have HO753 := Aside0.mk (Kd.R_lower (Kd.R_new' ho0 (Kd.R_lt (tq HO744))) (below_size (tb HB)))
           replace HO744 := re HO744 (Kd.R_base ho0) hb
           replace BK725 := kb BK725 hb
           replace BK726 := kb BK726 hb
           replace BK738 := kb BK738 hb
           replace BK739 := kb BK739 hb
           replace HB := bs HB hb
           (try clear hb); (try clear hb2); (try clear hk); (try clear hi); (try clear ho0)
           refine hK.out _ _ ⟨(blk_cell BK725.out 0).trans rfl, (blk_cell BK725.out 1).trans rfl, (blk_cell BK726.out 0).trans rfl, (blk_cell BK726.out 1).trans rfl, (blk_cell BK738.out 0).trans rfl, (blk_cell BK738.out 1).trans rfl, (blk_cell BK739.out 0).trans rfl, (blk_cell BK739.out 1).trans rfl⟩ fun hHeld => nT (N := some 33) ?_
           clear hK K
           refine oT (i := 16) (N := some 36) (bb 56 131071) HT_ fun K hK => ?_
           refine gS Try.func23 #[.agg #[.bool t730, .slice Ao55 t731.length co55], .agg #[.bool t734, .slice Ao58 t735.length co58]] ?_
           with_reducible refine (whetstoneref02_Sub.calls kj2 t730 _ _ t731 t734 _ _ t735 t754 t755 _ ?side1 ?side2 ?side3 ?side4 A29.out).mono ?_
           (case side1 => exact tc (Kd.R_reads' HO733.out).2.2)
           (case side2 => exact (Kd.R_reads' HO733.out).2.1)
           (case side3 => exact tc (Kd.R_reads' HO737.out).2.2)
           (case side4 => exact (Kd.R_reads' HO737.out).2.1)
           rintro e w69 ⟨v756, rfl, ho0, hb⟩
           refine ⟨_, rfl, ?_⟩
           replace HO744 := rb HO744 hb
           replace HO753 := rb HO753 hb
           have HO757 := Aside0.mk (Kd.R_lower (Kd.R_new' (Kd.R_new' (Kd.R_new' ho0 (Kd.R_lt (tq HO733))) (Kd.R_lt (tq HO737))) (Kd.R_lt (tq HO748))) (below_size (tb HB)))
           replace HO733 := re HO733 (Kd.R_base ho0) hb
           replace HO737 := re HO737 (Kd.R_base ho0) hb
           replace HO748 := re HO748 (Kd.R_base ho0) hb
           replace BK725 := kb BK725 hb
           replace BK726 := kb BK726 hb
           replace BK738 := kb BK738 hb
           replace BK739 := kb BK739 hb
           replace HB := bs HB hb
           (try clear hb); (try clear hb2); (try clear hk); (try clear hi); (try clear ho0)
           obtain ⟨Ao70, co70, eo70⟩ := Kd.R_slice HO753.out
           (first | subst eo70 | (injection eo70 with f1_ f2_ f3_; have f4_ := f1_.symm; have f5_ := f3_.symm; clear f1_ f2_ f3_; subst f4_; subst f5_))
           obtain ⟨Ao71, co71, eo71⟩ := Kd.R_slice HO757.out
           (first | subst eo71 | (injection eo71 with f1_ f2_ f3_; have f4_ := f1_.symm; have f5_ := f3_.symm; clear f1_ f2_ f3_; subst f4_; subst f5_))
           refine hK.out _ _ ⟨(blk_cell BK725.out 0).trans rfl, (blk_cell BK725.out 1).trans rfl, (blk_cell BK726.out 0).trans rfl, (blk_cell BK726.out 1).trans rfl, (blk_cell BK738.out 0).trans rfl, (blk_cell BK738.out 1).trans rfl, (blk_cell BK739.out 0).trans rfl, (blk_cell BK739.out 1).trans rfl⟩ fun hHeld => nT (N := some 36) ?_
           clear hK K
           refine oT (i := 17) (N := some 37) (bb 56 262143) HT_ fun K hK => ?_
           refine gS Try.func19 #[.agg #[.bool t750, .slice Ao70 t751.length co70], .agg #[.bool t754, .slice Ao71 t755.length co71]] ?_
           with_reducible refine (whetstonelaw02_same.calls kj2 t750 _ _ t751 t754 _ _ t755 true _ ?side1 ?side2 ?side3 ?side4 A30.out).mono ?_
           (case side1 => exact tc (Kd.R_reads' HO753.out).2.2)
           (case side2 => exact (Kd.R_reads' HO753.out).2.1)
           (case side3 => exact tc (Kd.R_reads' HO757.out).2.2)
           (case side4 => exact (Kd.R_reads' HO757.out).2.1)
           rintro e w72 ⟨rfl, hb⟩
           refine ⟨_, rfl, ?_⟩
           replace HO733 := rb HO733 hb
           replace HO737 := rb HO737 hb
           replace HO744 := rb HO744 hb
           replace HO748 := rb HO748 hb
           replace HO753 := rb HO753 hb
           replace HO757 := rb HO757 hb
           replace BK725 := kb BK725 hb
           replace BK726 := kb BK726 hb
           replace BK738 := kb BK738 hb
           replace BK739 := kb BK739 hb
           replace HB := bs HB hb
           (try clear hb); (try clear hb2); (try clear hk); (try clear hi)
           refine hK.out _ _ ⟨(blk_cell BK725.out 0).trans rfl, (blk_cell BK725.out 1).trans rfl, (blk_cell BK726.out 0).trans rfl, (blk_cell BK726.out 1).trans rfl, (blk_cell BK738.out 0).trans rfl, (blk_cell BK738.out 1).trans rfl, (blk_cell BK739.out 0).trans rfl, (blk_cell BK739.out 1).trans rfl⟩ fun hHeld => nT (N := some 37) ?_
           clear hK K
           refine pT (i := 18) (N := some 38) (bb 56 524287) HT_ ?_
           refine pT (i := 19) (N := some 39) (bb 56 1048575) HT_ ?_
           refine tW (i := 20) (N := some 40) (bb 56 2097151) HT_ HW_ hHeld ?_
           refine tW (i := 21) (N := some 41) (bb 56 4194303) HT_ HW_ hHeld ?_
           refine tW (i := 23) (N := some 43) (bb 56 12582911) HT_ HW_ hHeld ?_
           refine tW (i := 24) (N := some 44) (bb 56 29360127) HT_ HW_ hHeld ?_
           refine oT (i := 22) (N := some 42) (bb 56 33554431) HT_ fun K hK => ?_
           refine gS Try.func24 #[.agg #[.bool a0_0, .slice A0_1 l0_1.length c0_1], .agg #[.bool a1_0, .slice A1_1 l1_1.length c1_1]] ?_
           with_reducible refine (big_Cmp.calls kj2 a0_0 _ _ l0_1 a1_0 _ _ l1_1 t759 _ ?side1 ?side2 ?side3 ?side4 A32.out).mono ?_
           (case side1 => exact tc (Kd.C_below HR0_1.out HB.out))
           (case side2 => exact HC0_1.out)
           (case side3 => exact tc (Kd.C_below HR1_1.out HB.out))
           (case side4 => exact HC1_1.out)
           rintro e w73 ⟨rfl, hb⟩
           refine ⟨_, rfl, ?_⟩
           replace HO733 := rb HO733 hb
           replace HO737 := rb HO737 hb
           replace HO744 := rb HO744 hb
           replace HO748 := rb HO748 hb
           replace HO753 := rb HO753 hb
           replace HO757 := rb HO757 hb
           replace BK725 := kb BK725 hb
           replace BK726 := kb BK726 hb
           replace BK738 := kb BK738 hb
           replace BK739 := kb BK739 hb
           replace HB := bs HB hb
           (try clear hb); (try clear hb2); (try clear hk); (try clear hi)
           refine hK.out _ _ ⟨(blk_cell BK725.out 0).trans rfl, (blk_cell BK725.out 1).trans rfl, (blk_cell BK726.out 0).trans rfl, (blk_cell BK726.out 1).trans rfl, (blk_cell BK738.out 0).trans rfl, (blk_cell BK738.out 1).trans rfl, (blk_cell BK739.out 0).trans rfl, (blk_cell BK739.out 1).trans rfl⟩ fun hHeld => nT (N := some 42) ?_
           clear hK K
           refine oT (i := 25) (N := some 45) (bb 56 67108863) HT_ fun K hK => ?_
           refine gS Try.func25 #[.agg #[.bool t730, .slice Ao55 t731.length co55], .agg #[.bool t734, .slice Ao58 t735.length co58]] ?_
           with_reducible refine (whetstoneref02_Cmp.calls kj2 t730 _ _ t731 t734 _ _ t735 t760 _ ?side1 ?side2 ?side3 ?side4 A33.out).mono ?_
           (case side1 => exact tc (Kd.R_reads' HO733.out).2.2)
           (case side2 => exact (Kd.R_reads' HO733.out).2.1)
           (case side3 => exact tc (Kd.R_reads' HO737.out).2.2)
           (case side4 => exact (Kd.R_reads' HO737.out).2.1)
           rintro e w74 ⟨rfl, hb⟩
           refine ⟨_, rfl, ?_⟩
           replace HO733 := rb HO733 hb
           replace HO737 := rb HO737 hb
           replace HO744 := rb HO744 hb
           replace HO748 := rb HO748 hb
           replace HO753 := rb HO753 hb
           replace HO757 := rb HO757 hb
           replace BK725 := kb BK725 hb
           replace BK726 := kb BK726 hb
           replace BK738 := kb BK738 hb
           replace BK739 := kb BK739 hb
           replace HB := bs HB hb
           (try clear hb); (try clear hb2); (try clear hk); (try clear hi)
           refine hK.out _ _ ⟨(blk_cell BK725.out 0).trans rfl, (blk_cell BK725.out 1).trans rfl, (blk_cell BK726.out 0).trans rfl, (blk_cell BK726.out 1).trans rfl, (blk_cell BK738.out 0).trans rfl, (blk_cell BK738.out 1).trans rfl, (blk_cell BK739.out 0).trans rfl, (blk_cell BK739.out 1).trans rfl⟩ fun hHeld => nT (N := some 45) ?_
           clear hK K
           refine pT (i := 26) (N := some 46) (bb 56 134217727) HT_ ?_
           refine pT (i := 27) (N := some 47) (bb 56 268435455) HT_ ?_
           refine pT (i := 28) (N := some 48) (bb 56 536870911) HT_ ?_
           refine tW (i := 29) (N := some 49) (bb 56 1073741823) HT_ HW_ hHeld ?_
           refine tW (i := 31) (N := some 51) (bb 56 3221225471) HT_ HW_ hHeld ?_
           refine oT (i := 30) (N := some 50) (bb 56 4294967295) HT_ fun K hK => ?_
           refine gS Try.func26 #[.agg #[.bool a0_0, .slice A0_1 l0_1.length c0_1]] ?_
           with_reducible refine (big_Sign.calls kj2 a0_0 _ _ l0_1 t761 _ ?side1 ?side2 A35.out).mono ?_
           (case side1 => exact tc (Kd.C_below HR0_1.out HB.out))
           (case side2 => exact HC0_1.out)
           rintro e w75 ⟨rfl, hb⟩
           refine ⟨_, rfl, ?_⟩
           replace HO733 := rb HO733 hb
           replace HO737 := rb HO737 hb
           replace HO744 := rb HO744 hb
           replace HO748 := rb HO748 hb
           replace HO753 := rb HO753 hb
           replace HO757 := rb HO757 hb
           replace BK725 := kb BK725 hb
           replace BK726 := kb BK726 hb
           replace BK738 := kb BK738 hb
           replace BK739 := kb BK739 hb
           replace HB := bs HB hb
           (try clear hb); (try clear hb2); (try clear hk); (try clear hi)
           refine hK.out _ _ ⟨(blk_cell BK725.out 0).trans rfl, (blk_cell BK725.out 1).trans rfl, (blk_cell BK726.out 0).trans rfl, (blk_cell BK726.out 1).trans rfl, (blk_cell BK738.out 0).trans rfl, (blk_cell BK738.out 1).trans rfl, (blk_cell BK739.out 0).trans rfl, (blk_cell BK739.out 1).trans rfl⟩ fun hHeld => nT (N := some 50) ?_
           clear hK K
           refine oT (i := 32) (N := some 52) (bb 56 8589934591) HT_ fun K hK => ?_
           refine gS Try.func27 #[.agg #[.bool t730, .slice Ao55 t731.length co55]] ?_
           with_reducible refine (whetstoneref02_Sign.calls kj2 t730 _ _ t731 t762 _ ?side1 ?side2 A36.out).mono ?_
           (case side1 => exact tc (Kd.R_reads' HO733.out).2.2)
           (case side2 => exact (Kd.R_reads' HO733.out).2.1)
           rintro e w76 ⟨rfl, hb⟩
           refine ⟨_, rfl, ?_⟩
           replace HO733 := rb HO733 hb
           replace HO737 := rb HO737 hb
           replace HO744 := rb HO744 hb
           replace HO748 := rb HO748 hb
           replace HO753 := rb HO753 hb
           replace HO757 := rb HO757 hb
           replace BK725 := kb BK725 hb
           replace BK726 := kb BK726 hb
           replace BK738 := kb BK738 hb
           replace BK739 := kb BK739 hb
           replace HB := bs HB hb
           (try clear hb); (try clear hb2); (try clear hk); (try clear hi)
           refine hK.out _ _ ⟨(blk_cell BK725.out 0).trans rfl, (blk_cell BK725.out 1).trans rfl, (blk_cell BK726.out 0).trans rfl, (blk_cell BK726.out 1).trans rfl, (blk_cell BK738.out 0).trans rfl, (blk_cell BK738.out 1).trans rfl, (blk_cell BK739.out 0).trans rfl, (blk_cell BK739.out 1).trans rfl⟩ fun hHeld => nT (N := some 52) ?_
           clear hK K
           refine pT (i := 33) (N := some 53) (bb 56 17179869183) HT_ ?_
           refine pT (i := 34) (N := some 54) (bb 56 34359738367) HT_ ?_
           refine pT (i := 35) (N := some 55) (bb 56 68719476735) HT_ ?_
           refine tW (i := 36) (N := some 56) (bb 56 137438953471) HT_ HW_ hHeld ?_
           refine tW (i := 38) (N := some 58) (bb 56 412316860415) HT_ HW_ hHeld ?_
           refine oT (i := 37) (N := some 57) (bb 56 549755813887) HT_ fun K hK => ?_
           refine gS Try.func28 #[.agg #[.bool a0_0, .slice A0_1 l0_1.length c0_1]] ?_
           with_reducible refine (big_Neg.calls kj2 a0_0 _ _ l0_1 t763 t764 _ ?side1 ?side2 A38.out).mono ?_
           (case side1 => exact tc (Kd.C_below HR0_1.out HB.out))
           (case side2 => exact HC0_1.out)
           rintro e w77 ⟨v765, rfl, ho0, hb⟩
           refine ⟨_, rfl, ?_⟩
           replace HO733 := rb HO733 hb
           replace HO737 := rb HO737 hb
           replace HO748 := rb HO748 hb
           replace HO757 := rb HO757 hb
           have HO766 := Aside0.mk (Kd.R_lower (Kd.R_new' (Kd.R_new' ho0 (Kd.R_lt (tq HO744))) (Kd.R_lt (tq HO753))) (below_size (tb HB)))
           replace HO744 := re HO744 (Kd.R_base ho0) hb
           replace HO753 := re HO753 (Kd.R_base ho0) hb
           replace BK725 := kb BK725 hb
           replace BK726 := kb BK726 hb
           replace BK738 := kb BK738 hb
           replace BK739 := kb BK739 hb
           replace HB := bs HB hb
           (try clear hb); (try clear hb2); (try clear hk); (try clear hi); (try clear ho0)
           refine hK.out _ _ ⟨(blk_cell BK725.out 0).trans rfl, (blk_cell BK725.out 1).trans rfl, (blk_cell BK726.out 0).trans rfl, (blk_cell BK726.out 1).trans rfl, (blk_cell BK738.out 0).trans rfl, (blk_cell BK738.out 1).trans rfl, (blk_cell BK739.out 0).trans rfl, (blk_cell BK739.out 1).trans rfl⟩ fun hHeld => nT (N := some 57) ?_
           clear hK K
           refine oT (i := 39) (N := some 59) (bb 56 1099511627775) HT_ fun K hK => ?_
           refine gS Try.func29 #[.agg #[.bool t730, .slice Ao55 t731.length co55]] ?_
           with_reducible refine (whetstoneref02_Neg.calls kj2 t730 _ _ t731 t767 t768 _ ?side1 ?side2 A39.out).mono ?_
           (case side1 => exact tc (Kd.R_reads' HO733.out).2.2)
           (case side2 => exact (Kd.R_reads' HO733.out).2.1)
           rintro e w78 ⟨v769, rfl, ho0, hb⟩
           refine ⟨_, rfl, ?_⟩
           replace HO744 := rb HO744 hb
           replace HO753 := rb HO753 hb
           replace HO766 := rb HO766 hb
           have HO770 := Aside0.mk (Kd.R_lower (Kd.R_new' (Kd.R_new' (Kd.R_new' (Kd.R_new' ho0 (Kd.R_lt (tq HO733))) (Kd.R_lt (tq HO737))) (Kd.R_lt (tq HO748))) (Kd.R_lt (tq HO757))) (below_size (tb HB)))
           replace HO733 := re HO733 (Kd.R_base ho0) hb
           replace HO737 := re HO737 (Kd.R_base ho0) hb
           replace HO748 := re HO748 (Kd.R_base ho0) hb
           replace HO757 := re HO757 (Kd.R_base ho0) hb
           replace BK725 := kb BK725 hb
           replace BK726 := kb BK726 hb
           replace BK738 := kb BK738 hb
           replace BK739 := kb BK739 hb
           replace HB := bs HB hb
           (try clear hb); (try clear hb2); (try clear hk); (try clear hi); (try clear ho0)
           obtain ⟨Ao79, co79, eo79⟩ := Kd.R_slice HO766.out
           (first | subst eo79 | (injection eo79 with f1_ f2_ f3_; have f4_ := f1_.symm; have f5_ := f3_.symm; clear f1_ f2_ f3_; subst f4_; subst f5_))
           obtain ⟨Ao80, co80, eo80⟩ := Kd.R_slice HO770.out
           (first | subst eo80 | (injection eo80 with f1_ f2_ f3_; have f4_ := f1_.symm; have f5_ := f3_.symm; clear f1_ f2_ f3_; subst f4_; subst f5_))
           refine hK.out _ _ ⟨(blk_cell BK725.out 0).trans rfl, (blk_cell BK725.out 1).trans rfl, (blk_cell BK726.out 0).trans rfl, (blk_cell BK726.out 1).trans rfl, (blk_cell BK738.out 0).trans rfl, (blk_cell BK738.out 1).trans rfl, (blk_cell BK739.out 0).trans rfl, (blk_cell BK739.out 1).trans rfl⟩ fun hHeld => nT (N := some 59) ?_
           clear hK K
           refine oT (i := 40) (N := some 60) (bb 56 2199023255551) HT_ fun K hK => ?_
           refine gS Try.func19 #[.agg #[.bool t763, .slice Ao79 t764.length co79], .agg #[.bool t767, .slice Ao80 t768.length co80]] ?_
           with_reducible refine (whetstonelaw02_same.calls kj2 t763 _ _ t764 t767 _ _ t768 true _ ?side1 ?side2 ?side3 ?side4 A40.out).mono ?_
           (case side1 => exact tc (Kd.R_reads' HO766.out).2.2)
           (case side2 => exact (Kd.R_reads' HO766.out).2.1)
           (case side3 => exact tc (Kd.R_reads' HO770.out).2.2)
           (case side4 => exact (Kd.R_reads' HO770.out).2.1)
           rintro e w81 ⟨rfl, hb⟩
           refine ⟨_, rfl, ?_⟩
           replace HO733 := rb HO733 hb
           replace HO737 := rb HO737 hb
           replace HO744 := rb HO744 hb
           replace HO748 := rb HO748 hb
           replace HO753 := rb HO753 hb
           replace HO757 := rb HO757 hb
           replace HO766 := rb HO766 hb
           replace HO770 := rb HO770 hb
           replace BK725 := kb BK725 hb
           replace BK726 := kb BK726 hb
           replace BK738 := kb BK738 hb
           replace BK739 := kb BK739 hb
           replace HB := bs HB hb
           (try clear hb); (try clear hb2); (try clear hk); (try clear hi)
           refine hK.out _ _ ⟨(blk_cell BK725.out 0).trans rfl, (blk_cell BK725.out 1).trans rfl, (blk_cell BK726.out 0).trans rfl, (blk_cell BK726.out 1).trans rfl, (blk_cell BK738.out 0).trans rfl, (blk_cell BK738.out 1).trans rfl, (blk_cell BK739.out 0).trans rfl, (blk_cell BK739.out 1).trans rfl⟩ fun hHeld => nT (N := some 60) ?_
           clear hK K
           refine pT (i := 41) (N := some 61) (bb 56 4398046511103) HT_ ?_
           refine pT (i := 42) (N := some 62) (bb 56 8796093022207) HT_ ?_
           refine tW (i := 43) (N := some 63) (bb 56 17592186044415) HT_ HW_ hHeld ?_
           refine tW (i := 45) (N := some 65) (bb 56 52776558133247) HT_ HW_ hHeld ?_
           refine oT (i := 44) (N := some 64) (bb 56 70368744177663) HT_ fun K hK => ?_
           refine gS Try.func30 #[.agg #[.bool a0_0, .slice A0_1 l0_1.length c0_1]] ?_
           with_reducible refine (big_Abs.calls kj2 a0_0 _ _ l0_1 t772 t773 _ ?side1 ?side2 A42.out).mono ?_
           (case side1 => exact tc (Kd.C_below HR0_1.out HB.out))
           (case side2 => exact HC0_1.out)
           rintro e w82 ⟨v774, rfl, ho0, hb⟩
           refine ⟨_, rfl, ?_⟩
           replace HO733 := rb HO733 hb
           replace HO737 := rb HO737 hb
           replace HO748 := rb HO748 hb
           replace HO757 := rb HO757 hb
           replace HO770 := rb HO770 hb
           have HO775 := Aside0.mk (Kd.R_lower (Kd.R_new' (Kd.R_new' (Kd.R_new' ho0 (Kd.R_lt (tq HO744))) (Kd.R_lt (tq HO753))) (Kd.R_lt (tq HO766))) (below_size (tb HB)))
           replace HO744 := re HO744 (Kd.R_base ho0) hb
           replace HO753 := re HO753 (Kd.R_base ho0) hb
           replace HO766 := re HO766 (Kd.R_base ho0) hb
           replace BK725 := kb BK725 hb
           replace BK726 := kb BK726 hb
           replace BK738 := kb BK738 hb
           replace BK739 := kb BK739 hb
           replace HB := bs HB hb
           (try clear hb); (try clear hb2); (try clear hk); (try clear hi); (try clear ho0)
           refine hK.out _ _ ⟨(blk_cell BK725.out 0).trans rfl, (blk_cell BK725.out 1).trans rfl, (blk_cell BK726.out 0).trans rfl, (blk_cell BK726.out 1).trans rfl, (blk_cell BK738.out 0).trans rfl, (blk_cell BK738.out 1).trans rfl, (blk_cell BK739.out 0).trans rfl, (blk_cell BK739.out 1).trans rfl⟩ fun hHeld => nT (N := some 64) ?_
           clear hK K
           refine oT (i := 46) (N := some 66) (bb 56 140737488355327) HT_ fun K hK => ?_
           refine gS Try.func31 #[.agg #[.bool t730, .slice Ao55 t731.length co55]] ?_
           with_reducible refine (whetstoneref02_Abs.calls kj2 t730 _ _ t731 t776 t777 _ ?side1 ?side2 A43.out).mono ?_
           (case side1 => exact tc (Kd.R_reads' HO733.out).2.2)
           (case side2 => exact (Kd.R_reads' HO733.out).2.1)
           rintro e w83 ⟨v778, rfl, ho0, hb⟩
           refine ⟨_, rfl, ?_⟩
           replace HO744 := rb HO744 hb
           replace HO753 := rb HO753 hb
           replace HO766 := rb HO766 hb
           replace HO775 := rb HO775 hb
           have HO779 := Aside0.mk (Kd.R_lower (Kd.R_new' (Kd.R_new' (Kd.R_new' (Kd.R_new' (Kd.R_new' ho0 (Kd.R_lt (tq HO733))) (Kd.R_lt (tq HO737))) (Kd.R_lt (tq HO748))) (Kd.R_lt (tq HO757))) (Kd.R_lt (tq HO770))) (below_size (tb HB)))
           replace HO733 := re HO733 (Kd.R_base ho0) hb
           replace BK725 := kb BK725 hb
           replace BK726 := kb BK726 hb
           replace BK738 := kb BK738 hb
           replace BK739 := kb BK739 hb
           replace HB := bs HB hb
           (try clear hb); (try clear hb2); (try clear hk); (try clear hi); (try clear ho0)
           obtain ⟨Ao84, co84, eo84⟩ := Kd.R_slice HO775.out
           (first | subst eo84 | (injection eo84 with f1_ f2_ f3_; have f4_ := f1_.symm; have f5_ := f3_.symm; clear f1_ f2_ f3_; subst f4_; subst f5_))
           obtain ⟨Ao85, co85, eo85⟩ := Kd.R_slice HO779.out
           (first | subst eo85 | (injection eo85 with f1_ f2_ f3_; have f4_ := f1_.symm; have f5_ := f3_.symm; clear f1_ f2_ f3_; subst f4_; subst f5_))
           refine hK.out _ _ ⟨(blk_cell BK725.out 0).trans rfl, (blk_cell BK725.out 1).trans rfl, (blk_cell BK726.out 0).trans rfl, (blk_cell BK726.out 1).trans rfl, (blk_cell BK738.out 0).trans rfl, (blk_cell BK738.out 1).trans rfl, (blk_cell BK739.out 0).trans rfl, (blk_cell BK739.out 1).trans rfl⟩ fun hHeld => nT (N := some 66) ?_
           clear hK K
           refine oT (i := 47) (N := some 67) (bb 56 281474976710655) HT_ fun K hK => ?_
           refine gS Try.func19 #[.agg #[.bool t772, .slice Ao84 t773.length co84], .agg #[.bool t776, .slice Ao85 t777.length co85]] ?_
           with_reducible refine (whetstonelaw02_same.calls kj2 t772 _ _ t773 t776 _ _ t777 true _ ?side1 ?side2 ?side3 ?side4 A44.out).mono ?_
           (case side1 => exact tc (Kd.R_reads' HO775.out).2.2)
           (case side2 => exact (Kd.R_reads' HO775.out).2.1)
           (case side3 => exact tc (Kd.R_reads' HO779.out).2.2)
           (case side4 => exact (Kd.R_reads' HO779.out).2.1)
           rintro e w86 ⟨rfl, hb⟩
           refine ⟨_, rfl, ?_⟩
           replace HO733 := rb HO733 hb
           replace HO744 := rb HO744 hb
           replace HO753 := rb HO753 hb
           replace HO766 := rb HO766 hb
           replace HO775 := rb HO775 hb
           replace BK725 := kb BK725 hb
           replace BK726 := kb BK726 hb
           replace BK738 := kb BK738 hb
           replace BK739 := kb BK739 hb
           replace HB := bs HB hb
           (try clear hb); (try clear hb2); (try clear hk); (try clear hi)
           refine hK.out _ _ ⟨(blk_cell BK725.out 0).trans rfl, (blk_cell BK725.out 1).trans rfl, (blk_cell BK726.out 0).trans rfl, (blk_cell BK726.out 1).trans rfl, (blk_cell BK738.out 0).trans rfl, (blk_cell BK738.out 1).trans rfl, (blk_cell BK739.out 0).trans rfl, (blk_cell BK739.out 1).trans rfl⟩ fun hHeld => nT (N := some 67) ?_
           clear hK K
           refine pT (i := 48) (N := some 68) (bb 56 562949953421311) HT_ ?_
           refine pT (i := 49) (N := some 69) (bb 56 1125899906842623) HT_ ?_
           refine tW (i := 50) (N := some 70) (bb 56 2251799813685247) HT_ HW_ hHeld ?_
           refine tW (i := 52) (N := some 72) (bb 56 6755399441055743) HT_ HW_ hHeld ?_
           refine oT (i := 51) (N := some 71) (bb 56 9007199254740991) HT_ fun K hK => ?_
           refine gS Try.func32 #[.agg #[.bool a0_0, .slice A0_1 l0_1.length c0_1]] ?_
           with_reducible refine (big_Norm.calls kj2 a0_0 _ _ l0_1 t781 t782 _ ?side1 ?side2 A46.out).mono ?_
           (case side1 => exact tc (Kd.C_below HR0_1.out HB.out))
           (case side2 => exact HC0_1.out)
           rintro e w87 ⟨v783, rfl, ho0, hb⟩
           refine ⟨_, rfl, ?_⟩
           replace HO733 := rb HO733 hb
           have HO784 := Aside0.mk (Kd.R_lower (Kd.R_new' (Kd.R_new' (Kd.R_new' (Kd.R_new' ho0 (Kd.R_lt (tq HO744))) (Kd.R_lt (tq HO753))) (Kd.R_lt (tq HO766))) (Kd.R_lt (tq HO775))) (below_size (tb HB)))
           replace BK725 := kb BK725 hb
           replace BK726 := kb BK726 hb
           replace BK738 := kb BK738 hb
           replace BK739 := kb BK739 hb
           replace HB := bs HB hb
           (try clear hb); (try clear hb2); (try clear hk); (try clear hi); (try clear ho0)
           obtain ⟨Ao88, co88, eo88⟩ := Kd.R_slice HO784.out
           (first | subst eo88 | (injection eo88 with f1_ f2_ f3_; have f4_ := f1_.symm; have f5_ := f3_.symm; clear f1_ f2_ f3_; subst f4_; subst f5_))
           refine hK.out _ _ ⟨(blk_cell BK725.out 0).trans rfl, (blk_cell BK725.out 1).trans rfl, (blk_cell BK726.out 0).trans rfl, (blk_cell BK726.out 1).trans rfl, (blk_cell BK738.out 0).trans rfl, (blk_cell BK738.out 1).trans rfl, (blk_cell BK739.out 0).trans rfl, (blk_cell BK739.out 1).trans rfl⟩ fun hHeld => nT (N := some 71) ?_
           clear hK K
           refine oT (i := 53) (N := some 73) (bb 56 18014398509481983) HT_ fun K hK => ?_
           refine gS Try.func19 #[.agg #[.bool t781, .slice Ao88 t782.length co88], .agg #[.bool t730, .slice Ao55 t731.length co55]] ?_
           with_reducible refine (whetstonelaw02_same.calls kj2 t781 _ _ t782 t730 _ _ t731 t785 _ ?side1 ?side2 ?side3 ?side4 A47.out).mono ?_
           (case side1 => exact tc (Kd.R_reads' HO784.out).2.2)
           (case side2 => exact (Kd.R_reads' HO784.out).2.1)
           (case side3 => exact tc (Kd.R_reads' HO733.out).2.2)
           (case side4 => exact (Kd.R_reads' HO733.out).2.1)
           rintro e w89 ⟨rfl, hb⟩
           refine ⟨_, rfl, ?_⟩
           replace BK725 := kb BK725 hb
           replace BK726 := kb BK726 hb
           replace BK738 := kb BK738 hb
           replace BK739 := kb BK739 hb
           replace HB := bs HB hb
           (try clear hb); (try clear hb2); (try clear hk); (try clear hi)
           refine hK.out _ _ ⟨(blk_cell BK725.out 0).trans rfl, (blk_cell BK725.out 1).trans rfl, (blk_cell BK726.out 0).trans rfl, (blk_cell BK726.out 1).trans rfl, (blk_cell BK738.out 0).trans rfl, (blk_cell BK738.out 1).trans rfl, (blk_cell BK739.out 0).trans rfl, (blk_cell BK739.out 1).trans rfl⟩ fun hHeld => nT (N := some 73) ?_
           clear hK K
           refine pT (i := 54) (N := some 74) (bb 56 36028797018963967) HT_ ?_
           refine pT (i := 55) (N := some 4) (bb 56 72057594037927935) HT_ ?_
           refine done_ (done_of HT_.out (by kernel_rfl)) ?_
           try go_wp2
           go_ret
           exact ⟨by first | rfl | (simp [errW_none, errW_some] <;> rfl) | (simp [*, errW_none, errW_some] <;> rfl), tb HB⟩
          ·replace c45 := Bool.eq_false_iff.mpr c45
           subst c45
           have H1 : (none) = some r := by rw [if_neg (show ¬ (false = true) by decide)] at H; exact H
           clear H
           have H := H1
           clear H1
           exact absurd H (by simp)
         ·replace c41 := Bool.eq_false_iff.mpr c41
          subst c41
          have H1 : (none) = some r := by rw [if_neg (show ¬ (false = true) by decide)] at H; exact H
          clear H
          have H := H1
          clear H1
          exact absurd H (by simp)
        ·rw [if_neg c37] at H
         exact absurd H (by simp)
       ·rw [if_neg c34] at H
        exact absurd H (by simp)
      ·replace c31 := Bool.eq_false_iff.mpr c31
       subst c31
       have H1 : (none) = some r := by rw [if_neg (show ¬ (false = true) by decide)] at H; exact H
       clear H
       have H := H1
       clear H1
       exact absurd H (by simp)
     ·replace c27 := Bool.eq_false_iff.mpr c27
      subst c27
      have H1 : (none) = some r := by rw [if_neg (show ¬ (false = true) by decide)] at H; exact H
      clear H
      have H := H1
      clear H1
      exact absurd H (by simp)
    ·replace c23 := Bool.eq_false_iff.mpr c23
     subst c23
     have H1 : (none) = some r := by rw [if_neg (show ¬ (false = true) by decide)] at H; exact H
     clear H
     have H := H1
     clear H1
     exact absurd H (by simp)

/-- THE ONE PURE STATEMENT of whetstonelaw02_BigSums: yours. -/
def whetstonelaw02_BigSums.Pure : Prop := ∀ (a0_0 : Bool) (l0_1 : List Int) (a1_0 : Bool) (l1_1 : List Int), l0_1.length ≤ maxLen → (∀ x ∈ l0_1, (Lit.int .u32 x).wf = true) → l1_1.length ≤ maxLen → (∀ x ∈ l1_1, (Lit.int .u32 x).wf = true) → ∃ k, whetstonelaw02_BigSums.f k a0_0 l0_1 a1_0 l1_1 = some true
theorem whetstonelaw02_BigSums.walk (P : whetstonelaw02_BigSums.Pure) (a0_0 : Bool) (A0_1 : Option Addr) (n0_1 c0_1 : Nat) (z0_1 : List Int) (a1_0 : Bool) (A1_1 : Option Addr) (n1_1 c1_1 : Nat) (z1_1 : List Int) (w : World) (w0_1 : (A0_1 = none ∧ n0_1 = 0 ∧ c0_1 = 0 ∧ z0_1 = []) ∨ ∃ x, A0_1 = some x ∧ n0_1 ≤ c0_1 ∧ c0_1 ≤ maxLen ∧ z0_1.length = c0_1 ∧ (∀ i, i < z0_1.length → w.cell? (x.add i) = some (.int .u32 (z0_1.getD i 0))) ∧ ∀ n ∈ z0_1, (Lit.int .u32 n).wf = true) (w1_1 : (A1_1 = none ∧ n1_1 = 0 ∧ c1_1 = 0 ∧ z1_1 = []) ∨ ∃ x, A1_1 = some x ∧ n1_1 ≤ c1_1 ∧ c1_1 ≤ maxLen ∧ z1_1.length = c1_1 ∧ (∀ i, i < z1_1.length → w.cell? (x.add i) = some (.int .u32 (z1_1.getD i 0))) ∧ ∀ n ∈ z1_1, (Lit.int .u32 n).wf = true) :
  Calls Try.prog 4 #[.agg #[.bool a0_0, .slice A0_1 n0_1 c0_1], .agg #[.bool a1_0, .slice A1_1 n1_1 c1_1]] w fun e w' => e = .returned (.bool true) ∧ Below w.heap.size w w' := by
 obtain ⟨l0_1, rfl, hr0_1, hm0_1, hw0_1, hc0_1⟩ := ReadsInt.ofRowC w0_1
 obtain ⟨l1_1, rfl, hr1_1, hm1_1, hw1_1, hc1_1⟩ := ReadsInt.ofRowC w1_1
 obtain ⟨k, h⟩ := P a0_0 l0_1 a1_0 l1_1 hm0_1 hw0_1 hm1_1 hw1_1
 refine (whetstonelaw02_BigSums.calls k a0_0 _ _ l0_1 a1_0 _ _ l1_1 true w (Kd.C_of_reads (d := (0 : Int)) (h1 := fun _ => rfl) hr0_1) hc0_1 (Kd.C_of_reads (d := (0 : Int)) (h1 := fun _ => rfl) hr1_1) hc1_1 h).mono ?_
 rintro e w' ⟨rfl, hd⟩
 exact ⟨rfl, hd⟩

end Go.Proofs.Ytjpnaapimnoamaa.QBigSums
