-- written by wip/wprint, a program of this session
import Derived.Test.YtjpnaapimnoamaaQBigGcdsx0
import Derived.Test.YtjpnaapimnoamaaQBigGcdsx4
import Derived.Test.YtjpnaapimnoamaaQBigGcdsx10
import Derived.Test.YtjpnaapimnoamaaQBigGcdsx13
import Derived.Test.YtjpnaapimnoamaaQBigGcdsx14
import Derived.Test.YtjpnaapimnoamaaQBigGcdsx15
import Derived.Test.YtjpnaapimnoamaaQBigGcdsx16d
namespace Go.Proofs.Ytjpnaapimnoamaa.QBigGcds
open Go.RowKit Go.Proofs.YtjpnaapimnoamaaW.PrintWords Go.Proofs.YtjpnaapimnoamaaW.PrintLast Go.Proofs.YtjpnaapimnoamaaW.PrintMore
open Go.Proofs.YtjpnaapimnoamaaW.PrintWords.Kd renaming R_alloc → qa, R_drewN → qn, R_drew → qd
open Go.Proofs.YtjpnaapimnoamaaW.PrintWords renaming below_alloc → ba, pw_below_drewN → bn, below_drew1 → bd
attribute [local go_sem] max2_int min2_int max_two min_two max_three min_three max_four min_four   -- for this text's walks alone
set_option linter.unusedVariables false
set_option linter.unusedSimpArgs false

set_option maxHeartbeats 8000000 in
set_option maxRecDepth 100000 in
theorem whetstonelaw02_BigGcds.calls (k : Nat) (a0_0 : Bool) (A0_1 : Option Addr) (c0_1 : Nat) (l0_1 : List Int) (a1_0 : Bool) (A1_1 : Option Addr) (c1_1 : Nat) (l1_1 : List Int) (a2_0 : Bool) (A2_1 : Option Addr) (c2_1 : Nat) (l2_1 : List Int) (r : Bool) (w : World) (hr0_1 : Kd.C (Kd.int .u32) w A0_1 l0_1.length l0_1) (hc0_1 : l0_1.length ≤ c0_1) (hr1_1 : Kd.C (Kd.int .u32) w A1_1 l1_1.length l1_1) (hc1_1 : l1_1.length ≤ c1_1) (hr2_1 : Kd.C (Kd.int .u32) w A2_1 l2_1.length l2_1) (hc2_1 : l2_1.length ≤ c2_1) (h : whetstonelaw02_BigGcds.f k a0_0 l0_1 a1_0 l1_1 a2_0 l2_1 = some r) :
  Calls Try.prog 11 #[.agg #[.bool a0_0, .slice A0_1 l0_1.length c0_1], .agg #[.bool a1_0, .slice A1_1 l1_1.length c1_1], .agg #[.bool a2_0, .slice A2_1 l2_1.length c2_1]] w fun e w' => e = .returned (.bool r) ∧ Below w.heap.size w w' := by
 have hu24 := Try.underlying24
 have HR0_1 := Aside0.mk hr0_1
 have HC0_1 := Aside0.mk hc0_1
 clear hr0_1 hc0_1
 have HR1_1 := Aside0.mk hr1_1
 have HC1_1 := Aside0.mk hc1_1
 clear hr1_1 hc1_1
 have HR2_1 := Aside0.mk hr2_1
 have HC2_1 := Aside0.mk hc2_1
 clear hr2_1 hc2_1
 have HB := Aside0.mk (Below.refl w.heap.size w)
 have H : ((whetstonelaw02_signed.f k).bind fun t652 => (if t652 = true then (if (l0_1.length : Int) > 4 then (whetstonelaw02_BigGcds.j0 k true a0_0 l0_1 a1_0 l1_1 a2_0 l2_1) else (if (l1_1.length : Int) > 4 then (whetstonelaw02_BigGcds.j0 k true a0_0 l0_1 a1_0 l1_1 a2_0 l2_1) else (whetstonelaw02_BigGcds.j0 k (decide ((l2_1.length : Int) > 4)) a0_0 l0_1 a1_0 l1_1 a2_0 l2_1))) else (whetstonelaw02_BigGcds.j0 k true a0_0 l0_1 a1_0 l1_1 a2_0 l2_1))) = some r := h
 clear h
 have HC4 := Aside0.mk H
 clear H
 go_enter Try.func11, Try.ntmps11
 go_upto_region 1 with (first | ((with_reducible refine gate_dst (N := 3) rfl ?_); (try (refine gate_guard (by rfl) ?_; dsimp only)); refine bx (N := 3) #[.bool a0_0, .slice A0_1 l0_1.length c0_1] 24 ?_; intro gb649 hg w5 hbox hb; have BK649 := Aside0.mk (hbox); have GW649 := bz hg HB; have GE649 := bz hg HB; replace HB := bs HB hb; clear hb hbox hg) | ((with_reducible refine gate_dst (N := 4) rfl ?_); (try (refine gate_guard (by rfl) ?_; dsimp only)); refine bx (N := 4) #[.bool a1_0, .slice A1_1 l1_1.length c1_1] 24 ?_; intro gb650 hg w6 hbox hb; have BK650 := Aside0.mk (hbox); have GW650 := bz hg HB; have GE650 := bz hg HB; replace HB := bs HB hb; have NB649_650 := nl hg BK649; have NB650_649 := ng hg BK649; replace BK649 := kb BK649 hb; clear hb hbox hg) | ((with_reducible refine gate_dst (N := 5) rfl ?_); (try (refine gate_guard (by rfl) ?_; dsimp only)); refine bx (N := 5) #[.bool a2_0, .slice A2_1 l2_1.length c2_1] 24 ?_; intro gb651 hg w7 hbox hb; have BK651 := Aside0.mk (hbox); have GW651 := bz hg HB; have GE651 := bz hg HB; replace HB := bs HB hb; have NB649_651 := nl hg BK649; have NB651_649 := ng hg BK649; replace BK649 := kb BK649 hb; have NB650_651 := nl hg BK650; have NB651_650 := ng hg BK650; replace BK650 := kb BK650 hb; clear hb hbox hg))
 (try simp only [Act.put, List.setIfInBounds_toArray, List.set_cons_zero, List.set_cons_succ])
 go_cut [35] from 1 to 0 (fun v35 wc => ∃ (kq : Nat) (x35_3 : Bool), v35 = .bool x35_3 ∧ Aside0 (whetstonelaw02_BigGcds.j0 kq x35_3 a0_0 l0_1 a1_0 l1_1 a2_0 l2_1 = some r) ∧ Aside0 (kq ≤ k) ∧ Aside0 (wc.heap[gb649]? = some (.cells #[.bool a0_0, (.slice A0_1 l0_1.length c0_1)] 24 (0, 0))) ∧ Aside0 (wc.heap[gb650]? = some (.cells #[.bool a1_0, (.slice A1_1 l1_1.length c1_1)] 24 (0, 0))) ∧ Aside0 (wc.heap[gb651]? = some (.cells #[.bool a2_0, (.slice A2_1 l2_1.length c2_1)] 24 (0, 0))) ∧ Aside0 (Below w.heap.size w wc))
 case first =>
  have H := HC4.out
  clear HC4
  replace H := bi H
  obtain ⟨t652, A80, H⟩ := H
  have A8 := Aside0.mk A80
  clear A80
  by_cases c9 : t652 = true
  ·subst c9
   have H1 : (if (l0_1.length : Int) > 4 then (whetstonelaw02_BigGcds.j0 k true a0_0 l0_1 a1_0 l1_1 a2_0 l2_1) else (if (l1_1.length : Int) > 4 then (whetstonelaw02_BigGcds.j0 k true a0_0 l0_1 a1_0 l1_1 a2_0 l2_1) else (whetstonelaw02_BigGcds.j0 k (decide ((l2_1.length : Int) > 4)) a0_0 l0_1 a1_0 l1_1 a2_0 l2_1))) = some r := by rw [if_pos rfl] at H; exact H
   clear H
   have H := H1
   clear H1
   by_cases c10 : (l0_1.length : Int) > 4
   ·rw [if_pos c10] at H
    have c10b0 : decide (4 < (l0_1.length : Int)) = true := decide_eq_true c10
    have c10b1 : decide (4 < l0_1.length) = true := decide_eq_true (by omega)
    clear c10
    (first | rw [c10b0] | rw [c10b1] | (simp only [i64_w, i32_w]; rw [c10b0]) | skip)
    have H' := Aside0.mk H
    clear H
    go_wp2_with (first | ((with_reducible refine gate_callee (f := 13) rfl ?_); refine gL (N := some 16) Try.func13 #[] ?_; (with_reducible refine (whetstonelaw02_signed.calls k  true _ A8.out).mono ?_); rintro e w11 ⟨rfl, hb⟩; refine ⟨_, rfl, ?_⟩; replace BK649 := kb BK649 hb; replace BK650 := kb BK650 hb; replace BK651 := kb BK651 hb; replace HB := bs HB hb; (try clear hb); (try clear hb2); (try clear hk); (try clear hi); have hnb12 := NB649_650.out; have hnc12 := NB650_649.out; have hnb13 := NB649_651.out; have hnc13 := NB651_649.out; have hcz14_0 := bc BK649 0 (.bool a0_0); have hcz14_1 := bc BK649 1 (.slice A0_1 l0_1.length c0_1); have hfz14_0 := blk_frozen BK649.out 0; have hfz14_1 := blk_frozen BK649.out 1))
    go_meet
    case rel => exact ⟨_, (true), (by first | rfl | (simp; done) | (simp [*]; done)), H', ⟨by first | omega | exact Nat.le_refl _⟩, ⟨tk BK649⟩, ⟨tk BK650⟩, ⟨tk BK651⟩, ⟨tb HB⟩⟩
   ·rw [if_neg c10] at H
    have c10b0 : decide (4 < (l0_1.length : Int)) = false := decide_eq_false c10
    have c10b1 : decide (4 < l0_1.length) = false := decide_eq_false (by omega)
    clear c10
    (first | rw [c10b0] | rw [c10b1] | (simp only [i64_w, i32_w]; rw [c10b0]) | skip)
    by_cases c15 : (l1_1.length : Int) > 4
    ·rw [if_pos c15] at H
     have c15b0 : decide (4 < (l1_1.length : Int)) = true := decide_eq_true c15
     have c15b1 : decide (4 < l1_1.length) = true := decide_eq_true (by omega)
     clear c15
     have H' := Aside0.mk H
     clear H
     go_wp2_with (first | ((with_reducible refine gate_callee (f := 13) rfl ?_); refine gL (N := some 16) Try.func13 #[] ?_; (with_reducible refine (whetstonelaw02_signed.calls k  true _ A8.out).mono ?_); rintro e w16 ⟨rfl, hb⟩; refine ⟨_, rfl, ?_⟩; replace BK649 := kb BK649 hb; replace BK650 := kb BK650 hb; replace BK651 := kb BK651 hb; replace HB := bs HB hb; (try clear hb); (try clear hb2); (try clear hk); (try clear hi); have hnb17 := NB649_650.out; have hnc17 := NB650_649.out; have hnb18 := NB649_651.out; have hnc18 := NB651_649.out; have hcz19_0 := bc BK649 0 (.bool a0_0); have hcz19_1 := bc BK649 1 (.slice A0_1 l0_1.length c0_1); have hfz19_0 := blk_frozen BK649.out 0; have hfz19_1 := blk_frozen BK649.out 1; have hnb20 := NB650_651.out; have hnc20 := NB651_650.out; have hcz21_0 := bc BK650 0 (.bool a1_0); have hcz21_1 := bc BK650 1 (.slice A1_1 l1_1.length c1_1); have hfz21_0 := blk_frozen BK650.out 0; have hfz21_1 := blk_frozen BK650.out 1))
     go_meet
     case rel => exact ⟨_, (true), (by first | rfl | (simp; done) | (simp [*]; done)), H', ⟨by first | omega | exact Nat.le_refl _⟩, ⟨tk BK649⟩, ⟨tk BK650⟩, ⟨tk BK651⟩, ⟨tb HB⟩⟩
    ·rw [if_neg c15] at H
     have c15b0 : decide (4 < (l1_1.length : Int)) = false := decide_eq_false c15
     have c15b1 : decide (4 < l1_1.length) = false := decide_eq_false (by omega)
     clear c15
     have H' := Aside0.mk H
     clear H
     go_wp2_with (first | ((with_reducible refine gate_callee (f := 13) rfl ?_); refine gL (N := some 16) Try.func13 #[] ?_; (with_reducible refine (whetstonelaw02_signed.calls k  true _ A8.out).mono ?_); rintro e w22 ⟨rfl, hb⟩; refine ⟨_, rfl, ?_⟩; replace BK649 := kb BK649 hb; replace BK650 := kb BK650 hb; replace BK651 := kb BK651 hb; replace HB := bs HB hb; (try clear hb); (try clear hb2); (try clear hk); (try clear hi); have hnb23 := NB649_650.out; have hnc23 := NB650_649.out; have hnb24 := NB649_651.out; have hnc24 := NB651_649.out; have hcz25_0 := bc BK649 0 (.bool a0_0); have hcz25_1 := bc BK649 1 (.slice A0_1 l0_1.length c0_1); have hfz25_0 := blk_frozen BK649.out 0; have hfz25_1 := blk_frozen BK649.out 1; have hnb26 := NB650_651.out; have hnc26 := NB651_650.out; have hcz27_0 := bc BK650 0 (.bool a1_0); have hcz27_1 := bc BK650 1 (.slice A1_1 l1_1.length c1_1); have hfz27_0 := blk_frozen BK650.out 0; have hfz27_1 := blk_frozen BK650.out 1; have hcz28_0 := bc BK651 0 (.bool a2_0); have hcz28_1 := bc BK651 1 (.slice A2_1 l2_1.length c2_1); have hfz28_0 := blk_frozen BK651.out 0; have hfz28_1 := blk_frozen BK651.out 1))
     go_meet
     case rel => exact ⟨_, (decide ((l2_1.length : Int) > 4)), (by first | rfl | (simp; done) | (simp [*]; done)), H', ⟨by first | omega | exact Nat.le_refl _⟩, ⟨tk BK649⟩, ⟨tk BK650⟩, ⟨tk BK651⟩, ⟨tb HB⟩⟩
  ·replace c9 := Bool.eq_false_iff.mpr c9
   subst c9
   have H1 : (whetstonelaw02_BigGcds.j0 k true a0_0 l0_1 a1_0 l1_1 a2_0 l2_1) = some r := by rw [if_neg (show ¬ (false = true) by decide)] at H; exact H
   clear H
   have H := H1
   clear H1
   have H' := Aside0.mk H
   clear H
   go_wp2_with (first | ((with_reducible refine gate_callee (f := 13) rfl ?_); refine gL (N := some 16) Try.func13 #[] ?_; (with_reducible refine (whetstonelaw02_signed.calls k  false _ A8.out).mono ?_); rintro e w29 ⟨rfl, hb⟩; refine ⟨_, rfl, ?_⟩; replace BK649 := kb BK649 hb; replace BK650 := kb BK650 hb; replace BK651 := kb BK651 hb; replace HB := bs HB hb; (try clear hb); (try clear hb2); (try clear hk); (try clear hi)))
   go_meet
   case rel => exact ⟨_, (true), (by first | rfl | (simp; done) | (simp [*]; done)), H', ⟨by first | omega | exact Nat.le_refl _⟩, ⟨tk BK649⟩, ⟨tk BK650⟩, ⟨tk BK651⟩, ⟨tb HB⟩⟩
 case rest =>
  clear HC4
  (try clear c1); (try clear c2); (try clear p2); (try clear c9); (try clear c10); (try clear c10b0); (try clear c10b1); (try clear c11); (try clear c12); (try clear c13); (try clear c15); (try clear c15b0); (try clear c15b1); (try clear c17); (try clear c18); (try clear c20); (try clear c23); (try clear c24); (try clear c26); (try clear hcz14_0); (try clear hcz14_1); (try clear hcz19_0); (try clear hcz19_1); (try clear hcz21_0); (try clear hcz21_1); (try clear hcz25_0); (try clear hcz25_1); (try clear hcz27_0); (try clear hcz27_1); (try clear hcz28_0); (try clear hcz28_1); (try clear hfz14_0); (try clear hfz14_1); (try clear hfz19_0); (try clear hfz19_1); (try clear hfz21_0); (try clear hfz21_1); (try clear hfz25_0); (try clear hfz25_1); (try clear hfz27_0); (try clear hfz27_1); (try clear hfz28_0); (try clear hfz28_1)
  obtain ⟨kq, x35_3, rfl, HA, HJ3, BK649, BK650, BK651, HB⟩ := hcut
  cases kq with
  | zero => exact absurd HA.out (by simp [whetstonelaw02_BigGcds.j0])
  | succ kj3 =>
   have H := HA.out
   clear HA
   simp only [whetstonelaw02_BigGcds.j0] at H
   by_cases c30 : x35_3 = true
   ·subst c30
    have H1 : ((whetstonelaw02_signed.f kj3).bind fun t653 => (some t653)) = some r := by rw [if_pos rfl] at H; exact H
    clear H
    have H := H1
    clear H1
    replace H := bi H
    obtain ⟨t653, A310, H⟩ := H
    have A31 := Aside0.mk A310
    clear A310
    obtain rfl := Option.some.inj H
    go_wp2_with (first | ((with_reducible refine gate_callee (f := 13) rfl ?_); refine gL (N := some 36) Try.func13 #[] ?_; (with_reducible refine (whetstonelaw02_signed.calls kj3  t653 _ A31.out).mono ?_); rintro e w32 ⟨rfl, hb⟩; refine ⟨_, rfl, ?_⟩; replace HB := bs HB hb; (try clear hb); (try clear hb2); (try clear hk); (try clear hi)))
    go_ret
    exact ⟨by first | rfl | (simp [errW_none, errW_some] <;> rfl) | (simp [*, errW_none, errW_some] <;> rfl), tb HB⟩
   ·replace c30 := Bool.eq_false_iff.mpr c30
    subst c30
    have H1 : ((big_Mul.f kj3 a0_0 l0_1 a2_0 l2_1).bind fun bt654 => ((big_Mul.f kj3 a1_0 l1_1 a2_0 l2_1).bind fun bt658 => ((big_Gcd.f kj3 bt654.1 bt654.2 bt658.1 bt658.2).bind fun bt664 => ((big_Sign.f kj3 bt664.1 bt664.2).bind fun t669 => (if t669 = 0 then ((big_Sign.f kj3 bt654.1 bt654.2).bind fun t670 => (if t670 = 0 then ((big_Sign.f kj3 bt658.1 bt658.2).bind fun t671 => (some (t671 == 0))) else (none))) else ((big_DivMod.f kj3 bt654.1 bt654.2 bt664.1 bt664.2).bind fun bt672 => ((big_DivMod.f kj3 bt658.1 bt658.2 bt664.1 bt664.2).bind fun bt683 => (if bt672.2.2.2.2 = 0 then (if bt683.2.2.2.2 = 0 then ((big_Divides.f kj3 bt664.1 bt664.2 bt654.1 bt654.2).bind fun t694 => (if t694 = true then ((big_Divides.f kj3 bt664.1 bt664.2 bt658.1 bt658.2).bind fun t695 => (if t695 = true then ((big_Divides.f kj3 a2_0 l2_1 bt664.1 bt664.2).bind fun t696 => (if t696 = true then ((big_Gcd.f kj3 bt672.1 bt672.2.1 bt683.1 bt683.2.1).bind fun bt697 => ((big_Of.f kj3 1).bind fun bt701 => ((big_Cmp.f kj3 bt697.1 bt697.2 bt701.1 bt701.2).bind fun t705 => (some (t705 == 0))))) else (none))) else (none))) else (none))) else (none)) else (none))))))))) = some r := by rw [if_neg (show ¬ (false = true) by decide)] at H; exact H
    clear H
    have H := H1
    clear H1
    replace H := bi H
    obtain ⟨⟨t654, t655⟩, A330, H⟩ := H
    try dsimp only at H
    have A33 := Aside0.mk A330
    clear A330
    replace H := bi H
    obtain ⟨⟨t658, t659⟩, A340, H⟩ := H
    try dsimp only at H
    have A34 := Aside0.mk A340
    clear A340
    replace H := bi H
    obtain ⟨⟨t664, t665⟩, A350, H⟩ := H
    try dsimp only at H
    have A35 := Aside0.mk A350
    clear A350
    replace H := bi H
    obtain ⟨t669, A360, H⟩ := H
    have A36 := Aside0.mk A360
    clear A360
    by_cases c37 : t669 = 0
    ·rw [if_pos c37] at H
     have c37b0 : (t669 == 0) = true := beq_iff_eq.mpr c37
     have c37b1 : (t669 != 0) = false := bne_eq_false_iff_eq.mpr c37
     clear c37
     replace H := bi H
     obtain ⟨t670, A380, H⟩ := H
     have A38 := Aside0.mk A380
     clear A380
     by_cases c39 : t670 = 0
     ·rw [if_pos c39] at H
      have c39b0 : (t670 == 0) = true := beq_iff_eq.mpr c39
      have c39b1 : (t670 != 0) = false := bne_eq_false_iff_eq.mpr c39
      clear c39
      replace H := bi H
      obtain ⟨t671, A400, H⟩ := H
      have A40 := Aside0.mk A400
      clear A400
      obtain rfl := Option.some.inj H
      try go_wp2
      replace BK649 := Aside0.mk (blk_drew BK649.out)
      replace BK650 := Aside0.mk (blk_drew BK650.out)
      replace BK651 := Aside0.mk (blk_drew BK651.out)
      replace HB := Aside0.mk (below_drew1 HB.out)
      refine start_ (n := 10) (S := fun w' => w'.cell? ⟨gb649, 0, none⟩ = some (.bool a0_0) ∧ w'.cell? ⟨gb649, 1, none⟩ = some (.slice A0_1 l0_1.length c0_1) ∧ w'.cell? ⟨gb651, 0, none⟩ = some (.bool a2_0) ∧ w'.cell? ⟨gb651, 1, none⟩ = some (.slice A2_1 l2_1.length c2_1) ∧ w'.cell? ⟨gb650, 0, none⟩ = some (.bool a1_0) ∧ w'.cell? ⟨gb650, 1, none⟩ = some (.slice A1_1 l1_1.length c1_1)) (ds := []) #[false, false, false, false, false, false, false, false, false, false] (by kernel_rfl) rfl rfl ⟨(blk_cell BK649.out 0).trans rfl, (blk_cell BK649.out 1).trans rfl, (blk_cell BK651.out 0).trans rfl, (blk_cell BK651.out 1).trans rfl, (blk_cell BK650.out 0).trans rfl, (blk_cell BK650.out 1).trans rfl⟩ (fun hHeld => ?_); refine with_tabW whetstonelaw02_BigGcds.tab3 whetstonelaw02_BigGcds.bits3 (fun HT_ HW_ => ?_)
      generalize wc.drew = w41 at BK649 BK650 BK651 HB hHeld ⊢
      refine tW (i := 0) (N := some 37) (bb 10 1) HT_ HW_ hHeld ?_
      refine tW (i := 1) (N := some 38) (bb 10 3) HT_ HW_ hHeld ?_
      refine tW (i := 3) (N := some 40) (bb 10 11) HT_ HW_ hHeld ?_
      refine tW (i := 4) (N := some 41) (bb 10 27) HT_ HW_ hHeld ?_
      refine join_ (σ := Value × Value × Nat × Nat) 2 (bb 10 255) (fun s_ => [(39, .agg #[.bool t654, s_.1]), (42, .agg #[.bool t658, s_.2.1]), (7, .pointer (some ⟨s_.2.2.1, 0, none⟩)), (8, .pointer (some ⟨s_.2.2.2, 0, none⟩))]) (fun s_ w' => (w'.cell? ⟨gb649, 0, none⟩ = some (.bool a0_0) ∧ w'.cell? ⟨gb649, 1, none⟩ = some (.slice A0_1 l0_1.length c0_1) ∧ w'.cell? ⟨gb651, 0, none⟩ = some (.bool a2_0) ∧ w'.cell? ⟨gb651, 1, none⟩ = some (.slice A2_1 l2_1.length c2_1) ∧ w'.cell? ⟨gb650, 0, none⟩ = some (.bool a1_0) ∧ w'.cell? ⟨gb650, 1, none⟩ = some (.slice A1_1 l1_1.length c1_1)) ∧ Aside0 (Kd.R (Kd.int .u32) 87 w' w.heap.size (fun k_ => some k_ ≠ (s_.2.1 : Value).ownBlock) s_.1 t655) ∧ Aside0 (Kd.R (Kd.int .u32) 87 w' w.heap.size (fun k_ => some k_ ≠ (s_.1 : Value).ownBlock) s_.2.1 t659) ∧ Aside0 (w'.heap[gb649]? = some (.cells #[.bool a0_0, .slice A0_1 l0_1.length c0_1] 24 (0, 0))) ∧ Aside0 (w'.heap[gb650]? = some (.cells #[.bool a1_0, .slice A1_1 l1_1.length c1_1] 24 (0, 0))) ∧ Aside0 (w'.heap[gb651]? = some (.cells #[.bool a2_0, .slice A2_1 l2_1.length c2_1] 24 (0, 0))) ∧ Aside0 (w'.heap[s_.2.2.1]? = some (.cells #[.bool false, .slice none 0 0] 24 (0, 0))) ∧ Aside0 (w'.heap[s_.2.2.2]? = some (.cells #[.bool false, .slice none 0 0] 24 (0, 0))) ∧ Aside0 (w.heap.size ≤ s_.2.2.1) ∧ Aside0 (w.heap.size ≤ s_.2.2.1) ∧ Aside0 (gb649 ≠ s_.2.2.1) ∧ Aside0 (s_.2.2.1 ≠ gb649) ∧ Aside0 (gb650 ≠ s_.2.2.1) ∧ Aside0 (s_.2.2.1 ≠ gb650) ∧ Aside0 (gb651 ≠ s_.2.2.1) ∧ Aside0 (s_.2.2.1 ≠ gb651) ∧ Aside0 (s_.2.2.2 ≠ s_.2.2.1) ∧ Aside0 (s_.2.2.1 ≠ s_.2.2.2) ∧ Aside0 (w.heap.size ≤ s_.2.2.2) ∧ Aside0 (w.heap.size ≤ s_.2.2.2) ∧ Aside0 (gb649 ≠ s_.2.2.2) ∧ Aside0 (s_.2.2.2 ≠ gb649) ∧ Aside0 (gb650 ≠ s_.2.2.2) ∧ Aside0 (s_.2.2.2 ≠ gb650) ∧ Aside0 (gb651 ≠ s_.2.2.2) ∧ Aside0 (s_.2.2.2 ≠ gb651) ∧ Aside0 (Below w.heap.size w w')) ?_ ?_
      ·skip
       clear BK649 BK650 BK651 HB
       rintro ⟨v656, v660, gb662, gb663⟩ w46 ⟨hHeld, HO657, HO661, BK649, BK650, BK651, BK662, BK663, GW662, GE662, NB649_662, NB662_649, NB650_662, NB662_650, NB651_662, NB662_651, NB663_662, NB662_663, GW663, GE663, NB649_663, NB663_649, NB650_663, NB663_650, NB651_663, NB663_651, HB⟩
       try dsimp only at hHeld HO657 HO661 BK649 BK650 BK651 BK662 BK663 GW662 GE662 NB649_662 NB662_649 NB650_662 NB662_650 NB651_662 NB662_651 NB663_662 NB662_663 GW663 GE663 NB649_663 NB663_649 NB650_663 NB663_650 NB651_663 NB663_651 HB
       obtain ⟨Ao48, co48, eo48⟩ := Kd.R_slice HO657.out
       (first | subst eo48 | (injection eo48 with f1_ f2_ f3_; have f4_ := f1_.symm; have f5_ := f3_.symm; clear f1_ f2_ f3_; subst f4_; subst f5_))
       obtain ⟨Ao51, co51, eo51⟩ := Kd.R_slice HO661.out
       (first | subst eo51 | (injection eo51 with f1_ f2_ f3_; have f4_ := f1_.symm; have f5_ := f3_.symm; clear f1_ f2_ f3_; subst f4_; subst f5_))
       refine nP ?_
       refine oT (i := 8) (N := none) (bb 10 511) HT_ fun K hK => ?_
       have hs47 := bc BK662 0 (.bool false)
       have hfs47 := blk_frozen BK662.out 0
       have hns47_0 := NB649_662.out
       have hns47_1 := NB650_662.out
       have hns47_2 := NB651_662.out
       have hns47_4 := NB663_662.out
       have hms47_0 := NB662_649.out
       have hms47_1 := NB662_650.out
       have hms47_2 := NB662_651.out
       have hms47_4 := NB662_663.out
       have hs49 := bc BK662 1 (.slice none 0 0)
       have hfs49 := blk_frozen BK662.out 1
       have hns49_0 := NB649_662.out
       have hns49_1 := NB650_662.out
       have hns49_2 := NB651_662.out
       have hns49_4 := NB663_662.out
       have hms49_0 := NB662_649.out
       have hms49_1 := NB662_650.out
       have hms49_2 := NB662_651.out
       have hms49_4 := NB662_663.out
       refine skip_ (w1 := ?_) (by rfl) rfl ?_ ?_
       rotate_left
       ·go_simp
        rfl
       refine hK.out _ _ ⟨((cell_far (p := ⟨gb662, _, none⟩) NB649_662.out _).trans (((cell_far (p := ⟨gb662, _, none⟩) NB649_662.out _).trans (hHeld.1)))), ((cell_far (p := ⟨gb662, _, none⟩) NB649_662.out _).trans (((cell_far (p := ⟨gb662, _, none⟩) NB649_662.out _).trans (hHeld.2.1)))), ((cell_far (p := ⟨gb662, _, none⟩) NB651_662.out _).trans (((cell_far (p := ⟨gb662, _, none⟩) NB651_662.out _).trans (hHeld.2.2.1)))), ((cell_far (p := ⟨gb662, _, none⟩) NB651_662.out _).trans (((cell_far (p := ⟨gb662, _, none⟩) NB651_662.out _).trans (hHeld.2.2.2.1)))), ((cell_far (p := ⟨gb662, _, none⟩) NB650_662.out _).trans (((cell_far (p := ⟨gb662, _, none⟩) NB650_662.out _).trans (hHeld.2.2.2.2.1)))), ((cell_far (p := ⟨gb662, _, none⟩) NB650_662.out _).trans (((cell_far (p := ⟨gb662, _, none⟩) NB650_662.out _).trans (hHeld.2.2.2.2.2))))⟩ (fun hHeld => ?_)
       clear hK K
       refine oT (i := 9) (N := none) (bb 10 1023) HT_ fun K hK => ?_
       have hs50 := bc BK663 0 (.bool false)
       have hfs50 := blk_frozen BK663.out 0
       have hns50_0 := NB649_663.out
       have hns50_1 := NB650_663.out
       have hns50_2 := NB651_663.out
       have hns50_3 := NB662_663.out
       have hms50_0 := NB663_649.out
       have hms50_1 := NB663_650.out
       have hms50_2 := NB663_651.out
       have hms50_3 := NB663_662.out
       have hs52 := bc BK663 1 (.slice none 0 0)
       have hfs52 := blk_frozen BK663.out 1
       have hns52_0 := NB649_663.out
       have hns52_1 := NB650_663.out
       have hns52_2 := NB651_663.out
       have hns52_3 := NB662_663.out
       have hms52_0 := NB663_649.out
       have hms52_1 := NB663_650.out
       have hms52_2 := NB663_651.out
       have hms52_3 := NB663_662.out
       refine skip_ (w1 := ?_) (by rfl) rfl ?_ ?_
       rotate_left
       ·go_simp
        rfl
       refine hK.out _ _ ⟨((cell_far (p := ⟨gb663, _, none⟩) NB649_663.out _).trans (((cell_far (p := ⟨gb663, _, none⟩) NB649_663.out _).trans (hHeld.1)))), ((cell_far (p := ⟨gb663, _, none⟩) NB649_663.out _).trans (((cell_far (p := ⟨gb663, _, none⟩) NB649_663.out _).trans (hHeld.2.1)))), ((cell_far (p := ⟨gb663, _, none⟩) NB651_663.out _).trans (((cell_far (p := ⟨gb663, _, none⟩) NB651_663.out _).trans (hHeld.2.2.1)))), ((cell_far (p := ⟨gb663, _, none⟩) NB651_663.out _).trans (((cell_far (p := ⟨gb663, _, none⟩) NB651_663.out _).trans (hHeld.2.2.2.1)))), ((cell_far (p := ⟨gb663, _, none⟩) NB650_663.out _).trans (((cell_far (p := ⟨gb663, _, none⟩) NB650_663.out _).trans (hHeld.2.2.2.2.1)))), ((cell_far (p := ⟨gb663, _, none⟩) NB650_663.out _).trans (((cell_far (p := ⟨gb663, _, none⟩) NB650_663.out _).trans (hHeld.2.2.2.2.2))))⟩ (fun hHeld => ?_)
       clear hK K
       refine done_ (done_of HT_.out (by kernel_rfl)) ?_
       have hnb53 := NB662_649.out
       have hnc53 := NB649_662.out
       have hnb54 := NB662_650.out
       have hnc54 := NB650_662.out
       have hnb55 := NB662_651.out
       have hnc55 := NB651_662.out
       have hnb56 := NB662_663.out
       have hnc56 := NB663_662.out
       have hcz57_0 := bc BK662 0 (.bool false)
       have hcz57_1 := bc BK662 1 (.slice none 0 0)
       have hfz57_0 := blk_frozen BK662.out 0
       have hfz57_1 := blk_frozen BK662.out 1
       have hnb58 := NB663_649.out
       have hnc58 := NB649_663.out
       have hnb59 := NB663_650.out
       have hnc59 := NB650_663.out
       have hnb60 := NB663_651.out
       have hnc60 := NB651_663.out
       have hcz61_0 := bc BK663 0 (.bool false)
       have hcz61_1 := bc BK663 1 (.slice none 0 0)
       have hfz61_0 := blk_frozen BK663.out 0
       have hfz61_1 := blk_frozen BK663.out 1
       try go_wp2_with (first | ((with_reducible refine gate_callee (f := 42) rfl ?_); refine gL (N := some 45) Try.func42 #[.agg #[.bool t654, .slice Ao48 t655.length co48], .agg #[.bool t658, .slice Ao51 t659.length co51]] ?_; (with_reducible refine (big_Gcd.calls kj3 t654 _ _ t655 t658 _ _ t659 t664 t665 _ ?side1 ?side2 ?side3 ?side4 A35.out).mono ?_); (case side1 => refine (Kd.R_reads' (e := 87) (base := w.heap.size) (ok := fun k_ => some k_ ≠ (.slice Ao51 t659.length co51 : Value).ownBlock) (n := t655.length) (c := co48) ?_).2.2; exact (by (with_reducible repeat first | apply qa | apply qn | apply qd); exact (Kd.R_mono (Kd.R_mono (Kd.R_far (p := ⟨gb663, 1, none⟩) (Kd.R_far (p := ⟨gb663, 0, none⟩) (Kd.R_far (p := ⟨gb662, 1, none⟩) (Kd.R_far (p := ⟨gb662, 0, none⟩) (Kd.R_types (Kd.R_types HO657.out BK662.out (by decide)) BK663.out (by decide)) (fun _ hk => hk.1.2) (.bool t654)) (fun _ hk => hk.1.2) (.slice Ao48 t655.length co48)) (fun _ hk => hk.2) (.bool t658)) (fun _ hk => hk.2) (.slice Ao51 t659.length co51)) (fun _ h_ => h_.1)) (fun _ h_ => h_.1)))); (case side2 => exact (Kd.R_reads' HO657.out).2.1); (case side3 => refine (Kd.R_reads' (e := 87) (base := w.heap.size) (ok := fun k_ => some k_ ≠ (.slice Ao48 t655.length co48 : Value).ownBlock) (n := t659.length) (c := co51) ?_).2.2; exact (by (with_reducible repeat first | apply qa | apply qn | apply qd); exact (Kd.R_mono (Kd.R_mono (Kd.R_far (p := ⟨gb663, 1, none⟩) (Kd.R_far (p := ⟨gb663, 0, none⟩) (Kd.R_far (p := ⟨gb662, 1, none⟩) (Kd.R_far (p := ⟨gb662, 0, none⟩) (Kd.R_types (Kd.R_types HO661.out BK662.out (by decide)) BK663.out (by decide)) (fun _ hk => hk.1.2) (.bool t654)) (fun _ hk => hk.1.2) (.slice Ao48 t655.length co48)) (fun _ hk => hk.2) (.bool t658)) (fun _ hk => hk.2) (.slice Ao51 t659.length co51)) (fun _ h_ => h_.1)) (fun _ h_ => h_.1)))); (case side4 => exact (Kd.R_reads' HO661.out).2.1); rintro e w62 ⟨v666, rfl, ho0, hb⟩; refine ⟨_, rfl, ?_⟩; have HO667 := Aside0.mk (Kd.R_lower (Kd.R_new' (Kd.R_new' ho0 (Kd.R_lt (by (with_reducible repeat first | apply qa | apply qn | apply qd); exact (Kd.R_mono (Kd.R_mono (Kd.R_far (p := ⟨gb663, 1, none⟩) (Kd.R_far (p := ⟨gb663, 0, none⟩) (Kd.R_far (p := ⟨gb662, 1, none⟩) (Kd.R_far (p := ⟨gb662, 0, none⟩) (Kd.R_types (Kd.R_types HO657.out BK662.out (by decide)) BK663.out (by decide)) (fun _ hk => hk.1.2) (.bool t654)) (fun _ hk => hk.1.2) (.slice Ao48 t655.length co48)) (fun _ hk => hk.2) (.bool t658)) (fun _ hk => hk.2) (.slice Ao51 t659.length co51)) (fun _ h_ => h_.1)) (fun _ h_ => h_.1))))) (Kd.R_lt (by (with_reducible repeat first | apply qa | apply qn | apply qd); exact (Kd.R_mono (Kd.R_mono (Kd.R_far (p := ⟨gb663, 1, none⟩) (Kd.R_far (p := ⟨gb663, 0, none⟩) (Kd.R_far (p := ⟨gb662, 1, none⟩) (Kd.R_far (p := ⟨gb662, 0, none⟩) (Kd.R_types (Kd.R_types HO661.out BK662.out (by decide)) BK663.out (by decide)) (fun _ hk => hk.1.2) (.bool t654)) (fun _ hk => hk.1.2) (.slice Ao48 t655.length co48)) (fun _ hk => hk.2) (.bool t658)) (fun _ hk => hk.2) (.slice Ao51 t659.length co51)) (fun _ h_ => h_.1)) (fun _ h_ => h_.1))))) (below_size (tb HB))); replace HO657 := Aside0.mk (Kd.R_elder' (by (with_reducible repeat first | apply qa | apply qn | apply qd); exact (Kd.R_mono (Kd.R_mono (Kd.R_far (p := ⟨gb663, 1, none⟩) (Kd.R_far (p := ⟨gb663, 0, none⟩) (Kd.R_far (p := ⟨gb662, 1, none⟩) (Kd.R_far (p := ⟨gb662, 0, none⟩) (Kd.R_types (Kd.R_types HO657.out BK662.out (by decide)) BK663.out (by decide)) (fun _ hk => hk.1.2) (.bool t654)) (fun _ hk => hk.1.2) (.slice Ao48 t655.length co48)) (fun _ hk => hk.2) (.bool t658)) (fun _ hk => hk.2) (.slice Ao51 t659.length co51)) (fun _ h_ => h_.1)) (fun _ h_ => h_.1))) (Kd.R_base ho0) hb); replace HO661 := Aside0.mk (Kd.R_elder' (by (with_reducible repeat first | apply qa | apply qn | apply qd); exact (Kd.R_mono (Kd.R_mono (Kd.R_far (p := ⟨gb663, 1, none⟩) (Kd.R_far (p := ⟨gb663, 0, none⟩) (Kd.R_far (p := ⟨gb662, 1, none⟩) (Kd.R_far (p := ⟨gb662, 0, none⟩) (Kd.R_types (Kd.R_types HO661.out BK662.out (by decide)) BK663.out (by decide)) (fun _ hk => hk.1.2) (.bool t654)) (fun _ hk => hk.1.2) (.slice Ao48 t655.length co48)) (fun _ hk => hk.2) (.bool t658)) (fun _ hk => hk.2) (.slice Ao51 t659.length co51)) (fun _ h_ => h_.1)) (fun _ h_ => h_.1))) (Kd.R_base ho0) hb); replace BK649 := kb BK649 hb; replace BK650 := kb BK650 hb; replace BK651 := kb BK651 hb; replace BK662 := kb (o' := .cells #[.bool t654, .slice Ao48 t655.length co48] 24 (0, 0)) BK662 hb; replace BK663 := kb (o' := .cells #[.bool t658, .slice Ao51 t659.length co51] 24 (0, 0)) BK663 hb; replace HB := bs HB hb; (try clear hb); (try clear hb2); (try clear hk); (try clear hi); (try clear ho0)) | ((with_reducible refine gate_dst (N := 9) rfl ?_); (try (refine gate_guard (by rfl) ?_; dsimp only)); refine bx (N := 9) #[.bool false, .slice none 0 0] 24 ?_; intro gb668 hg w63 hbox hb; replace HO657 := rb HO657 hb; replace HO661 := rb HO661 hb; replace HO667 := rb HO667 hb; have BK668 := Aside0.mk (hbox); have GW668 := bz hg HB; have GE668 := bz hg HB; replace HB := bs HB hb; have NB649_668 := nl hg BK649; have NB668_649 := ng hg BK649; have NB650_668 := nl hg BK650; have NB668_650 := ng hg BK650; have NB651_668 := nl hg BK651; have NB668_651 := ng hg BK651; have NB662_668 := nl hg BK662; have NB668_662 := ng hg BK662; replace BK662 := kb BK662 hb; have NB663_668 := nl hg BK663; have NB668_663 := ng hg BK663; replace BK663 := kb BK663 hb; clear hb hbox hg; have hnb64 := NB668_649.out; have hnc64 := NB649_668.out; have hnb65 := NB668_650.out; have hnc65 := NB650_668.out; have hnb66 := NB668_651.out; have hnc66 := NB651_668.out; have hnb67 := NB668_662.out; have hnc67 := NB662_668.out; have hnb68 := NB668_663.out; have hnc68 := NB663_668.out; have hcz69_0 := bc BK668 0 (.bool false); have hcz69_1 := bc BK668 1 (.slice none 0 0); have hfz69_0 := blk_frozen BK668.out 0; have hfz69_1 := blk_frozen BK668.out 1; obtain ⟨Ao70, co70, eo70⟩ := Kd.R_slice HO667.out; subst eo70) | ((with_reducible refine gate_callee (f := 26) rfl ?_); refine gL (N := some 47) Try.func26 #[.agg #[.bool t664, .slice Ao70 t665.length co70]] ?_; (with_reducible refine (big_Sign.calls kj3 t664 _ _ t665 t669 _ ?side1 ?side2 A36.out).mono ?_); (case side1 => refine (Kd.R_reads' (e := 87) (base := w.heap.size) (ok := fun k_ => ((True ∧ some k_ ≠ (.slice Ao48 t655.length co48 : Value).ownBlock) ∧ some k_ ≠ (.slice Ao51 t659.length co51 : Value).ownBlock)) (n := t665.length) (c := co70) ?_).2.2; exact (by (with_reducible repeat first | apply qa | apply qn | apply qd); exact (Kd.R_mono (Kd.R_far (p := ⟨gb668, 1, none⟩) (Kd.R_far (p := ⟨gb668, 0, none⟩) (Kd.R_types HO667.out BK668.out (by decide)) (fun _ hk => hk.2) (.bool t664)) (fun _ hk => hk.2) (.slice Ao70 t665.length co70)) (fun _ h_ => h_.1)))); (case side2 => exact (Kd.R_reads' HO667.out).2.1); rintro e w71 ⟨rfl, hb⟩; refine ⟨_, rfl, ?_⟩; replace HO657 := rt HO657 hb; replace HO661 := rt HO661 hb; replace BK662 := kb BK662 hb; replace BK663 := kb BK663 hb; replace HB := bs HB hb; (try clear hb); (try clear hb2); (try clear hk); (try clear hi); have hcz72_0 := bc BK662 0 (.bool t654); have hcz72_1 := bc BK662 1 (.slice Ao48 t655.length co48); have hfz72_0 := blk_frozen BK662.out 0; have hfz72_1 := blk_frozen BK662.out 1) | ((with_reducible refine gate_callee (f := 26) rfl ?_); refine gL (N := some 50) Try.func26 #[.agg #[.bool t654, .slice Ao48 t655.length co48]] ?_; (with_reducible refine (big_Sign.calls kj3 t654 _ _ t655 t670 _ ?side1 ?side2 A38.out).mono ?_); (case side1 => exact tc (Kd.R_reads' HO657.out).2.2); (case side2 => exact (Kd.R_reads' HO657.out).2.1); rintro e w73 ⟨rfl, hb⟩; refine ⟨_, rfl, ?_⟩; replace HO661 := rb HO661 hb; replace BK663 := kb BK663 hb; replace HB := bs HB hb; (try clear hb); (try clear hb2); (try clear hk); (try clear hi); have hcz74_0 := bc BK663 0 (.bool t658); have hcz74_1 := bc BK663 1 (.slice Ao51 t659.length co51); have hfz74_0 := blk_frozen BK663.out 0; have hfz74_1 := blk_frozen BK663.out 1) | (go_at_call 26; (with_reducible refine (big_Sign.calls kj3 t658 _ _ t659 t671 _ ?side1 ?side2 A40.out).mono ?_); (case side1 => exact tc (Kd.R_reads' HO661.out).2.2); (case side2 => exact (Kd.R_reads' HO661.out).2.1); rintro e w75 ⟨rfl, hb⟩; replace HB := bs HB hb; (try clear hb); (try clear hb2); (try clear hk); (try clear hi)))
       go_ret
       exact ⟨by first | rfl | (simp [errW_none, errW_some] <;> rfl) | (simp [*, errW_none, errW_some] <;> rfl), tb HB⟩
      intro hJ2_5_6_7
      refine join_ (σ := Value × Value × Nat) 3 (bb 10 127) (fun s_ => [(39, .agg #[.bool t654, s_.1]), (42, .agg #[.bool t658, s_.2.1]), (7, .pointer (some ⟨s_.2.2, 0, none⟩))]) (fun s_ w' => (w'.cell? ⟨gb649, 0, none⟩ = some (.bool a0_0) ∧ w'.cell? ⟨gb649, 1, none⟩ = some (.slice A0_1 l0_1.length c0_1) ∧ w'.cell? ⟨gb651, 0, none⟩ = some (.bool a2_0) ∧ w'.cell? ⟨gb651, 1, none⟩ = some (.slice A2_1 l2_1.length c2_1) ∧ w'.cell? ⟨gb650, 0, none⟩ = some (.bool a1_0) ∧ w'.cell? ⟨gb650, 1, none⟩ = some (.slice A1_1 l1_1.length c1_1)) ∧ Aside0 (Kd.R (Kd.int .u32) 87 w' w.heap.size (fun k_ => some k_ ≠ (s_.2.1 : Value).ownBlock) s_.1 t655) ∧ Aside0 (Kd.R (Kd.int .u32) 87 w' w.heap.size (fun k_ => some k_ ≠ (s_.1 : Value).ownBlock) s_.2.1 t659) ∧ Aside0 (w'.heap[gb649]? = some (.cells #[.bool a0_0, .slice A0_1 l0_1.length c0_1] 24 (0, 0))) ∧ Aside0 (w'.heap[gb650]? = some (.cells #[.bool a1_0, .slice A1_1 l1_1.length c1_1] 24 (0, 0))) ∧ Aside0 (w'.heap[gb651]? = some (.cells #[.bool a2_0, .slice A2_1 l2_1.length c2_1] 24 (0, 0))) ∧ Aside0 (w'.heap[s_.2.2]? = some (.cells #[.bool false, .slice none 0 0] 24 (0, 0))) ∧ Aside0 (w.heap.size ≤ s_.2.2) ∧ Aside0 (w.heap.size ≤ s_.2.2) ∧ Aside0 (gb649 ≠ s_.2.2) ∧ Aside0 (s_.2.2 ≠ gb649) ∧ Aside0 (gb650 ≠ s_.2.2) ∧ Aside0 (s_.2.2 ≠ gb650) ∧ Aside0 (gb651 ≠ s_.2.2) ∧ Aside0 (s_.2.2 ≠ gb651) ∧ Aside0 (Below w.heap.size w w')) ?_ ?_
      ·skip
       ·skip
        clear BK649 BK650 BK651 HB
        rintro ⟨v656, v660, gb662⟩ w45 ⟨hHeld, HO657, HO661, BK649, BK650, BK651, BK662, GW662, GE662, NB649_662, NB662_649, NB650_662, NB662_650, NB651_662, NB662_651, HB⟩
        try dsimp only at hHeld HO657 HO661 BK649 BK650 BK651 BK662 GW662 GE662 NB649_662 NB662_649 NB650_662 NB662_650 NB651_662 NB662_651 HB
        refine nP ?_
        refine oT (i := 7) (N := some 8) (bb 10 255) HT_ fun K hK => ?_
        refine box_step ?hg (N := 8) ?hd (cs := #[.bool false, .slice none 0 0]) (t := 24) ?hr ?_; (case hd => rfl); (case hg => rfl); (case hr => first | (go_simp; done) | (go_simp; rfl))
        intro gb663 hg w46 hbox hb
        replace HO657 := rb HO657 hb
        replace HO661 := rb HO661 hb
        have BK663 := Aside0.mk (hbox)
        have GW663 := bz hg HB
        have GE663 := bz hg HB
        replace HB := bs HB hb
        have NB649_663 := nl hg BK649
        have NB663_649 := ng hg BK649
        replace BK649 := kb BK649 hb
        have NB650_663 := nl hg BK650
        have NB663_650 := ng hg BK650
        replace BK650 := kb BK650 hb
        have NB651_663 := nl hg BK651
        have NB663_651 := ng hg BK651
        replace BK651 := kb BK651 hb
        have NB662_663 := nl hg BK662
        have NB663_662 := ng hg BK662
        replace BK662 := kb BK662 hb
        clear hb hbox hg
        refine hK.out _ _ held fun hHeld => nT (N := some 8) ?_
        clear hK K
        exact nJ (hJ2_5_6_7 (v656, v660, gb662, gb663) _ ⟨hHeld, ⟨tq HO657⟩, ⟨tq HO661⟩, ⟨tk BK649⟩, ⟨tk BK650⟩, ⟨tk BK651⟩, ⟨tk BK662⟩, ⟨tk BK663⟩, GW662, GE662, NB649_662, NB662_649, NB650_662, NB662_650, NB651_662, NB662_651, NB663_662, NB662_663, GW663, GE663, NB649_663, NB663_649, NB650_663, NB663_650, NB651_663, NB663_651, ⟨tb HB⟩⟩)
      intro hJ2_5_6
      refine join_ (σ := Value × Value × Nat) 3 (bb 10 191) (fun s_ => [(39, .agg #[.bool t654, s_.1]), (42, .agg #[.bool t658, s_.2.1]), (8, .pointer (some ⟨s_.2.2, 0, none⟩))]) (fun s_ w' => (w'.cell? ⟨gb649, 0, none⟩ = some (.bool a0_0) ∧ w'.cell? ⟨gb649, 1, none⟩ = some (.slice A0_1 l0_1.length c0_1) ∧ w'.cell? ⟨gb651, 0, none⟩ = some (.bool a2_0) ∧ w'.cell? ⟨gb651, 1, none⟩ = some (.slice A2_1 l2_1.length c2_1) ∧ w'.cell? ⟨gb650, 0, none⟩ = some (.bool a1_0) ∧ w'.cell? ⟨gb650, 1, none⟩ = some (.slice A1_1 l1_1.length c1_1)) ∧ Aside0 (Kd.R (Kd.int .u32) 87 w' w.heap.size (fun k_ => some k_ ≠ (s_.2.1 : Value).ownBlock) s_.1 t655) ∧ Aside0 (Kd.R (Kd.int .u32) 87 w' w.heap.size (fun k_ => some k_ ≠ (s_.1 : Value).ownBlock) s_.2.1 t659) ∧ Aside0 (w'.heap[gb649]? = some (.cells #[.bool a0_0, .slice A0_1 l0_1.length c0_1] 24 (0, 0))) ∧ Aside0 (w'.heap[gb650]? = some (.cells #[.bool a1_0, .slice A1_1 l1_1.length c1_1] 24 (0, 0))) ∧ Aside0 (w'.heap[gb651]? = some (.cells #[.bool a2_0, .slice A2_1 l2_1.length c2_1] 24 (0, 0))) ∧ Aside0 (w'.heap[s_.2.2]? = some (.cells #[.bool false, .slice none 0 0] 24 (0, 0))) ∧ Aside0 (w.heap.size ≤ s_.2.2) ∧ Aside0 (w.heap.size ≤ s_.2.2) ∧ Aside0 (gb649 ≠ s_.2.2) ∧ Aside0 (s_.2.2 ≠ gb649) ∧ Aside0 (gb650 ≠ s_.2.2) ∧ Aside0 (s_.2.2 ≠ gb650) ∧ Aside0 (gb651 ≠ s_.2.2) ∧ Aside0 (s_.2.2 ≠ gb651) ∧ Aside0 (Below w.heap.size w w')) ?_ ?_
      ·skip
       ·skip
        clear BK649 BK650 BK651 HB
        rintro ⟨v656, v660, gb663⟩ w45 ⟨hHeld, HO657, HO661, BK649, BK650, BK651, BK663, GW663, GE663, NB649_663, NB663_649, NB650_663, NB663_650, NB651_663, NB663_651, HB⟩
        try dsimp only at hHeld HO657 HO661 BK649 BK650 BK651 BK663 GW663 GE663 NB649_663 NB663_649 NB650_663 NB663_650 NB651_663 NB663_651 HB
        refine nP ?_
        refine oT (i := 6) (N := some 7) (bb 10 255) HT_ fun K hK => ?_
        refine box_step ?hg (N := 7) ?hd (cs := #[.bool false, .slice none 0 0]) (t := 24) ?hr ?_; (case hd => rfl); (case hg => rfl); (case hr => first | (go_simp; done) | (go_simp; rfl))
        intro gb662 hg w46 hbox hb
        replace HO657 := rb HO657 hb
        replace HO661 := rb HO661 hb
        have BK662 := Aside0.mk (hbox)
        have GW662 := bz hg HB
        have GE662 := bz hg HB
        replace HB := bs HB hb
        have NB649_662 := nl hg BK649
        have NB662_649 := ng hg BK649
        replace BK649 := kb BK649 hb
        have NB650_662 := nl hg BK650
        have NB662_650 := ng hg BK650
        replace BK650 := kb BK650 hb
        have NB651_662 := nl hg BK651
        have NB662_651 := ng hg BK651
        replace BK651 := kb BK651 hb
        have NB663_662 := nl hg BK663
        have NB662_663 := ng hg BK663
        replace BK663 := kb BK663 hb
        clear hb hbox hg
        refine hK.out _ _ held fun hHeld => nT (N := some 7) ?_
        clear hK K
        exact nJ (hJ2_5_6_7 (v656, v660, gb662, gb663) _ ⟨hHeld, ⟨tq HO657⟩, ⟨tq HO661⟩, ⟨tk BK649⟩, ⟨tk BK650⟩, ⟨tk BK651⟩, ⟨tk BK662⟩, ⟨tk BK663⟩, GW662, GE662, NB649_662, NB662_649, NB650_662, NB662_650, NB651_662, NB662_651, NB663_662, NB662_663, GW663, GE663, NB649_663, NB663_649, NB650_663, NB663_650, NB651_663, NB663_651, ⟨tb HB⟩⟩)
      intro hJ2_5_7
      refine join_ (σ := Value × Nat × Nat) 3 (bb 10 223) (fun s_ => [(39, .agg #[.bool t654, s_.1]), (7, .pointer (some ⟨s_.2.1, 0, none⟩)), (8, .pointer (some ⟨s_.2.2, 0, none⟩))]) (fun s_ w' => (w'.cell? ⟨gb649, 0, none⟩ = some (.bool a0_0) ∧ w'.cell? ⟨gb649, 1, none⟩ = some (.slice A0_1 l0_1.length c0_1) ∧ w'.cell? ⟨gb651, 0, none⟩ = some (.bool a2_0) ∧ w'.cell? ⟨gb651, 1, none⟩ = some (.slice A2_1 l2_1.length c2_1) ∧ w'.cell? ⟨gb650, 0, none⟩ = some (.bool a1_0) ∧ w'.cell? ⟨gb650, 1, none⟩ = some (.slice A1_1 l1_1.length c1_1)) ∧ Aside0 (Kd.R (Kd.int .u32) 87 w' w.heap.size (fun _ => True) s_.1 t655) ∧ Aside0 (w'.heap[gb649]? = some (.cells #[.bool a0_0, .slice A0_1 l0_1.length c0_1] 24 (0, 0))) ∧ Aside0 (w'.heap[gb650]? = some (.cells #[.bool a1_0, .slice A1_1 l1_1.length c1_1] 24 (0, 0))) ∧ Aside0 (w'.heap[gb651]? = some (.cells #[.bool a2_0, .slice A2_1 l2_1.length c2_1] 24 (0, 0))) ∧ Aside0 (w'.heap[s_.2.1]? = some (.cells #[.bool false, .slice none 0 0] 24 (0, 0))) ∧ Aside0 (w'.heap[s_.2.2]? = some (.cells #[.bool false, .slice none 0 0] 24 (0, 0))) ∧ Aside0 (w.heap.size ≤ s_.2.1) ∧ Aside0 (w.heap.size ≤ s_.2.1) ∧ Aside0 (gb649 ≠ s_.2.1) ∧ Aside0 (s_.2.1 ≠ gb649) ∧ Aside0 (gb650 ≠ s_.2.1) ∧ Aside0 (s_.2.1 ≠ gb650) ∧ Aside0 (gb651 ≠ s_.2.1) ∧ Aside0 (s_.2.1 ≠ gb651) ∧ Aside0 (s_.2.2 ≠ s_.2.1) ∧ Aside0 (s_.2.1 ≠ s_.2.2) ∧ Aside0 (w.heap.size ≤ s_.2.2) ∧ Aside0 (w.heap.size ≤ s_.2.2) ∧ Aside0 (gb649 ≠ s_.2.2) ∧ Aside0 (s_.2.2 ≠ gb649) ∧ Aside0 (gb650 ≠ s_.2.2) ∧ Aside0 (s_.2.2 ≠ gb650) ∧ Aside0 (gb651 ≠ s_.2.2) ∧ Aside0 (s_.2.2 ≠ gb651) ∧ Aside0 (Below w.heap.size w w')) ?_ ?_
      ·skip
       ·skip
        clear BK649 BK650 BK651 HB
        rintro ⟨v656, gb662, gb663⟩ w45 ⟨hHeld, HO657, BK649, BK650, BK651, BK662, BK663, GW662, GE662, NB649_662, NB662_649, NB650_662, NB662_650, NB651_662, NB662_651, NB663_662, NB662_663, GW663, GE663, NB649_663, NB663_649, NB650_663, NB663_650, NB651_663, NB663_651, HB⟩
        try dsimp only at hHeld HO657 BK649 BK650 BK651 BK662 BK663 GW662 GE662 NB649_662 NB662_649 NB650_662 NB662_650 NB651_662 NB662_651 NB663_662 NB662_663 GW663 GE663 NB649_663 NB663_649 NB650_663 NB663_650 NB651_663 NB663_651 HB
        refine nP ?_
        refine oT (i := 5) (N := some 42) (bb 10 255) HT_ fun K hK => ?_
        refine gS Try.func39 #[.agg #[.bool a1_0, .slice A1_1 l1_1.length c1_1], .agg #[.bool a2_0, .slice A2_1 l2_1.length c2_1]] ?_
        with_reducible refine (big_Mul.calls kj3 a1_0 _ _ l1_1 a2_0 _ _ l2_1 t658 t659 _ ?side1 ?side2 ?side3 ?side4 A34.out).mono ?_
        (case side1 => exact tc (Kd.C_below HR1_1.out HB.out))
        (case side2 => exact HC1_1.out)
        (case side3 => exact tc (Kd.C_below HR2_1.out HB.out))
        (case side4 => exact HC2_1.out)
        rintro e w46 ⟨v660, rfl, ho0, hb⟩
        refine ⟨_, rfl, ?_⟩
        have HO661 := Aside0.mk (Kd.R_lower (Kd.R_new' ho0 (Kd.R_lt (tq HO657))) (below_size (tb HB)))
        replace HO657 := re HO657 (Kd.R_base ho0) hb
        replace BK649 := kb BK649 hb
        replace BK650 := kb BK650 hb
        replace BK651 := kb BK651 hb
        replace BK662 := kb BK662 hb
        replace BK663 := kb BK663 hb
        replace HB := bs HB hb
        (try clear hb); (try clear hb2); (try clear hk); (try clear hi); (try clear ho0)
        refine hK.out _ _ held fun hHeld => nT (N := some 42) ?_
        clear hK K
        exact nJ (hJ2_5_6_7 (v656, v660, gb662, gb663) _ ⟨hHeld, ⟨by (with_reducible repeat first | apply qa | apply qn | apply qd); exact Kd.R_mono HO657.out (fun _ hk => hk.2)⟩, ⟨by (with_reducible repeat first | apply qa | apply qn | apply qd); exact Kd.R_mono HO661.out (fun _ hk => hk.2)⟩, ⟨tk BK649⟩, ⟨tk BK650⟩, ⟨tk BK651⟩, ⟨tk BK662⟩, ⟨tk BK663⟩, GW662, GE662, NB649_662, NB662_649, NB650_662, NB662_650, NB651_662, NB662_651, NB663_662, NB662_663, GW663, GE663, NB649_663, NB663_649, NB650_663, NB663_650, NB651_663, NB663_651, ⟨tb HB⟩⟩)
      intro hJ2_6_7
      refine join_ (σ := Value × Value) 4 (bb 10 63) (fun s_ => [(39, .agg #[.bool t654, s_.1]), (42, .agg #[.bool t658, s_.2])]) (fun s_ w' => (w'.cell? ⟨gb649, 0, none⟩ = some (.bool a0_0) ∧ w'.cell? ⟨gb649, 1, none⟩ = some (.slice A0_1 l0_1.length c0_1) ∧ w'.cell? ⟨gb651, 0, none⟩ = some (.bool a2_0) ∧ w'.cell? ⟨gb651, 1, none⟩ = some (.slice A2_1 l2_1.length c2_1) ∧ w'.cell? ⟨gb650, 0, none⟩ = some (.bool a1_0) ∧ w'.cell? ⟨gb650, 1, none⟩ = some (.slice A1_1 l1_1.length c1_1)) ∧ Aside0 (Kd.R (Kd.int .u32) 87 w' w.heap.size (fun k_ => some k_ ≠ (s_.2 : Value).ownBlock) s_.1 t655) ∧ Aside0 (Kd.R (Kd.int .u32) 87 w' w.heap.size (fun k_ => some k_ ≠ (s_.1 : Value).ownBlock) s_.2 t659) ∧ Aside0 (w'.heap[gb649]? = some (.cells #[.bool a0_0, .slice A0_1 l0_1.length c0_1] 24 (0, 0))) ∧ Aside0 (w'.heap[gb650]? = some (.cells #[.bool a1_0, .slice A1_1 l1_1.length c1_1] 24 (0, 0))) ∧ Aside0 (w'.heap[gb651]? = some (.cells #[.bool a2_0, .slice A2_1 l2_1.length c2_1] 24 (0, 0))) ∧ Aside0 (Below w.heap.size w w')) ?_ ?_
      ·skip
       ·skip
        clear BK649 BK650 BK651 HB
        rintro ⟨v656, v660⟩ w44 ⟨hHeld, HO657, HO661, BK649, BK650, BK651, HB⟩
        try dsimp only at hHeld HO657 HO661 BK649 BK650 BK651 HB
        refine nP ?_
        refine two_ (i := 6) (j := 7) (Ni := some 7) (Nj := some 8) (bb 10 127) (bb 10 191) rfl rfl rfl rfl (two_of HT_.out (by kernel_rfl)) (by decide) (by decide) (fun K hK => ?_) (fun K hK => ?_)
        ·skip
         refine box_step ?hg (N := 7) ?hd (cs := #[.bool false, .slice none 0 0]) (t := 24) ?hr ?_; (case hd => rfl); (case hg => rfl); (case hr => first | (go_simp; done) | (go_simp; rfl))
         intro gb662 hg w45 hbox hb
         replace HO657 := rb HO657 hb
         replace HO661 := rb HO661 hb
         have BK662 := Aside0.mk (hbox)
         have GW662 := bz hg HB
         have GE662 := bz hg HB
         replace HB := bs HB hb
         have NB649_662 := nl hg BK649
         have NB662_649 := ng hg BK649
         replace BK649 := kb BK649 hb
         have NB650_662 := nl hg BK650
         have NB662_650 := ng hg BK650
         replace BK650 := kb BK650 hb
         have NB651_662 := nl hg BK651
         have NB662_651 := ng hg BK651
         replace BK651 := kb BK651 hb
         clear hb hbox hg
         refine hK.out _ _ held fun hHeld => nT (N := some 7) ?_
         clear hK K
         exact nJ (hJ2_5_6 (v656, v660, gb662) _ ⟨hHeld, ⟨tq HO657⟩, ⟨tq HO661⟩, ⟨tk BK649⟩, ⟨tk BK650⟩, ⟨tk BK651⟩, ⟨tk BK662⟩, GW662, GE662, NB649_662, NB662_649, NB650_662, NB662_650, NB651_662, NB662_651, ⟨tb HB⟩⟩)
        ·skip
         refine box_step ?hg (N := 8) ?hd (cs := #[.bool false, .slice none 0 0]) (t := 24) ?hr ?_; (case hd => rfl); (case hg => rfl); (case hr => first | (go_simp; done) | (go_simp; rfl))
         intro gb663 hg w45 hbox hb
         replace HO657 := rb HO657 hb
         replace HO661 := rb HO661 hb
         have BK663 := Aside0.mk (hbox)
         have GW663 := bz hg HB
         have GE663 := bz hg HB
         replace HB := bs HB hb
         have NB649_663 := nl hg BK649
         have NB663_649 := ng hg BK649
         replace BK649 := kb BK649 hb
         have NB650_663 := nl hg BK650
         have NB663_650 := ng hg BK650
         replace BK650 := kb BK650 hb
         have NB651_663 := nl hg BK651
         have NB663_651 := ng hg BK651
         replace BK651 := kb BK651 hb
         clear hb hbox hg
         refine hK.out _ _ held fun hHeld => nT (N := some 8) ?_
         clear hK K
         exact nJ (hJ2_5_7 (v656, v660, gb663) _ ⟨hHeld, ⟨tq HO657⟩, ⟨tq HO661⟩, ⟨tk BK649⟩, ⟨tk BK650⟩, ⟨tk BK651⟩, ⟨tk BK663⟩, GW663, GE663, NB649_663, NB663_649, NB650_663, NB663_650, NB651_663, NB663_651, ⟨tb HB⟩⟩)
      intro hJ2_5
      refine join_ (σ := Value × Nat) 4 (bb 10 95) (fun s_ => [(39, .agg #[.bool t654, s_.1]), (7, .pointer (some ⟨s_.2, 0, none⟩))]) (fun s_ w' => (w'.cell? ⟨gb649, 0, none⟩ = some (.bool a0_0) ∧ w'.cell? ⟨gb649, 1, none⟩ = some (.slice A0_1 l0_1.length c0_1) ∧ w'.cell? ⟨gb651, 0, none⟩ = some (.bool a2_0) ∧ w'.cell? ⟨gb651, 1, none⟩ = some (.slice A2_1 l2_1.length c2_1) ∧ w'.cell? ⟨gb650, 0, none⟩ = some (.bool a1_0) ∧ w'.cell? ⟨gb650, 1, none⟩ = some (.slice A1_1 l1_1.length c1_1)) ∧ Aside0 (Kd.R (Kd.int .u32) 87 w' w.heap.size (fun _ => True) s_.1 t655) ∧ Aside0 (w'.heap[gb649]? = some (.cells #[.bool a0_0, .slice A0_1 l0_1.length c0_1] 24 (0, 0))) ∧ Aside0 (w'.heap[gb650]? = some (.cells #[.bool a1_0, .slice A1_1 l1_1.length c1_1] 24 (0, 0))) ∧ Aside0 (w'.heap[gb651]? = some (.cells #[.bool a2_0, .slice A2_1 l2_1.length c2_1] 24 (0, 0))) ∧ Aside0 (w'.heap[s_.2]? = some (.cells #[.bool false, .slice none 0 0] 24 (0, 0))) ∧ Aside0 (w.heap.size ≤ s_.2) ∧ Aside0 (w.heap.size ≤ s_.2) ∧ Aside0 (gb649 ≠ s_.2) ∧ Aside0 (s_.2 ≠ gb649) ∧ Aside0 (gb650 ≠ s_.2) ∧ Aside0 (s_.2 ≠ gb650) ∧ Aside0 (gb651 ≠ s_.2) ∧ Aside0 (s_.2 ≠ gb651) ∧ Aside0 (Below w.heap.size w w')) ?_ ?_
      ·skip
       ·skip
        clear BK649 BK650 BK651 HB
        rintro ⟨v656, gb662⟩ w44 ⟨hHeld, HO657, BK649, BK650, BK651, BK662, GW662, GE662, NB649_662, NB662_649, NB650_662, NB662_650, NB651_662, NB662_651, HB⟩
        try dsimp only at hHeld HO657 BK649 BK650 BK651 BK662 GW662 GE662 NB649_662 NB662_649 NB650_662 NB662_650 NB651_662 NB662_651 HB
        refine nP ?_
        refine two_ (i := 5) (j := 7) (Ni := some 42) (Nj := some 8) (bb 10 127) (bb 10 223) rfl rfl rfl rfl (two_of HT_.out (by kernel_rfl)) (by decide) (by decide) (fun K hK => ?_) (fun K hK => ?_)
        ·skip
         refine gS Try.func39 #[.agg #[.bool a1_0, .slice A1_1 l1_1.length c1_1], .agg #[.bool a2_0, .slice A2_1 l2_1.length c2_1]] ?_
         with_reducible refine (big_Mul.calls kj3 a1_0 _ _ l1_1 a2_0 _ _ l2_1 t658 t659 _ ?side1 ?side2 ?side3 ?side4 A34.out).mono ?_
         (case side1 => exact tc (Kd.C_below HR1_1.out HB.out))
         (case side2 => exact HC1_1.out)
         (case side3 => exact tc (Kd.C_below HR2_1.out HB.out))
         (case side4 => exact HC2_1.out)
         rintro e w45 ⟨v660, rfl, ho0, hb⟩
         refine ⟨_, rfl, ?_⟩
         have HO661 := Aside0.mk (Kd.R_lower (Kd.R_new' ho0 (Kd.R_lt (tq HO657))) (below_size (tb HB)))
         replace HO657 := re HO657 (Kd.R_base ho0) hb
         replace BK649 := kb BK649 hb
         replace BK650 := kb BK650 hb
         replace BK651 := kb BK651 hb
         replace BK662 := kb BK662 hb
         replace HB := bs HB hb
         (try clear hb); (try clear hb2); (try clear hk); (try clear hi); (try clear ho0)
         refine hK.out _ _ held fun hHeld => nT (N := some 42) ?_
         clear hK K
         exact nJ (hJ2_5_6 (v656, v660, gb662) _ ⟨hHeld, ⟨by (with_reducible repeat first | apply qa | apply qn | apply qd); exact Kd.R_mono HO657.out (fun _ hk => hk.2)⟩, ⟨by (with_reducible repeat first | apply qa | apply qn | apply qd); exact Kd.R_mono HO661.out (fun _ hk => hk.2)⟩, ⟨tk BK649⟩, ⟨tk BK650⟩, ⟨tk BK651⟩, ⟨tk BK662⟩, GW662, GE662, NB649_662, NB662_649, NB650_662, NB662_650, NB651_662, NB662_651, ⟨tb HB⟩⟩)
        ·skip
         refine box_step ?hg (N := 8) ?hd (cs := #[.bool false, .slice none 0 0]) (t := 24) ?hr ?_; (case hd => rfl); (case hg => rfl); (case hr => first | (go_simp; done) | (go_simp; rfl))
         intro gb663 hg w45 hbox hb
         replace HO657 := rb HO657 hb
         have BK663 := Aside0.mk (hbox)
         have GW663 := bz hg HB
         have GE663 := bz hg HB
         replace HB := bs HB hb
         have NB649_663 := nl hg BK649
         have NB663_649 := ng hg BK649
         replace BK649 := kb BK649 hb
         have NB650_663 := nl hg BK650
         have NB663_650 := ng hg BK650
         replace BK650 := kb BK650 hb
         have NB651_663 := nl hg BK651
         have NB663_651 := ng hg BK651
         replace BK651 := kb BK651 hb
         have NB662_663 := nl hg BK662
         have NB663_662 := ng hg BK662
         replace BK662 := kb BK662 hb
         clear hb hbox hg
         refine hK.out _ _ held fun hHeld => nT (N := some 8) ?_
         clear hK K
         exact nJ (hJ2_6_7 (v656, gb662, gb663) _ ⟨hHeld, ⟨tq HO657⟩, ⟨tk BK649⟩, ⟨tk BK650⟩, ⟨tk BK651⟩, ⟨tk BK662⟩, ⟨tk BK663⟩, GW662, GE662, NB649_662, NB662_649, NB650_662, NB662_650, NB651_662, NB662_651, NB663_662, NB662_663, GW663, GE663, NB649_663, NB663_649, NB650_663, NB663_650, NB651_663, NB663_651, ⟨tb HB⟩⟩)
      intro hJ2_6
      refine join_ (σ := Value × Nat) 4 (bb 10 159) (fun s_ => [(39, .agg #[.bool t654, s_.1]), (8, .pointer (some ⟨s_.2, 0, none⟩))]) (fun s_ w' => (w'.cell? ⟨gb649, 0, none⟩ = some (.bool a0_0) ∧ w'.cell? ⟨gb649, 1, none⟩ = some (.slice A0_1 l0_1.length c0_1) ∧ w'.cell? ⟨gb651, 0, none⟩ = some (.bool a2_0) ∧ w'.cell? ⟨gb651, 1, none⟩ = some (.slice A2_1 l2_1.length c2_1) ∧ w'.cell? ⟨gb650, 0, none⟩ = some (.bool a1_0) ∧ w'.cell? ⟨gb650, 1, none⟩ = some (.slice A1_1 l1_1.length c1_1)) ∧ Aside0 (Kd.R (Kd.int .u32) 87 w' w.heap.size (fun _ => True) s_.1 t655) ∧ Aside0 (w'.heap[gb649]? = some (.cells #[.bool a0_0, .slice A0_1 l0_1.length c0_1] 24 (0, 0))) ∧ Aside0 (w'.heap[gb650]? = some (.cells #[.bool a1_0, .slice A1_1 l1_1.length c1_1] 24 (0, 0))) ∧ Aside0 (w'.heap[gb651]? = some (.cells #[.bool a2_0, .slice A2_1 l2_1.length c2_1] 24 (0, 0))) ∧ Aside0 (w'.heap[s_.2]? = some (.cells #[.bool false, .slice none 0 0] 24 (0, 0))) ∧ Aside0 (w.heap.size ≤ s_.2) ∧ Aside0 (w.heap.size ≤ s_.2) ∧ Aside0 (gb649 ≠ s_.2) ∧ Aside0 (s_.2 ≠ gb649) ∧ Aside0 (gb650 ≠ s_.2) ∧ Aside0 (s_.2 ≠ gb650) ∧ Aside0 (gb651 ≠ s_.2) ∧ Aside0 (s_.2 ≠ gb651) ∧ Aside0 (Below w.heap.size w w')) ?_ ?_
      ·skip
       ·skip
        clear BK649 BK650 BK651 HB
        rintro ⟨v656, gb663⟩ w44 ⟨hHeld, HO657, BK649, BK650, BK651, BK663, GW663, GE663, NB649_663, NB663_649, NB650_663, NB663_650, NB651_663, NB663_651, HB⟩
        try dsimp only at hHeld HO657 BK649 BK650 BK651 BK663 GW663 GE663 NB649_663 NB663_649 NB650_663 NB663_650 NB651_663 NB663_651 HB
        refine nP ?_
        refine two_ (i := 5) (j := 6) (Ni := some 42) (Nj := some 7) (bb 10 191) (bb 10 223) rfl rfl rfl rfl (two_of HT_.out (by kernel_rfl)) (by decide) (by decide) (fun K hK => ?_) (fun K hK => ?_)
        ·skip
         refine gS Try.func39 #[.agg #[.bool a1_0, .slice A1_1 l1_1.length c1_1], .agg #[.bool a2_0, .slice A2_1 l2_1.length c2_1]] ?_
         with_reducible refine (big_Mul.calls kj3 a1_0 _ _ l1_1 a2_0 _ _ l2_1 t658 t659 _ ?side1 ?side2 ?side3 ?side4 A34.out).mono ?_
         (case side1 => exact tc (Kd.C_below HR1_1.out HB.out))
         (case side2 => exact HC1_1.out)
         (case side3 => exact tc (Kd.C_below HR2_1.out HB.out))
         (case side4 => exact HC2_1.out)
         rintro e w45 ⟨v660, rfl, ho0, hb⟩
         refine ⟨_, rfl, ?_⟩
         have HO661 := Aside0.mk (Kd.R_lower (Kd.R_new' ho0 (Kd.R_lt (tq HO657))) (below_size (tb HB)))
         replace HO657 := re HO657 (Kd.R_base ho0) hb
         replace BK649 := kb BK649 hb
         replace BK650 := kb BK650 hb
         replace BK651 := kb BK651 hb
         replace BK663 := kb BK663 hb
         replace HB := bs HB hb
         (try clear hb); (try clear hb2); (try clear hk); (try clear hi); (try clear ho0)
         refine hK.out _ _ held fun hHeld => nT (N := some 42) ?_
         clear hK K
         exact nJ (hJ2_5_7 (v656, v660, gb663) _ ⟨hHeld, ⟨by (with_reducible repeat first | apply qa | apply qn | apply qd); exact Kd.R_mono HO657.out (fun _ hk => hk.2)⟩, ⟨by (with_reducible repeat first | apply qa | apply qn | apply qd); exact Kd.R_mono HO661.out (fun _ hk => hk.2)⟩, ⟨tk BK649⟩, ⟨tk BK650⟩, ⟨tk BK651⟩, ⟨tk BK663⟩, GW663, GE663, NB649_663, NB663_649, NB650_663, NB663_650, NB651_663, NB663_651, ⟨tb HB⟩⟩)
        ·skip
         refine box_step ?hg (N := 7) ?hd (cs := #[.bool false, .slice none 0 0]) (t := 24) ?hr ?_; (case hd => rfl); (case hg => rfl); (case hr => first | (go_simp; done) | (go_simp; rfl))
         intro gb662 hg w45 hbox hb
         replace HO657 := rb HO657 hb
         have BK662 := Aside0.mk (hbox)
         have GW662 := bz hg HB
         have GE662 := bz hg HB
         replace HB := bs HB hb
         have NB649_662 := nl hg BK649
         have NB662_649 := ng hg BK649
         replace BK649 := kb BK649 hb
         have NB650_662 := nl hg BK650
         have NB662_650 := ng hg BK650
         replace BK650 := kb BK650 hb
         have NB651_662 := nl hg BK651
         have NB662_651 := ng hg BK651
         replace BK651 := kb BK651 hb
         have NB663_662 := nl hg BK663
         have NB662_663 := ng hg BK663
         replace BK663 := kb BK663 hb
         clear hb hbox hg
         refine hK.out _ _ held fun hHeld => nT (N := some 7) ?_
         clear hK K
         exact nJ (hJ2_6_7 (v656, gb662, gb663) _ ⟨hHeld, ⟨tq HO657⟩, ⟨tk BK649⟩, ⟨tk BK650⟩, ⟨tk BK651⟩, ⟨tk BK662⟩, ⟨tk BK663⟩, GW662, GE662, NB649_662, NB662_649, NB650_662, NB662_650, NB651_662, NB662_651, NB663_662, NB662_663, GW663, GE663, NB649_663, NB663_649, NB650_663, NB663_650, NB651_663, NB663_651, ⟨tb HB⟩⟩)
      intro hJ2_7
      refine join_ (σ := Nat × Nat) 4 (bb 10 219) (fun s_ => [(7, .pointer (some ⟨s_.1, 0, none⟩)), (8, .pointer (some ⟨s_.2, 0, none⟩))]) (fun s_ w' => (w'.cell? ⟨gb649, 0, none⟩ = some (.bool a0_0) ∧ w'.cell? ⟨gb649, 1, none⟩ = some (.slice A0_1 l0_1.length c0_1) ∧ w'.cell? ⟨gb651, 0, none⟩ = some (.bool a2_0) ∧ w'.cell? ⟨gb651, 1, none⟩ = some (.slice A2_1 l2_1.length c2_1) ∧ w'.cell? ⟨gb650, 0, none⟩ = some (.bool a1_0) ∧ w'.cell? ⟨gb650, 1, none⟩ = some (.slice A1_1 l1_1.length c1_1)) ∧ Aside0 (w'.heap[gb649]? = some (.cells #[.bool a0_0, .slice A0_1 l0_1.length c0_1] 24 (0, 0))) ∧ Aside0 (w'.heap[gb650]? = some (.cells #[.bool a1_0, .slice A1_1 l1_1.length c1_1] 24 (0, 0))) ∧ Aside0 (w'.heap[gb651]? = some (.cells #[.bool a2_0, .slice A2_1 l2_1.length c2_1] 24 (0, 0))) ∧ Aside0 (w'.heap[s_.1]? = some (.cells #[.bool false, .slice none 0 0] 24 (0, 0))) ∧ Aside0 (w'.heap[s_.2]? = some (.cells #[.bool false, .slice none 0 0] 24 (0, 0))) ∧ Aside0 (w.heap.size ≤ s_.1) ∧ Aside0 (w.heap.size ≤ s_.1) ∧ Aside0 (gb649 ≠ s_.1) ∧ Aside0 (s_.1 ≠ gb649) ∧ Aside0 (gb650 ≠ s_.1) ∧ Aside0 (s_.1 ≠ gb650) ∧ Aside0 (gb651 ≠ s_.1) ∧ Aside0 (s_.1 ≠ gb651) ∧ Aside0 (s_.2 ≠ s_.1) ∧ Aside0 (s_.1 ≠ s_.2) ∧ Aside0 (w.heap.size ≤ s_.2) ∧ Aside0 (w.heap.size ≤ s_.2) ∧ Aside0 (gb649 ≠ s_.2) ∧ Aside0 (s_.2 ≠ gb649) ∧ Aside0 (gb650 ≠ s_.2) ∧ Aside0 (s_.2 ≠ gb650) ∧ Aside0 (gb651 ≠ s_.2) ∧ Aside0 (s_.2 ≠ gb651) ∧ Aside0 (Below w.heap.size w w')) ?_ ?_
      ·skip
       ·skip
        clear BK649 BK650 BK651 HB
        rintro ⟨gb662, gb663⟩ w44 ⟨hHeld, BK649, BK650, BK651, BK662, BK663, GW662, GE662, NB649_662, NB662_649, NB650_662, NB662_650, NB651_662, NB662_651, NB663_662, NB662_663, GW663, GE663, NB649_663, NB663_649, NB650_663, NB663_650, NB651_663, NB663_651, HB⟩
        try dsimp only at hHeld BK649 BK650 BK651 BK662 BK663 GW662 GE662 NB649_662 NB662_649 NB650_662 NB662_650 NB651_662 NB662_651 NB663_662 NB662_663 GW663 GE663 NB649_663 NB663_649 NB650_663 NB663_650 NB651_663 NB663_651 HB
        refine nP ?_
        refine oT (i := 2) (N := some 39) (bb 10 223) HT_ fun K hK => ?_
        refine gS Try.func39 #[.agg #[.bool a0_0, .slice A0_1 l0_1.length c0_1], .agg #[.bool a2_0, .slice A2_1 l2_1.length c2_1]] ?_
        with_reducible refine (big_Mul.calls kj3 a0_0 _ _ l0_1 a2_0 _ _ l2_1 t654 t655 _ ?side1 ?side2 ?side3 ?side4 A33.out).mono ?_
        (case side1 => exact tc (Kd.C_below HR0_1.out HB.out))
        (case side2 => exact HC0_1.out)
        (case side3 => exact tc (Kd.C_below HR2_1.out HB.out))
        (case side4 => exact HC2_1.out)
        rintro e w45 ⟨v656, rfl, ho0, hb⟩
        refine ⟨_, rfl, ?_⟩
        have HO657 := rl ho0 HB
        replace BK649 := kb BK649 hb
        replace BK650 := kb BK650 hb
        replace BK651 := kb BK651 hb
        replace BK662 := kb BK662 hb
        replace BK663 := kb BK663 hb
        replace HB := bs HB hb
        (try clear hb); (try clear hb2); (try clear hk); (try clear hi); (try clear ho0)
        refine hK.out _ _ held fun hHeld => nT (N := some 39) ?_
        clear hK K
        exact nJ (hJ2_6_7 (v656, gb662, gb663) _ ⟨hHeld, ⟨tq HO657⟩, ⟨tk BK649⟩, ⟨tk BK650⟩, ⟨tk BK651⟩, ⟨tk BK662⟩, ⟨tk BK663⟩, GW662, GE662, NB649_662, NB662_649, NB650_662, NB662_650, NB651_662, NB662_651, NB663_662, NB662_663, GW663, GE663, NB649_663, NB663_649, NB650_663, NB663_650, NB651_663, NB663_651, ⟨tb HB⟩⟩)
      intro hJ6_7
      refine join_ (σ := Value) 5 (bb 10 31) (fun s_ => [(39, .agg #[.bool t654, s_])]) (fun s_ w' => (w'.cell? ⟨gb649, 0, none⟩ = some (.bool a0_0) ∧ w'.cell? ⟨gb649, 1, none⟩ = some (.slice A0_1 l0_1.length c0_1) ∧ w'.cell? ⟨gb651, 0, none⟩ = some (.bool a2_0) ∧ w'.cell? ⟨gb651, 1, none⟩ = some (.slice A2_1 l2_1.length c2_1) ∧ w'.cell? ⟨gb650, 0, none⟩ = some (.bool a1_0) ∧ w'.cell? ⟨gb650, 1, none⟩ = some (.slice A1_1 l1_1.length c1_1)) ∧ Aside0 (Kd.R (Kd.int .u32) 87 w' w.heap.size (fun _ => True) s_ t655) ∧ Aside0 (w'.heap[gb649]? = some (.cells #[.bool a0_0, .slice A0_1 l0_1.length c0_1] 24 (0, 0))) ∧ Aside0 (w'.heap[gb650]? = some (.cells #[.bool a1_0, .slice A1_1 l1_1.length c1_1] 24 (0, 0))) ∧ Aside0 (w'.heap[gb651]? = some (.cells #[.bool a2_0, .slice A2_1 l2_1.length c2_1] 24 (0, 0))) ∧ Aside0 (Below w.heap.size w w')) ?_ ?_
      ·skip
       ·skip
        clear BK649 BK650 BK651 HB
        rintro v656 w43 ⟨hHeld, HO657, BK649, BK650, BK651, HB⟩
        try dsimp only at hHeld HO657 BK649 BK650 BK651 HB
        refine nP ?_
        refine three_ (i := 5) (j := 6) (k := 7) (Ni := some 42) (Nj := some 7) (Nk := some 8) (bb 10 63) (bb 10 95) (bb 10 159) rfl rfl rfl rfl rfl rfl (three_of HT_.out (by kernel_rfl)) (by decide) (by decide) (by decide) (fun K hK => ?_) (fun K hK => ?_) (fun K hK => ?_)
        ·skip
         refine gS Try.func39 #[.agg #[.bool a1_0, .slice A1_1 l1_1.length c1_1], .agg #[.bool a2_0, .slice A2_1 l2_1.length c2_1]] ?_
         with_reducible refine (big_Mul.calls kj3 a1_0 _ _ l1_1 a2_0 _ _ l2_1 t658 t659 _ ?side1 ?side2 ?side3 ?side4 A34.out).mono ?_
         (case side1 => exact tc (Kd.C_below HR1_1.out HB.out))
         (case side2 => exact HC1_1.out)
         (case side3 => exact tc (Kd.C_below HR2_1.out HB.out))
         (case side4 => exact HC2_1.out)
         rintro e w44 ⟨v660, rfl, ho0, hb⟩
         refine ⟨_, rfl, ?_⟩
         have HO661 := Aside0.mk (Kd.R_lower (Kd.R_new' ho0 (Kd.R_lt (tq HO657))) (below_size (tb HB)))
         replace HO657 := re HO657 (Kd.R_base ho0) hb
         replace BK649 := kb BK649 hb
         replace BK650 := kb BK650 hb
         replace BK651 := kb BK651 hb
         replace HB := bs HB hb
         (try clear hb); (try clear hb2); (try clear hk); (try clear hi); (try clear ho0)
         refine hK.out _ _ held fun hHeld => nT (N := some 42) ?_
         clear hK K
         exact nJ (hJ2_5 (v656, v660) _ ⟨hHeld, ⟨by (with_reducible repeat first | apply qa | apply qn | apply qd); exact Kd.R_mono HO657.out (fun _ hk => hk.2)⟩, ⟨by (with_reducible repeat first | apply qa | apply qn | apply qd); exact Kd.R_mono HO661.out (fun _ hk => hk.2)⟩, ⟨tk BK649⟩, ⟨tk BK650⟩, ⟨tk BK651⟩, ⟨tb HB⟩⟩)
        ·skip
         refine box_step ?hg (N := 7) ?hd (cs := #[.bool false, .slice none 0 0]) (t := 24) ?hr ?_; (case hd => rfl); (case hg => rfl); (case hr => first | (go_simp; done) | (go_simp; rfl))
         intro gb662 hg w44 hbox hb
         replace HO657 := rb HO657 hb
         have BK662 := Aside0.mk (hbox)
         have GW662 := bz hg HB
         have GE662 := bz hg HB
         replace HB := bs HB hb
         have NB649_662 := nl hg BK649
         have NB662_649 := ng hg BK649
         replace BK649 := kb BK649 hb
         have NB650_662 := nl hg BK650
         have NB662_650 := ng hg BK650
         replace BK650 := kb BK650 hb
         have NB651_662 := nl hg BK651
         have NB662_651 := ng hg BK651
         replace BK651 := kb BK651 hb
         clear hb hbox hg
         refine hK.out _ _ held fun hHeld => nT (N := some 7) ?_
         clear hK K
         exact nJ (hJ2_6 (v656, gb662) _ ⟨hHeld, ⟨tq HO657⟩, ⟨tk BK649⟩, ⟨tk BK650⟩, ⟨tk BK651⟩, ⟨tk BK662⟩, GW662, GE662, NB649_662, NB662_649, NB650_662, NB662_650, NB651_662, NB662_651, ⟨tb HB⟩⟩)
        ·skip
         refine box_step ?hg (N := 8) ?hd (cs := #[.bool false, .slice none 0 0]) (t := 24) ?hr ?_; (case hd => rfl); (case hg => rfl); (case hr => first | (go_simp; done) | (go_simp; rfl))
         intro gb663 hg w44 hbox hb
         replace HO657 := rb HO657 hb
         have BK663 := Aside0.mk (hbox)
         have GW663 := bz hg HB
         have GE663 := bz hg HB
         replace HB := bs HB hb
         have NB649_663 := nl hg BK649
         have NB663_649 := ng hg BK649
         replace BK649 := kb BK649 hb
         have NB650_663 := nl hg BK650
         have NB663_650 := ng hg BK650
         replace BK650 := kb BK650 hb
         have NB651_663 := nl hg BK651
         have NB663_651 := ng hg BK651
         replace BK651 := kb BK651 hb
         clear hb hbox hg
         refine hK.out _ _ held fun hHeld => nT (N := some 8) ?_
         clear hK K
         exact nJ (hJ2_7 (v656, gb663) _ ⟨hHeld, ⟨tq HO657⟩, ⟨tk BK649⟩, ⟨tk BK650⟩, ⟨tk BK651⟩, ⟨tk BK663⟩, GW663, GE663, NB649_663, NB663_649, NB650_663, NB663_650, NB651_663, NB663_651, ⟨tb HB⟩⟩)
      intro hJ2
      refine join_ (σ := Nat) 5 (bb 10 91) (fun s_ => [(7, .pointer (some ⟨s_, 0, none⟩))]) (fun s_ w' => (w'.cell? ⟨gb649, 0, none⟩ = some (.bool a0_0) ∧ w'.cell? ⟨gb649, 1, none⟩ = some (.slice A0_1 l0_1.length c0_1) ∧ w'.cell? ⟨gb651, 0, none⟩ = some (.bool a2_0) ∧ w'.cell? ⟨gb651, 1, none⟩ = some (.slice A2_1 l2_1.length c2_1) ∧ w'.cell? ⟨gb650, 0, none⟩ = some (.bool a1_0) ∧ w'.cell? ⟨gb650, 1, none⟩ = some (.slice A1_1 l1_1.length c1_1)) ∧ Aside0 (w'.heap[gb649]? = some (.cells #[.bool a0_0, .slice A0_1 l0_1.length c0_1] 24 (0, 0))) ∧ Aside0 (w'.heap[gb650]? = some (.cells #[.bool a1_0, .slice A1_1 l1_1.length c1_1] 24 (0, 0))) ∧ Aside0 (w'.heap[gb651]? = some (.cells #[.bool a2_0, .slice A2_1 l2_1.length c2_1] 24 (0, 0))) ∧ Aside0 (w'.heap[s_]? = some (.cells #[.bool false, .slice none 0 0] 24 (0, 0))) ∧ Aside0 (w.heap.size ≤ s_) ∧ Aside0 (w.heap.size ≤ s_) ∧ Aside0 (gb649 ≠ s_) ∧ Aside0 (s_ ≠ gb649) ∧ Aside0 (gb650 ≠ s_) ∧ Aside0 (s_ ≠ gb650) ∧ Aside0 (gb651 ≠ s_) ∧ Aside0 (s_ ≠ gb651) ∧ Aside0 (Below w.heap.size w w')) ?_ ?_
      ·skip
       ·skip
        clear BK649 BK650 BK651 HB
        rintro gb662 w43 ⟨hHeld, BK649, BK650, BK651, BK662, GW662, GE662, NB649_662, NB662_649, NB650_662, NB662_650, NB651_662, NB662_651, HB⟩
        try dsimp only at hHeld BK649 BK650 BK651 BK662 GW662 GE662 NB649_662 NB662_649 NB650_662 NB662_650 NB651_662 NB662_651 HB
        refine nP ?_
        refine two_ (i := 2) (j := 7) (Ni := some 39) (Nj := some 8) (bb 10 95) (bb 10 219) rfl rfl rfl rfl (two_of HT_.out (by kernel_rfl)) (by decide) (by decide) (fun K hK => ?_) (fun K hK => ?_)
        ·skip
         refine gS Try.func39 #[.agg #[.bool a0_0, .slice A0_1 l0_1.length c0_1], .agg #[.bool a2_0, .slice A2_1 l2_1.length c2_1]] ?_
         with_reducible refine (big_Mul.calls kj3 a0_0 _ _ l0_1 a2_0 _ _ l2_1 t654 t655 _ ?side1 ?side2 ?side3 ?side4 A33.out).mono ?_
         (case side1 => exact tc (Kd.C_below HR0_1.out HB.out))
         (case side2 => exact HC0_1.out)
         (case side3 => exact tc (Kd.C_below HR2_1.out HB.out))
         (case side4 => exact HC2_1.out)
         rintro e w44 ⟨v656, rfl, ho0, hb⟩
         refine ⟨_, rfl, ?_⟩
         have HO657 := rl ho0 HB
         replace BK649 := kb BK649 hb
         replace BK650 := kb BK650 hb
         replace BK651 := kb BK651 hb
         replace BK662 := kb BK662 hb
         replace HB := bs HB hb
         (try clear hb); (try clear hb2); (try clear hk); (try clear hi); (try clear ho0)
         refine hK.out _ _ held fun hHeld => nT (N := some 39) ?_
         clear hK K
         exact nJ (hJ2_6 (v656, gb662) _ ⟨hHeld, ⟨tq HO657⟩, ⟨tk BK649⟩, ⟨tk BK650⟩, ⟨tk BK651⟩, ⟨tk BK662⟩, GW662, GE662, NB649_662, NB662_649, NB650_662, NB662_650, NB651_662, NB662_651, ⟨tb HB⟩⟩)
        ·skip
         refine box_step ?hg (N := 8) ?hd (cs := #[.bool false, .slice none 0 0]) (t := 24) ?hr ?_; (case hd => rfl); (case hg => rfl); (case hr => first | (go_simp; done) | (go_simp; rfl))
         intro gb663 hg w44 hbox hb
         have BK663 := Aside0.mk (hbox)
         have GW663 := bz hg HB
         have GE663 := bz hg HB
         replace HB := bs HB hb
         have NB649_663 := nl hg BK649
         have NB663_649 := ng hg BK649
         replace BK649 := kb BK649 hb
         have NB650_663 := nl hg BK650
         have NB663_650 := ng hg BK650
         replace BK650 := kb BK650 hb
         have NB651_663 := nl hg BK651
         have NB663_651 := ng hg BK651
         replace BK651 := kb BK651 hb
         have NB662_663 := nl hg BK662
         have NB663_662 := ng hg BK662
         replace BK662 := kb BK662 hb
         clear hb hbox hg
         refine hK.out _ _ held fun hHeld => nT (N := some 8) ?_
         clear hK K
         exact nJ (hJ6_7 (gb662, gb663) _ ⟨hHeld, ⟨tk BK649⟩, ⟨tk BK650⟩, ⟨tk BK651⟩, ⟨tk BK662⟩, ⟨tk BK663⟩, GW662, GE662, NB649_662, NB662_649, NB650_662, NB662_650, NB651_662, NB662_651, NB663_662, NB662_663, GW663, GE663, NB649_663, NB663_649, NB650_663, NB663_650, NB651_663, NB663_651, ⟨tb HB⟩⟩)
      intro hJ6
      refine join_ (σ := Nat) 5 (bb 10 155) (fun s_ => [(8, .pointer (some ⟨s_, 0, none⟩))]) (fun s_ w' => (w'.cell? ⟨gb649, 0, none⟩ = some (.bool a0_0) ∧ w'.cell? ⟨gb649, 1, none⟩ = some (.slice A0_1 l0_1.length c0_1) ∧ w'.cell? ⟨gb651, 0, none⟩ = some (.bool a2_0) ∧ w'.cell? ⟨gb651, 1, none⟩ = some (.slice A2_1 l2_1.length c2_1) ∧ w'.cell? ⟨gb650, 0, none⟩ = some (.bool a1_0) ∧ w'.cell? ⟨gb650, 1, none⟩ = some (.slice A1_1 l1_1.length c1_1)) ∧ Aside0 (w'.heap[gb649]? = some (.cells #[.bool a0_0, .slice A0_1 l0_1.length c0_1] 24 (0, 0))) ∧ Aside0 (w'.heap[gb650]? = some (.cells #[.bool a1_0, .slice A1_1 l1_1.length c1_1] 24 (0, 0))) ∧ Aside0 (w'.heap[gb651]? = some (.cells #[.bool a2_0, .slice A2_1 l2_1.length c2_1] 24 (0, 0))) ∧ Aside0 (w'.heap[s_]? = some (.cells #[.bool false, .slice none 0 0] 24 (0, 0))) ∧ Aside0 (w.heap.size ≤ s_) ∧ Aside0 (w.heap.size ≤ s_) ∧ Aside0 (gb649 ≠ s_) ∧ Aside0 (s_ ≠ gb649) ∧ Aside0 (gb650 ≠ s_) ∧ Aside0 (s_ ≠ gb650) ∧ Aside0 (gb651 ≠ s_) ∧ Aside0 (s_ ≠ gb651) ∧ Aside0 (Below w.heap.size w w')) ?_ ?_
      ·skip
       ·skip
        clear BK649 BK650 BK651 HB
        rintro gb663 w43 ⟨hHeld, BK649, BK650, BK651, BK663, GW663, GE663, NB649_663, NB663_649, NB650_663, NB663_650, NB651_663, NB663_651, HB⟩
        try dsimp only at hHeld BK649 BK650 BK651 BK663 GW663 GE663 NB649_663 NB663_649 NB650_663 NB663_650 NB651_663 NB663_651 HB
        refine nP ?_
        refine two_ (i := 2) (j := 6) (Ni := some 39) (Nj := some 7) (bb 10 159) (bb 10 219) rfl rfl rfl rfl (two_of HT_.out (by kernel_rfl)) (by decide) (by decide) (fun K hK => ?_) (fun K hK => ?_)
        ·skip
         refine gS Try.func39 #[.agg #[.bool a0_0, .slice A0_1 l0_1.length c0_1], .agg #[.bool a2_0, .slice A2_1 l2_1.length c2_1]] ?_
         with_reducible refine (big_Mul.calls kj3 a0_0 _ _ l0_1 a2_0 _ _ l2_1 t654 t655 _ ?side1 ?side2 ?side3 ?side4 A33.out).mono ?_
         (case side1 => exact tc (Kd.C_below HR0_1.out HB.out))
         (case side2 => exact HC0_1.out)
         (case side3 => exact tc (Kd.C_below HR2_1.out HB.out))
         (case side4 => exact HC2_1.out)
         rintro e w44 ⟨v656, rfl, ho0, hb⟩
         refine ⟨_, rfl, ?_⟩
         have HO657 := rl ho0 HB
         replace BK649 := kb BK649 hb
         replace BK650 := kb BK650 hb
         replace BK651 := kb BK651 hb
         replace BK663 := kb BK663 hb
         replace HB := bs HB hb
         (try clear hb); (try clear hb2); (try clear hk); (try clear hi); (try clear ho0)
         refine hK.out _ _ held fun hHeld => nT (N := some 39) ?_
         clear hK K
         exact nJ (hJ2_7 (v656, gb663) _ ⟨hHeld, ⟨tq HO657⟩, ⟨tk BK649⟩, ⟨tk BK650⟩, ⟨tk BK651⟩, ⟨tk BK663⟩, GW663, GE663, NB649_663, NB663_649, NB650_663, NB663_650, NB651_663, NB663_651, ⟨tb HB⟩⟩)
        ·skip
         refine box_step ?hg (N := 7) ?hd (cs := #[.bool false, .slice none 0 0]) (t := 24) ?hr ?_; (case hd => rfl); (case hg => rfl); (case hr => first | (go_simp; done) | (go_simp; rfl))
         intro gb662 hg w44 hbox hb
         have BK662 := Aside0.mk (hbox)
         have GW662 := bz hg HB
         have GE662 := bz hg HB
         replace HB := bs HB hb
         have NB649_662 := nl hg BK649
         have NB662_649 := ng hg BK649
         replace BK649 := kb BK649 hb
         have NB650_662 := nl hg BK650
         have NB662_650 := ng hg BK650
         replace BK650 := kb BK650 hb
         have NB651_662 := nl hg BK651
         have NB662_651 := ng hg BK651
         replace BK651 := kb BK651 hb
         have NB663_662 := nl hg BK663
         have NB662_663 := ng hg BK663
         replace BK663 := kb BK663 hb
         clear hb hbox hg
         refine hK.out _ _ held fun hHeld => nT (N := some 7) ?_
         clear hK K
         exact nJ (hJ6_7 (gb662, gb663) _ ⟨hHeld, ⟨tk BK649⟩, ⟨tk BK650⟩, ⟨tk BK651⟩, ⟨tk BK662⟩, ⟨tk BK663⟩, GW662, GE662, NB649_662, NB662_649, NB650_662, NB662_650, NB651_662, NB662_651, NB663_662, NB662_663, GW663, GE663, NB649_663, NB663_649, NB650_663, NB663_650, NB651_663, NB663_651, ⟨tb HB⟩⟩)
      intro hJ7
      refine three_ (i := 2) (j := 6) (k := 7) (Ni := some 39) (Nj := some 7) (Nk := some 8) (bb 10 31) (bb 10 91) (bb 10 155) rfl rfl rfl rfl rfl rfl (three_of HT_.out (by kernel_rfl)) (by decide) (by decide) (by decide) (fun K hK => ?_) (fun K hK => ?_) (fun K hK => ?_)
      ·skip
       refine gS Try.func39 #[.agg #[.bool a0_0, .slice A0_1 l0_1.length c0_1], .agg #[.bool a2_0, .slice A2_1 l2_1.length c2_1]] ?_
       with_reducible refine (big_Mul.calls kj3 a0_0 _ _ l0_1 a2_0 _ _ l2_1 t654 t655 _ ?side1 ?side2 ?side3 ?side4 A33.out).mono ?_
       (case side1 => exact tc (Kd.C_below HR0_1.out HB.out))
       (case side2 => exact HC0_1.out)
       (case side3 => exact tc (Kd.C_below HR2_1.out HB.out))
       (case side4 => exact HC2_1.out)
       rintro e w42 ⟨v656, rfl, ho0, hb⟩
       refine ⟨_, rfl, ?_⟩
       have HO657 := rl ho0 HB
       replace BK649 := kb BK649 hb
       replace BK650 := kb BK650 hb
       replace BK651 := kb BK651 hb
       replace HB := bs HB hb
       (try clear hb); (try clear hb2); (try clear hk); (try clear hi); (try clear ho0)
       refine hK.out _ _ held fun hHeld => nT (N := some 39) ?_
       clear hK K
       exact nJ (hJ2 (v656) _ ⟨hHeld, ⟨tq HO657⟩, ⟨tk BK649⟩, ⟨tk BK650⟩, ⟨tk BK651⟩, ⟨tb HB⟩⟩)
      ·skip
       refine box_step ?hg (N := 7) ?hd (cs := #[.bool false, .slice none 0 0]) (t := 24) ?hr ?_; (case hd => rfl); (case hg => rfl); (case hr => first | (go_simp; done) | (go_simp; rfl))
       intro gb662 hg w42 hbox hb
       have BK662 := Aside0.mk (hbox)
       have GW662 := bz hg HB
       have GE662 := bz hg HB
       replace HB := bs HB hb
       have NB649_662 := nl hg BK649
       have NB662_649 := ng hg BK649
       replace BK649 := kb BK649 hb
       have NB650_662 := nl hg BK650
       have NB662_650 := ng hg BK650
       replace BK650 := kb BK650 hb
       have NB651_662 := nl hg BK651
       have NB662_651 := ng hg BK651
       replace BK651 := kb BK651 hb
       clear hb hbox hg
       refine hK.out _ _ held fun hHeld => nT (N := some 7) ?_
       clear hK K
       exact nJ (hJ6 (gb662) _ ⟨hHeld, ⟨tk BK649⟩, ⟨tk BK650⟩, ⟨tk BK651⟩, ⟨tk BK662⟩, GW662, GE662, NB649_662, NB662_649, NB650_662, NB662_650, NB651_662, NB662_651, ⟨tb HB⟩⟩)
      ·skip
       refine box_step ?hg (N := 8) ?hd (cs := #[.bool false, .slice none 0 0]) (t := 24) ?hr ?_; (case hd => rfl); (case hg => rfl); (case hr => first | (go_simp; done) | (go_simp; rfl))
       intro gb663 hg w42 hbox hb
       have BK663 := Aside0.mk (hbox)
       have GW663 := bz hg HB
       have GE663 := bz hg HB
       replace HB := bs HB hb
       have NB649_663 := nl hg BK649
       have NB663_649 := ng hg BK649
       replace BK649 := kb BK649 hb
       have NB650_663 := nl hg BK650
       have NB663_650 := ng hg BK650
       replace BK650 := kb BK650 hb
       have NB651_663 := nl hg BK651
       have NB663_651 := ng hg BK651
       replace BK651 := kb BK651 hb
       clear hb hbox hg
       refine hK.out _ _ held fun hHeld => nT (N := some 8) ?_
       clear hK K
       exact nJ (hJ7 (gb663) _ ⟨hHeld, ⟨tk BK649⟩, ⟨tk BK650⟩, ⟨tk BK651⟩, ⟨tk BK663⟩, GW663, GE663, NB649_663, NB663_649, NB650_663, NB663_650, NB651_663, NB663_651, ⟨tb HB⟩⟩)
     ·rw [if_neg c39] at H
      exact absurd H (by simp)
    ·rw [if_neg c37] at H
     have c37b0 : (t669 == 0) = false := beq_eq_false_iff_ne.mpr c37
     have c37b1 : (t669 != 0) = true := bne_iff_ne.mpr c37
     replace H := bi H
     obtain ⟨⟨t672, t673, t676, t677, t680⟩, A760, H⟩ := H
     try dsimp only at H
     have A76 := Aside0.mk A760
     clear A760
     replace H := bi H
     obtain ⟨⟨t683, t684, t687, t688, t691⟩, A770, H⟩ := H
     try dsimp only at H
     have A77 := Aside0.mk A770
     clear A770
     by_cases c78 : t680 = 0
     ·rw [if_pos c78] at H
      have c78b0 : (t680 == 0) = true := beq_iff_eq.mpr c78
      have c78b1 : (t680 != 0) = false := bne_eq_false_iff_eq.mpr c78
      clear c78
      by_cases c79 : t691 = 0
      ·rw [if_pos c79] at H
       have c79b0 : (t691 == 0) = true := beq_iff_eq.mpr c79
       have c79b1 : (t691 != 0) = false := bne_eq_false_iff_eq.mpr c79
       clear c79
       replace H := bi H
       obtain ⟨t694, A800, H⟩ := H
       have A80 := Aside0.mk A800
       clear A800
       by_cases c81 : t694 = true
       ·subst c81
        have H1 : ((big_Divides.f kj3 t664 t665 t658 t659).bind fun t695 => (if t695 = true then ((big_Divides.f kj3 a2_0 l2_1 t664 t665).bind fun t696 => (if t696 = true then ((big_Gcd.f kj3 t672 t673 t683 t684).bind fun bt697 => ((big_Of.f kj3 1).bind fun bt701 => ((big_Cmp.f kj3 bt697.1 bt697.2 bt701.1 bt701.2).bind fun t705 => (some (t705 == 0))))) else (none))) else (none))) = some r := by rw [if_pos rfl] at H; exact H
        clear H
        have H := H1
        clear H1
        replace H := bi H
        obtain ⟨t695, A820, H⟩ := H
        have A82 := Aside0.mk A820
        clear A820
        by_cases c83 : t695 = true
        ·subst c83
         have H1 : ((big_Divides.f kj3 a2_0 l2_1 t664 t665).bind fun t696 => (if t696 = true then ((big_Gcd.f kj3 t672 t673 t683 t684).bind fun bt697 => ((big_Of.f kj3 1).bind fun bt701 => ((big_Cmp.f kj3 bt697.1 bt697.2 bt701.1 bt701.2).bind fun t705 => (some (t705 == 0))))) else (none))) = some r := by rw [if_pos rfl] at H; exact H
         clear H
         have H := H1
         clear H1
         replace H := bi H
         obtain ⟨t696, A840, H⟩ := H
         have A84 := Aside0.mk A840
         clear A840
         by_cases c85 : t696 = true
         ·subst c85
          have H1 : ((big_Gcd.f kj3 t672 t673 t683 t684).bind fun bt697 => ((big_Of.f kj3 1).bind fun bt701 => ((big_Cmp.f kj3 bt697.1 bt697.2 bt701.1 bt701.2).bind fun t705 => (some (t705 == 0))))) = some r := by rw [if_pos rfl] at H; exact H
          clear H
          have H := H1
          clear H1
          replace H := bi H
          obtain ⟨⟨t697, t698⟩, A860, H⟩ := H
          try dsimp only at H
          have A86 := Aside0.mk A860
          clear A860
          replace H := bi H
          obtain ⟨⟨t701, t702⟩, A870, H⟩ := H
          try dsimp only at H
          have A87 := Aside0.mk A870
          clear A870
          replace H := bi H
          obtain ⟨t705, A880, H⟩ := H
          have A88 := Aside0.mk A880
          clear A880
          obtain rfl := Option.some.inj H
          try go_wp2
          replace BK649 := Aside0.mk (blk_drew BK649.out)
          replace BK650 := Aside0.mk (blk_drew BK650.out)
          replace BK651 := Aside0.mk (blk_drew BK651.out)
          replace HB := Aside0.mk (below_drew1 HB.out)
          refine start_ (n := 10) (S := fun w' => w'.cell? ⟨gb649, 0, none⟩ = some (.bool a0_0) ∧ w'.cell? ⟨gb649, 1, none⟩ = some (.slice A0_1 l0_1.length c0_1) ∧ w'.cell? ⟨gb651, 0, none⟩ = some (.bool a2_0) ∧ w'.cell? ⟨gb651, 1, none⟩ = some (.slice A2_1 l2_1.length c2_1) ∧ w'.cell? ⟨gb650, 0, none⟩ = some (.bool a1_0) ∧ w'.cell? ⟨gb650, 1, none⟩ = some (.slice A1_1 l1_1.length c1_1)) (ds := []) #[false, false, false, false, false, false, false, false, false, false] (by kernel_rfl) rfl rfl ⟨(blk_cell BK649.out 0).trans rfl, (blk_cell BK649.out 1).trans rfl, (blk_cell BK651.out 0).trans rfl, (blk_cell BK651.out 1).trans rfl, (blk_cell BK650.out 0).trans rfl, (blk_cell BK650.out 1).trans rfl⟩ (fun hHeld => ?_); refine with_tabW whetstonelaw02_BigGcds.tab3 whetstonelaw02_BigGcds.bits3 (fun HT_ HW_ => ?_)
          generalize wc.drew = w89 at BK649 BK650 BK651 HB hHeld ⊢
          refine tW (i := 0) (N := some 37) (bb 10 1) HT_ HW_ hHeld ?_
          refine tW (i := 1) (N := some 38) (bb 10 3) HT_ HW_ hHeld ?_
          refine tW (i := 3) (N := some 40) (bb 10 11) HT_ HW_ hHeld ?_
          refine tW (i := 4) (N := some 41) (bb 10 27) HT_ HW_ hHeld ?_
          refine join_ (σ := Value × Value × Nat × Nat) 2 (bb 10 255) (fun s_ => [(39, .agg #[.bool t654, s_.1]), (42, .agg #[.bool t658, s_.2.1]), (7, .pointer (some ⟨s_.2.2.1, 0, none⟩)), (8, .pointer (some ⟨s_.2.2.2, 0, none⟩))]) (fun s_ w' => (w'.cell? ⟨gb649, 0, none⟩ = some (.bool a0_0) ∧ w'.cell? ⟨gb649, 1, none⟩ = some (.slice A0_1 l0_1.length c0_1) ∧ w'.cell? ⟨gb651, 0, none⟩ = some (.bool a2_0) ∧ w'.cell? ⟨gb651, 1, none⟩ = some (.slice A2_1 l2_1.length c2_1) ∧ w'.cell? ⟨gb650, 0, none⟩ = some (.bool a1_0) ∧ w'.cell? ⟨gb650, 1, none⟩ = some (.slice A1_1 l1_1.length c1_1)) ∧ Aside0 (Kd.R (Kd.int .u32) 87 w' w.heap.size (fun k_ => some k_ ≠ (s_.2.1 : Value).ownBlock) s_.1 t655) ∧ Aside0 (Kd.R (Kd.int .u32) 87 w' w.heap.size (fun k_ => some k_ ≠ (s_.1 : Value).ownBlock) s_.2.1 t659) ∧ Aside0 (w'.heap[gb649]? = some (.cells #[.bool a0_0, .slice A0_1 l0_1.length c0_1] 24 (0, 0))) ∧ Aside0 (w'.heap[gb650]? = some (.cells #[.bool a1_0, .slice A1_1 l1_1.length c1_1] 24 (0, 0))) ∧ Aside0 (w'.heap[gb651]? = some (.cells #[.bool a2_0, .slice A2_1 l2_1.length c2_1] 24 (0, 0))) ∧ Aside0 (w'.heap[s_.2.2.1]? = some (.cells #[.bool false, .slice none 0 0] 24 (0, 0))) ∧ Aside0 (w'.heap[s_.2.2.2]? = some (.cells #[.bool false, .slice none 0 0] 24 (0, 0))) ∧ Aside0 (w.heap.size ≤ s_.2.2.1) ∧ Aside0 (w.heap.size ≤ s_.2.2.1) ∧ Aside0 (gb649 ≠ s_.2.2.1) ∧ Aside0 (s_.2.2.1 ≠ gb649) ∧ Aside0 (gb650 ≠ s_.2.2.1) ∧ Aside0 (s_.2.2.1 ≠ gb650) ∧ Aside0 (gb651 ≠ s_.2.2.1) ∧ Aside0 (s_.2.2.1 ≠ gb651) ∧ Aside0 (s_.2.2.2 ≠ s_.2.2.1) ∧ Aside0 (s_.2.2.1 ≠ s_.2.2.2) ∧ Aside0 (w.heap.size ≤ s_.2.2.2) ∧ Aside0 (w.heap.size ≤ s_.2.2.2) ∧ Aside0 (gb649 ≠ s_.2.2.2) ∧ Aside0 (s_.2.2.2 ≠ gb649) ∧ Aside0 (gb650 ≠ s_.2.2.2) ∧ Aside0 (s_.2.2.2 ≠ gb650) ∧ Aside0 (gb651 ≠ s_.2.2.2) ∧ Aside0 (s_.2.2.2 ≠ gb651) ∧ Aside0 (Below w.heap.size w w')) ?_ ?_
          ·skip
           clear BK649 BK650 BK651 HB
           rintro ⟨v656, v660, gb662, gb663⟩ w94 ⟨hHeld, HO657, HO661, BK649, BK650, BK651, BK662, BK663, GW662, GE662, NB649_662, NB662_649, NB650_662, NB662_650, NB651_662, NB662_651, NB663_662, NB662_663, GW663, GE663, NB649_663, NB663_649, NB650_663, NB663_650, NB651_663, NB663_651, HB⟩
           try dsimp only at hHeld HO657 HO661 BK649 BK650 BK651 BK662 BK663 GW662 GE662 NB649_662 NB662_649 NB650_662 NB662_650 NB651_662 NB662_651 NB663_662 NB662_663 GW663 GE663 NB649_663 NB663_649 NB650_663 NB663_650 NB651_663 NB663_651 HB
           obtain ⟨Ao96, co96, eo96⟩ := Kd.R_slice HO657.out
           (first | subst eo96 | (injection eo96 with f1_ f2_ f3_; have f4_ := f1_.symm; have f5_ := f3_.symm; clear f1_ f2_ f3_; subst f4_; subst f5_))
           obtain ⟨Ao99, co99, eo99⟩ := Kd.R_slice HO661.out
           (first | subst eo99 | (injection eo99 with f1_ f2_ f3_; have f4_ := f1_.symm; have f5_ := f3_.symm; clear f1_ f2_ f3_; subst f4_; subst f5_))
           refine nP ?_
           refine oT (i := 8) (N := none) (bb 10 511) HT_ fun K hK => ?_
           have hs95 := bc BK662 0 (.bool false)
           have hfs95 := blk_frozen BK662.out 0
           have hns95_0 := NB649_662.out
           have hns95_1 := NB650_662.out
           have hns95_2 := NB651_662.out
           have hns95_4 := NB663_662.out
           have hms95_0 := NB662_649.out
           have hms95_1 := NB662_650.out
           have hms95_2 := NB662_651.out
           have hms95_4 := NB662_663.out
           have hs97 := bc BK662 1 (.slice none 0 0)
           have hfs97 := blk_frozen BK662.out 1
           have hns97_0 := NB649_662.out
           have hns97_1 := NB650_662.out
           have hns97_2 := NB651_662.out
           have hns97_4 := NB663_662.out
           have hms97_0 := NB662_649.out
           have hms97_1 := NB662_650.out
           have hms97_2 := NB662_651.out
           have hms97_4 := NB662_663.out
           refine skip_ (w1 := ?_) (by rfl) rfl ?_ ?_
           rotate_left
           ·go_simp
            rfl
           refine hK.out _ _ ⟨((cell_far (p := ⟨gb662, _, none⟩) NB649_662.out _).trans (((cell_far (p := ⟨gb662, _, none⟩) NB649_662.out _).trans (hHeld.1)))), ((cell_far (p := ⟨gb662, _, none⟩) NB649_662.out _).trans (((cell_far (p := ⟨gb662, _, none⟩) NB649_662.out _).trans (hHeld.2.1)))), ((cell_far (p := ⟨gb662, _, none⟩) NB651_662.out _).trans (((cell_far (p := ⟨gb662, _, none⟩) NB651_662.out _).trans (hHeld.2.2.1)))), ((cell_far (p := ⟨gb662, _, none⟩) NB651_662.out _).trans (((cell_far (p := ⟨gb662, _, none⟩) NB651_662.out _).trans (hHeld.2.2.2.1)))), ((cell_far (p := ⟨gb662, _, none⟩) NB650_662.out _).trans (((cell_far (p := ⟨gb662, _, none⟩) NB650_662.out _).trans (hHeld.2.2.2.2.1)))), ((cell_far (p := ⟨gb662, _, none⟩) NB650_662.out _).trans (((cell_far (p := ⟨gb662, _, none⟩) NB650_662.out _).trans (hHeld.2.2.2.2.2))))⟩ (fun hHeld => ?_)
           clear hK K
           refine oT (i := 9) (N := none) (bb 10 1023) HT_ fun K hK => ?_
           have hs98 := bc BK663 0 (.bool false)
           have hfs98 := blk_frozen BK663.out 0
           have hns98_0 := NB649_663.out
           have hns98_1 := NB650_663.out
           have hns98_2 := NB651_663.out
           have hns98_3 := NB662_663.out
           have hms98_0 := NB663_649.out
           have hms98_1 := NB663_650.out
           have hms98_2 := NB663_651.out
           have hms98_3 := NB663_662.out
           have hs100 := bc BK663 1 (.slice none 0 0)
           have hfs100 := blk_frozen BK663.out 1
           have hns100_0 := NB649_663.out
           have hns100_1 := NB650_663.out
           have hns100_2 := NB651_663.out
           have hns100_3 := NB662_663.out
           have hms100_0 := NB663_649.out
           have hms100_1 := NB663_650.out
           have hms100_2 := NB663_651.out
           have hms100_3 := NB663_662.out
           refine skip_ (w1 := ?_) (by rfl) rfl ?_ ?_
           rotate_left
           ·go_simp
            rfl
           refine hK.out _ _ ⟨((cell_far (p := ⟨gb663, _, none⟩) NB649_663.out _).trans (((cell_far (p := ⟨gb663, _, none⟩) NB649_663.out _).trans (hHeld.1)))), ((cell_far (p := ⟨gb663, _, none⟩) NB649_663.out _).trans (((cell_far (p := ⟨gb663, _, none⟩) NB649_663.out _).trans (hHeld.2.1)))), ((cell_far (p := ⟨gb663, _, none⟩) NB651_663.out _).trans (((cell_far (p := ⟨gb663, _, none⟩) NB651_663.out _).trans (hHeld.2.2.1)))), ((cell_far (p := ⟨gb663, _, none⟩) NB651_663.out _).trans (((cell_far (p := ⟨gb663, _, none⟩) NB651_663.out _).trans (hHeld.2.2.2.1)))), ((cell_far (p := ⟨gb663, _, none⟩) NB650_663.out _).trans (((cell_far (p := ⟨gb663, _, none⟩) NB650_663.out _).trans (hHeld.2.2.2.2.1)))), ((cell_far (p := ⟨gb663, _, none⟩) NB650_663.out _).trans (((cell_far (p := ⟨gb663, _, none⟩) NB650_663.out _).trans (hHeld.2.2.2.2.2))))⟩ (fun hHeld => ?_)
           clear hK K
           refine done_ (done_of HT_.out (by kernel_rfl)) ?_
           have hnb101 := NB662_649.out
           have hnc101 := NB649_662.out
           have hnb102 := NB662_650.out
           have hnc102 := NB650_662.out
           have hnb103 := NB662_651.out
           have hnc103 := NB651_662.out
           have hnb104 := NB662_663.out
           have hnc104 := NB663_662.out
           have hcz105_0 := bc BK662 0 (.bool false)
           have hcz105_1 := bc BK662 1 (.slice none 0 0)
           have hfz105_0 := blk_frozen BK662.out 0
           have hfz105_1 := blk_frozen BK662.out 1
           have hnb106 := NB663_649.out
           have hnc106 := NB649_663.out
           have hnb107 := NB663_650.out
           have hnc107 := NB650_663.out
           have hnb108 := NB663_651.out
           have hnc108 := NB651_663.out
           have hcz109_0 := bc BK663 0 (.bool false)
           have hcz109_1 := bc BK663 1 (.slice none 0 0)
           have hfz109_0 := blk_frozen BK663.out 0
           have hfz109_1 := blk_frozen BK663.out 1
           try go_wp2_with (first | ((with_reducible refine gate_callee (f := 42) rfl ?_); refine gL (N := some 45) Try.func42 #[.agg #[.bool t654, .slice Ao96 t655.length co96], .agg #[.bool t658, .slice Ao99 t659.length co99]] ?_; (with_reducible refine (big_Gcd.calls kj3 t654 _ _ t655 t658 _ _ t659 t664 t665 _ ?side1 ?side2 ?side3 ?side4 A35.out).mono ?_); (case side1 => refine (Kd.R_reads' (e := 87) (base := w.heap.size) (ok := fun k_ => some k_ ≠ (.slice Ao99 t659.length co99 : Value).ownBlock) (n := t655.length) (c := co96) ?_).2.2; exact (by (with_reducible repeat first | apply qa | apply qn | apply qd); exact (Kd.R_mono (Kd.R_mono (Kd.R_far (p := ⟨gb663, 1, none⟩) (Kd.R_far (p := ⟨gb663, 0, none⟩) (Kd.R_far (p := ⟨gb662, 1, none⟩) (Kd.R_far (p := ⟨gb662, 0, none⟩) (Kd.R_types (Kd.R_types HO657.out BK662.out (by decide)) BK663.out (by decide)) (fun _ hk => hk.1.2) (.bool t654)) (fun _ hk => hk.1.2) (.slice Ao96 t655.length co96)) (fun _ hk => hk.2) (.bool t658)) (fun _ hk => hk.2) (.slice Ao99 t659.length co99)) (fun _ h_ => h_.1)) (fun _ h_ => h_.1)))); (case side2 => exact (Kd.R_reads' HO657.out).2.1); (case side3 => refine (Kd.R_reads' (e := 87) (base := w.heap.size) (ok := fun k_ => some k_ ≠ (.slice Ao96 t655.length co96 : Value).ownBlock) (n := t659.length) (c := co99) ?_).2.2; exact (by (with_reducible repeat first | apply qa | apply qn | apply qd); exact (Kd.R_mono (Kd.R_mono (Kd.R_far (p := ⟨gb663, 1, none⟩) (Kd.R_far (p := ⟨gb663, 0, none⟩) (Kd.R_far (p := ⟨gb662, 1, none⟩) (Kd.R_far (p := ⟨gb662, 0, none⟩) (Kd.R_types (Kd.R_types HO661.out BK662.out (by decide)) BK663.out (by decide)) (fun _ hk => hk.1.2) (.bool t654)) (fun _ hk => hk.1.2) (.slice Ao96 t655.length co96)) (fun _ hk => hk.2) (.bool t658)) (fun _ hk => hk.2) (.slice Ao99 t659.length co99)) (fun _ h_ => h_.1)) (fun _ h_ => h_.1)))); (case side4 => exact (Kd.R_reads' HO661.out).2.1); rintro e w110 ⟨v666, rfl, ho0, hb⟩; refine ⟨_, rfl, ?_⟩; have HO667 := Aside0.mk (Kd.R_lower (Kd.R_new' (Kd.R_new' ho0 (Kd.R_lt (by (with_reducible repeat first | apply qa | apply qn | apply qd); exact (Kd.R_mono (Kd.R_mono (Kd.R_far (p := ⟨gb663, 1, none⟩) (Kd.R_far (p := ⟨gb663, 0, none⟩) (Kd.R_far (p := ⟨gb662, 1, none⟩) (Kd.R_far (p := ⟨gb662, 0, none⟩) (Kd.R_types (Kd.R_types HO657.out BK662.out (by decide)) BK663.out (by decide)) (fun _ hk => hk.1.2) (.bool t654)) (fun _ hk => hk.1.2) (.slice Ao96 t655.length co96)) (fun _ hk => hk.2) (.bool t658)) (fun _ hk => hk.2) (.slice Ao99 t659.length co99)) (fun _ h_ => h_.1)) (fun _ h_ => h_.1))))) (Kd.R_lt (by (with_reducible repeat first | apply qa | apply qn | apply qd); exact (Kd.R_mono (Kd.R_mono (Kd.R_far (p := ⟨gb663, 1, none⟩) (Kd.R_far (p := ⟨gb663, 0, none⟩) (Kd.R_far (p := ⟨gb662, 1, none⟩) (Kd.R_far (p := ⟨gb662, 0, none⟩) (Kd.R_types (Kd.R_types HO661.out BK662.out (by decide)) BK663.out (by decide)) (fun _ hk => hk.1.2) (.bool t654)) (fun _ hk => hk.1.2) (.slice Ao96 t655.length co96)) (fun _ hk => hk.2) (.bool t658)) (fun _ hk => hk.2) (.slice Ao99 t659.length co99)) (fun _ h_ => h_.1)) (fun _ h_ => h_.1))))) (below_size (tb HB))); replace HO657 := Aside0.mk (Kd.R_elder' (by (with_reducible repeat first | apply qa | apply qn | apply qd); exact (Kd.R_mono (Kd.R_mono (Kd.R_far (p := ⟨gb663, 1, none⟩) (Kd.R_far (p := ⟨gb663, 0, none⟩) (Kd.R_far (p := ⟨gb662, 1, none⟩) (Kd.R_far (p := ⟨gb662, 0, none⟩) (Kd.R_types (Kd.R_types HO657.out BK662.out (by decide)) BK663.out (by decide)) (fun _ hk => hk.1.2) (.bool t654)) (fun _ hk => hk.1.2) (.slice Ao96 t655.length co96)) (fun _ hk => hk.2) (.bool t658)) (fun _ hk => hk.2) (.slice Ao99 t659.length co99)) (fun _ h_ => h_.1)) (fun _ h_ => h_.1))) (Kd.R_base ho0) hb); replace HO661 := Aside0.mk (Kd.R_elder' (by (with_reducible repeat first | apply qa | apply qn | apply qd); exact (Kd.R_mono (Kd.R_mono (Kd.R_far (p := ⟨gb663, 1, none⟩) (Kd.R_far (p := ⟨gb663, 0, none⟩) (Kd.R_far (p := ⟨gb662, 1, none⟩) (Kd.R_far (p := ⟨gb662, 0, none⟩) (Kd.R_types (Kd.R_types HO661.out BK662.out (by decide)) BK663.out (by decide)) (fun _ hk => hk.1.2) (.bool t654)) (fun _ hk => hk.1.2) (.slice Ao96 t655.length co96)) (fun _ hk => hk.2) (.bool t658)) (fun _ hk => hk.2) (.slice Ao99 t659.length co99)) (fun _ h_ => h_.1)) (fun _ h_ => h_.1))) (Kd.R_base ho0) hb); replace BK649 := kb BK649 hb; replace BK650 := kb BK650 hb; replace BK651 := kb BK651 hb; replace BK662 := kb (o' := .cells #[.bool t654, .slice Ao96 t655.length co96] 24 (0, 0)) BK662 hb; replace BK663 := kb (o' := .cells #[.bool t658, .slice Ao99 t659.length co99] 24 (0, 0)) BK663 hb; replace HB := bs HB hb; (try clear hb); (try clear hb2); (try clear hk); (try clear hi); (try clear ho0)) | ((with_reducible refine gate_dst (N := 9) rfl ?_); (try (refine gate_guard (by rfl) ?_; dsimp only)); refine bx (N := 9) #[.bool false, .slice none 0 0] 24 ?_; intro gb668 hg w111 hbox hb; replace HO657 := rb HO657 hb; replace HO661 := rb HO661 hb; replace HO667 := rb HO667 hb; have BK668 := Aside0.mk (hbox); have GW668 := bz hg HB; have GE668 := bz hg HB; replace HB := bs HB hb; have NB649_668 := nl hg BK649; have NB668_649 := ng hg BK649; replace BK649 := kb BK649 hb; have NB650_668 := nl hg BK650; have NB668_650 := ng hg BK650; replace BK650 := kb BK650 hb; have NB651_668 := nl hg BK651; have NB668_651 := ng hg BK651; replace BK651 := kb BK651 hb; have NB662_668 := nl hg BK662; have NB668_662 := ng hg BK662; replace BK662 := kb BK662 hb; have NB663_668 := nl hg BK663; have NB668_663 := ng hg BK663; replace BK663 := kb BK663 hb; clear hb hbox hg; have hnb112 := NB668_649.out; have hnc112 := NB649_668.out; have hnb113 := NB668_650.out; have hnc113 := NB650_668.out; have hnb114 := NB668_651.out; have hnc114 := NB651_668.out; have hnb115 := NB668_662.out; have hnc115 := NB662_668.out; have hnb116 := NB668_663.out; have hnc116 := NB663_668.out; have hcz117_0 := bc BK668 0 (.bool false); have hcz117_1 := bc BK668 1 (.slice none 0 0); have hfz117_0 := blk_frozen BK668.out 0; have hfz117_1 := blk_frozen BK668.out 1; obtain ⟨Ao118, co118, eo118⟩ := Kd.R_slice HO667.out; subst eo118) | ((with_reducible refine gate_callee (f := 26) rfl ?_); refine gL (N := some 47) Try.func26 #[.agg #[.bool t664, .slice Ao118 t665.length co118]] ?_; (with_reducible refine (big_Sign.calls kj3 t664 _ _ t665 t669 _ ?side1 ?side2 A36.out).mono ?_); (case side1 => refine (Kd.R_reads' (e := 87) (base := w.heap.size) (ok := fun k_ => ((True ∧ some k_ ≠ (.slice Ao96 t655.length co96 : Value).ownBlock) ∧ some k_ ≠ (.slice Ao99 t659.length co99 : Value).ownBlock)) (n := t665.length) (c := co118) ?_).2.2; exact (by (with_reducible repeat first | apply qa | apply qn | apply qd); exact (Kd.R_mono (Kd.R_far (p := ⟨gb668, 1, none⟩) (Kd.R_far (p := ⟨gb668, 0, none⟩) (Kd.R_types HO667.out BK668.out (by decide)) (fun _ hk => hk.2) (.bool t664)) (fun _ hk => hk.2) (.slice Ao118 t665.length co118)) (fun _ h_ => h_.1)))); (case side2 => exact (Kd.R_reads' HO667.out).2.1); rintro e w119 ⟨rfl, hb⟩; refine ⟨_, rfl, ?_⟩; replace HO657 := rt HO657 hb; replace HO661 := rt HO661 hb; replace HO667 := rt HO667 hb; replace BK649 := kb BK649 hb; replace BK650 := kb BK650 hb; replace BK651 := kb BK651 hb; replace BK662 := kb BK662 hb; replace BK663 := kb BK663 hb; replace BK668 := kb (o' := .cells #[.bool t664, .slice Ao118 t665.length co118] 24 (0, 0)) BK668 hb; replace HB := bs HB hb; (try clear hb); (try clear hb2); (try clear hk); (try clear hi); have hcz120_0 := bc BK662 0 (.bool t654); have hcz120_1 := bc BK662 1 (.slice Ao96 t655.length co96); have hfz120_0 := blk_frozen BK662.out 0; have hfz120_1 := blk_frozen BK662.out 1; have hcz121_0 := bc BK668 0 (.bool t664); have hcz121_1 := bc BK668 1 (.slice Ao118 t665.length co118); have hfz121_0 := blk_frozen BK668.out 0; have hfz121_1 := blk_frozen BK668.out 1) | ((with_reducible refine gate_callee (f := 33) rfl ?_); refine gL (N := some 60) Try.func33 #[.agg #[.bool t654, .slice Ao96 t655.length co96], .agg #[.bool t664, .slice Ao118 t665.length co118]] ?_; (with_reducible refine (big_DivMod.calls kj3 t654 _ _ t655 t664 _ _ t665 t672 t673 t676 t677 t680 _ ?side1 ?side2 ?side3 ?side4 A76.out).mono ?_); (case side1 => exact tc (Kd.R_reads' HO657.out).2.2); (case side2 => exact (Kd.R_reads' HO657.out).2.1); (case side3 => exact tc (Kd.R_reads' HO667.out).2.2); (case side4 => exact (Kd.R_reads' HO667.out).2.1); rintro e w122 ⟨v674, v678, rfl, ho0, ho1, hb⟩; refine ⟨_, rfl, ?_⟩; have HO675 := Aside0.mk (Kd.R_lower (Kd.R_new' (Kd.R_new' (Kd.R_new' ho0 (Kd.R_lt (tq HO657))) (Kd.R_lt (tq HO661))) (Kd.R_lt (tq HO667))) (below_size (tb HB))); have HO679 := Aside0.mk (Kd.R_lower (Kd.R_new' (Kd.R_new' (Kd.R_new' ho1 (Kd.R_lt (tq HO657))) (Kd.R_lt (tq HO661))) (Kd.R_lt (tq HO667))) (below_size (tb HB))); replace HO657 := Aside0.mk (Kd.R_mono (Kd.R_told (Kd.R_told (Kd.R_old (tq HO657) hb) (Kd.R_base ho0)) (Kd.R_base ho1)) (fun _ h_ => h_.1)); replace HO661 := Aside0.mk (Kd.R_mono (Kd.R_told (Kd.R_told (Kd.R_old (tq HO661) hb) (Kd.R_base ho0)) (Kd.R_base ho1)) (fun _ h_ => h_.1)); replace HO667 := Aside0.mk (Kd.R_mono (Kd.R_told (Kd.R_told (Kd.R_old (tq HO667) hb) (Kd.R_base ho0)) (Kd.R_base ho1)) (fun _ h_ => h_.1)); replace BK649 := kb BK649 hb; replace BK650 := kb BK650 hb; replace BK651 := kb BK651 hb; replace BK662 := kb BK662 hb; replace BK663 := kb BK663 hb; replace BK668 := kb BK668 hb; replace HB := bs HB hb; (try clear hb); (try clear hb2); (try clear hk); (try clear hi); (try clear ho0); (try clear ho1)) | ((with_reducible refine gate_dst (N := 10) rfl ?_); (try (refine gate_guard (by rfl) ?_; dsimp only)); refine bx (N := 10) #[.bool false, .slice none 0 0] 24 ?_; intro gb681 hg w123 hbox hb; replace HO657 := rb HO657 hb; replace HO661 := rb HO661 hb; replace HO667 := rb HO667 hb; replace HO675 := rb HO675 hb; replace HO679 := rb HO679 hb; have BK681 := Aside0.mk (hbox); have GW681 := bz hg HB; have GE681 := bz hg HB; replace HB := bs HB hb; have NB649_681 := nl hg BK649; have NB681_649 := ng hg BK649; replace BK649 := kb BK649 hb; have NB650_681 := nl hg BK650; have NB681_650 := ng hg BK650; replace BK650 := kb BK650 hb; have NB651_681 := nl hg BK651; have NB681_651 := ng hg BK651; replace BK651 := kb BK651 hb; have NB662_681 := nl hg BK662; have NB681_662 := ng hg BK662; replace BK662 := kb BK662 hb; have NB663_681 := nl hg BK663; have NB681_663 := ng hg BK663; replace BK663 := kb BK663 hb; have NB668_681 := nl hg BK668; have NB681_668 := ng hg BK668; replace BK668 := kb BK668 hb; clear hb hbox hg) | ((with_reducible refine gate_dst (N := 11) rfl ?_); (try (refine gate_guard (by rfl) ?_; dsimp only)); refine bx (N := 11) #[.bool false, .slice none 0 0] 24 ?_; intro gb682 hg w124 hbox hb; replace HO657 := rb HO657 hb; replace HO661 := rb HO661 hb; replace HO667 := rb HO667 hb; replace HO675 := rb HO675 hb; replace HO679 := rb HO679 hb; have BK682 := Aside0.mk (hbox); have GW682 := bz hg HB; have GE682 := bz hg HB; replace HB := bs HB hb; have NB649_682 := nl hg BK649; have NB682_649 := ng hg BK649; replace BK649 := kb BK649 hb; have NB650_682 := nl hg BK650; have NB682_650 := ng hg BK650; replace BK650 := kb BK650 hb; have NB651_682 := nl hg BK651; have NB682_651 := ng hg BK651; replace BK651 := kb BK651 hb; have NB662_682 := nl hg BK662; have NB682_662 := ng hg BK662; replace BK662 := kb BK662 hb; have NB663_682 := nl hg BK663; have NB682_663 := ng hg BK663; replace BK663 := kb BK663 hb; have NB668_682 := nl hg BK668; have NB682_668 := ng hg BK668; replace BK668 := kb BK668 hb; have NB681_682 := nl hg BK681; have NB682_681 := ng hg BK681; replace BK681 := kb BK681 hb; clear hb hbox hg; have hnb125 := NB681_649.out; have hnc125 := NB649_681.out; have hnb126 := NB681_650.out; have hnc126 := NB650_681.out; have hnb127 := NB681_651.out; have hnc127 := NB651_681.out; have hnb128 := NB681_662.out; have hnc128 := NB662_681.out; have hnb129 := NB681_663.out; have hnc129 := NB663_681.out; have hnb130 := NB681_668.out; have hnc130 := NB668_681.out; have hnb131 := NB681_682.out; have hnc131 := NB682_681.out; have hcz132_0 := bc BK681 0 (.bool false); have hcz132_1 := bc BK681 1 (.slice none 0 0); have hfz132_0 := blk_frozen BK681.out 0; have hfz132_1 := blk_frozen BK681.out 1; obtain ⟨Ao133, co133, eo133⟩ := Kd.R_slice HO675.out; subst eo133; have hnb134 := NB682_649.out; have hnc134 := NB649_682.out; have hnb135 := NB682_650.out; have hnc135 := NB650_682.out; have hnb136 := NB682_651.out; have hnc136 := NB651_682.out; have hnb137 := NB682_662.out; have hnc137 := NB662_682.out; have hnb138 := NB682_663.out; have hnc138 := NB663_682.out; have hnb139 := NB682_668.out; have hnc139 := NB668_682.out; have hcz140_0 := bc BK682 0 (.bool false); have hcz140_1 := bc BK682 1 (.slice none 0 0); have hfz140_0 := blk_frozen BK682.out 0; have hfz140_1 := blk_frozen BK682.out 1; obtain ⟨Ao141, co141, eo141⟩ := Kd.R_slice HO679.out; subst eo141; have hcz142_0 := bc BK663 0 (.bool t658); have hcz142_1 := bc BK663 1 (.slice Ao99 t659.length co99); have hfz142_0 := blk_frozen BK663.out 0; have hfz142_1 := blk_frozen BK663.out 1; have hcz143_0 := bc BK668 0 (.bool t664); have hcz143_1 := bc BK668 1 (.slice Ao118 t665.length co118); have hfz143_0 := blk_frozen BK668.out 0; have hfz143_1 := blk_frozen BK668.out 1) | ((with_reducible refine gate_callee (f := 33) rfl ?_); refine gL (N := some 67) Try.func33 #[.agg #[.bool t658, .slice Ao99 t659.length co99], .agg #[.bool t664, .slice Ao118 t665.length co118]] ?_; (with_reducible refine (big_DivMod.calls kj3 t658 _ _ t659 t664 _ _ t665 t683 t684 t687 t688 t691 _ ?side1 ?side2 ?side3 ?side4 A77.out).mono ?_); (case side1 => refine (Kd.R_reads' (e := 87) (base := w.heap.size) (ok := fun k_ => (((some k_ ≠ (.slice Ao96 t655.length co96 : Value).ownBlock ∧ some k_ ≠ (.slice Ao118 t665.length co118 : Value).ownBlock) ∧ some k_ ≠ (.slice Ao133 t673.length co133 : Value).ownBlock) ∧ some k_ ≠ (.slice Ao141 t677.length co141 : Value).ownBlock)) (n := t659.length) (c := co99) ?_).2.2; exact (by (with_reducible repeat first | apply qa | apply qn | apply qd); exact (Kd.R_mono (Kd.R_mono (Kd.R_far (p := ⟨gb682, 1, none⟩) (Kd.R_far (p := ⟨gb682, 0, none⟩) (Kd.R_far (p := ⟨gb681, 1, none⟩) (Kd.R_far (p := ⟨gb681, 0, none⟩) (Kd.R_types (Kd.R_types HO661.out BK681.out (by decide)) BK682.out (by decide)) (fun _ hk => hk.1.2) (.bool t672)) (fun _ hk => hk.1.2) (.slice Ao133 t673.length co133)) (fun _ hk => hk.2) (.bool t676)) (fun _ hk => hk.2) (.slice Ao141 t677.length co141)) (fun _ h_ => h_.1)) (fun _ h_ => h_.1)))); (case side2 => exact (Kd.R_reads' HO661.out).2.1); (case side3 => refine (Kd.R_reads' (e := 87) (base := w.heap.size) (ok := fun k_ => ((((True ∧ some k_ ≠ (.slice Ao96 t655.length co96 : Value).ownBlock) ∧ some k_ ≠ (.slice Ao99 t659.length co99 : Value).ownBlock) ∧ some k_ ≠ (.slice Ao133 t673.length co133 : Value).ownBlock) ∧ some k_ ≠ (.slice Ao141 t677.length co141 : Value).ownBlock)) (n := t665.length) (c := co118) ?_).2.2; exact (by (with_reducible repeat first | apply qa | apply qn | apply qd); exact (Kd.R_mono (Kd.R_mono (Kd.R_far (p := ⟨gb682, 1, none⟩) (Kd.R_far (p := ⟨gb682, 0, none⟩) (Kd.R_far (p := ⟨gb681, 1, none⟩) (Kd.R_far (p := ⟨gb681, 0, none⟩) (Kd.R_types (Kd.R_types HO667.out BK681.out (by decide)) BK682.out (by decide)) (fun _ hk => hk.1.2) (.bool t672)) (fun _ hk => hk.1.2) (.slice Ao133 t673.length co133)) (fun _ hk => hk.2) (.bool t676)) (fun _ hk => hk.2) (.slice Ao141 t677.length co141)) (fun _ h_ => h_.1)) (fun _ h_ => h_.1)))); (case side4 => exact (Kd.R_reads' HO667.out).2.1); rintro e w144 ⟨v685, v689, rfl, ho0, ho1, hb⟩; refine ⟨_, rfl, ?_⟩; have HO686 := Aside0.mk (Kd.R_lower (Kd.R_new' (Kd.R_new' (Kd.R_new' (Kd.R_new' (Kd.R_new' ho0 (Kd.R_lt (by (with_reducible repeat first | apply qa | apply qn | apply qd); exact (Kd.R_mono (Kd.R_mono (Kd.R_far (p := ⟨gb682, 1, none⟩) (Kd.R_far (p := ⟨gb682, 0, none⟩) (Kd.R_far (p := ⟨gb681, 1, none⟩) (Kd.R_far (p := ⟨gb681, 0, none⟩) (Kd.R_types (Kd.R_types HO657.out BK681.out (by decide)) BK682.out (by decide)) (fun _ hk => hk.1.2) (.bool t672)) (fun _ hk => hk.1.2) (.slice Ao133 t673.length co133)) (fun _ hk => hk.2) (.bool t676)) (fun _ hk => hk.2) (.slice Ao141 t677.length co141)) (fun _ h_ => h_.1)) (fun _ h_ => h_.1))))) (Kd.R_lt (by (with_reducible repeat first | apply qa | apply qn | apply qd); exact (Kd.R_mono (Kd.R_mono (Kd.R_far (p := ⟨gb682, 1, none⟩) (Kd.R_far (p := ⟨gb682, 0, none⟩) (Kd.R_far (p := ⟨gb681, 1, none⟩) (Kd.R_far (p := ⟨gb681, 0, none⟩) (Kd.R_types (Kd.R_types HO661.out BK681.out (by decide)) BK682.out (by decide)) (fun _ hk => hk.1.2) (.bool t672)) (fun _ hk => hk.1.2) (.slice Ao133 t673.length co133)) (fun _ hk => hk.2) (.bool t676)) (fun _ hk => hk.2) (.slice Ao141 t677.length co141)) (fun _ h_ => h_.1)) (fun _ h_ => h_.1))))) (Kd.R_lt (by (with_reducible repeat first | apply qa | apply qn | apply qd); exact (Kd.R_mono (Kd.R_mono (Kd.R_far (p := ⟨gb682, 1, none⟩) (Kd.R_far (p := ⟨gb682, 0, none⟩) (Kd.R_far (p := ⟨gb681, 1, none⟩) (Kd.R_far (p := ⟨gb681, 0, none⟩) (Kd.R_types (Kd.R_types HO667.out BK681.out (by decide)) BK682.out (by decide)) (fun _ hk => hk.1.2) (.bool t672)) (fun _ hk => hk.1.2) (.slice Ao133 t673.length co133)) (fun _ hk => hk.2) (.bool t676)) (fun _ hk => hk.2) (.slice Ao141 t677.length co141)) (fun _ h_ => h_.1)) (fun _ h_ => h_.1))))) (Kd.R_lt (by (with_reducible repeat first | apply qa | apply qn | apply qd); exact (Kd.R_mono (Kd.R_mono (Kd.R_far (p := ⟨gb682, 1, none⟩) (Kd.R_far (p := ⟨gb682, 0, none⟩) (Kd.R_far (p := ⟨gb681, 1, none⟩) (Kd.R_far (p := ⟨gb681, 0, none⟩) (Kd.R_types (Kd.R_types HO675.out BK681.out (by decide)) BK682.out (by decide)) (fun _ hk => hk.1.2) (.bool t672)) (fun _ hk => hk.1.2) (.slice Ao133 t673.length co133)) (fun _ hk => hk.2) (.bool t676)) (fun _ hk => hk.2) (.slice Ao141 t677.length co141)) (fun _ h_ => h_.1)) (fun _ h_ => h_.1))))) (Kd.R_lt (by (with_reducible repeat first | apply qa | apply qn | apply qd); exact (Kd.R_mono (Kd.R_mono (Kd.R_far (p := ⟨gb682, 1, none⟩) (Kd.R_far (p := ⟨gb682, 0, none⟩) (Kd.R_far (p := ⟨gb681, 1, none⟩) (Kd.R_far (p := ⟨gb681, 0, none⟩) (Kd.R_types (Kd.R_types HO679.out BK681.out (by decide)) BK682.out (by decide)) (fun _ hk => hk.1.2) (.bool t672)) (fun _ hk => hk.1.2) (.slice Ao133 t673.length co133)) (fun _ hk => hk.2) (.bool t676)) (fun _ hk => hk.2) (.slice Ao141 t677.length co141)) (fun _ h_ => h_.1)) (fun _ h_ => h_.1))))) (below_size (tb HB))); have HO690 := Aside0.mk (Kd.R_lower (Kd.R_new' (Kd.R_new' (Kd.R_new' (Kd.R_new' (Kd.R_new' ho1 (Kd.R_lt (by (with_reducible repeat first | apply qa | apply qn | apply qd); exact (Kd.R_mono (Kd.R_mono (Kd.R_far (p := ⟨gb682, 1, none⟩) (Kd.R_far (p := ⟨gb682, 0, none⟩) (Kd.R_far (p := ⟨gb681, 1, none⟩) (Kd.R_far (p := ⟨gb681, 0, none⟩) (Kd.R_types (Kd.R_types HO657.out BK681.out (by decide)) BK682.out (by decide)) (fun _ hk => hk.1.2) (.bool t672)) (fun _ hk => hk.1.2) (.slice Ao133 t673.length co133)) (fun _ hk => hk.2) (.bool t676)) (fun _ hk => hk.2) (.slice Ao141 t677.length co141)) (fun _ h_ => h_.1)) (fun _ h_ => h_.1))))) (Kd.R_lt (by (with_reducible repeat first | apply qa | apply qn | apply qd); exact (Kd.R_mono (Kd.R_mono (Kd.R_far (p := ⟨gb682, 1, none⟩) (Kd.R_far (p := ⟨gb682, 0, none⟩) (Kd.R_far (p := ⟨gb681, 1, none⟩) (Kd.R_far (p := ⟨gb681, 0, none⟩) (Kd.R_types (Kd.R_types HO661.out BK681.out (by decide)) BK682.out (by decide)) (fun _ hk => hk.1.2) (.bool t672)) (fun _ hk => hk.1.2) (.slice Ao133 t673.length co133)) (fun _ hk => hk.2) (.bool t676)) (fun _ hk => hk.2) (.slice Ao141 t677.length co141)) (fun _ h_ => h_.1)) (fun _ h_ => h_.1))))) (Kd.R_lt (by (with_reducible repeat first | apply qa | apply qn | apply qd); exact (Kd.R_mono (Kd.R_mono (Kd.R_far (p := ⟨gb682, 1, none⟩) (Kd.R_far (p := ⟨gb682, 0, none⟩) (Kd.R_far (p := ⟨gb681, 1, none⟩) (Kd.R_far (p := ⟨gb681, 0, none⟩) (Kd.R_types (Kd.R_types HO667.out BK681.out (by decide)) BK682.out (by decide)) (fun _ hk => hk.1.2) (.bool t672)) (fun _ hk => hk.1.2) (.slice Ao133 t673.length co133)) (fun _ hk => hk.2) (.bool t676)) (fun _ hk => hk.2) (.slice Ao141 t677.length co141)) (fun _ h_ => h_.1)) (fun _ h_ => h_.1))))) (Kd.R_lt (by (with_reducible repeat first | apply qa | apply qn | apply qd); exact (Kd.R_mono (Kd.R_mono (Kd.R_far (p := ⟨gb682, 1, none⟩) (Kd.R_far (p := ⟨gb682, 0, none⟩) (Kd.R_far (p := ⟨gb681, 1, none⟩) (Kd.R_far (p := ⟨gb681, 0, none⟩) (Kd.R_types (Kd.R_types HO675.out BK681.out (by decide)) BK682.out (by decide)) (fun _ hk => hk.1.2) (.bool t672)) (fun _ hk => hk.1.2) (.slice Ao133 t673.length co133)) (fun _ hk => hk.2) (.bool t676)) (fun _ hk => hk.2) (.slice Ao141 t677.length co141)) (fun _ h_ => h_.1)) (fun _ h_ => h_.1))))) (Kd.R_lt (by (with_reducible repeat first | apply qa | apply qn | apply qd); exact (Kd.R_mono (Kd.R_mono (Kd.R_far (p := ⟨gb682, 1, none⟩) (Kd.R_far (p := ⟨gb682, 0, none⟩) (Kd.R_far (p := ⟨gb681, 1, none⟩) (Kd.R_far (p := ⟨gb681, 0, none⟩) (Kd.R_types (Kd.R_types HO679.out BK681.out (by decide)) BK682.out (by decide)) (fun _ hk => hk.1.2) (.bool t672)) (fun _ hk => hk.1.2) (.slice Ao133 t673.length co133)) (fun _ hk => hk.2) (.bool t676)) (fun _ hk => hk.2) (.slice Ao141 t677.length co141)) (fun _ h_ => h_.1)) (fun _ h_ => h_.1))))) (below_size (tb HB))); replace HO657 := Aside0.mk (Kd.R_mono (Kd.R_told (Kd.R_told (Kd.R_old (by (with_reducible repeat first | apply qa | apply qn | apply qd); exact (Kd.R_mono (Kd.R_mono (Kd.R_far (p := ⟨gb682, 1, none⟩) (Kd.R_far (p := ⟨gb682, 0, none⟩) (Kd.R_far (p := ⟨gb681, 1, none⟩) (Kd.R_far (p := ⟨gb681, 0, none⟩) (Kd.R_types (Kd.R_types HO657.out BK681.out (by decide)) BK682.out (by decide)) (fun _ hk => hk.1.2) (.bool t672)) (fun _ hk => hk.1.2) (.slice Ao133 t673.length co133)) (fun _ hk => hk.2) (.bool t676)) (fun _ hk => hk.2) (.slice Ao141 t677.length co141)) (fun _ h_ => h_.1)) (fun _ h_ => h_.1))) hb) (Kd.R_base ho0)) (Kd.R_base ho1)) (fun _ h_ => h_.1)); replace HO661 := Aside0.mk (Kd.R_mono (Kd.R_told (Kd.R_told (Kd.R_old (by (with_reducible repeat first | apply qa | apply qn | apply qd); exact (Kd.R_mono (Kd.R_mono (Kd.R_far (p := ⟨gb682, 1, none⟩) (Kd.R_far (p := ⟨gb682, 0, none⟩) (Kd.R_far (p := ⟨gb681, 1, none⟩) (Kd.R_far (p := ⟨gb681, 0, none⟩) (Kd.R_types (Kd.R_types HO661.out BK681.out (by decide)) BK682.out (by decide)) (fun _ hk => hk.1.2) (.bool t672)) (fun _ hk => hk.1.2) (.slice Ao133 t673.length co133)) (fun _ hk => hk.2) (.bool t676)) (fun _ hk => hk.2) (.slice Ao141 t677.length co141)) (fun _ h_ => h_.1)) (fun _ h_ => h_.1))) hb) (Kd.R_base ho0)) (Kd.R_base ho1)) (fun _ h_ => h_.1)); replace HO667 := Aside0.mk (Kd.R_mono (Kd.R_told (Kd.R_told (Kd.R_old (by (with_reducible repeat first | apply qa | apply qn | apply qd); exact (Kd.R_mono (Kd.R_mono (Kd.R_far (p := ⟨gb682, 1, none⟩) (Kd.R_far (p := ⟨gb682, 0, none⟩) (Kd.R_far (p := ⟨gb681, 1, none⟩) (Kd.R_far (p := ⟨gb681, 0, none⟩) (Kd.R_types (Kd.R_types HO667.out BK681.out (by decide)) BK682.out (by decide)) (fun _ hk => hk.1.2) (.bool t672)) (fun _ hk => hk.1.2) (.slice Ao133 t673.length co133)) (fun _ hk => hk.2) (.bool t676)) (fun _ hk => hk.2) (.slice Ao141 t677.length co141)) (fun _ h_ => h_.1)) (fun _ h_ => h_.1))) hb) (Kd.R_base ho0)) (Kd.R_base ho1)) (fun _ h_ => h_.1)); replace HO675 := Aside0.mk (Kd.R_mono (Kd.R_told (Kd.R_told (Kd.R_old (by (with_reducible repeat first | apply qa | apply qn | apply qd); exact (Kd.R_mono (Kd.R_mono (Kd.R_far (p := ⟨gb682, 1, none⟩) (Kd.R_far (p := ⟨gb682, 0, none⟩) (Kd.R_far (p := ⟨gb681, 1, none⟩) (Kd.R_far (p := ⟨gb681, 0, none⟩) (Kd.R_types (Kd.R_types HO675.out BK681.out (by decide)) BK682.out (by decide)) (fun _ hk => hk.1.2) (.bool t672)) (fun _ hk => hk.1.2) (.slice Ao133 t673.length co133)) (fun _ hk => hk.2) (.bool t676)) (fun _ hk => hk.2) (.slice Ao141 t677.length co141)) (fun _ h_ => h_.1)) (fun _ h_ => h_.1))) hb) (Kd.R_base ho0)) (Kd.R_base ho1)) (fun _ h_ => h_.1)); replace HO679 := Aside0.mk (Kd.R_mono (Kd.R_told (Kd.R_told (Kd.R_old (by (with_reducible repeat first | apply qa | apply qn | apply qd); exact (Kd.R_mono (Kd.R_mono (Kd.R_far (p := ⟨gb682, 1, none⟩) (Kd.R_far (p := ⟨gb682, 0, none⟩) (Kd.R_far (p := ⟨gb681, 1, none⟩) (Kd.R_far (p := ⟨gb681, 0, none⟩) (Kd.R_types (Kd.R_types HO679.out BK681.out (by decide)) BK682.out (by decide)) (fun _ hk => hk.1.2) (.bool t672)) (fun _ hk => hk.1.2) (.slice Ao133 t673.length co133)) (fun _ hk => hk.2) (.bool t676)) (fun _ hk => hk.2) (.slice Ao141 t677.length co141)) (fun _ h_ => h_.1)) (fun _ h_ => h_.1))) hb) (Kd.R_base ho0)) (Kd.R_base ho1)) (fun _ h_ => h_.1)); replace BK649 := kb BK649 hb; replace BK650 := kb BK650 hb; replace BK651 := kb BK651 hb; replace BK662 := kb BK662 hb; replace BK663 := kb BK663 hb; replace BK668 := kb BK668 hb; replace BK681 := kb (o' := .cells #[.bool t672, .slice Ao133 t673.length co133] 24 (0, 0)) BK681 hb; replace BK682 := kb (o' := .cells #[.bool t676, .slice Ao141 t677.length co141] 24 (0, 0)) BK682 hb; replace HB := bs HB hb; (try clear hb); (try clear hb2); (try clear hk); (try clear hi); (try clear ho0); (try clear ho1)) | ((with_reducible refine gate_dst (N := 13) rfl ?_); (try (refine gate_guard (by rfl) ?_; dsimp only)); refine bx (N := 13) #[.bool false, .slice none 0 0] 24 ?_; intro gb692 hg w145 hbox hb; replace HO657 := rb HO657 hb; replace HO661 := rb HO661 hb; replace HO667 := rb HO667 hb; replace HO675 := rb HO675 hb; replace HO679 := rb HO679 hb; replace HO686 := rb HO686 hb; replace HO690 := rb HO690 hb; have BK692 := Aside0.mk (hbox); have GW692 := bz hg HB; have GE692 := bz hg HB; replace HB := bs HB hb; have NB649_692 := nl hg BK649; have NB692_649 := ng hg BK649; replace BK649 := kb BK649 hb; have NB650_692 := nl hg BK650; have NB692_650 := ng hg BK650; replace BK650 := kb BK650 hb; have NB651_692 := nl hg BK651; have NB692_651 := ng hg BK651; replace BK651 := kb BK651 hb; have NB662_692 := nl hg BK662; have NB692_662 := ng hg BK662; replace BK662 := kb BK662 hb; have NB663_692 := nl hg BK663; have NB692_663 := ng hg BK663; replace BK663 := kb BK663 hb; have NB668_692 := nl hg BK668; have NB692_668 := ng hg BK668; replace BK668 := kb BK668 hb; have NB681_692 := nl hg BK681; have NB692_681 := ng hg BK681; replace BK681 := kb BK681 hb; have NB682_692 := nl hg BK682; have NB692_682 := ng hg BK682; replace BK682 := kb BK682 hb; clear hb hbox hg) | ((with_reducible refine gate_dst (N := 14) rfl ?_); (try (refine gate_guard (by rfl) ?_; dsimp only)); refine bx (N := 14) #[.bool false, .slice none 0 0] 24 ?_; intro gb693 hg w146 hbox hb; replace HO657 := rb HO657 hb; replace HO661 := rb HO661 hb; replace HO667 := rb HO667 hb; replace HO675 := rb HO675 hb; replace HO679 := rb HO679 hb; replace HO686 := rb HO686 hb; replace HO690 := rb HO690 hb; have BK693 := Aside0.mk (hbox); have GW693 := bz hg HB; have GE693 := bz hg HB; replace HB := bs HB hb; have NB649_693 := nl hg BK649; have NB693_649 := ng hg BK649; have NB650_693 := nl hg BK650; have NB693_650 := ng hg BK650; have NB651_693 := nl hg BK651; have NB693_651 := ng hg BK651; replace BK651 := kb BK651 hb; have NB662_693 := nl hg BK662; have NB693_662 := ng hg BK662; replace BK662 := kb BK662 hb; have NB663_693 := nl hg BK663; have NB693_663 := ng hg BK663; replace BK663 := kb BK663 hb; have NB668_693 := nl hg BK668; have NB693_668 := ng hg BK668; replace BK668 := kb BK668 hb; have NB681_693 := nl hg BK681; have NB693_681 := ng hg BK681; replace BK681 := kb BK681 hb; have NB682_693 := nl hg BK682; have NB693_682 := ng hg BK682; have NB692_693 := nl hg BK692; have NB693_692 := ng hg BK692; replace BK692 := kb BK692 hb; clear hb hbox hg; have hnb147 := NB692_649.out; have hnc147 := NB649_692.out; have hnb148 := NB692_650.out; have hnc148 := NB650_692.out; have hnb149 := NB692_651.out; have hnc149 := NB651_692.out; have hnb150 := NB692_662.out; have hnc150 := NB662_692.out; have hnb151 := NB692_663.out; have hnc151 := NB663_692.out; have hnb152 := NB692_668.out; have hnc152 := NB668_692.out; have hnb153 := NB692_681.out; have hnc153 := NB681_692.out; have hnb154 := NB692_682.out; have hnc154 := NB682_692.out; have hnb155 := NB692_693.out; have hnc155 := NB693_692.out; have hcz156_0 := bc BK692 0 (.bool false); have hcz156_1 := bc BK692 1 (.slice none 0 0); have hfz156_0 := blk_frozen BK692.out 0; have hfz156_1 := blk_frozen BK692.out 1; obtain ⟨Ao157, co157, eo157⟩ := Kd.R_slice HO686.out; subst eo157; have hnb158 := NB693_649.out; have hnc158 := NB649_693.out; have hnb159 := NB693_650.out; have hnc159 := NB650_693.out; have hnb160 := NB693_651.out; have hnc160 := NB651_693.out; have hnb161 := NB693_662.out; have hnc161 := NB662_693.out; have hnb162 := NB693_663.out; have hnc162 := NB663_693.out; have hnb163 := NB693_668.out; have hnc163 := NB668_693.out; have hnb164 := NB693_681.out; have hnc164 := NB681_693.out; have hnb165 := NB693_682.out; have hnc165 := NB682_693.out; have hcz166_0 := bc BK693 0 (.bool false); have hcz166_1 := bc BK693 1 (.slice none 0 0); have hfz166_0 := blk_frozen BK693.out 0; have hfz166_1 := blk_frozen BK693.out 1; obtain ⟨Ao167, co167, eo167⟩ := Kd.R_slice HO690.out; subst eo167; have hcz168_0 := bc BK668 0 (.bool t664); have hcz168_1 := bc BK668 1 (.slice Ao118 t665.length co118); have hfz168_0 := blk_frozen BK668.out 0; have hfz168_1 := blk_frozen BK668.out 1; have hcz169_0 := bc BK662 0 (.bool t654); have hcz169_1 := bc BK662 1 (.slice Ao96 t655.length co96); have hfz169_0 := blk_frozen BK662.out 0; have hfz169_1 := blk_frozen BK662.out 1) | (go_at_call 44; (with_reducible refine (big_Divides.calls kj3 t664 _ _ t665 t654 _ _ t655 true _ ?side1 ?side2 ?side3 ?side4 A80.out).mono ?_); (case side1 => refine (Kd.R_reads' (e := 87) (base := w.heap.size) (ok := fun k_ => ((((((True ∧ some k_ ≠ (.slice Ao96 t655.length co96 : Value).ownBlock) ∧ some k_ ≠ (.slice Ao99 t659.length co99 : Value).ownBlock) ∧ some k_ ≠ (.slice Ao133 t673.length co133 : Value).ownBlock) ∧ some k_ ≠ (.slice Ao141 t677.length co141 : Value).ownBlock) ∧ some k_ ≠ (.slice Ao157 t684.length co157 : Value).ownBlock) ∧ some k_ ≠ (.slice Ao167 t688.length co167 : Value).ownBlock)) (n := t665.length) (c := co118) ?_).2.2; exact (by (with_reducible repeat first | apply qa | apply qn | apply qd); exact (Kd.R_mono (Kd.R_mono (Kd.R_far (p := ⟨gb693, 1, none⟩) (Kd.R_far (p := ⟨gb693, 0, none⟩) (Kd.R_far (p := ⟨gb692, 1, none⟩) (Kd.R_far (p := ⟨gb692, 0, none⟩) (Kd.R_types (Kd.R_types HO667.out BK692.out (by decide)) BK693.out (by decide)) (fun _ hk => hk.1.2) (.bool t683)) (fun _ hk => hk.1.2) (.slice Ao157 t684.length co157)) (fun _ hk => hk.2) (.bool t687)) (fun _ hk => hk.2) (.slice Ao167 t688.length co167)) (fun _ h_ => h_.1)) (fun _ h_ => h_.1)))); (case side2 => exact (Kd.R_reads' HO667.out).2.1); (case side3 => refine (Kd.R_reads' (e := 87) (base := w.heap.size) (ok := fun k_ => (((((some k_ ≠ (.slice Ao99 t659.length co99 : Value).ownBlock ∧ some k_ ≠ (.slice Ao118 t665.length co118 : Value).ownBlock) ∧ some k_ ≠ (.slice Ao133 t673.length co133 : Value).ownBlock) ∧ some k_ ≠ (.slice Ao141 t677.length co141 : Value).ownBlock) ∧ some k_ ≠ (.slice Ao157 t684.length co157 : Value).ownBlock) ∧ some k_ ≠ (.slice Ao167 t688.length co167 : Value).ownBlock)) (n := t655.length) (c := co96) ?_).2.2; exact (by (with_reducible repeat first | apply qa | apply qn | apply qd); exact (Kd.R_mono (Kd.R_mono (Kd.R_far (p := ⟨gb693, 1, none⟩) (Kd.R_far (p := ⟨gb693, 0, none⟩) (Kd.R_far (p := ⟨gb692, 1, none⟩) (Kd.R_far (p := ⟨gb692, 0, none⟩) (Kd.R_types (Kd.R_types HO657.out BK692.out (by decide)) BK693.out (by decide)) (fun _ hk => hk.1.2) (.bool t683)) (fun _ hk => hk.1.2) (.slice Ao157 t684.length co157)) (fun _ hk => hk.2) (.bool t687)) (fun _ hk => hk.2) (.slice Ao167 t688.length co167)) (fun _ h_ => h_.1)) (fun _ h_ => h_.1)))); (case side4 => exact (Kd.R_reads' HO657.out).2.1); rintro e w170 ⟨rfl, hb⟩; replace HO657 := rt HO657 hb; replace HO661 := rt HO661 hb; replace HO667 := rt HO667 hb; replace HO675 := rt HO675 hb; replace HO679 := rt HO679 hb; replace HO686 := rt HO686 hb; replace HO690 := rt HO690 hb; replace BK651 := kb BK651 hb; replace BK663 := kb BK663 hb; replace BK668 := kb BK668 hb; replace BK681 := kb BK681 hb; replace BK692 := kb (o' := .cells #[.bool t683, .slice Ao157 t684.length co157] 24 (0, 0)) BK692 hb; replace HB := bs HB hb; (try clear hb); (try clear hb2); (try clear hk); (try clear hi); have hcz171_0 := bc BK668 0 (.bool t664); have hcz171_1 := bc BK668 1 (.slice Ao118 t665.length co118); have hfz171_0 := blk_frozen BK668.out 0; have hfz171_1 := blk_frozen BK668.out 1; have hcz172_0 := bc BK663 0 (.bool t658); have hcz172_1 := bc BK663 1 (.slice Ao99 t659.length co99); have hfz172_0 := blk_frozen BK663.out 0; have hfz172_1 := blk_frozen BK663.out 1) | (go_at_call 44; (with_reducible refine (big_Divides.calls kj3 t664 _ _ t665 t658 _ _ t659 true _ ?side1 ?side2 ?side3 ?side4 A82.out).mono ?_); (case side1 => exact tc (Kd.R_reads' HO667.out).2.2); (case side2 => exact (Kd.R_reads' HO667.out).2.1); (case side3 => exact tc (Kd.R_reads' HO661.out).2.2); (case side4 => exact (Kd.R_reads' HO661.out).2.1); rintro e w173 ⟨rfl, hb⟩; replace HO657 := rb HO657 hb; replace HO661 := rb HO661 hb; replace HO667 := rb HO667 hb; replace HO675 := rb HO675 hb; replace HO679 := rb HO679 hb; replace HO686 := rb HO686 hb; replace HO690 := rb HO690 hb; replace BK651 := kb BK651 hb; replace BK668 := kb BK668 hb; replace BK681 := kb BK681 hb; replace BK692 := kb BK692 hb; replace HB := bs HB hb; (try clear hb); (try clear hb2); (try clear hk); (try clear hi); have hnb174 := NB651_649.out; have hnc174 := NB649_651.out; have hnb175 := NB651_650.out; have hnc175 := NB650_651.out; have hcz176_0 := bc BK651 0 (.bool a2_0); have hcz176_1 := bc BK651 1 (.slice A2_1 l2_1.length c2_1); have hfz176_0 := blk_frozen BK651.out 0; have hfz176_1 := blk_frozen BK651.out 1; have hcz177_0 := bc BK668 0 (.bool t664); have hcz177_1 := bc BK668 1 (.slice Ao118 t665.length co118); have hfz177_0 := blk_frozen BK668.out 0; have hfz177_1 := blk_frozen BK668.out 1) | (go_at_call 44; (with_reducible refine (big_Divides.calls kj3 a2_0 _ _ l2_1 t664 _ _ t665 true _ ?side1 ?side2 ?side3 ?side4 A84.out).mono ?_); (case side1 => exact tc (Kd.C_below HR2_1.out HB.out)); (case side2 => exact HC2_1.out); (case side3 => exact tc (Kd.R_reads' HO667.out).2.2); (case side4 => exact (Kd.R_reads' HO667.out).2.1); rintro e w178 ⟨rfl, hb⟩; replace HO657 := rb HO657 hb; replace HO661 := rb HO661 hb; replace HO667 := rb HO667 hb; replace HO675 := rb HO675 hb; replace HO679 := rb HO679 hb; replace HO686 := rb HO686 hb; replace HO690 := rb HO690 hb; replace BK681 := kb BK681 hb; replace BK692 := kb BK692 hb; replace HB := bs HB hb; (try clear hb); (try clear hb2); (try clear hk); (try clear hi); have hcz179_0 := bc BK681 0 (.bool t672); have hcz179_1 := bc BK681 1 (.slice Ao133 t673.length co133); have hfz179_0 := blk_frozen BK681.out 0; have hfz179_1 := blk_frozen BK681.out 1; have hcz180_0 := bc BK692 0 (.bool t683); have hcz180_1 := bc BK692 1 (.slice Ao157 t684.length co157); have hfz180_0 := blk_frozen BK692.out 0; have hfz180_1 := blk_frozen BK692.out 1) | (go_at_call 42; (with_reducible refine (big_Gcd.calls kj3 t672 _ _ t673 t683 _ _ t684 t697 t698 _ ?side1 ?side2 ?side3 ?side4 A86.out).mono ?_); (case side1 => exact tc (Kd.R_reads' HO675.out).2.2); (case side2 => exact (Kd.R_reads' HO675.out).2.1); (case side3 => exact tc (Kd.R_reads' HO686.out).2.2); (case side4 => exact (Kd.R_reads' HO686.out).2.1); rintro e w181 ⟨v699, rfl, ho0, hb⟩; have HO700 := Aside0.mk (Kd.R_lower (Kd.R_new' (Kd.R_new' (Kd.R_new' (Kd.R_new' (Kd.R_new' (Kd.R_new' (Kd.R_new' ho0 (Kd.R_lt (tq HO657))) (Kd.R_lt (tq HO661))) (Kd.R_lt (tq HO667))) (Kd.R_lt (tq HO675))) (Kd.R_lt (tq HO679))) (Kd.R_lt (tq HO686))) (Kd.R_lt (tq HO690))) (below_size (tb HB))); replace HO657 := re HO657 (Kd.R_base ho0) hb; replace HO661 := re HO661 (Kd.R_base ho0) hb; replace HO667 := re HO667 (Kd.R_base ho0) hb; replace HO675 := re HO675 (Kd.R_base ho0) hb; replace HO679 := re HO679 (Kd.R_base ho0) hb; replace HO686 := re HO686 (Kd.R_base ho0) hb; replace HO690 := re HO690 (Kd.R_base ho0) hb; replace HB := bs HB hb; (try clear hb); (try clear hb2); (try clear hk); (try clear hi); (try clear ho0)) | (go_at_call 40; (with_reducible refine (big_Of.calls kj3 1 t701 t702 _ A87.out).mono ?_); rintro e w182 ⟨v703, rfl, ho0, hb⟩; have HO704 := Aside0.mk (Kd.R_lower (Kd.R_new' (Kd.R_new' (Kd.R_new' (Kd.R_new' (Kd.R_new' (Kd.R_new' (Kd.R_new' (Kd.R_new' ho0 (Kd.R_lt (tq HO657))) (Kd.R_lt (tq HO661))) (Kd.R_lt (tq HO667))) (Kd.R_lt (tq HO675))) (Kd.R_lt (tq HO679))) (Kd.R_lt (tq HO686))) (Kd.R_lt (tq HO690))) (Kd.R_lt (tq HO700))) (below_size (tb HB))); replace HO700 := re HO700 (Kd.R_base ho0) hb; replace HB := bs HB hb; (try clear hb); (try clear hb2); (try clear hk); (try clear hi); (try clear ho0); obtain ⟨Ao183, co183, eo183⟩ := Kd.R_slice HO700.out; subst eo183; obtain ⟨Ao184, co184, eo184⟩ := Kd.R_slice HO704.out; subst eo184) | (go_at_call 24; (with_reducible refine (big_Cmp.calls kj3 t697 _ _ t698 t701 _ _ t702 t705 _ ?side1 ?side2 ?side3 ?side4 A88.out).mono ?_); (case side1 => exact tc (Kd.R_reads' HO700.out).2.2); (case side2 => exact (Kd.R_reads' HO700.out).2.1); (case side3 => exact tc (Kd.R_reads' HO704.out).2.2); (case side4 => exact (Kd.R_reads' HO704.out).2.1); rintro e w185 ⟨rfl, hb⟩; replace HB := bs HB hb; (try clear hb); (try clear hb2); (try clear hk); (try clear hi)))
           go_ret
           exact ⟨by first | rfl | (simp [errW_none, errW_some] <;> rfl) | (simp [*, errW_none, errW_some] <;> rfl), tb HB⟩
          intro hJ2_5_6_7
          refine join_ (σ := Value × Value × Nat) 3 (bb 10 127) (fun s_ => [(39, .agg #[.bool t654, s_.1]), (42, .agg #[.bool t658, s_.2.1]), (7, .pointer (some ⟨s_.2.2, 0, none⟩))]) (fun s_ w' => (w'.cell? ⟨gb649, 0, none⟩ = some (.bool a0_0) ∧ w'.cell? ⟨gb649, 1, none⟩ = some (.slice A0_1 l0_1.length c0_1) ∧ w'.cell? ⟨gb651, 0, none⟩ = some (.bool a2_0) ∧ w'.cell? ⟨gb651, 1, none⟩ = some (.slice A2_1 l2_1.length c2_1) ∧ w'.cell? ⟨gb650, 0, none⟩ = some (.bool a1_0) ∧ w'.cell? ⟨gb650, 1, none⟩ = some (.slice A1_1 l1_1.length c1_1)) ∧ Aside0 (Kd.R (Kd.int .u32) 87 w' w.heap.size (fun k_ => some k_ ≠ (s_.2.1 : Value).ownBlock) s_.1 t655) ∧ Aside0 (Kd.R (Kd.int .u32) 87 w' w.heap.size (fun k_ => some k_ ≠ (s_.1 : Value).ownBlock) s_.2.1 t659) ∧ Aside0 (w'.heap[gb649]? = some (.cells #[.bool a0_0, .slice A0_1 l0_1.length c0_1] 24 (0, 0))) ∧ Aside0 (w'.heap[gb650]? = some (.cells #[.bool a1_0, .slice A1_1 l1_1.length c1_1] 24 (0, 0))) ∧ Aside0 (w'.heap[gb651]? = some (.cells #[.bool a2_0, .slice A2_1 l2_1.length c2_1] 24 (0, 0))) ∧ Aside0 (w'.heap[s_.2.2]? = some (.cells #[.bool false, .slice none 0 0] 24 (0, 0))) ∧ Aside0 (w.heap.size ≤ s_.2.2) ∧ Aside0 (w.heap.size ≤ s_.2.2) ∧ Aside0 (gb649 ≠ s_.2.2) ∧ Aside0 (s_.2.2 ≠ gb649) ∧ Aside0 (gb650 ≠ s_.2.2) ∧ Aside0 (s_.2.2 ≠ gb650) ∧ Aside0 (gb651 ≠ s_.2.2) ∧ Aside0 (s_.2.2 ≠ gb651) ∧ Aside0 (Below w.heap.size w w')) ?_ ?_
          ·skip
           ·skip
            clear BK649 BK650 BK651 HB
            rintro ⟨v656, v660, gb662⟩ w93 ⟨hHeld, HO657, HO661, BK649, BK650, BK651, BK662, GW662, GE662, NB649_662, NB662_649, NB650_662, NB662_650, NB651_662, NB662_651, HB⟩
            try dsimp only at hHeld HO657 HO661 BK649 BK650 BK651 BK662 GW662 GE662 NB649_662 NB662_649 NB650_662 NB662_650 NB651_662 NB662_651 HB
            refine nP ?_
            refine oT (i := 7) (N := some 8) (bb 10 255) HT_ fun K hK => ?_
            refine box_step ?hg (N := 8) ?hd (cs := #[.bool false, .slice none 0 0]) (t := 24) ?hr ?_; (case hd => rfl); (case hg => rfl); (case hr => first | (go_simp; done) | (go_simp; rfl))
            intro gb663 hg w94 hbox hb
            replace HO657 := rb HO657 hb
            replace HO661 := rb HO661 hb
            have BK663 := Aside0.mk (hbox)
            have GW663 := bz hg HB
            have GE663 := bz hg HB
            replace HB := bs HB hb
            have NB649_663 := nl hg BK649
            have NB663_649 := ng hg BK649
            replace BK649 := kb BK649 hb
            have NB650_663 := nl hg BK650
            have NB663_650 := ng hg BK650
            replace BK650 := kb BK650 hb
            have NB651_663 := nl hg BK651
            have NB663_651 := ng hg BK651
            replace BK651 := kb BK651 hb
            have NB662_663 := nl hg BK662
            have NB663_662 := ng hg BK662
            replace BK662 := kb BK662 hb
            clear hb hbox hg
            refine hK.out _ _ held fun hHeld => nT (N := some 8) ?_
            clear hK K
            exact nJ (hJ2_5_6_7 (v656, v660, gb662, gb663) _ ⟨hHeld, ⟨tq HO657⟩, ⟨tq HO661⟩, ⟨tk BK649⟩, ⟨tk BK650⟩, ⟨tk BK651⟩, ⟨tk BK662⟩, ⟨tk BK663⟩, GW662, GE662, NB649_662, NB662_649, NB650_662, NB662_650, NB651_662, NB662_651, NB663_662, NB662_663, GW663, GE663, NB649_663, NB663_649, NB650_663, NB663_650, NB651_663, NB663_651, ⟨tb HB⟩⟩)
          intro hJ2_5_6
          refine join_ (σ := Value × Value × Nat) 3 (bb 10 191) (fun s_ => [(39, .agg #[.bool t654, s_.1]), (42, .agg #[.bool t658, s_.2.1]), (8, .pointer (some ⟨s_.2.2, 0, none⟩))]) (fun s_ w' => (w'.cell? ⟨gb649, 0, none⟩ = some (.bool a0_0) ∧ w'.cell? ⟨gb649, 1, none⟩ = some (.slice A0_1 l0_1.length c0_1) ∧ w'.cell? ⟨gb651, 0, none⟩ = some (.bool a2_0) ∧ w'.cell? ⟨gb651, 1, none⟩ = some (.slice A2_1 l2_1.length c2_1) ∧ w'.cell? ⟨gb650, 0, none⟩ = some (.bool a1_0) ∧ w'.cell? ⟨gb650, 1, none⟩ = some (.slice A1_1 l1_1.length c1_1)) ∧ Aside0 (Kd.R (Kd.int .u32) 87 w' w.heap.size (fun k_ => some k_ ≠ (s_.2.1 : Value).ownBlock) s_.1 t655) ∧ Aside0 (Kd.R (Kd.int .u32) 87 w' w.heap.size (fun k_ => some k_ ≠ (s_.1 : Value).ownBlock) s_.2.1 t659) ∧ Aside0 (w'.heap[gb649]? = some (.cells #[.bool a0_0, .slice A0_1 l0_1.length c0_1] 24 (0, 0))) ∧ Aside0 (w'.heap[gb650]? = some (.cells #[.bool a1_0, .slice A1_1 l1_1.length c1_1] 24 (0, 0))) ∧ Aside0 (w'.heap[gb651]? = some (.cells #[.bool a2_0, .slice A2_1 l2_1.length c2_1] 24 (0, 0))) ∧ Aside0 (w'.heap[s_.2.2]? = some (.cells #[.bool false, .slice none 0 0] 24 (0, 0))) ∧ Aside0 (w.heap.size ≤ s_.2.2) ∧ Aside0 (w.heap.size ≤ s_.2.2) ∧ Aside0 (gb649 ≠ s_.2.2) ∧ Aside0 (s_.2.2 ≠ gb649) ∧ Aside0 (gb650 ≠ s_.2.2) ∧ Aside0 (s_.2.2 ≠ gb650) ∧ Aside0 (gb651 ≠ s_.2.2) ∧ Aside0 (s_.2.2 ≠ gb651) ∧ Aside0 (Below w.heap.size w w')) ?_ ?_
          ·skip
           ·skip
            clear BK649 BK650 BK651 HB
            rintro ⟨v656, v660, gb663⟩ w93 ⟨hHeld, HO657, HO661, BK649, BK650, BK651, BK663, GW663, GE663, NB649_663, NB663_649, NB650_663, NB663_650, NB651_663, NB663_651, HB⟩
            try dsimp only at hHeld HO657 HO661 BK649 BK650 BK651 BK663 GW663 GE663 NB649_663 NB663_649 NB650_663 NB663_650 NB651_663 NB663_651 HB
            refine nP ?_
            refine oT (i := 6) (N := some 7) (bb 10 255) HT_ fun K hK => ?_
            refine box_step ?hg (N := 7) ?hd (cs := #[.bool false, .slice none 0 0]) (t := 24) ?hr ?_; (case hd => rfl); (case hg => rfl); (case hr => first | (go_simp; done) | (go_simp; rfl))
            intro gb662 hg w94 hbox hb
            replace HO657 := rb HO657 hb
            replace HO661 := rb HO661 hb
            have BK662 := Aside0.mk (hbox)
            have GW662 := bz hg HB
            have GE662 := bz hg HB
            replace HB := bs HB hb
            have NB649_662 := nl hg BK649
            have NB662_649 := ng hg BK649
            replace BK649 := kb BK649 hb
            have NB650_662 := nl hg BK650
            have NB662_650 := ng hg BK650
            replace BK650 := kb BK650 hb
            have NB651_662 := nl hg BK651
            have NB662_651 := ng hg BK651
            replace BK651 := kb BK651 hb
            have NB663_662 := nl hg BK663
            have NB662_663 := ng hg BK663
            replace BK663 := kb BK663 hb
            clear hb hbox hg
            refine hK.out _ _ held fun hHeld => nT (N := some 7) ?_
            clear hK K
            exact nJ (hJ2_5_6_7 (v656, v660, gb662, gb663) _ ⟨hHeld, ⟨tq HO657⟩, ⟨tq HO661⟩, ⟨tk BK649⟩, ⟨tk BK650⟩, ⟨tk BK651⟩, ⟨tk BK662⟩, ⟨tk BK663⟩, GW662, GE662, NB649_662, NB662_649, NB650_662, NB662_650, NB651_662, NB662_651, NB663_662, NB662_663, GW663, GE663, NB649_663, NB663_649, NB650_663, NB663_650, NB651_663, NB663_651, ⟨tb HB⟩⟩)
          intro hJ2_5_7
          refine join_ (σ := Value × Nat × Nat) 3 (bb 10 223) (fun s_ => [(39, .agg #[.bool t654, s_.1]), (7, .pointer (some ⟨s_.2.1, 0, none⟩)), (8, .pointer (some ⟨s_.2.2, 0, none⟩))]) (fun s_ w' => (w'.cell? ⟨gb649, 0, none⟩ = some (.bool a0_0) ∧ w'.cell? ⟨gb649, 1, none⟩ = some (.slice A0_1 l0_1.length c0_1) ∧ w'.cell? ⟨gb651, 0, none⟩ = some (.bool a2_0) ∧ w'.cell? ⟨gb651, 1, none⟩ = some (.slice A2_1 l2_1.length c2_1) ∧ w'.cell? ⟨gb650, 0, none⟩ = some (.bool a1_0) ∧ w'.cell? ⟨gb650, 1, none⟩ = some (.slice A1_1 l1_1.length c1_1)) ∧ Aside0 (Kd.R (Kd.int .u32) 87 w' w.heap.size (fun _ => True) s_.1 t655) ∧ Aside0 (w'.heap[gb649]? = some (.cells #[.bool a0_0, .slice A0_1 l0_1.length c0_1] 24 (0, 0))) ∧ Aside0 (w'.heap[gb650]? = some (.cells #[.bool a1_0, .slice A1_1 l1_1.length c1_1] 24 (0, 0))) ∧ Aside0 (w'.heap[gb651]? = some (.cells #[.bool a2_0, .slice A2_1 l2_1.length c2_1] 24 (0, 0))) ∧ Aside0 (w'.heap[s_.2.1]? = some (.cells #[.bool false, .slice none 0 0] 24 (0, 0))) ∧ Aside0 (w'.heap[s_.2.2]? = some (.cells #[.bool false, .slice none 0 0] 24 (0, 0))) ∧ Aside0 (w.heap.size ≤ s_.2.1) ∧ Aside0 (w.heap.size ≤ s_.2.1) ∧ Aside0 (gb649 ≠ s_.2.1) ∧ Aside0 (s_.2.1 ≠ gb649) ∧ Aside0 (gb650 ≠ s_.2.1) ∧ Aside0 (s_.2.1 ≠ gb650) ∧ Aside0 (gb651 ≠ s_.2.1) ∧ Aside0 (s_.2.1 ≠ gb651) ∧ Aside0 (s_.2.2 ≠ s_.2.1) ∧ Aside0 (s_.2.1 ≠ s_.2.2) ∧ Aside0 (w.heap.size ≤ s_.2.2) ∧ Aside0 (w.heap.size ≤ s_.2.2) ∧ Aside0 (gb649 ≠ s_.2.2) ∧ Aside0 (s_.2.2 ≠ gb649) ∧ Aside0 (gb650 ≠ s_.2.2) ∧ Aside0 (s_.2.2 ≠ gb650) ∧ Aside0 (gb651 ≠ s_.2.2) ∧ Aside0 (s_.2.2 ≠ gb651) ∧ Aside0 (Below w.heap.size w w')) ?_ ?_
          ·skip
           ·skip
            clear BK649 BK650 BK651 HB
            rintro ⟨v656, gb662, gb663⟩ w93 ⟨hHeld, HO657, BK649, BK650, BK651, BK662, BK663, GW662, GE662, NB649_662, NB662_649, NB650_662, NB662_650, NB651_662, NB662_651, NB663_662, NB662_663, GW663, GE663, NB649_663, NB663_649, NB650_663, NB663_650, NB651_663, NB663_651, HB⟩
            try dsimp only at hHeld HO657 BK649 BK650 BK651 BK662 BK663 GW662 GE662 NB649_662 NB662_649 NB650_662 NB662_650 NB651_662 NB662_651 NB663_662 NB662_663 GW663 GE663 NB649_663 NB663_649 NB650_663 NB663_650 NB651_663 NB663_651 HB
            refine nP ?_
            refine oT (i := 5) (N := some 42) (bb 10 255) HT_ fun K hK => ?_
            refine gS Try.func39 #[.agg #[.bool a1_0, .slice A1_1 l1_1.length c1_1], .agg #[.bool a2_0, .slice A2_1 l2_1.length c2_1]] ?_
            with_reducible refine (big_Mul.calls kj3 a1_0 _ _ l1_1 a2_0 _ _ l2_1 t658 t659 _ ?side1 ?side2 ?side3 ?side4 A34.out).mono ?_
            (case side1 => exact tc (Kd.C_below HR1_1.out HB.out))
            (case side2 => exact HC1_1.out)
            (case side3 => exact tc (Kd.C_below HR2_1.out HB.out))
            (case side4 => exact HC2_1.out)
            rintro e w94 ⟨v660, rfl, ho0, hb⟩
            refine ⟨_, rfl, ?_⟩
            have HO661 := Aside0.mk (Kd.R_lower (Kd.R_new' ho0 (Kd.R_lt (tq HO657))) (below_size (tb HB)))
            replace HO657 := re HO657 (Kd.R_base ho0) hb
            replace BK649 := kb BK649 hb
            replace BK650 := kb BK650 hb
            replace BK651 := kb BK651 hb
            replace BK662 := kb BK662 hb
            replace BK663 := kb BK663 hb
            replace HB := bs HB hb
            (try clear hb); (try clear hb2); (try clear hk); (try clear hi); (try clear ho0)
            refine hK.out _ _ held fun hHeld => nT (N := some 42) ?_
            clear hK K
            exact nJ (hJ2_5_6_7 (v656, v660, gb662, gb663) _ ⟨hHeld, ⟨by (with_reducible repeat first | apply qa | apply qn | apply qd); exact Kd.R_mono HO657.out (fun _ hk => hk.2)⟩, ⟨by (with_reducible repeat first | apply qa | apply qn | apply qd); exact Kd.R_mono HO661.out (fun _ hk => hk.2)⟩, ⟨tk BK649⟩, ⟨tk BK650⟩, ⟨tk BK651⟩, ⟨tk BK662⟩, ⟨tk BK663⟩, GW662, GE662, NB649_662, NB662_649, NB650_662, NB662_650, NB651_662, NB662_651, NB663_662, NB662_663, GW663, GE663, NB649_663, NB663_649, NB650_663, NB663_650, NB651_663, NB663_651, ⟨tb HB⟩⟩)
          intro hJ2_6_7
          refine join_ (σ := Value × Value) 4 (bb 10 63) (fun s_ => [(39, .agg #[.bool t654, s_.1]), (42, .agg #[.bool t658, s_.2])]) (fun s_ w' => (w'.cell? ⟨gb649, 0, none⟩ = some (.bool a0_0) ∧ w'.cell? ⟨gb649, 1, none⟩ = some (.slice A0_1 l0_1.length c0_1) ∧ w'.cell? ⟨gb651, 0, none⟩ = some (.bool a2_0) ∧ w'.cell? ⟨gb651, 1, none⟩ = some (.slice A2_1 l2_1.length c2_1) ∧ w'.cell? ⟨gb650, 0, none⟩ = some (.bool a1_0) ∧ w'.cell? ⟨gb650, 1, none⟩ = some (.slice A1_1 l1_1.length c1_1)) ∧ Aside0 (Kd.R (Kd.int .u32) 87 w' w.heap.size (fun k_ => some k_ ≠ (s_.2 : Value).ownBlock) s_.1 t655) ∧ Aside0 (Kd.R (Kd.int .u32) 87 w' w.heap.size (fun k_ => some k_ ≠ (s_.1 : Value).ownBlock) s_.2 t659) ∧ Aside0 (w'.heap[gb649]? = some (.cells #[.bool a0_0, .slice A0_1 l0_1.length c0_1] 24 (0, 0))) ∧ Aside0 (w'.heap[gb650]? = some (.cells #[.bool a1_0, .slice A1_1 l1_1.length c1_1] 24 (0, 0))) ∧ Aside0 (w'.heap[gb651]? = some (.cells #[.bool a2_0, .slice A2_1 l2_1.length c2_1] 24 (0, 0))) ∧ Aside0 (Below w.heap.size w w')) ?_ ?_
          ·skip
           ·skip
            clear BK649 BK650 BK651 HB
            rintro ⟨v656, v660⟩ w92 ⟨hHeld, HO657, HO661, BK649, BK650, BK651, HB⟩
            try dsimp only at hHeld HO657 HO661 BK649 BK650 BK651 HB
            refine nP ?_
            refine two_ (i := 6) (j := 7) (Ni := some 7) (Nj := some 8) (bb 10 127) (bb 10 191) rfl rfl rfl rfl (two_of HT_.out (by kernel_rfl)) (by decide) (by decide) (fun K hK => ?_) (fun K hK => ?_)
            ·skip
             refine box_step ?hg (N := 7) ?hd (cs := #[.bool false, .slice none 0 0]) (t := 24) ?hr ?_; (case hd => rfl); (case hg => rfl); (case hr => first | (go_simp; done) | (go_simp; rfl))
             intro gb662 hg w93 hbox hb
             replace HO657 := rb HO657 hb
             replace HO661 := rb HO661 hb
             have BK662 := Aside0.mk (hbox)
             have GW662 := bz hg HB
             have GE662 := bz hg HB
             replace HB := bs HB hb
             have NB649_662 := nl hg BK649
             have NB662_649 := ng hg BK649
             replace BK649 := kb BK649 hb
             have NB650_662 := nl hg BK650
             have NB662_650 := ng hg BK650
             replace BK650 := kb BK650 hb
             have NB651_662 := nl hg BK651
             have NB662_651 := ng hg BK651
             replace BK651 := kb BK651 hb
             clear hb hbox hg
             refine hK.out _ _ held fun hHeld => nT (N := some 7) ?_
             clear hK K
             exact nJ (hJ2_5_6 (v656, v660, gb662) _ ⟨hHeld, ⟨tq HO657⟩, ⟨tq HO661⟩, ⟨tk BK649⟩, ⟨tk BK650⟩, ⟨tk BK651⟩, ⟨tk BK662⟩, GW662, GE662, NB649_662, NB662_649, NB650_662, NB662_650, NB651_662, NB662_651, ⟨tb HB⟩⟩)
            ·skip
             refine box_step ?hg (N := 8) ?hd (cs := #[.bool false, .slice none 0 0]) (t := 24) ?hr ?_; (case hd => rfl); (case hg => rfl); (case hr => first | (go_simp; done) | (go_simp; rfl))
             intro gb663 hg w93 hbox hb
             replace HO657 := rb HO657 hb
             replace HO661 := rb HO661 hb
             have BK663 := Aside0.mk (hbox)
             have GW663 := bz hg HB
             have GE663 := bz hg HB
             replace HB := bs HB hb
             have NB649_663 := nl hg BK649
             have NB663_649 := ng hg BK649
             replace BK649 := kb BK649 hb
             have NB650_663 := nl hg BK650
             have NB663_650 := ng hg BK650
             replace BK650 := kb BK650 hb
             have NB651_663 := nl hg BK651
             have NB663_651 := ng hg BK651
             replace BK651 := kb BK651 hb
             clear hb hbox hg
             refine hK.out _ _ held fun hHeld => nT (N := some 8) ?_
             clear hK K
             exact nJ (hJ2_5_7 (v656, v660, gb663) _ ⟨hHeld, ⟨tq HO657⟩, ⟨tq HO661⟩, ⟨tk BK649⟩, ⟨tk BK650⟩, ⟨tk BK651⟩, ⟨tk BK663⟩, GW663, GE663, NB649_663, NB663_649, NB650_663, NB663_650, NB651_663, NB663_651, ⟨tb HB⟩⟩)
          intro hJ2_5
          refine join_ (σ := Value × Nat) 4 (bb 10 95) (fun s_ => [(39, .agg #[.bool t654, s_.1]), (7, .pointer (some ⟨s_.2, 0, none⟩))]) (fun s_ w' => (w'.cell? ⟨gb649, 0, none⟩ = some (.bool a0_0) ∧ w'.cell? ⟨gb649, 1, none⟩ = some (.slice A0_1 l0_1.length c0_1) ∧ w'.cell? ⟨gb651, 0, none⟩ = some (.bool a2_0) ∧ w'.cell? ⟨gb651, 1, none⟩ = some (.slice A2_1 l2_1.length c2_1) ∧ w'.cell? ⟨gb650, 0, none⟩ = some (.bool a1_0) ∧ w'.cell? ⟨gb650, 1, none⟩ = some (.slice A1_1 l1_1.length c1_1)) ∧ Aside0 (Kd.R (Kd.int .u32) 87 w' w.heap.size (fun _ => True) s_.1 t655) ∧ Aside0 (w'.heap[gb649]? = some (.cells #[.bool a0_0, .slice A0_1 l0_1.length c0_1] 24 (0, 0))) ∧ Aside0 (w'.heap[gb650]? = some (.cells #[.bool a1_0, .slice A1_1 l1_1.length c1_1] 24 (0, 0))) ∧ Aside0 (w'.heap[gb651]? = some (.cells #[.bool a2_0, .slice A2_1 l2_1.length c2_1] 24 (0, 0))) ∧ Aside0 (w'.heap[s_.2]? = some (.cells #[.bool false, .slice none 0 0] 24 (0, 0))) ∧ Aside0 (w.heap.size ≤ s_.2) ∧ Aside0 (w.heap.size ≤ s_.2) ∧ Aside0 (gb649 ≠ s_.2) ∧ Aside0 (s_.2 ≠ gb649) ∧ Aside0 (gb650 ≠ s_.2) ∧ Aside0 (s_.2 ≠ gb650) ∧ Aside0 (gb651 ≠ s_.2) ∧ Aside0 (s_.2 ≠ gb651) ∧ Aside0 (Below w.heap.size w w')) ?_ ?_
          ·skip
           ·skip
            clear BK649 BK650 BK651 HB
            rintro ⟨v656, gb662⟩ w92 ⟨hHeld, HO657, BK649, BK650, BK651, BK662, GW662, GE662, NB649_662, NB662_649, NB650_662, NB662_650, NB651_662, NB662_651, HB⟩
            try dsimp only at hHeld HO657 BK649 BK650 BK651 BK662 GW662 GE662 NB649_662 NB662_649 NB650_662 NB662_650 NB651_662 NB662_651 HB
            refine nP ?_
            refine two_ (i := 5) (j := 7) (Ni := some 42) (Nj := some 8) (bb 10 127) (bb 10 223) rfl rfl rfl rfl (two_of HT_.out (by kernel_rfl)) (by decide) (by decide) (fun K hK => ?_) (fun K hK => ?_)
            ·skip
             refine gS Try.func39 #[.agg #[.bool a1_0, .slice A1_1 l1_1.length c1_1], .agg #[.bool a2_0, .slice A2_1 l2_1.length c2_1]] ?_
             with_reducible refine (big_Mul.calls kj3 a1_0 _ _ l1_1 a2_0 _ _ l2_1 t658 t659 _ ?side1 ?side2 ?side3 ?side4 A34.out).mono ?_
             (case side1 => exact tc (Kd.C_below HR1_1.out HB.out))
             (case side2 => exact HC1_1.out)
             (case side3 => exact tc (Kd.C_below HR2_1.out HB.out))
             (case side4 => exact HC2_1.out)
             rintro e w93 ⟨v660, rfl, ho0, hb⟩
             refine ⟨_, rfl, ?_⟩
             have HO661 := Aside0.mk (Kd.R_lower (Kd.R_new' ho0 (Kd.R_lt (tq HO657))) (below_size (tb HB)))
             replace HO657 := re HO657 (Kd.R_base ho0) hb
             replace BK649 := kb BK649 hb
             replace BK650 := kb BK650 hb
             replace BK651 := kb BK651 hb
             replace BK662 := kb BK662 hb
             replace HB := bs HB hb
             (try clear hb); (try clear hb2); (try clear hk); (try clear hi); (try clear ho0)
             refine hK.out _ _ held fun hHeld => nT (N := some 42) ?_
             clear hK K
             exact nJ (hJ2_5_6 (v656, v660, gb662) _ ⟨hHeld, ⟨by (with_reducible repeat first | apply qa | apply qn | apply qd); exact Kd.R_mono HO657.out (fun _ hk => hk.2)⟩, ⟨by (with_reducible repeat first | apply qa | apply qn | apply qd); exact Kd.R_mono HO661.out (fun _ hk => hk.2)⟩, ⟨tk BK649⟩, ⟨tk BK650⟩, ⟨tk BK651⟩, ⟨tk BK662⟩, GW662, GE662, NB649_662, NB662_649, NB650_662, NB662_650, NB651_662, NB662_651, ⟨tb HB⟩⟩)
            ·skip
             refine box_step ?hg (N := 8) ?hd (cs := #[.bool false, .slice none 0 0]) (t := 24) ?hr ?_; (case hd => rfl); (case hg => rfl); (case hr => first | (go_simp; done) | (go_simp; rfl))
             intro gb663 hg w93 hbox hb
             replace HO657 := rb HO657 hb
             have BK663 := Aside0.mk (hbox)
             have GW663 := bz hg HB
             have GE663 := bz hg HB
             replace HB := bs HB hb
             have NB649_663 := nl hg BK649
             have NB663_649 := ng hg BK649
             replace BK649 := kb BK649 hb
             have NB650_663 := nl hg BK650
             have NB663_650 := ng hg BK650
             replace BK650 := kb BK650 hb
             have NB651_663 := nl hg BK651
             have NB663_651 := ng hg BK651
             replace BK651 := kb BK651 hb
             have NB662_663 := nl hg BK662
             have NB663_662 := ng hg BK662
             replace BK662 := kb BK662 hb
             clear hb hbox hg
             refine hK.out _ _ held fun hHeld => nT (N := some 8) ?_
             clear hK K
             exact nJ (hJ2_6_7 (v656, gb662, gb663) _ ⟨hHeld, ⟨tq HO657⟩, ⟨tk BK649⟩, ⟨tk BK650⟩, ⟨tk BK651⟩, ⟨tk BK662⟩, ⟨tk BK663⟩, GW662, GE662, NB649_662, NB662_649, NB650_662, NB662_650, NB651_662, NB662_651, NB663_662, NB662_663, GW663, GE663, NB649_663, NB663_649, NB650_663, NB663_650, NB651_663, NB663_651, ⟨tb HB⟩⟩)
          intro hJ2_6
          refine join_ (σ := Value × Nat) 4 (bb 10 159) (fun s_ => [(39, .agg #[.bool t654, s_.1]), (8, .pointer (some ⟨s_.2, 0, none⟩))]) (fun s_ w' => (w'.cell? ⟨gb649, 0, none⟩ = some (.bool a0_0) ∧ w'.cell? ⟨gb649, 1, none⟩ = some (.slice A0_1 l0_1.length c0_1) ∧ w'.cell? ⟨gb651, 0, none⟩ = some (.bool a2_0) ∧ w'.cell? ⟨gb651, 1, none⟩ = some (.slice A2_1 l2_1.length c2_1) ∧ w'.cell? ⟨gb650, 0, none⟩ = some (.bool a1_0) ∧ w'.cell? ⟨gb650, 1, none⟩ = some (.slice A1_1 l1_1.length c1_1)) ∧ Aside0 (Kd.R (Kd.int .u32) 87 w' w.heap.size (fun _ => True) s_.1 t655) ∧ Aside0 (w'.heap[gb649]? = some (.cells #[.bool a0_0, .slice A0_1 l0_1.length c0_1] 24 (0, 0))) ∧ Aside0 (w'.heap[gb650]? = some (.cells #[.bool a1_0, .slice A1_1 l1_1.length c1_1] 24 (0, 0))) ∧ Aside0 (w'.heap[gb651]? = some (.cells #[.bool a2_0, .slice A2_1 l2_1.length c2_1] 24 (0, 0))) ∧ Aside0 (w'.heap[s_.2]? = some (.cells #[.bool false, .slice none 0 0] 24 (0, 0))) ∧ Aside0 (w.heap.size ≤ s_.2) ∧ Aside0 (w.heap.size ≤ s_.2) ∧ Aside0 (gb649 ≠ s_.2) ∧ Aside0 (s_.2 ≠ gb649) ∧ Aside0 (gb650 ≠ s_.2) ∧ Aside0 (s_.2 ≠ gb650) ∧ Aside0 (gb651 ≠ s_.2) ∧ Aside0 (s_.2 ≠ gb651) ∧ Aside0 (Below w.heap.size w w')) ?_ ?_
          ·skip
           ·skip
            clear BK649 BK650 BK651 HB
            rintro ⟨v656, gb663⟩ w92 ⟨hHeld, HO657, BK649, BK650, BK651, BK663, GW663, GE663, NB649_663, NB663_649, NB650_663, NB663_650, NB651_663, NB663_651, HB⟩
            try dsimp only at hHeld HO657 BK649 BK650 BK651 BK663 GW663 GE663 NB649_663 NB663_649 NB650_663 NB663_650 NB651_663 NB663_651 HB
            refine nP ?_
            refine two_ (i := 5) (j := 6) (Ni := some 42) (Nj := some 7) (bb 10 191) (bb 10 223) rfl rfl rfl rfl (two_of HT_.out (by kernel_rfl)) (by decide) (by decide) (fun K hK => ?_) (fun K hK => ?_)
            ·skip
             refine gS Try.func39 #[.agg #[.bool a1_0, .slice A1_1 l1_1.length c1_1], .agg #[.bool a2_0, .slice A2_1 l2_1.length c2_1]] ?_
             with_reducible refine (big_Mul.calls kj3 a1_0 _ _ l1_1 a2_0 _ _ l2_1 t658 t659 _ ?side1 ?side2 ?side3 ?side4 A34.out).mono ?_
             (case side1 => exact tc (Kd.C_below HR1_1.out HB.out))
             (case side2 => exact HC1_1.out)
             (case side3 => exact tc (Kd.C_below HR2_1.out HB.out))
             (case side4 => exact HC2_1.out)
             rintro e w93 ⟨v660, rfl, ho0, hb⟩
             refine ⟨_, rfl, ?_⟩
             have HO661 := Aside0.mk (Kd.R_lower (Kd.R_new' ho0 (Kd.R_lt (tq HO657))) (below_size (tb HB)))
             replace HO657 := re HO657 (Kd.R_base ho0) hb
             replace BK649 := kb BK649 hb
             replace BK650 := kb BK650 hb
             replace BK651 := kb BK651 hb
             replace BK663 := kb BK663 hb
             replace HB := bs HB hb
             (try clear hb); (try clear hb2); (try clear hk); (try clear hi); (try clear ho0)
             refine hK.out _ _ held fun hHeld => nT (N := some 42) ?_
             clear hK K
             exact nJ (hJ2_5_7 (v656, v660, gb663) _ ⟨hHeld, ⟨by (with_reducible repeat first | apply qa | apply qn | apply qd); exact Kd.R_mono HO657.out (fun _ hk => hk.2)⟩, ⟨by (with_reducible repeat first | apply qa | apply qn | apply qd); exact Kd.R_mono HO661.out (fun _ hk => hk.2)⟩, ⟨tk BK649⟩, ⟨tk BK650⟩, ⟨tk BK651⟩, ⟨tk BK663⟩, GW663, GE663, NB649_663, NB663_649, NB650_663, NB663_650, NB651_663, NB663_651, ⟨tb HB⟩⟩)
            ·skip
             refine box_step ?hg (N := 7) ?hd (cs := #[.bool false, .slice none 0 0]) (t := 24) ?hr ?_; (case hd => rfl); (case hg => rfl); (case hr => first | (go_simp; done) | (go_simp; rfl))
             intro gb662 hg w93 hbox hb
             replace HO657 := rb HO657 hb
             have BK662 := Aside0.mk (hbox)
             have GW662 := bz hg HB
             have GE662 := bz hg HB
             replace HB := bs HB hb
             have NB649_662 := nl hg BK649
             have NB662_649 := ng hg BK649
             replace BK649 := kb BK649 hb
             have NB650_662 := nl hg BK650
             have NB662_650 := ng hg BK650
             replace BK650 := kb BK650 hb
             have NB651_662 := nl hg BK651
             have NB662_651 := ng hg BK651
             replace BK651 := kb BK651 hb
             have NB663_662 := nl hg BK663
             have NB662_663 := ng hg BK663
             replace BK663 := kb BK663 hb
             clear hb hbox hg
             refine hK.out _ _ held fun hHeld => nT (N := some 7) ?_
             clear hK K
             exact nJ (hJ2_6_7 (v656, gb662, gb663) _ ⟨hHeld, ⟨tq HO657⟩, ⟨tk BK649⟩, ⟨tk BK650⟩, ⟨tk BK651⟩, ⟨tk BK662⟩, ⟨tk BK663⟩, GW662, GE662, NB649_662, NB662_649, NB650_662, NB662_650, NB651_662, NB662_651, NB663_662, NB662_663, GW663, GE663, NB649_663, NB663_649, NB650_663, NB663_650, NB651_663, NB663_651, ⟨tb HB⟩⟩)
          intro hJ2_7
          refine join_ (σ := Nat × Nat) 4 (bb 10 219) (fun s_ => [(7, .pointer (some ⟨s_.1, 0, none⟩)), (8, .pointer (some ⟨s_.2, 0, none⟩))]) (fun s_ w' => (w'.cell? ⟨gb649, 0, none⟩ = some (.bool a0_0) ∧ w'.cell? ⟨gb649, 1, none⟩ = some (.slice A0_1 l0_1.length c0_1) ∧ w'.cell? ⟨gb651, 0, none⟩ = some (.bool a2_0) ∧ w'.cell? ⟨gb651, 1, none⟩ = some (.slice A2_1 l2_1.length c2_1) ∧ w'.cell? ⟨gb650, 0, none⟩ = some (.bool a1_0) ∧ w'.cell? ⟨gb650, 1, none⟩ = some (.slice A1_1 l1_1.length c1_1)) ∧ Aside0 (w'.heap[gb649]? = some (.cells #[.bool a0_0, .slice A0_1 l0_1.length c0_1] 24 (0, 0))) ∧ Aside0 (w'.heap[gb650]? = some (.cells #[.bool a1_0, .slice A1_1 l1_1.length c1_1] 24 (0, 0))) ∧ Aside0 (w'.heap[gb651]? = some (.cells #[.bool a2_0, .slice A2_1 l2_1.length c2_1] 24 (0, 0))) ∧ Aside0 (w'.heap[s_.1]? = some (.cells #[.bool false, .slice none 0 0] 24 (0, 0))) ∧ Aside0 (w'.heap[s_.2]? = some (.cells #[.bool false, .slice none 0 0] 24 (0, 0))) ∧ Aside0 (w.heap.size ≤ s_.1) ∧ Aside0 (w.heap.size ≤ s_.1) ∧ Aside0 (gb649 ≠ s_.1) ∧ Aside0 (s_.1 ≠ gb649) ∧ Aside0 (gb650 ≠ s_.1) ∧ Aside0 (s_.1 ≠ gb650) ∧ Aside0 (gb651 ≠ s_.1) ∧ Aside0 (s_.1 ≠ gb651) ∧ Aside0 (s_.2 ≠ s_.1) ∧ Aside0 (s_.1 ≠ s_.2) ∧ Aside0 (w.heap.size ≤ s_.2) ∧ Aside0 (w.heap.size ≤ s_.2) ∧ Aside0 (gb649 ≠ s_.2) ∧ Aside0 (s_.2 ≠ gb649) ∧ Aside0 (gb650 ≠ s_.2) ∧ Aside0 (s_.2 ≠ gb650) ∧ Aside0 (gb651 ≠ s_.2) ∧ Aside0 (s_.2 ≠ gb651) ∧ Aside0 (Below w.heap.size w w')) ?_ ?_
          ·skip
           ·skip
            clear BK649 BK650 BK651 HB
            rintro ⟨gb662, gb663⟩ w92 ⟨hHeld, BK649, BK650, BK651, BK662, BK663, GW662, GE662, NB649_662, NB662_649, NB650_662, NB662_650, NB651_662, NB662_651, NB663_662, NB662_663, GW663, GE663, NB649_663, NB663_649, NB650_663, NB663_650, NB651_663, NB663_651, HB⟩
            try dsimp only at hHeld BK649 BK650 BK651 BK662 BK663 GW662 GE662 NB649_662 NB662_649 NB650_662 NB662_650 NB651_662 NB662_651 NB663_662 NB662_663 GW663 GE663 NB649_663 NB663_649 NB650_663 NB663_650 NB651_663 NB663_651 HB
            refine nP ?_
            refine oT (i := 2) (N := some 39) (bb 10 223) HT_ fun K hK => ?_
            refine gS Try.func39 #[.agg #[.bool a0_0, .slice A0_1 l0_1.length c0_1], .agg #[.bool a2_0, .slice A2_1 l2_1.length c2_1]] ?_
            with_reducible refine (big_Mul.calls kj3 a0_0 _ _ l0_1 a2_0 _ _ l2_1 t654 t655 _ ?side1 ?side2 ?side3 ?side4 A33.out).mono ?_
            (case side1 => exact tc (Kd.C_below HR0_1.out HB.out))
            (case side2 => exact HC0_1.out)
            (case side3 => exact tc (Kd.C_below HR2_1.out HB.out))
            (case side4 => exact HC2_1.out)
            rintro e w93 ⟨v656, rfl, ho0, hb⟩
            refine ⟨_, rfl, ?_⟩
            have HO657 := rl ho0 HB
            replace BK649 := kb BK649 hb
            replace BK650 := kb BK650 hb
            replace BK651 := kb BK651 hb
            replace BK662 := kb BK662 hb
            replace BK663 := kb BK663 hb
            replace HB := bs HB hb
            (try clear hb); (try clear hb2); (try clear hk); (try clear hi); (try clear ho0)
            refine hK.out _ _ held fun hHeld => nT (N := some 39) ?_
            clear hK K
            exact nJ (hJ2_6_7 (v656, gb662, gb663) _ ⟨hHeld, ⟨tq HO657⟩, ⟨tk BK649⟩, ⟨tk BK650⟩, ⟨tk BK651⟩, ⟨tk BK662⟩, ⟨tk BK663⟩, GW662, GE662, NB649_662, NB662_649, NB650_662, NB662_650, NB651_662, NB662_651, NB663_662, NB662_663, GW663, GE663, NB649_663, NB663_649, NB650_663, NB663_650, NB651_663, NB663_651, ⟨tb HB⟩⟩)
          intro hJ6_7
          refine join_ (σ := Value) 5 (bb 10 31) (fun s_ => [(39, .agg #[.bool t654, s_])]) (fun s_ w' => (w'.cell? ⟨gb649, 0, none⟩ = some (.bool a0_0) ∧ w'.cell? ⟨gb649, 1, none⟩ = some (.slice A0_1 l0_1.length c0_1) ∧ w'.cell? ⟨gb651, 0, none⟩ = some (.bool a2_0) ∧ w'.cell? ⟨gb651, 1, none⟩ = some (.slice A2_1 l2_1.length c2_1) ∧ w'.cell? ⟨gb650, 0, none⟩ = some (.bool a1_0) ∧ w'.cell? ⟨gb650, 1, none⟩ = some (.slice A1_1 l1_1.length c1_1)) ∧ Aside0 (Kd.R (Kd.int .u32) 87 w' w.heap.size (fun _ => True) s_ t655) ∧ Aside0 (w'.heap[gb649]? = some (.cells #[.bool a0_0, .slice A0_1 l0_1.length c0_1] 24 (0, 0))) ∧ Aside0 (w'.heap[gb650]? = some (.cells #[.bool a1_0, .slice A1_1 l1_1.length c1_1] 24 (0, 0))) ∧ Aside0 (w'.heap[gb651]? = some (.cells #[.bool a2_0, .slice A2_1 l2_1.length c2_1] 24 (0, 0))) ∧ Aside0 (Below w.heap.size w w')) ?_ ?_
          ·skip
           ·skip
            clear BK649 BK650 BK651 HB
            rintro v656 w91 ⟨hHeld, HO657, BK649, BK650, BK651, HB⟩
            try dsimp only at hHeld HO657 BK649 BK650 BK651 HB
            refine nP ?_
            refine three_ (i := 5) (j := 6) (k := 7) (Ni := some 42) (Nj := some 7) (Nk := some 8) (bb 10 63) (bb 10 95) (bb 10 159) rfl rfl rfl rfl rfl rfl (three_of HT_.out (by kernel_rfl)) (by decide) (by decide) (by decide) (fun K hK => ?_) (fun K hK => ?_) (fun K hK => ?_)
            ·skip
             refine gS Try.func39 #[.agg #[.bool a1_0, .slice A1_1 l1_1.length c1_1], .agg #[.bool a2_0, .slice A2_1 l2_1.length c2_1]] ?_
             with_reducible refine (big_Mul.calls kj3 a1_0 _ _ l1_1 a2_0 _ _ l2_1 t658 t659 _ ?side1 ?side2 ?side3 ?side4 A34.out).mono ?_
             (case side1 => exact tc (Kd.C_below HR1_1.out HB.out))
             (case side2 => exact HC1_1.out)
             (case side3 => exact tc (Kd.C_below HR2_1.out HB.out))
             (case side4 => exact HC2_1.out)
             rintro e w92 ⟨v660, rfl, ho0, hb⟩
             refine ⟨_, rfl, ?_⟩
             have HO661 := Aside0.mk (Kd.R_lower (Kd.R_new' ho0 (Kd.R_lt (tq HO657))) (below_size (tb HB)))
             replace HO657 := re HO657 (Kd.R_base ho0) hb
             replace BK649 := kb BK649 hb
             replace BK650 := kb BK650 hb
             replace BK651 := kb BK651 hb
             replace HB := bs HB hb
             (try clear hb); (try clear hb2); (try clear hk); (try clear hi); (try clear ho0)
             refine hK.out _ _ held fun hHeld => nT (N := some 42) ?_
             clear hK K
             exact nJ (hJ2_5 (v656, v660) _ ⟨hHeld, ⟨by (with_reducible repeat first | apply qa | apply qn | apply qd); exact Kd.R_mono HO657.out (fun _ hk => hk.2)⟩, ⟨by (with_reducible repeat first | apply qa | apply qn | apply qd); exact Kd.R_mono HO661.out (fun _ hk => hk.2)⟩, ⟨tk BK649⟩, ⟨tk BK650⟩, ⟨tk BK651⟩, ⟨tb HB⟩⟩)
            ·skip
             refine box_step ?hg (N := 7) ?hd (cs := #[.bool false, .slice none 0 0]) (t := 24) ?hr ?_; (case hd => rfl); (case hg => rfl); (case hr => first | (go_simp; done) | (go_simp; rfl))
             intro gb662 hg w92 hbox hb
             replace HO657 := rb HO657 hb
             have BK662 := Aside0.mk (hbox)
             have GW662 := bz hg HB
             have GE662 := bz hg HB
             replace HB := bs HB hb
             have NB649_662 := nl hg BK649
             have NB662_649 := ng hg BK649
             replace BK649 := kb BK649 hb
             have NB650_662 := nl hg BK650
             have NB662_650 := ng hg BK650
             replace BK650 := kb BK650 hb
             have NB651_662 := nl hg BK651
             have NB662_651 := ng hg BK651
             replace BK651 := kb BK651 hb
             clear hb hbox hg
             refine hK.out _ _ held fun hHeld => nT (N := some 7) ?_
             clear hK K
             exact nJ (hJ2_6 (v656, gb662) _ ⟨hHeld, ⟨tq HO657⟩, ⟨tk BK649⟩, ⟨tk BK650⟩, ⟨tk BK651⟩, ⟨tk BK662⟩, GW662, GE662, NB649_662, NB662_649, NB650_662, NB662_650, NB651_662, NB662_651, ⟨tb HB⟩⟩)
            ·skip
             refine box_step ?hg (N := 8) ?hd (cs := #[.bool false, .slice none 0 0]) (t := 24) ?hr ?_; (case hd => rfl); (case hg => rfl); (case hr => first | (go_simp; done) | (go_simp; rfl))
             intro gb663 hg w92 hbox hb
             replace HO657 := rb HO657 hb
             have BK663 := Aside0.mk (hbox)
             have GW663 := bz hg HB
             have GE663 := bz hg HB
             replace HB := bs HB hb
             have NB649_663 := nl hg BK649
             have NB663_649 := ng hg BK649
             replace BK649 := kb BK649 hb
             have NB650_663 := nl hg BK650
             have NB663_650 := ng hg BK650
             replace BK650 := kb BK650 hb
             have NB651_663 := nl hg BK651
             have NB663_651 := ng hg BK651
             replace BK651 := kb BK651 hb
             clear hb hbox hg
             refine hK.out _ _ held fun hHeld => nT (N := some 8) ?_
             clear hK K
             exact nJ (hJ2_7 (v656, gb663) _ ⟨hHeld, ⟨tq HO657⟩, ⟨tk BK649⟩, ⟨tk BK650⟩, ⟨tk BK651⟩, ⟨tk BK663⟩, GW663, GE663, NB649_663, NB663_649, NB650_663, NB663_650, NB651_663, NB663_651, ⟨tb HB⟩⟩)
          intro hJ2
          refine join_ (σ := Nat) 5 (bb 10 91) (fun s_ => [(7, .pointer (some ⟨s_, 0, none⟩))]) (fun s_ w' => (w'.cell? ⟨gb649, 0, none⟩ = some (.bool a0_0) ∧ w'.cell? ⟨gb649, 1, none⟩ = some (.slice A0_1 l0_1.length c0_1) ∧ w'.cell? ⟨gb651, 0, none⟩ = some (.bool a2_0) ∧ w'.cell? ⟨gb651, 1, none⟩ = some (.slice A2_1 l2_1.length c2_1) ∧ w'.cell? ⟨gb650, 0, none⟩ = some (.bool a1_0) ∧ w'.cell? ⟨gb650, 1, none⟩ = some (.slice A1_1 l1_1.length c1_1)) ∧ Aside0 (w'.heap[gb649]? = some (.cells #[.bool a0_0, .slice A0_1 l0_1.length c0_1] 24 (0, 0))) ∧ Aside0 (w'.heap[gb650]? = some (.cells #[.bool a1_0, .slice A1_1 l1_1.length c1_1] 24 (0, 0))) ∧ Aside0 (w'.heap[gb651]? = some (.cells #[.bool a2_0, .slice A2_1 l2_1.length c2_1] 24 (0, 0))) ∧ Aside0 (w'.heap[s_]? = some (.cells #[.bool false, .slice none 0 0] 24 (0, 0))) ∧ Aside0 (w.heap.size ≤ s_) ∧ Aside0 (w.heap.size ≤ s_) ∧ Aside0 (gb649 ≠ s_) ∧ Aside0 (s_ ≠ gb649) ∧ Aside0 (gb650 ≠ s_) ∧ Aside0 (s_ ≠ gb650) ∧ Aside0 (gb651 ≠ s_) ∧ Aside0 (s_ ≠ gb651) ∧ Aside0 (Below w.heap.size w w')) ?_ ?_
          ·skip
           ·skip
            clear BK649 BK650 BK651 HB
            rintro gb662 w91 ⟨hHeld, BK649, BK650, BK651, BK662, GW662, GE662, NB649_662, NB662_649, NB650_662, NB662_650, NB651_662, NB662_651, HB⟩
            try dsimp only at hHeld BK649 BK650 BK651 BK662 GW662 GE662 NB649_662 NB662_649 NB650_662 NB662_650 NB651_662 NB662_651 HB
            refine nP ?_
            refine two_ (i := 2) (j := 7) (Ni := some 39) (Nj := some 8) (bb 10 95) (bb 10 219) rfl rfl rfl rfl (two_of HT_.out (by kernel_rfl)) (by decide) (by decide) (fun K hK => ?_) (fun K hK => ?_)
            ·skip
             refine gS Try.func39 #[.agg #[.bool a0_0, .slice A0_1 l0_1.length c0_1], .agg #[.bool a2_0, .slice A2_1 l2_1.length c2_1]] ?_
             with_reducible refine (big_Mul.calls kj3 a0_0 _ _ l0_1 a2_0 _ _ l2_1 t654 t655 _ ?side1 ?side2 ?side3 ?side4 A33.out).mono ?_
             (case side1 => exact tc (Kd.C_below HR0_1.out HB.out))
             (case side2 => exact HC0_1.out)
             (case side3 => exact tc (Kd.C_below HR2_1.out HB.out))
             (case side4 => exact HC2_1.out)
             rintro e w92 ⟨v656, rfl, ho0, hb⟩
             refine ⟨_, rfl, ?_⟩
             have HO657 := rl ho0 HB
             replace BK649 := kb BK649 hb
             replace BK650 := kb BK650 hb
             replace BK651 := kb BK651 hb
             replace BK662 := kb BK662 hb
             replace HB := bs HB hb
             (try clear hb); (try clear hb2); (try clear hk); (try clear hi); (try clear ho0)
             refine hK.out _ _ held fun hHeld => nT (N := some 39) ?_
             clear hK K
             exact nJ (hJ2_6 (v656, gb662) _ ⟨hHeld, ⟨tq HO657⟩, ⟨tk BK649⟩, ⟨tk BK650⟩, ⟨tk BK651⟩, ⟨tk BK662⟩, GW662, GE662, NB649_662, NB662_649, NB650_662, NB662_650, NB651_662, NB662_651, ⟨tb HB⟩⟩)
            ·skip
             refine box_step ?hg (N := 8) ?hd (cs := #[.bool false, .slice none 0 0]) (t := 24) ?hr ?_; (case hd => rfl); (case hg => rfl); (case hr => first | (go_simp; done) | (go_simp; rfl))
             intro gb663 hg w92 hbox hb
             have BK663 := Aside0.mk (hbox)
             have GW663 := bz hg HB
             have GE663 := bz hg HB
             replace HB := bs HB hb
             have NB649_663 := nl hg BK649
             have NB663_649 := ng hg BK649
             replace BK649 := kb BK649 hb
             have NB650_663 := nl hg BK650
             have NB663_650 := ng hg BK650
             replace BK650 := kb BK650 hb
             have NB651_663 := nl hg BK651
             have NB663_651 := ng hg BK651
             replace BK651 := kb BK651 hb
             have NB662_663 := nl hg BK662
             have NB663_662 := ng hg BK662
             replace BK662 := kb BK662 hb
             clear hb hbox hg
             refine hK.out _ _ held fun hHeld => nT (N := some 8) ?_
             clear hK K
             exact nJ (hJ6_7 (gb662, gb663) _ ⟨hHeld, ⟨tk BK649⟩, ⟨tk BK650⟩, ⟨tk BK651⟩, ⟨tk BK662⟩, ⟨tk BK663⟩, GW662, GE662, NB649_662, NB662_649, NB650_662, NB662_650, NB651_662, NB662_651, NB663_662, NB662_663, GW663, GE663, NB649_663, NB663_649, NB650_663, NB663_650, NB651_663, NB663_651, ⟨tb HB⟩⟩)
          intro hJ6
          refine join_ (σ := Nat) 5 (bb 10 155) (fun s_ => [(8, .pointer (some ⟨s_, 0, none⟩))]) (fun s_ w' => (w'.cell? ⟨gb649, 0, none⟩ = some (.bool a0_0) ∧ w'.cell? ⟨gb649, 1, none⟩ = some (.slice A0_1 l0_1.length c0_1) ∧ w'.cell? ⟨gb651, 0, none⟩ = some (.bool a2_0) ∧ w'.cell? ⟨gb651, 1, none⟩ = some (.slice A2_1 l2_1.length c2_1) ∧ w'.cell? ⟨gb650, 0, none⟩ = some (.bool a1_0) ∧ w'.cell? ⟨gb650, 1, none⟩ = some (.slice A1_1 l1_1.length c1_1)) ∧ Aside0 (w'.heap[gb649]? = some (.cells #[.bool a0_0, .slice A0_1 l0_1.length c0_1] 24 (0, 0))) ∧ Aside0 (w'.heap[gb650]? = some (.cells #[.bool a1_0, .slice A1_1 l1_1.length c1_1] 24 (0, 0))) ∧ Aside0 (w'.heap[gb651]? = some (.cells #[.bool a2_0, .slice A2_1 l2_1.length c2_1] 24 (0, 0))) ∧ Aside0 (w'.heap[s_]? = some (.cells #[.bool false, .slice none 0 0] 24 (0, 0))) ∧ Aside0 (w.heap.size ≤ s_) ∧ Aside0 (w.heap.size ≤ s_) ∧ Aside0 (gb649 ≠ s_) ∧ Aside0 (s_ ≠ gb649) ∧ Aside0 (gb650 ≠ s_) ∧ Aside0 (s_ ≠ gb650) ∧ Aside0 (gb651 ≠ s_) ∧ Aside0 (s_ ≠ gb651) ∧ Aside0 (Below w.heap.size w w')) ?_ ?_
          ·skip
           ·skip
            clear BK649 BK650 BK651 HB
            rintro gb663 w91 ⟨hHeld, BK649, BK650, BK651, BK663, GW663, GE663, NB649_663, NB663_649, NB650_663, NB663_650, NB651_663, NB663_651, HB⟩
            try dsimp only at hHeld BK649 BK650 BK651 BK663 GW663 GE663 NB649_663 NB663_649 NB650_663 NB663_650 NB651_663 NB663_651 HB
            refine nP ?_
            refine two_ (i := 2) (j := 6) (Ni := some 39) (Nj := some 7) (bb 10 159) (bb 10 219) rfl rfl rfl rfl (two_of HT_.out (by kernel_rfl)) (by decide) (by decide) (fun K hK => ?_) (fun K hK => ?_)
            ·skip
             refine gS Try.func39 #[.agg #[.bool a0_0, .slice A0_1 l0_1.length c0_1], .agg #[.bool a2_0, .slice A2_1 l2_1.length c2_1]] ?_
             with_reducible refine (big_Mul.calls kj3 a0_0 _ _ l0_1 a2_0 _ _ l2_1 t654 t655 _ ?side1 ?side2 ?side3 ?side4 A33.out).mono ?_
             (case side1 => exact tc (Kd.C_below HR0_1.out HB.out))
             (case side2 => exact HC0_1.out)
             (case side3 => exact tc (Kd.C_below HR2_1.out HB.out))
             (case side4 => exact HC2_1.out)
             rintro e w92 ⟨v656, rfl, ho0, hb⟩
             refine ⟨_, rfl, ?_⟩
             have HO657 := rl ho0 HB
             replace BK649 := kb BK649 hb
             replace BK650 := kb BK650 hb
             replace BK651 := kb BK651 hb
             replace BK663 := kb BK663 hb
             replace HB := bs HB hb
             (try clear hb); (try clear hb2); (try clear hk); (try clear hi); (try clear ho0)
             refine hK.out _ _ held fun hHeld => nT (N := some 39) ?_
             clear hK K
             exact nJ (hJ2_7 (v656, gb663) _ ⟨hHeld, ⟨tq HO657⟩, ⟨tk BK649⟩, ⟨tk BK650⟩, ⟨tk BK651⟩, ⟨tk BK663⟩, GW663, GE663, NB649_663, NB663_649, NB650_663, NB663_650, NB651_663, NB663_651, ⟨tb HB⟩⟩)
            ·skip
             refine box_step ?hg (N := 7) ?hd (cs := #[.bool false, .slice none 0 0]) (t := 24) ?hr ?_; (case hd => rfl); (case hg => rfl); (case hr => first | (go_simp; done) | (go_simp; rfl))
             intro gb662 hg w92 hbox hb
             have BK662 := Aside0.mk (hbox)
             have GW662 := bz hg HB
             have GE662 := bz hg HB
             replace HB := bs HB hb
             have NB649_662 := nl hg BK649
             have NB662_649 := ng hg BK649
             replace BK649 := kb BK649 hb
             have NB650_662 := nl hg BK650
             have NB662_650 := ng hg BK650
             replace BK650 := kb BK650 hb
             have NB651_662 := nl hg BK651
             have NB662_651 := ng hg BK651
             replace BK651 := kb BK651 hb
             have NB663_662 := nl hg BK663
             have NB662_663 := ng hg BK663
             replace BK663 := kb BK663 hb
             clear hb hbox hg
             refine hK.out _ _ held fun hHeld => nT (N := some 7) ?_
             clear hK K
             exact nJ (hJ6_7 (gb662, gb663) _ ⟨hHeld, ⟨tk BK649⟩, ⟨tk BK650⟩, ⟨tk BK651⟩, ⟨tk BK662⟩, ⟨tk BK663⟩, GW662, GE662, NB649_662, NB662_649, NB650_662, NB662_650, NB651_662, NB662_651, NB663_662, NB662_663, GW663, GE663, NB649_663, NB663_649, NB650_663, NB663_650, NB651_663, NB663_651, ⟨tb HB⟩⟩)
          intro hJ7
          refine three_ (i := 2) (j := 6) (k := 7) (Ni := some 39) (Nj := some 7) (Nk := some 8) (bb 10 31) (bb 10 91) (bb 10 155) rfl rfl rfl rfl rfl rfl (three_of HT_.out (by kernel_rfl)) (by decide) (by decide) (by decide) (fun K hK => ?_) (fun K hK => ?_) (fun K hK => ?_)
          ·skip
           refine gS Try.func39 #[.agg #[.bool a0_0, .slice A0_1 l0_1.length c0_1], .agg #[.bool a2_0, .slice A2_1 l2_1.length c2_1]] ?_
           with_reducible refine (big_Mul.calls kj3 a0_0 _ _ l0_1 a2_0 _ _ l2_1 t654 t655 _ ?side1 ?side2 ?side3 ?side4 A33.out).mono ?_
           (case side1 => exact tc (Kd.C_below HR0_1.out HB.out))
           (case side2 => exact HC0_1.out)
           (case side3 => exact tc (Kd.C_below HR2_1.out HB.out))
           (case side4 => exact HC2_1.out)
           rintro e w90 ⟨v656, rfl, ho0, hb⟩
           refine ⟨_, rfl, ?_⟩
           have HO657 := rl ho0 HB
           replace BK649 := kb BK649 hb
           replace BK650 := kb BK650 hb
           replace BK651 := kb BK651 hb
           replace HB := bs HB hb
           (try clear hb); (try clear hb2); (try clear hk); (try clear hi); (try clear ho0)
           refine hK.out _ _ held fun hHeld => nT (N := some 39) ?_
           clear hK K
           exact nJ (hJ2 (v656) _ ⟨hHeld, ⟨tq HO657⟩, ⟨tk BK649⟩, ⟨tk BK650⟩, ⟨tk BK651⟩, ⟨tb HB⟩⟩)
          ·skip
           refine box_step ?hg (N := 7) ?hd (cs := #[.bool false, .slice none 0 0]) (t := 24) ?hr ?_; (case hd => rfl); (case hg => rfl); (case hr => first | (go_simp; done) | (go_simp; rfl))
           intro gb662 hg w90 hbox hb
           have BK662 := Aside0.mk (hbox)
           have GW662 := bz hg HB
           have GE662 := bz hg HB
           replace HB := bs HB hb
           have NB649_662 := nl hg BK649
           have NB662_649 := ng hg BK649
           replace BK649 := kb BK649 hb
           have NB650_662 := nl hg BK650
           have NB662_650 := ng hg BK650
           replace BK650 := kb BK650 hb
           have NB651_662 := nl hg BK651
           have NB662_651 := ng hg BK651
           replace BK651 := kb BK651 hb
           clear hb hbox hg
           refine hK.out _ _ held fun hHeld => nT (N := some 7) ?_
           clear hK K
           exact nJ (hJ6 (gb662) _ ⟨hHeld, ⟨tk BK649⟩, ⟨tk BK650⟩, ⟨tk BK651⟩, ⟨tk BK662⟩, GW662, GE662, NB649_662, NB662_649, NB650_662, NB662_650, NB651_662, NB662_651, ⟨tb HB⟩⟩)
          ·skip
           refine box_step ?hg (N := 8) ?hd (cs := #[.bool false, .slice none 0 0]) (t := 24) ?hr ?_; (case hd => rfl); (case hg => rfl); (case hr => first | (go_simp; done) | (go_simp; rfl))
           intro gb663 hg w90 hbox hb
           have BK663 := Aside0.mk (hbox)
           have GW663 := bz hg HB
           have GE663 := bz hg HB
           replace HB := bs HB hb
           have NB649_663 := nl hg BK649
           have NB663_649 := ng hg BK649
           replace BK649 := kb BK649 hb
           have NB650_663 := nl hg BK650
           have NB663_650 := ng hg BK650
           replace BK650 := kb BK650 hb
           have NB651_663 := nl hg BK651
           have NB663_651 := ng hg BK651
           replace BK651 := kb BK651 hb
           clear hb hbox hg
           refine hK.out _ _ held fun hHeld => nT (N := some 8) ?_
           clear hK K
           exact nJ (hJ7 (gb663) _ ⟨hHeld, ⟨tk BK649⟩, ⟨tk BK650⟩, ⟨tk BK651⟩, ⟨tk BK663⟩, GW663, GE663, NB649_663, NB663_649, NB650_663, NB663_650, NB651_663, NB663_651, ⟨tb HB⟩⟩)
         ·replace c85 := Bool.eq_false_iff.mpr c85
          subst c85
          have H1 : (none) = some r := by rw [if_neg (show ¬ (false = true) by decide)] at H; exact H
          clear H
          have H := H1
          clear H1
          exact absurd H (by simp)
        ·replace c83 := Bool.eq_false_iff.mpr c83
         subst c83
         have H1 : (none) = some r := by rw [if_neg (show ¬ (false = true) by decide)] at H; exact H
         clear H
         have H := H1
         clear H1
         exact absurd H (by simp)
       ·replace c81 := Bool.eq_false_iff.mpr c81
        subst c81
        have H1 : (none) = some r := by rw [if_neg (show ¬ (false = true) by decide)] at H; exact H
        clear H
        have H := H1
        clear H1
        exact absurd H (by simp)
      ·rw [if_neg c79] at H
       exact absurd H (by simp)
     ·rw [if_neg c78] at H
      exact absurd H (by simp)

/-- THE ONE PURE STATEMENT of whetstonelaw02_BigGcds: yours. -/
def whetstonelaw02_BigGcds.Pure : Prop := ∀ (a0_0 : Bool) (l0_1 : List Int) (a1_0 : Bool) (l1_1 : List Int) (a2_0 : Bool) (l2_1 : List Int), l0_1.length ≤ maxLen → (∀ x ∈ l0_1, (Lit.int .u32 x).wf = true) → l1_1.length ≤ maxLen → (∀ x ∈ l1_1, (Lit.int .u32 x).wf = true) → l2_1.length ≤ maxLen → (∀ x ∈ l2_1, (Lit.int .u32 x).wf = true) → ∃ k, whetstonelaw02_BigGcds.f k a0_0 l0_1 a1_0 l1_1 a2_0 l2_1 = some true
theorem whetstonelaw02_BigGcds.walk (P : whetstonelaw02_BigGcds.Pure) (a0_0 : Bool) (A0_1 : Option Addr) (n0_1 c0_1 : Nat) (z0_1 : List Int) (a1_0 : Bool) (A1_1 : Option Addr) (n1_1 c1_1 : Nat) (z1_1 : List Int) (a2_0 : Bool) (A2_1 : Option Addr) (n2_1 c2_1 : Nat) (z2_1 : List Int) (w : World) (w0_1 : (A0_1 = none ∧ n0_1 = 0 ∧ c0_1 = 0 ∧ z0_1 = []) ∨ ∃ x, A0_1 = some x ∧ n0_1 ≤ c0_1 ∧ c0_1 ≤ maxLen ∧ z0_1.length = c0_1 ∧ (∀ i, i < z0_1.length → w.cell? (x.add i) = some (.int .u32 (z0_1.getD i 0))) ∧ ∀ n ∈ z0_1, (Lit.int .u32 n).wf = true) (w1_1 : (A1_1 = none ∧ n1_1 = 0 ∧ c1_1 = 0 ∧ z1_1 = []) ∨ ∃ x, A1_1 = some x ∧ n1_1 ≤ c1_1 ∧ c1_1 ≤ maxLen ∧ z1_1.length = c1_1 ∧ (∀ i, i < z1_1.length → w.cell? (x.add i) = some (.int .u32 (z1_1.getD i 0))) ∧ ∀ n ∈ z1_1, (Lit.int .u32 n).wf = true) (w2_1 : (A2_1 = none ∧ n2_1 = 0 ∧ c2_1 = 0 ∧ z2_1 = []) ∨ ∃ x, A2_1 = some x ∧ n2_1 ≤ c2_1 ∧ c2_1 ≤ maxLen ∧ z2_1.length = c2_1 ∧ (∀ i, i < z2_1.length → w.cell? (x.add i) = some (.int .u32 (z2_1.getD i 0))) ∧ ∀ n ∈ z2_1, (Lit.int .u32 n).wf = true) :
  Calls Try.prog 11 #[.agg #[.bool a0_0, .slice A0_1 n0_1 c0_1], .agg #[.bool a1_0, .slice A1_1 n1_1 c1_1], .agg #[.bool a2_0, .slice A2_1 n2_1 c2_1]] w fun e w' => e = .returned (.bool true) ∧ Below w.heap.size w w' := by
 obtain ⟨l0_1, rfl, hr0_1, hm0_1, hw0_1, hc0_1⟩ := ReadsInt.ofRowC w0_1
 obtain ⟨l1_1, rfl, hr1_1, hm1_1, hw1_1, hc1_1⟩ := ReadsInt.ofRowC w1_1
 obtain ⟨l2_1, rfl, hr2_1, hm2_1, hw2_1, hc2_1⟩ := ReadsInt.ofRowC w2_1
 obtain ⟨k, h⟩ := P a0_0 l0_1 a1_0 l1_1 a2_0 l2_1 hm0_1 hw0_1 hm1_1 hw1_1 hm2_1 hw2_1
 refine (whetstonelaw02_BigGcds.calls k a0_0 _ _ l0_1 a1_0 _ _ l1_1 a2_0 _ _ l2_1 true w (Kd.C_of_reads (d := (0 : Int)) (h1 := fun _ => rfl) hr0_1) hc0_1 (Kd.C_of_reads (d := (0 : Int)) (h1 := fun _ => rfl) hr1_1) hc1_1 (Kd.C_of_reads (d := (0 : Int)) (h1 := fun _ => rfl) hr2_1) hc2_1 h).mono ?_
 rintro e w' ⟨rfl, hd⟩
 exact ⟨rfl, hd⟩

end Go.Proofs.Ytjpnaapimnoamaa.QBigGcds
