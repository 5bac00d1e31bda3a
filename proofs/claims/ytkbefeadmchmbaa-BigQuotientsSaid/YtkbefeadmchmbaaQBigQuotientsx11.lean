-- written by wip/wprint, a program of this session
import Derived.Test.YtkbefeadmchmbaaQBigQuotientsx0
import Derived.Test.YtkbefeadmchmbaaQBigQuotientsx9
import Derived.Test.YtkbefeadmchmbaaQBigQuotientsx10
namespace Go.Proofs.Ytkbefeadmchmbaa.QBigQuotients
open Go.RowKit Go.Proofs.YtkbefeadmchmbaaW.PrintWords Go.Proofs.YtkbefeadmchmbaaW.PrintLast Go.Proofs.YtkbefeadmchmbaaW.PrintMore
open Go.Proofs.YtkbefeadmchmbaaW.PrintWords.Kd renaming R_alloc → qa, R_drewN → qn, R_drew → qd
open Go.Proofs.YtkbefeadmchmbaaW.PrintWords renaming below_alloc → ba, pw_below_drewN → bn, below_drew1 → bd
attribute [local go_sem] max2_int min2_int max_two min_two max_three min_three max_four min_four   -- for this text's walks alone
set_option linter.unusedVariables false
set_option linter.unusedSimpArgs false

/-! ### whetstoneref01_DivMod: function 25 -/
mutual
def whetstoneref01_DivMod.l0 : Nat → List Int → List Int → List Int → List Int → Int → Option (List Int × List Int)
 | 0, _, _, _, _, _ => none
 | k + 1, x0, x1, x6, x7, x8 => if x8 ≥ 0 then ((whetstoneref01_Times.f k x7 10).bind fun t437 => (if 0 ≤ x8 then (if x8 < (x0.length : Int) then ((whetstoneref01_Small.f k (IntKind.u64.wrap (rd x0 x8))).bind fun t441 => ((whetstoneref01_Add.f k t437 t441).bind fun t444 => (whetstoneref01_DivMod.l1 k x0 x1 x6 t444 x8))) else (none)) else (none))) else ((whetstoneref01_Trim.f k x6).bind fun t434 => (some (t434, x7)))
def whetstoneref01_DivMod.l1 : Nat → List Int → List Int → List Int → List Int → Int → Option (List Int × List Int)
 | 0, _, _, _, _, _ => none
 | k + 1, x0, x1, x6, x7, x8 => (whetstoneref01_Cmp.f k x7 x1).bind fun t447 => (if t447 ≥ 0 then ((whetstoneref01_Sub.f k x7 x1).bind fun t448 => (if 0 ≤ x8 then (if x8 < (x6.length : Int) then (whetstoneref01_DivMod.l1 k x0 x1 (x6.set (x8 : Int).toNat (wrap64 ((rd x6 x8) + 1))) t448 x8) else (none)) else (none))) else (whetstoneref01_DivMod.l0 k x0 x1 x6 x7 (wrap64 (x8 - 1))))
end
def whetstoneref01_DivMod.f (k : Nat) (l0 : List Int) (l1 : List Int) : Option (List Int × List Int) := if 0 ≤ (l0.length : Int) then (if ((l0.length : Int) : Int).toNat ≤ 35184372088832 then (whetstoneref01_DivMod.l0 k l0 l1 (List.replicate ((l0.length : Int) : Int).toNat 0) ([] : List Int) (wrap64 ((l0.length : Int) - 1))) else (none)) else (none)
theorem whetstoneref01_DivMod.mono_l : ∀ k, (∀ y0 y1 y2 y3 y4, LeO (whetstoneref01_DivMod.l0 k y0 y1 y2 y3 y4) (whetstoneref01_DivMod.l0 (k + 1) y0 y1 y2 y3 y4)) ∧ (∀ y0 y1 y2 y3 y4, LeO (whetstoneref01_DivMod.l1 k y0 y1 y2 y3 y4) (whetstoneref01_DivMod.l1 (k + 1) y0 y1 y2 y3 y4))
 | 0 => ⟨fun _ _ _ _ _ r h => by simp [whetstoneref01_DivMod.l0] at h, fun _ _ _ _ _ r h => by simp [whetstoneref01_DivMod.l1] at h⟩
 | k + 1 => by
  obtain ⟨ih0, ih1⟩ := whetstoneref01_DivMod.mono_l k; refine ⟨?_, ?_⟩
  ·intro y0 y1 y2 y3 y4
   unfold whetstoneref01_DivMod.l0
   repeat' with_reducible first | exact ih0 _ _ _ _ _ | exact ih1 _ _ _ _ _ | exact whetstoneref01_Add.mono _ _ _ | exact whetstoneref01_Cmp.mono _ _ _ | exact whetstoneref01_Small.mono _ _ | exact whetstoneref01_Sub.mono _ _ _ | exact whetstoneref01_Times.mono _ _ _ | exact whetstoneref01_Trim.mono _ _ | exact LeO.refl _ | exact LeO.none _ | refine LeO.ite ?_ ?_ | refine LeO.bind ?_ (fun _ => ?_)
  ·intro y0 y1 y2 y3 y4
   unfold whetstoneref01_DivMod.l1
   repeat' with_reducible first | exact ih0 _ _ _ _ _ | exact ih1 _ _ _ _ _ | exact whetstoneref01_Add.mono _ _ _ | exact whetstoneref01_Cmp.mono _ _ _ | exact whetstoneref01_Small.mono _ _ | exact whetstoneref01_Sub.mono _ _ _ | exact whetstoneref01_Times.mono _ _ _ | exact whetstoneref01_Trim.mono _ _ | exact LeO.refl _ | exact LeO.none _ | refine LeO.ite ?_ ?_ | refine LeO.bind ?_ (fun _ => ?_)
theorem whetstoneref01_DivMod.mono : ∀ a0 a1 k, LeO (whetstoneref01_DivMod.f k a0 a1) (whetstoneref01_DivMod.f (k + 1) a0 a1) := by
 intro a0 a1 k; obtain ⟨ih0, ih1⟩ := whetstoneref01_DivMod.mono_l k
 unfold whetstoneref01_DivMod.f
 repeat' with_reducible first | exact ih0 _ _ _ _ _ | exact ih1 _ _ _ _ _ | exact whetstoneref01_Add.mono _ _ _ | exact whetstoneref01_Cmp.mono _ _ _ | exact whetstoneref01_Small.mono _ _ | exact whetstoneref01_Sub.mono _ _ _ | exact whetstoneref01_Times.mono _ _ _ | exact whetstoneref01_Trim.mono _ _ | exact LeO.refl _ | exact LeO.none _ | refine LeO.ite ?_ ?_ | refine LeO.bind ?_ (fun _ => ?_)
def whetstoneref01_DivMod.T6 : Bool × List (List Nat × List Nat) := (true, [([], []), ([0], [0]), ([], []), ([], []), ([2, 3], [2, 3]), ([4], [4]), ([5], [5]), ([6, 1], [6]), ([1, 7, 7], [1, 7]), ([8, 8, 0, 1, 2, 3, 4, 5, 6, 7, 8], [0, 8])])
def whetstoneref01_DivMod.B6 : List Nat := [0, 1, 0, 0, 12, 28, 60, 127, 255, 511]
theorem whetstoneref01_DivMod.tab6 : rtab .any (opsOf Try.f25 6) = whetstoneref01_DivMod.T6 := by kernel_rfl
theorem whetstoneref01_DivMod.bits6 : waitsOk whetstoneref01_DivMod.T6.2 whetstoneref01_DivMod.B6 = true := by kernel_rfl
set_option maxHeartbeats 8000000 in
set_option maxRecDepth 100000 in
theorem whetstoneref01_DivMod.calls (k : Nat) (A0 : Option Addr) (c0 : Nat) (l0 : List Int) (A1 : Option Addr) (c1 : Nat) (l1 : List Int) (r1 : List Int) (r2 : List Int) (w : World) (hr0 : Kd.C (Kd.int .i64) w A0 l0.length l0) (hc0 : l0.length ≤ c0) (hr1 : Kd.C (Kd.int .i64) w A1 l1.length l1) (hc1 : l1.length ≤ c1) (h : whetstoneref01_DivMod.f k l0 l1 = some (r1, r2)) :
  Calls Try.prog 25 #[.slice A0 l0.length c0, .slice A1 l1.length c1] w fun e w' => ∃ v0_ v1_ : Value, e = .returned (.tuple #[v0_, v1_]) ∧ Kd.R (Kd.int .i64) 3 w' w.heap.size (fun k_ => some k_ ≠ (v1_ : Value).ownBlock) v0_ r1 ∧ Kd.R (Kd.int .i64) 3 w' w.heap.size (fun k_ => some k_ ≠ (v0_ : Value).ownBlock) v1_ r2 ∧ Below w.heap.size w w' := by
 have HR0 := Aside0.mk hr0; have HC0 := Aside0.mk hc0; clear hr0 hc0; have HR1 := Aside0.mk hr1; have HC1 := Aside0.mk hc1; clear hr1 hc1; have HB := Aside0.mk (Below.refl w.heap.size w); have H : (if 0 ≤ (l0.length : Int) then (if ((l0.length : Int) : Int).toNat ≤ 35184372088832 then (whetstoneref01_DivMod.l0 k l0 l1 (List.replicate ((l0.length : Int) : Int).toNat 0) ([] : List Int) (wrap64 ((l0.length : Int) - 1))) else (none)) else (none)) = some (r1, r2) := h; clear h
 by_cases c3 : 0 ≤ (l0.length : Int)
 ·rw [if_pos c3] at H
  have c3b0 := eq_true c3; have c3b1 : decide (0 ≤ (l0.length : Int)) = true := decide_eq_true c3; clear c3
  by_cases c4 : ((l0.length : Int) : Int).toNat ≤ 35184372088832
  ·rw [if_pos c4] at H
   have c4b0 := eq_true c4; have c4b1 : decide (((l0.length : Int) : Int).toNat ≤ 35184372088832) = true := decide_eq_true c4; clear c4; obtain ⟨y431, hy431⟩ : ∃ y_ : List Int, y_ = (List.replicate ((l0.length : Int) : Int).toNat 0) := ⟨_, rfl⟩; replace H : (whetstoneref01_DivMod.l0 k l0 l1 y431 ([] : List Int) (wrap64 ((l0.length : Int) - 1))) = some (r1, r2) := ti hy431 H; have Ny431 := Aside0.mk hy431; clear hy431; have H' := Aside0.mk H; clear H
   go_enter Try.func25, Try.ntmps25
   go_wp2_with (first | ((with_reducible refine gate_dst (N := 11) rfl ?_); refine Kd.R_make (Kd.int .i64) _ 3 rfl (N := 11) rfl 30 _ _ rfl (l0.length : Int) rfl rfl Try.underlying30 (.int .i64 0) 8 info3 rfl (by decide) (by omega) 0 (ok := fun _ => True) (okp := fun _ => True) rfl (fun _ hk => hk) trivial (td) (Nat.le_trans (Nat.mul_le_mul_right _ (td : (l0.length : Int).toNat ≤ 35184372088832)) (by omega)) (Below.refl _ _) (Nat.le_refl _) ?_; intro v432 w5 ho6 hb hg_ hnew_; clear hg_ hnew_; (first | rw [← Ny431.out] at ho6 | (simp only [Int.reduceToNat] at ho6; rw [← Ny431.out] at ho6)); have HO433 := rl ho6 HB; replace HB := bs HB hb; clear hb ho6))
   go_loopg [7, 8] k (fun kq v7 v8 w' => ∃ (x6_1 : List Int) (x7_1 : List Int) (x8_1 : Int), v8 = .int .i64 x8_1 ∧ Aside0 (whetstoneref01_DivMod.l0 kq l0 l1 x6_1 x7_1 x8_1 = some (r1, r2)) ∧ Aside0 (kq ≤ k) ∧ Aside0 (Kd.R (Kd.int .i64) 3 w' w.heap.size (fun k_ => some k_ ≠ (v7 : Value).ownBlock) v432 x6_1) ∧ Aside0 (Kd.R (Kd.int .i64) 3 w' w.heap.size (fun k_ => some k_ ≠ (v432 : Value).ownBlock) v7 x7_1) ∧ Aside0 (Below w.heap.size w w'))
   case atStart => exact ⟨(y431), (([] : List Int)), (wrap64 ((l0.length : Int) - 1)), (by first | rfl | (simp; done) | (simp [*]; done)), H', ⟨Nat.le_refl _⟩, ⟨by (with_reducible repeat first | apply qa | apply qn | apply qd); exact Kd.R_mono HO433.out (fun _ hk => (by simp [Value.ownBlock]))⟩, ⟨by first | exact Kd.R_nil _ _ _ _ _ | exact Kd.N_nil _ _ _ _ _ | exact Kd.V_nil _ _ _ _ _ | exact Kd.Q_nil _ _ _ _ _ | exact Kd.S_nil _ _ _ _ _⟩, ⟨tb HB⟩⟩
   case round =>
    clear H'; (try clear c1); (try clear c2); (try clear p2); (try clear c3); (try clear c3b0); (try clear c3b1); (try clear c4); (try clear c4b0); (try clear c4b1); (try clear p6); obtain ⟨x6_1, x7_1, x8_1, rfl, HA, HK1, HO_6, HO_7, HB⟩ := hrel
    cases gk with
    | zero => exact absurd HA.out (by simp [whetstoneref01_DivMod.l0])
    | succ k1 =>
     have H := HA.out; clear HA; simp only [whetstoneref01_DivMod.l0] at H
     by_cases c7 : x8_1 ≥ 0
     ·rw [if_pos c7] at H
      have c7b0 : decide (0 ≤ x8_1) = true := decide_eq_true c7; clear c7; replace H := bi H; obtain ⟨t437, A80, H⟩ := H; have A8 := Aside0.mk A80; clear A80
      by_cases c9 : 0 ≤ x8_1
      ·rw [if_pos c9] at H
       have c9b0 : decide (0 ≤ x8_1) = true := decide_eq_true c9; clear c9
       by_cases c10 : x8_1 < (l0.length : Int)
       ·rw [if_pos c10] at H
        have c10b0 : decide (x8_1 < (l0.length : Int)) = true := decide_eq_true c10; clear c10; replace H := bi H; obtain ⟨t441, A110, H⟩ := H; have A11 := Aside0.mk A110; clear A110; replace H := bi H; obtain ⟨t444, A120, H⟩ := H; have A12 := Aside0.mk A120; clear A120; have H' := Aside0.mk H; clear H
        try go_wp2
        replace HO_6 := Aside0.mk (Kd.R_drew HO_6.out); replace HO_7 := Aside0.mk (Kd.R_drew HO_7.out); replace HB := Aside0.mk (below_drew1 HB.out); have p440 : 0 ≤ (x8_1 : Int) := td; have q440 : x8_1 < (l0.length : Int) := td; obtain ⟨ad440, e440, hx440_0⟩ := Kd.at_int HR0.out x8_1 p440 q440; have hw440_0 := hx440_0
        cases e440
        replace hx440_0 := (HB.out.cell (World.block_lt_of_cell? w _ hx440_0)).trans hx440_0; replace p440 := eq_true p440; replace q440 := eq_true q440; obtain ⟨Ao14, co14, eo14⟩ := Kd.R_slice HO_7.out; (first | subst eo14 | (injection eo14 with f1_ f2_ f3_; have f4_ := f1_.symm; have f5_ := f3_.symm; clear f1_ f2_ f3_; subst f4_; subst f5_)); refine start_ (n := 10) (S := fun w' => w'.cell? (ad440.add (x8_1).toNat) = some (.int .i64 (rd l0 x8_1))) (ds := []) #[false, false, false, false, false, false, false, false, false, false] (by kernel_rfl) rfl rfl (((HB.out.cell (World.block_lt_of_cell? w _ hw440_0)).trans hw440_0)) (fun hHeld => ?_); refine with_tabW whetstoneref01_DivMod.tab6 whetstoneref01_DivMod.bits6 (fun HT_ HW_ => ?_); generalize wr.drew = w13 at HO_6 HO_7 HB hx440_0 hHeld ⊢; refine pT (i := 0) (N := some 19) (bb 10 1) HT_ ?_; refine pT (i := 2) (N := some 21) (bb 10 5) HT_ ?_; refine pT (i := 3) (N := some 22) (bb 10 13) HT_ ?_; refine pT (i := 4) (N := some 23) (bb 10 29) HT_ ?_; refine tW (i := 5) (N := some 24) (bb 10 61) HT_ HW_ hHeld ?_; refine pT (i := 6) (N := some 25) (bb 10 125) HT_ ?_; refine oT (i := 1) (N := some 20) (bb 10 127) HT_ fun K hK => ?_; refine gS Try.func53 #[.slice Ao14 x7_1.length co14, .int .i64 10] ?_; (with_reducible refine (whetstoneref01_Times.calls k1 _ _ x7_1 10 t437 _ ?side1 ?side2 A8.out).mono ?_); (case side1 => exact tc (Kd.R_reads' HO_7.out).2.2); (case side2 => exact (Kd.R_reads' HO_7.out).2.1); rintro e w15 ⟨v438, rfl, ho0, hb⟩; refine ⟨_, rfl, ?_⟩; have HO439 := rl (rn (rn ho0 HO_6) HO_7) HB; replace HO_6 := re HO_6 (Kd.R_base ho0) hb; replace HO_7 := re HO_7 (Kd.R_base ho0) hb; replace HB := bs HB hb; (try clear hb); (try clear ho0); refine hK.out _ _ (((HB.out.cell (World.block_lt_of_cell? w _ hw440_0)).trans hw440_0)) (fun hHeld => ?_); clear hK K; refine norm_ (a' := ?_) ?_ ?_; rotate_left
        ·show Act.put _ (some 20) _ = _
         simp only [Act.put, List.setIfInBounds_toArray, List.set_cons_zero, List.set_cons_succ, i64_w, i32_w]
         rfl
        refine oT (i := 7) (N := some 26) (bb 10 255) HT_ fun K hK => ?_; refine gS Try.func38 #[.int .u64 (IntKind.u64.wrap (rd l0 x8_1))] ?_; (with_reducible refine (whetstoneref01_Small.calls k1 (IntKind.u64.wrap (rd l0 x8_1)) t441 _ A11.out).mono ?_); rintro e w16 ⟨v442, rfl, ho0, hb⟩; refine ⟨_, rfl, ?_⟩; have HO443 := rl (rn (rn (rn ho0 HO_6) HO_7) HO439) HB; replace HO_6 := re HO_6 (Kd.R_base ho0) hb; replace HO_7 := re HO_7 (Kd.R_base ho0) hb; replace HO439 := re HO439 (Kd.R_base ho0) hb; replace HB := bs HB hb; (try clear hb); (try clear ho0); obtain ⟨Ao17, co17, eo17⟩ := Kd.R_slice HO439.out; (first | subst eo17 | (injection eo17 with f1_ f2_ f3_; have f4_ := f1_.symm; have f5_ := f3_.symm; clear f1_ f2_ f3_; subst f4_; subst f5_)); obtain ⟨Ao18, co18, eo18⟩ := Kd.R_slice HO443.out; (first | subst eo18 | (injection eo18 with f1_ f2_ f3_; have f4_ := f1_.symm; have f5_ := f3_.symm; clear f1_ f2_ f3_; subst f4_; subst f5_)); refine hK.out _ _ (((HB.out.cell (World.block_lt_of_cell? w _ hw440_0)).trans hw440_0)) (fun hHeld => ?_); clear hK K; refine norm_ (a' := ?_) ?_ ?_; rotate_left
        ·show Act.put _ (some 26) _ = _
         simp only [Act.put, List.setIfInBounds_toArray, List.set_cons_zero, List.set_cons_succ, i64_w, i32_w]
         rfl
        refine oT (i := 8) (N := some 27) (bb 10 511) HT_ fun K hK => ?_; refine gS Try.func37 #[.slice Ao17 t437.length co17, .slice Ao18 t441.length co18] ?_; (with_reducible refine (whetstoneref01_Add.calls k1 _ _ t437 _ _ t441 t444 _ ?side1 ?side2 ?side3 ?side4 A12.out).mono ?_); (case side1 => exact tc (Kd.R_reads' HO439.out).2.2); (case side2 => exact (Kd.R_reads' HO439.out).2.1); (case side3 => exact tc (Kd.R_reads' HO443.out).2.2); (case side4 => exact (Kd.R_reads' HO443.out).2.1); rintro e w19 ⟨v445, rfl, ho0, hb⟩; refine ⟨_, rfl, ?_⟩; have HO446 := rl (rn (rn (rn (rn ho0 HO_6) HO_7) HO439) HO443) HB; replace HO_6 := re HO_6 (Kd.R_base ho0) hb; replace HO_7 := re HO_7 (Kd.R_base ho0) hb; replace HB := bs HB hb; (try clear hb); (try clear ho0); refine hK.out _ _ (((HB.out.cell (World.block_lt_of_cell? w _ hw440_0)).trans hw440_0)) (fun hHeld => ?_); clear hK K; refine norm_ (a' := ?_) ?_ ?_; rotate_left
        ·show Act.put _ (some 27) _ = _
         simp only [Act.put, List.setIfInBounds_toArray, List.set_cons_zero, List.set_cons_succ, i64_w, i32_w]
         rfl
        refine pT (i := 9) (N := some 7) (bb 10 1023) HT_ ?_; refine done_ (done_of HT_.out (by kernel_rfl)) ?_
        try go_wp2
        go_loopg [7] k1 (fun kq v7 w' => ∃ (x6_2 : List Int) (x7_2 : List Int), Aside0 (whetstoneref01_DivMod.l1 kq l0 l1 x6_2 x7_2 x8_1 = some (r1, r2)) ∧ Aside0 (kq ≤ k1) ∧ Aside0 (Kd.R (Kd.int .i64) 3 w' w.heap.size (fun k_ => some k_ ≠ (v7 : Value).ownBlock) v432 x6_2) ∧ Aside0 (Kd.R (Kd.int .i64) 3 w' w.heap.size (fun k_ => some k_ ≠ (v432 : Value).ownBlock) v7 x7_2) ∧ Aside0 (Below w.heap.size w w'))
        case atStart => exact ⟨(x6_1), (t444), H', ⟨Nat.le_refl _⟩, ⟨tm HO_6⟩, ⟨tm HO446⟩, ⟨tb HB⟩⟩
        case round =>
         clear H'; (try clear c1); (try clear c2); (try clear p2); (try clear c3); (try clear c3b0); (try clear c3b1); (try clear c4); (try clear c4b0); (try clear c4b1); (try clear p4); (try clear q4); (try clear hx4); (try clear c5); (try clear p6); (try clear c7); (try clear c7b0); (try clear c9); (try clear c9b0); (try clear c10); (try clear c10b0); (try clear hx440_0); (try clear p2); (try clear p440); (try clear p6); (try clear q440); obtain ⟨x6_2, x7_2, HA, HK2, HO_6, HO_7, HB⟩ := hrel
         cases gk with
         | zero => exact absurd HA.out (by simp [whetstoneref01_DivMod.l1])
         | succ k2 =>
          have H := HA.out; clear HA; simp only [whetstoneref01_DivMod.l1] at H; replace H := bi H; obtain ⟨t447, A200, H⟩ := H; have A20 := Aside0.mk A200; clear A200
          by_cases c21 : t447 ≥ 0
          ·rw [if_pos c21] at H
           have c21b0 : decide (0 ≤ t447) = true := decide_eq_true c21; clear c21; replace H := bi H; obtain ⟨t448, A220, H⟩ := H; have A22 := Aside0.mk A220; clear A220
           by_cases c23 : 0 ≤ x8_1
           ·rw [if_pos c23] at H
            have c23b0 : decide (0 ≤ x8_1) = true := decide_eq_true c23; clear c23
            by_cases c24 : x8_1 < (x6_2.length : Int)
            ·rw [if_pos c24] at H
             have c24b0 : decide (x8_1 < (x6_2.length : Int)) = true := decide_eq_true c24; clear c24; obtain ⟨y452, hy452⟩ : ∃ y_ : List Int, y_ = (x6_2.set (x8_1 : Int).toNat (wrap64 ((rd x6_2 x8_1) + 1))) := ⟨_, rfl⟩; replace H : (whetstoneref01_DivMod.l1 k2 l0 l1 y452 t448 x8_1) = some (r1, r2) := ti hy452 H; have Ny452 := Aside0.mk hy452; clear hy452; have H' := Aside0.mk H; clear H; obtain ⟨Ao26, co26, eo26⟩ := Kd.R_slice HO_7.out; subst eo26
             go_wp2_with (first | ((with_reducible refine gate_callee (f := 54) rfl ?_); refine gL (N := some 30) Try.func54 #[.slice Ao26 x7_2.length co26, .slice A1 l1.length c1] ?_; (with_reducible refine (whetstoneref01_Cmp.calls k2 _ _ x7_2 _ _ l1 t447 _ ?side1 ?side2 ?side3 ?side4 A20.out).mono ?_); (case side1 => exact tc (Kd.R_reads' HO_7.out).2.2); (case side2 => exact (Kd.R_reads' HO_7.out).2.1); (case side3 => exact tc (Kd.C_below HR1.out HB.out)); (case side4 => exact HC1.out); rintro e w27 ⟨rfl, hb⟩; refine ⟨_, rfl, ?_⟩; replace HO_6 := rb HO_6 hb; replace HO_7 := rb HO_7 hb; replace HB := bs HB hb; (try clear hb)) | ((with_reducible refine gate_callee (f := 55) rfl ?_); refine gL (N := some 34) Try.func55 #[.slice Ao26 x7_2.length co26, .slice A1 l1.length c1] ?_; (with_reducible refine (whetstoneref01_Sub.calls k2 _ _ x7_2 _ _ l1 t448 _ ?side1 ?side2 ?side3 ?side4 A22.out).mono ?_); (case side1 => exact tc (Kd.R_reads' HO_7.out).2.2); (case side2 => exact (Kd.R_reads' HO_7.out).2.1); (case side3 => exact tc (Kd.C_below HR1.out HB.out)); (case side4 => exact HC1.out); rintro e w28 ⟨v449, rfl, ho0, hb⟩; refine ⟨_, rfl, ?_⟩; have HO450 := rl (rn (rn ho0 HO_6) HO_7) HB; replace HO_6 := re HO_6 (Kd.R_base ho0) hb; replace HB := bs HB hb; (try clear hb); (try clear ho0); obtain ⟨Ao29, co29, eo29⟩ := Kd.R_slice HO_6.out; subst eo29; have p451 : 0 ≤ (x8_1 : Int) := td; have q451 : x8_1 < (x6_2.length : Int) := td; obtain ⟨ad451, e451, hx451_0⟩ := Kd.at_int (Kd.R_reads' HO_6.out).2.2 x8_1 p451 q451; cases e451; replace p451 := eq_true p451; replace q451 := eq_true q451; have p25 : 0 ≤ (x8_1 : Int) := td; have q25 : (x8_1 : Int) < ((x6_2.length : Int) : Int) := td; obtain ⟨go25, co25, eo25, gb25, gl25, cl25, HG25⟩ := Kd.R_form HO_6.out (by omega); (first | cases eo25 | (injection eo25 with ea_ en_ ec_; (first | subst ea_ | (injection ea_ with ea_; subst ea_)); subst ec_; clear en_)); have GB25 := Aside0.mk gb25; have GG25 := Aside0.mk HG25; clear gb25 gl25 HG25; (first | simp only [add_plain] at hx451_0 | skip); obtain ⟨hx25_0, hf25_0⟩ := Kd.R_celln 0 HO_6.out (x8_1 : Int) p25 q25; replace p25 := eq_true p25; replace q25 := eq_true q25; obtain ⟨hy30_, hz30_⟩ := Kd.R_celln 0 HO_6.out (x8_1 : Int) (td) (td); have HP30 := Kd.R_putg HO_6.out (x8_1 : Int) (wrap64 ((rd x6_2 x8_1) + 1))) | ((with_reducible refine gate_store (t := 3) (p := 40) rfl ?_); refine store_event (t := 3) (p := 40) (v := ?vo_w31) (w1 := (w28.setCell ⟨go25, (x8_1 : Int).toNat, none⟩ (.int .i64 (wrap64 ((rd x6_2 x8_1) + 1))))) ?hg ?ho ?hn ?hr ?_; (case ho => rfl); (case hg => rfl); (case hn => rfl); (case hr => first | (go_simp; done) | (go_simp; rfl)); intro w31 hw; have hg : w28.grownBy w31 (some go25) := (by rw [hw]; exact HP30.2); have hp_ : Kd.R (Kd.int .i64) 3 w31 w.heap.size (fun k_ => some k_ ≠ (.slice Ao26 x7_2.length co26 : Value).ownBlock ∧ some k_ ≠ (v449 : Value).ownBlock) (.slice (some ⟨go25, 0, none⟩) x6_2.length co29) y452 := (by rw [hw, Ny452.out]; exact HP30.1); clear HP30; replace HO_6 := Aside0.mk (hp_); replace HO450 := Aside0.mk (Kd.R_after (v := (.slice (some ⟨go25, 0, none⟩) x6_2.length co29)) (v1 := (.slice (some ⟨go25, 0, none⟩) x6_2.length co29)) (ok := (fun k_ => some k_ ≠ (.slice Ao26 x7_2.length co26 : Value).ownBlock)) (tm HO450) hg (.inl rfl)); replace HB := Aside0.mk ((by rw [hw]; exact below_set (HB.out) GB25.out : Below w.heap.size w w31)); clear hg hw hp_))
             go_roundg k2
             case measure => have := HK1.out; have := HK2.out; omega
             case rel => exact ⟨(y452), (t448), H', ⟨by have := HK1.out; have := HK2.out; omega⟩, ⟨tm HO_6⟩, ⟨tm HO450⟩, ⟨tb HB⟩⟩
            ·rw [if_neg c24] at H
             exact absurd H (by simp)
           ·rw [if_neg c23] at H
            exact absurd H (by simp)
          ·rw [if_neg c21] at H
           have c21b0 : decide (0 ≤ t447) = false := decide_eq_false c21; clear c21; have H' := Aside0.mk H; clear H; obtain ⟨Ao32, co32, eo32⟩ := Kd.R_slice HO_7.out; subst eo32
           go_wp2_with (first | ((with_reducible refine gate_callee (f := 54) rfl ?_); refine gL (N := some 30) Try.func54 #[.slice Ao32 x7_2.length co32, .slice A1 l1.length c1] ?_; (with_reducible refine (whetstoneref01_Cmp.calls k2 _ _ x7_2 _ _ l1 t447 _ ?side1 ?side2 ?side3 ?side4 A20.out).mono ?_); (case side1 => exact tc (Kd.R_reads' HO_7.out).2.2); (case side2 => exact (Kd.R_reads' HO_7.out).2.1); (case side3 => exact tc (Kd.C_below HR1.out HB.out)); (case side4 => exact HC1.out); rintro e w33 ⟨rfl, hb⟩; refine ⟨_, rfl, ?_⟩; replace HO_6 := rb HO_6 hb; replace HO_7 := rb HO_7 hb; replace HB := bs HB hb; (try clear hb)))
           go_roundg k2
           case measure => have := HK1.out; have := HK2.out; omega
           case rel => exact ⟨(x6_2), (x7_2), (wrap64 (x8_1 - 1)), (by first | rfl | (simp; done) | (simp [*]; done)), H', ⟨by have := HK1.out; have := HK2.out; omega⟩, ⟨tq HO_6⟩, ⟨tq HO_7⟩, ⟨tb HB⟩⟩
       ·rw [if_neg c10] at H
        exact absurd H (by simp)
      ·rw [if_neg c9] at H
       exact absurd H (by simp)
     ·rw [if_neg c7] at H
      have c7b0 : decide (0 ≤ x8_1) = false := decide_eq_false c7; clear c7; replace H := bi H; obtain ⟨t434, A340, H⟩ := H; have A34 := Aside0.mk A340; clear A340; simp only [Option.some.injEq, Prod.mk.injEq] at H; obtain ⟨rfl, rfl⟩ := H; obtain ⟨Ao35, co35, eo35⟩ := Kd.R_slice HO_6.out; subst eo35
      go_wp2_with (first | ((with_reducible refine gate_callee (f := 26) rfl ?_); refine gL (N := some 42) Try.func26 #[.slice Ao35 x6_1.length co35] ?_; (with_reducible refine (whetstoneref01_Trim.calls k1 _ _ x6_1 t434 _ ?side1 ?side2 A34.out).mono ?_); (case side1 => exact tc (Kd.R_reads' HO_6.out).2.2); (case side2 => exact (Kd.R_reads' HO_6.out).2.1); rintro e w36 ⟨v435, rfl, ho0, hb⟩; refine ⟨_, rfl, ?_⟩; have HO436 := rl (rn (rn ho0 HO_6) HO_7) HB; replace HO_7 := re HO_7 (Kd.R_base ho0) hb; replace HB := bs HB hb; (try clear hb); (try clear ho0)))
      go_ret2
      exact ⟨_, _, ee, tm HO436, tm HO_7, tb HB⟩
  ·rw [if_neg c4] at H
   exact absurd H (by simp)
 ·rw [if_neg c3] at H
  exact absurd H (by simp)

/-! ### whetstoneref01_Number: function 58 -/
def whetstoneref01_Number.l0 : Nat → List Int → Int → Int → Option (Int)
 | 0, _, _, _ => none
 | k + 1, x0, x3, x4 => if x4 ≥ 0 then (if 0 ≤ x4 then (if x4 < (x0.length : Int) then (whetstoneref01_Number.l0 k x0 (IntKind.u64.wrap ((IntKind.u64.wrap (x3 * 10)) + (IntKind.u64.wrap (rd x0 x4)))) (wrap64 (x4 - 1))) else (none)) else (none)) else (some x3)
def whetstoneref01_Number.f (k : Nat) (l0 : List Int) : Option (Int) := whetstoneref01_Number.l0 k l0 0 (wrap64 ((l0.length : Int) - 1))
theorem whetstoneref01_Number.mono_l : ∀ k, (∀ y0 y1 y2, LeO (whetstoneref01_Number.l0 k y0 y1 y2) (whetstoneref01_Number.l0 (k + 1) y0 y1 y2))
 | 0 => fun _ _ _ r h => by simp [whetstoneref01_Number.l0] at h
 | k + 1 => by
  have ih0 := whetstoneref01_Number.mono_l k
  ·intro y0 y1 y2
   unfold whetstoneref01_Number.l0
   repeat' with_reducible first | exact ih0 _ _ _ | exact LeO.refl _ | exact LeO.none _ | refine LeO.ite ?_ ?_ | refine LeO.bind ?_ (fun _ => ?_)
theorem whetstoneref01_Number.mono : ∀ a0 k, LeO (whetstoneref01_Number.f k a0) (whetstoneref01_Number.f (k + 1) a0) := by
 intro a0 k; have ih0 := whetstoneref01_Number.mono_l k
 unfold whetstoneref01_Number.f
 repeat' with_reducible first | exact ih0 _ _ _ | exact LeO.refl _ | exact LeO.none _ | refine LeO.ite ?_ ?_ | refine LeO.bind ?_ (fun _ => ?_)
set_option maxHeartbeats 8000000 in
set_option maxRecDepth 100000 in
theorem whetstoneref01_Number.calls (k : Nat) (A0 : Option Addr) (c0 : Nat) (l0 : List Int) (r : Int) (w : World) (hr0 : Kd.C (Kd.int .i64) w A0 l0.length l0) (hc0 : l0.length ≤ c0) (h : whetstoneref01_Number.f k l0 = some r) :
  Calls Try.prog 58 #[.slice A0 l0.length c0] w fun e w' => e = .returned (.int .u64 r) ∧ Drawn0 w w' := by
 have HR0 := Aside0.mk hr0; have HC0 := Aside0.mk hc0; clear hr0 hc0; have H : (whetstoneref01_Number.l0 k l0 0 (wrap64 ((l0.length : Int) - 1))) = some r := h; clear h; have H' := Aside0.mk H; clear H
 go_enter Try.func58, Try.ntmps58
 go_wp2
 go_loopg [3, 4] k (fun kq v3 v4 w' => ∃ (x3_1 : Int) (x4_1 : Int), v3 = .int .u64 x3_1 ∧ v4 = .int .i64 x4_1 ∧ Aside0 (whetstoneref01_Number.l0 kq l0 x3_1 x4_1 = some r) ∧ Aside0 (kq ≤ k) ∧ Drawn0 w w')
 case atStart => exact ⟨(0), (wrap64 ((l0.length : Int) - 1)), (by first | rfl | (simp; done) | (simp [*]; done)), (by first | rfl | (simp; done) | (simp [*]; done)), H', ⟨Nat.le_refl _⟩, by repeat (first | exact Drawn0.refl _ | apply Drawn0.step)⟩
 case round =>
  clear H'; obtain ⟨x3_1, x4_1, rfl, rfl, HA, HK1, ⟨m1, rfl⟩⟩ := hrel
  cases gk with
  | zero => exact absurd HA.out (by simp [whetstoneref01_Number.l0])
  | succ k1 =>
   have H := HA.out; clear HA; simp only [whetstoneref01_Number.l0] at H
   by_cases c2 : x4_1 ≥ 0
   ·rw [if_pos c2] at H
    have c2b0 : decide (0 ≤ x4_1) = true := decide_eq_true c2; clear c2
    by_cases c3 : 0 ≤ x4_1
    ·rw [if_pos c3] at H
     have c3b0 : decide (0 ≤ x4_1) = true := decide_eq_true c3; clear c3
     by_cases c4 : x4_1 < (l0.length : Int)
     ·rw [if_pos c4] at H
      have c4b0 : decide (x4_1 < (l0.length : Int)) = true := decide_eq_true c4; clear c4; have H' := Aside0.mk H; clear H; have p453 : 0 ≤ (x4_1 : Int) := td; have q453 : x4_1 < (l0.length : Int) := td; obtain ⟨ad453, e453, hx453_0⟩ := Kd.at_int HR0.out x4_1 p453 q453
      cases e453
      replace p453 := eq_true p453; replace q453 := eq_true q453
      go_wp2
      go_roundg k1
      case measure => have := HK1.out; omega
      case rel => exact ⟨(IntKind.u64.wrap ((IntKind.u64.wrap (x3_1 * 10)) + (IntKind.u64.wrap (rd l0 x4_1)))), (wrap64 (x4_1 - 1)), (by first | rfl | (simp; done) | (simp [*]; done)), (by first | rfl | (simp; done) | (simp [*]; done)), H', ⟨by have := HK1.out; omega⟩, by repeat (first | exact Drawn0.refl _ | apply Drawn0.step)⟩
     ·rw [if_neg c4] at H
      exact absurd H (by simp)
    ·rw [if_neg c3] at H
     exact absurd H (by simp)
   ·rw [if_neg c2] at H
    have c2b0 : decide (0 ≤ x4_1) = false := decide_eq_false c2; clear c2; obtain rfl := Option.some.inj H
    go_wp2
    go_ret
    exact ⟨by first | rfl | (simp; done) | (simp [*]; done), by repeat (first | exact Drawn0.refl _ | apply Drawn0.step)⟩

/-! ### whetstoneref01_Limbs: function 34 -/
def whetstoneref01_Limbs.l0 : Nat → List Int → List Int → List Int → Option (List Int)
 | 0, _, _, _ => none
 | k + 1, x3, x4, x5 => if (x4.length : Int) > 0 then ((whetstoneref01_DivMod.f k x4 x5).bind fun bt460 => ((whetstoneref01_Number.f k bt460.2).bind fun t466 => (if x3.length < 35184372088832 then (whetstoneref01_Limbs.l0 k (x3 ++ [(t466) % 4294967296]) bt460.1 x5) else (none)))) else (some x3)
def whetstoneref01_Limbs.f (k : Nat) (l0 : List Int) : Option (List Int) := (whetstoneref01_Trim.f k l0).bind fun t454 => ((whetstoneref01_Small.f k 4294967296).bind fun t457 => (whetstoneref01_Limbs.l0 k ([] : List Int) t454 t457))
theorem whetstoneref01_Limbs.mono_l : ∀ k, (∀ y0 y1 y2, LeO (whetstoneref01_Limbs.l0 k y0 y1 y2) (whetstoneref01_Limbs.l0 (k + 1) y0 y1 y2))
 | 0 => fun _ _ _ r h => by simp [whetstoneref01_Limbs.l0] at h
 | k + 1 => by
  have ih0 := whetstoneref01_Limbs.mono_l k
  ·intro y0 y1 y2
   unfold whetstoneref01_Limbs.l0
   repeat' with_reducible first | exact ih0 _ _ _ | exact whetstoneref01_DivMod.mono _ _ _ | exact whetstoneref01_Number.mono _ _ | exact whetstoneref01_Small.mono _ _ | exact whetstoneref01_Trim.mono _ _ | exact LeO.refl _ | exact LeO.none _ | refine LeO.ite ?_ ?_ | refine LeO.bind ?_ (fun _ => ?_)
theorem whetstoneref01_Limbs.mono : ∀ a0 k, LeO (whetstoneref01_Limbs.f k a0) (whetstoneref01_Limbs.f (k + 1) a0) := by
 intro a0 k; have ih0 := whetstoneref01_Limbs.mono_l k
 unfold whetstoneref01_Limbs.f
 repeat' with_reducible first | exact ih0 _ _ _ | exact whetstoneref01_DivMod.mono _ _ _ | exact whetstoneref01_Number.mono _ _ | exact whetstoneref01_Small.mono _ _ | exact whetstoneref01_Trim.mono _ _ | exact LeO.refl _ | exact LeO.none _ | refine LeO.ite ?_ ?_ | refine LeO.bind ?_ (fun _ => ?_)
set_option maxHeartbeats 8000000 in
set_option maxRecDepth 100000 in
theorem whetstoneref01_Limbs.calls (k : Nat) (A0 : Option Addr) (c0 : Nat) (l0 : List Int) (r : List Int) (w : World) (hr0 : Kd.C (Kd.int .i64) w A0 l0.length l0) (hc0 : l0.length ≤ c0) (h : whetstoneref01_Limbs.f k l0 = some r) :
  Calls Try.prog 34 #[.slice A0 l0.length c0] w fun e w' => ∃ v0_ : Value, e = .returned (v0_) ∧ Kd.R (Kd.int .u32) 70 w' w.heap.size (fun _ => True) v0_ r ∧ Below w.heap.size w w' := by
 have HR0 := Aside0.mk hr0; have HC0 := Aside0.mk hc0; clear hr0 hc0; have HB := Aside0.mk (Below.refl w.heap.size w); have H : ((whetstoneref01_Trim.f k l0).bind fun t454 => ((whetstoneref01_Small.f k 4294967296).bind fun t457 => (whetstoneref01_Limbs.l0 k ([] : List Int) t454 t457))) = some r := h; clear h; replace H := bi H; obtain ⟨t454, A20, H⟩ := H; have A2 := Aside0.mk A20; clear A20; replace H := bi H; obtain ⟨t457, A30, H⟩ := H; have A3 := Aside0.mk A30; clear A30; have H' := Aside0.mk H; clear H
 go_enter Try.func34, Try.ntmps34
 go_wp2_with (first | ((with_reducible refine gate_callee (f := 26) rfl ?_); refine gL (N := some 9) Try.func26 #[.slice A0 l0.length c0] ?_; (with_reducible refine (whetstoneref01_Trim.calls k _ _ l0 t454 _ ?side1 ?side2 A2.out).mono ?_); (case side1 => repeat (first | exact HR0.out | (with_reducible refine Kd.C_alloc ?_ _) | (with_reducible refine Kd.C_drewN ?_ _) | (with_reducible refine Kd.C_drew ?_))); (case side2 => exact HC0.out); rintro e w4 ⟨v455, rfl, ho0, hb⟩; refine ⟨_, rfl, ?_⟩; have HO456 := rl ho0 HB; replace HB := bs HB hb; (try clear hb); (try clear ho0)) | ((with_reducible refine gate_callee (f := 38) rfl ?_); refine gL (N := some 10) Try.func38 #[.int .u64 4294967296] ?_; (with_reducible refine (whetstoneref01_Small.calls k 4294967296 t457 _ A3.out).mono ?_); rintro e w5 ⟨v458, rfl, ho0, hb⟩; refine ⟨_, rfl, ?_⟩; have HO459 := rl (rn ho0 HO456) HB; replace HO456 := re HO456 (Kd.R_base ho0) hb; replace HB := bs HB hb; (try clear hb); (try clear ho0)))
 go_loopg [3, 4] k (fun kq v3 v4 w' => ∃ (x3_1 : List Int) (x4_1 : List Int), Aside0 (whetstoneref01_Limbs.l0 kq x3_1 x4_1 t457 = some r) ∧ Aside0 (kq ≤ k) ∧ Aside0 (Kd.R (Kd.int .u32) 70 w' w.heap.size (fun _ => True) v3 x3_1) ∧ Aside0 (Kd.R (Kd.int .i64) 3 w' w.heap.size (fun k_ => some k_ ≠ (v458 : Value).ownBlock) v4 x4_1) ∧ Aside0 (Kd.R (Kd.int .i64) 3 w' w.heap.size (fun k_ => some k_ ≠ (v4 : Value).ownBlock) v458 t457) ∧ Aside0 (Below w.heap.size w w'))
 case atStart => exact ⟨(([] : List Int)), (t454), H', ⟨Nat.le_refl _⟩, ⟨by first | exact Kd.R_nil _ _ _ _ _ | exact Kd.N_nil _ _ _ _ _ | exact Kd.V_nil _ _ _ _ _ | exact Kd.Q_nil _ _ _ _ _ | exact Kd.S_nil _ _ _ _ _⟩, ⟨tm HO456⟩, ⟨tm HO459⟩, ⟨tb HB⟩⟩
 case round =>
  clear H'; (try clear c2); (try clear p2); (try clear c3); obtain ⟨x3_1, x4_1, HA, HK1, HO_3, HO_4, HO_5, HB⟩ := hrel
  cases gk with
  | zero => exact absurd HA.out (by simp [whetstoneref01_Limbs.l0])
  | succ k1 =>
   have H := HA.out; clear HA; simp only [whetstoneref01_Limbs.l0] at H
   by_cases c6 : (x4_1.length : Int) > 0
   ·rw [if_pos c6] at H
    have c6b0 : decide (0 < (x4_1.length : Int)) = true := decide_eq_true c6; have c6b1 : decide (0 < x4_1.length) = true := decide_eq_true (by omega); clear c6; replace H := bi H; obtain ⟨⟨t460, t461⟩, A70, H⟩ := H
    try dsimp only at H
    have A7 := Aside0.mk A70; clear A70; replace H := bi H; obtain ⟨t466, A80, H⟩ := H; have A8 := Aside0.mk A80; clear A80
    by_cases c9 : x3_1.length < 35184372088832
    ·rw [if_pos c9] at H
     have LMc9 := Aside0.mk c9; clear c9; obtain ⟨y467, hy467⟩ : ∃ y_ : List Int, y_ = (x3_1 ++ [(t466) % 4294967296]) := ⟨_, rfl⟩; replace H : (whetstoneref01_Limbs.l0 k1 y467 t460 t457) = some r := ti hy467 H; have Ny467 := Aside0.mk hy467; clear hy467; have H' := Aside0.mk H; clear H; obtain ⟨Ao10, co10, eo10⟩ := Kd.R_slice HO_4.out; subst eo10; obtain ⟨Ao11, co11, eo11⟩ := Kd.R_slice HO_5.out; subst eo11
     go_wp2_with (first | ((with_reducible refine gate_callee (f := 25) rfl ?_); refine gL (N := some 17) Try.func25 #[.slice Ao10 x4_1.length co10, .slice Ao11 t457.length co11] ?_; (with_reducible refine (whetstoneref01_DivMod.calls k1 _ _ x4_1 _ _ t457 t460 t461 _ ?side1 ?side2 ?side3 ?side4 A7.out).mono ?_); (case side1 => exact tc (Kd.R_reads' HO_4.out).2.2); (case side2 => exact (Kd.R_reads' HO_4.out).2.1); (case side3 => exact tc (Kd.R_reads' HO_5.out).2.2); (case side4 => exact (Kd.R_reads' HO_5.out).2.1); rintro e w12 ⟨v462, v464, rfl, ho0, ho1, hb⟩; refine ⟨_, rfl, ?_⟩; have HO463 := rl (rn (rn ho0 HO_4) HO_5) HB; have HO465 := rl (rn (rn ho1 HO_4) HO_5) HB; replace HO_3 := rb HO_3 hb; replace HO_5 := Aside0.mk (Kd.R_mono (Kd.R_told (Kd.R_told (Kd.R_old (tq HO_5) hb) (Kd.R_base ho0)) (Kd.R_base ho1)) (fun _ h_ => h_.1)); replace HB := bs HB hb; (try clear hb); (try clear ho0); (try clear ho1); obtain ⟨Ao13, co13, eo13⟩ := Kd.R_slice HO465.out; subst eo13) | ((with_reducible refine gate_callee (f := 58) rfl ?_); refine gL (N := some 22) Try.func58 #[.slice Ao13 t461.length co13] ?_; (with_reducible refine (whetstoneref01_Number.calls k1 _ _ t461 t466 _ ?side1 ?side2 A8.out).mono ?_); (case side1 => exact tc (Kd.R_reads' HO465.out).2.2); (case side2 => exact (Kd.R_reads' HO465.out).2.1); rintro e w' ⟨rfl, ⟨nd, rfl⟩⟩; refine ⟨_, rfl, ?_⟩) | ((with_reducible refine gate_builtin (b := .append) (xs := #[.tmp 20, .tmp 24]) rfl ?_); at_builtin; refine Kd.R_append (Kd.int .u32) (w0 := w) w.heap.size rfl (.tmp 20) (.tmp 24) 22 70 (.int .u32 0) 4 rfl Try.underlying22 info70 rfl (by decide) (by omega) u3 x3_1 ((t466) % 4294967296) [.int .u32 ((t466) % 4294967296)] (fun _ => True) (fun _ => False) rfl rfl ?aP (fun _ hk => hk.elim) ?aF ?aO ?aB ?aS ?aL ?_; (case aP => exact rfl); (case aB => exact (tb HB)); (case aF => exact (fun _ _ => trivial)); (case aO => exact (tq HO_3)); (case aS => exact (below_size (tb HB))); (case aL => have := LMc9.out; omega); intro v468 w14 ho hb hg hat; rw [← Ny467.out] at ho; replace HO_5 := Aside0.mk (Kd.R_over' (tq HO_5) (Kd.R_typed (tq HO_3)) (by decide) hg); replace HO463 := Aside0.mk (Kd.R_over' (tq HO463) (Kd.R_typed (tq HO_3)) (by decide) hg); replace HB := Aside0.mk (hb); have HO469 := Aside0.mk (ho); clear HO_3 ho hb hg hat))
     go_roundg k1
     case measure => have := HK1.out; omega
     case rel => exact ⟨(y467), (t460), H', ⟨by have := HK1.out; omega⟩, ⟨tq HO469⟩, ⟨tm HO463⟩, ⟨tm HO_5⟩, ⟨tb HB⟩⟩
    ·rw [if_neg c9] at H
     exact absurd H (by simp)
   ·rw [if_neg c6] at H
    have c6b0 : decide (0 < (x4_1.length : Int)) = false := decide_eq_false c6; have c6b1 : decide (0 < x4_1.length) = false := decide_eq_false (by omega); clear c6; obtain rfl := Option.some.inj H; obtain ⟨Ao15, co15, eo15⟩ := Kd.R_slice HO_4.out; subst eo15
    go_wp2
    go_ret
    exact ⟨_, ee, tq HO_3, tb HB⟩

end Go.Proofs.Ytkbefeadmchmbaa.QBigQuotients
