-- written by wip/wprint, a program of this session
import Derived.Test.YtjpnaapimnoamaaQBigSmallsx0
import Derived.Test.YtjpnaapimnoamaaQBigSmallsx1
import Derived.Test.YtjpnaapimnoamaaQBigSmallsx9
import Derived.Test.YtjpnaapimnoamaaQBigSmallsx10
import Derived.Test.YtjpnaapimnoamaaQBigSmallsx14
import Derived.Test.YtjpnaapimnoamaaQBigSmallsx15
import Derived.Test.YtjpnaapimnoamaaQBigSmallsx16
namespace Go.Proofs.Ytjpnaapimnoamaa.QBigSmalls
open Go.RowKit Go.Proofs.YtjpnaapimnoamaaW.PrintWords Go.Proofs.YtjpnaapimnoamaaW.PrintLast Go.Proofs.YtjpnaapimnoamaaW.PrintMore
open Go.Proofs.YtjpnaapimnoamaaW.PrintWords.Kd renaming R_alloc → qa, R_drewN → qn, R_drew → qd
open Go.Proofs.YtjpnaapimnoamaaW.PrintWords renaming below_alloc → ba, pw_below_drewN → bn, below_drew1 → bd
attribute [local go_sem] max2_int min2_int max_two min_two max_three min_three max_four min_four   -- for this text's walks alone
set_option linter.unusedVariables false
set_option linter.unusedSimpArgs false

/-! ### whetstoneref02_Small: function 47 -/
mutual
def whetstoneref02_Small.j0 : Nat → Bool → Bool → List Int → Option (Int × Bool)
 | 0, _, _, _ => none
 | k + 1, x15, x666000, x666001 => if x15 = true then (some (0, false)) else (whetstoneref02_Small.l0 k 0 (wrap64 ((x666001.length : Int) - 1)) x666000 x666001)
def whetstoneref02_Small.l0 : Nat → Int → Int → Bool → List Int → Option (Int × Bool)
 | 0, _, _, _, _ => none
 | k + 1, x4, x5, x666000, x666001 => if x5 ≥ 0 then (if x666000 = true then (if 0 ≤ x5 then (if x5 < (x666001.length : Int) then (whetstoneref02_Small.l0 k (wrap64 ((wrap64 (x4 * 10)) - (rd x666001 x5))) (wrap64 (x5 - 1)) x666000 x666001) else (none)) else (none)) else (if 0 ≤ x5 then (if x5 < (x666001.length : Int) then (whetstoneref02_Small.l0 k (wrap64 ((wrap64 (x4 * 10)) + (rd x666001 x5))) (wrap64 (x5 - 1)) x666000 x666001) else (none)) else (none))) else (some (x4, true))
end
def whetstoneref02_Small.f (k : Nat) (a0_0 : Bool) (l0_1 : List Int) : Option (Int × Bool) := (whetstoneref02_Of.f k 9223372036854775807).bind fun bt666 => ((whetstoneref02_Cmp.f k a0_0 l0_1 bt666.1 bt666.2).bind fun t670 => (if t670 > 0 then (whetstoneref02_Small.j0 k true a0_0 l0_1) else ((whetstoneref02_Of.f k (-9223372036854775808)).bind fun bt671 => ((whetstoneref02_Cmp.f k a0_0 l0_1 bt671.1 bt671.2).bind fun t675 => (whetstoneref02_Small.j0 k (decide (t675 < 0)) a0_0 l0_1)))))
theorem whetstoneref02_Small.mono_l : ∀ k, (∀ y0 y1 y2, LeO (whetstoneref02_Small.j0 k y0 y1 y2) (whetstoneref02_Small.j0 (k + 1) y0 y1 y2)) ∧ (∀ y0 y1 y2 y3, LeO (whetstoneref02_Small.l0 k y0 y1 y2 y3) (whetstoneref02_Small.l0 (k + 1) y0 y1 y2 y3))
 | 0 => ⟨fun _ _ _ r h => by simp [whetstoneref02_Small.j0] at h, fun _ _ _ _ r h => by simp [whetstoneref02_Small.l0] at h⟩
 | k + 1 => by
  obtain ⟨ih0, ih1⟩ := whetstoneref02_Small.mono_l k
  refine ⟨?_, ?_⟩
  ·intro y0 y1 y2
   unfold whetstoneref02_Small.j0
   repeat' with_reducible first | exact ih0 _ _ _ | exact ih1 _ _ _ _ | exact whetstoneref02_Cmp.mono _ _ _ _ _ | exact whetstoneref02_Of.mono _ _ | exact LeO.refl _ | exact LeO.none _ | refine LeO.ite ?_ ?_ | refine LeO.bind ?_ (fun _ => ?_)
  ·intro y0 y1 y2 y3
   unfold whetstoneref02_Small.l0
   repeat' with_reducible first | exact ih0 _ _ _ | exact ih1 _ _ _ _ | exact whetstoneref02_Cmp.mono _ _ _ _ _ | exact whetstoneref02_Of.mono _ _ | exact LeO.refl _ | exact LeO.none _ | refine LeO.ite ?_ ?_ | refine LeO.bind ?_ (fun _ => ?_)
theorem whetstoneref02_Small.mono : ∀ a0 a1 k, LeO (whetstoneref02_Small.f k a0 a1) (whetstoneref02_Small.f (k + 1) a0 a1) := by
 intro a0 a1 k
 obtain ⟨ih0, ih1⟩ := whetstoneref02_Small.mono_l k
 unfold whetstoneref02_Small.f
 repeat' with_reducible first | exact ih0 _ _ _ | exact ih1 _ _ _ _ | exact whetstoneref02_Cmp.mono _ _ _ _ _ | exact whetstoneref02_Of.mono _ _ | exact LeO.refl _ | exact LeO.none _ | refine LeO.ite ?_ ?_ | refine LeO.bind ?_ (fun _ => ?_)
def whetstoneref02_Small.T1 : Bool × List (List Nat × List Nat) := (true, [([], []), ([], []), ([0, 1, 1], [0, 1]), ([2], [2]), ([3, 2], [3]), ([4], [4]), ([4, 4], [4]), ([5, 6, 6, 4], [4, 5, 6]), ([7, 4], [4, 7]), ([4, 8], [4, 8])])
def whetstoneref02_Small.B1 : List Nat := [0, 0, 3, 7, 15, 31, 31, 127, 255, 511]
theorem whetstoneref02_Small.tab1 : rtab .any (opsOf Try.f47 1) = whetstoneref02_Small.T1 := by kernel_rfl
theorem whetstoneref02_Small.bits1 : waitsOk whetstoneref02_Small.T1.2 whetstoneref02_Small.B1 = true := by kernel_rfl
set_option maxHeartbeats 8000000 in
set_option maxRecDepth 100000 in
theorem whetstoneref02_Small.calls (k : Nat) (a0_0 : Bool) (A0_1 : Option Addr) (c0_1 : Nat) (l0_1 : List Int) (r1 : Int) (r2 : Bool) (w : World) (hr0_1 : Kd.C (Kd.int .i64) w A0_1 l0_1.length l0_1) (hc0_1 : l0_1.length ≤ c0_1) (h : whetstoneref02_Small.f k a0_0 l0_1 = some (r1, r2)) :
  Calls Try.prog 47 #[.agg #[.bool a0_0, .slice A0_1 l0_1.length c0_1]] w fun e w' => e = .returned (.tuple #[.int .i64 r1, .bool r2]) ∧ Below w.heap.size w w' := by
 have hu32 := Try.underlying32
 have HR0_1 := Aside0.mk hr0_1
 have HC0_1 := Aside0.mk hc0_1
 clear hr0_1 hc0_1
 have HB := Aside0.mk (Below.refl w.heap.size w)
 have H : ((whetstoneref02_Of.f k 9223372036854775807).bind fun bt666 => ((whetstoneref02_Cmp.f k a0_0 l0_1 bt666.1 bt666.2).bind fun t670 => (if t670 > 0 then (whetstoneref02_Small.j0 k true a0_0 l0_1) else ((whetstoneref02_Of.f k (-9223372036854775808)).bind fun bt671 => ((whetstoneref02_Cmp.f k a0_0 l0_1 bt671.1 bt671.2).bind fun t675 => (whetstoneref02_Small.j0 k (decide (t675 < 0)) a0_0 l0_1)))))) = some (r1, r2) := h
 clear h
 have HC2 := Aside0.mk H
 clear H
 go_enter Try.func47, Try.ntmps47
 go_upto_region 1 with (first | ((with_reducible refine gate_dst (N := 1) rfl ?_); refine bx (N := 1) #[.bool a0_0, .slice A0_1 l0_1.length c0_1] 32 ?_; intro gb665 hg w3 hbox hb; have BK665 := Aside0.mk (hbox); have GW665 := bz hg HB; have GE665 := bz hg HB; replace HB := bs HB hb; clear hb hbox hg))
 (try simp only [Act.put, List.setIfInBounds_toArray, List.set_cons_zero, List.set_cons_succ])
 go_cut [15] from 1 to 0 (fun v15 wc => ∃ (kq : Nat) (x15_1 : Bool), v15 = .bool x15_1 ∧ Aside0 (whetstoneref02_Small.j0 kq x15_1 a0_0 l0_1 = some (r1, r2)) ∧ Aside0 (kq ≤ k) ∧ Aside0 (wc.heap[gb665]? = some (.cells #[.bool a0_0, (.slice A0_1 l0_1.length c0_1)] 32 (0, 0))) ∧ Aside0 (Below w.heap.size w wc))
 case first =>
  have H := HC2.out
  clear HC2
  replace H := bi H
  obtain ⟨⟨t666, t667⟩, A40, H⟩ := H
  try dsimp only at H
  have A4 := Aside0.mk A40
  clear A40
  replace H := bi H
  obtain ⟨t670, A50, H⟩ := H
  have A5 := Aside0.mk A50
  clear A50
  by_cases c6 : t670 > 0
  ·rw [if_pos c6] at H
   have c6b0 : decide (0 < t670) = true := decide_eq_true c6
   clear c6
   (first | rw [c6b0] | rw [c6b1] | (simp only [i64_w, i32_w]; rw [c6b0]) | skip)
   have H' := Aside0.mk H
   clear H
   try go_wp2
   replace BK665 := Aside0.mk (blk_drew BK665.out)
   replace HB := Aside0.mk (below_drew1 HB.out)
   refine start_ (n := 10) (S := fun w' => w'.cell? ⟨gb665, 0, none⟩ = some (.bool a0_0) ∧ w'.cell? ⟨gb665, 1, none⟩ = some (.slice A0_1 l0_1.length c0_1)) (ds := []) #[false, false, false, false, false, false, false, false, false, false] (by kernel_rfl) rfl rfl ⟨(blk_cell BK665.out 0).trans rfl, (blk_cell BK665.out 1).trans rfl⟩ (fun hHeld => ?_); refine with_tabW whetstoneref02_Small.tab1 whetstoneref02_Small.bits1 (fun HT_ HW_ => ?_)
   generalize w3.drew = w7 at BK665 HB hHeld ⊢
   refine tW (i := 0) (N := some 6) (bb 10 1) HT_ HW_ hHeld ?_
   refine oT (i := 1) (N := some 7) (bb 10 3) HT_ fun K hK => ?_
   refine gS Try.func48 #[.int .i64 9223372036854775807] ?_
   with_reducible refine (whetstoneref02_Of.calls k 9223372036854775807 t666 t667 _ A4.out).mono ?_
   rintro e w8 ⟨v668, rfl, ho0, hb⟩
   refine ⟨_, rfl, ?_⟩
   have HO669 := rl ho0 HB
   replace BK665 := kb BK665 hb
   replace HB := bs HB hb
   (try clear hb); (try clear hb2); (try clear hk); (try clear hi); (try clear ho0)
   obtain ⟨Ao9, co9, eo9⟩ := Kd.R_slice HO669.out
   (first | subst eo9 | (injection eo9 with f1_ f2_ f3_; have f4_ := f1_.symm; have f5_ := f3_.symm; clear f1_ f2_ f3_; subst f4_; subst f5_))
   refine hK.out _ _ ⟨(blk_cell BK665.out 0).trans rfl, (blk_cell BK665.out 1).trans rfl⟩ fun hHeld => nT (N := some 7) ?_
   clear hK K
   refine oT (i := 2) (N := some 8) (bb 10 7) HT_ fun K hK => ?_
   refine gS Try.func25 #[.agg #[.bool a0_0, .slice A0_1 l0_1.length c0_1], .agg #[.bool t666, .slice Ao9 t667.length co9]] ?_
   with_reducible refine (whetstoneref02_Cmp.calls k a0_0 _ _ l0_1 t666 _ _ t667 t670 _ ?side1 ?side2 ?side3 ?side4 A5.out).mono ?_
   (case side1 => exact tc (Kd.C_below HR0_1.out HB.out))
   (case side2 => exact HC0_1.out)
   (case side3 => exact tc (Kd.R_reads' HO669.out).2.2)
   (case side4 => exact (Kd.R_reads' HO669.out).2.1)
   rintro e w10 ⟨rfl, hb⟩
   refine ⟨_, rfl, ?_⟩
   replace BK665 := kb BK665 hb
   replace HB := bs HB hb
   (try clear hb); (try clear hb2); (try clear hk); (try clear hi)
   refine hK.out _ _ ⟨(blk_cell BK665.out 0).trans rfl, (blk_cell BK665.out 1).trans rfl⟩ fun hHeld => nT (N := some 8) ?_
   clear hK K
   refine pT (i := 3) (N := some 9) (bb 10 15) HT_ ?_
   refine pT (i := 4) (N := some 10) (bb 10 31) HT_ ?_
   refine pure_ (i := 5) (N := some 11) (v := undef) (a' := ?_) #[true, true, true, true, true, true, false, false, false, false] rfl rfl (any_of HT_.out (by kernel_rfl)) (fun _ _ _ h => h) (Or.inr ⟨by rfl, rfl⟩) ?_ ?_
   rotate_left
   ·simp only [Act.put, List.setIfInBounds_toArray, List.set_cons_zero, List.set_cons_succ, i64_w, i32_w]
    rfl
   refine pure_ (i := 6) (N := some 12) (v := undef) (a' := ?_) #[true, true, true, true, true, true, true, false, false, false] rfl rfl (any_of HT_.out (by kernel_rfl)) (fun _ _ _ h => h) (Or.inr ⟨by rfl, rfl⟩) ?_ ?_
   rotate_left
   ·simp only [Act.put, List.setIfInBounds_toArray, List.set_cons_zero, List.set_cons_succ, i64_w, i32_w]
    rfl
   refine pure_ (i := 7) (N := some 13) (v := undef) (a' := ?_) #[true, true, true, true, true, true, true, true, false, false] rfl rfl (any_of HT_.out (by kernel_rfl)) (fun _ _ _ h => h) (Or.inr ⟨by rfl, rfl⟩) ?_ ?_
   rotate_left
   ·simp only [Act.put, List.setIfInBounds_toArray, List.set_cons_zero, List.set_cons_succ, i64_w, i32_w]
    rfl
   refine pure_ (i := 8) (N := some 14) (v := undef) (a' := ?_) #[true, true, true, true, true, true, true, true, true, false] rfl rfl (any_of HT_.out (by kernel_rfl)) (fun _ _ _ h => h) (Or.inr ⟨by rfl, rfl⟩) ?_ ?_
   rotate_left
   ·simp only [Act.put, List.setIfInBounds_toArray, List.set_cons_zero, List.set_cons_succ, i64_w, i32_w]
    rfl
   refine pT (i := 9) (N := some 15) (bb 10 1023) HT_ ?_
   refine done_ (done_of HT_.out (by kernel_rfl)) ?_
   try go_wp2
   go_meet
   case rel => exact ⟨_, (true), (by first | rfl | (simp; done) | (simp [*]; done)), H', ⟨by first | omega | exact Nat.le_refl _⟩, ⟨tk BK665⟩, ⟨tb HB⟩⟩
  ·rw [if_neg c6] at H
   have c6b0 : decide (0 < t670) = false := decide_eq_false c6
   clear c6
   (first | rw [c6b0] | rw [c6b1] | (simp only [i64_w, i32_w]; rw [c6b0]) | skip)
   replace H := bi H
   obtain ⟨⟨t671, t672⟩, A110, H⟩ := H
   try dsimp only at H
   have A11 := Aside0.mk A110
   clear A110
   replace H := bi H
   obtain ⟨t675, A120, H⟩ := H
   have A12 := Aside0.mk A120
   clear A120
   have H' := Aside0.mk H
   clear H
   try go_wp2
   replace BK665 := Aside0.mk (blk_drew BK665.out)
   replace HB := Aside0.mk (below_drew1 HB.out)
   refine start_ (n := 10) (S := fun w' => w'.cell? ⟨gb665, 0, none⟩ = some (.bool a0_0) ∧ w'.cell? ⟨gb665, 1, none⟩ = some (.slice A0_1 l0_1.length c0_1)) (ds := []) #[false, false, false, false, false, false, false, false, false, false] (by kernel_rfl) rfl rfl ⟨(blk_cell BK665.out 0).trans rfl, (blk_cell BK665.out 1).trans rfl⟩ (fun hHeld => ?_); refine with_tabW whetstoneref02_Small.tab1 whetstoneref02_Small.bits1 (fun HT_ HW_ => ?_)
   generalize w3.drew = w13 at BK665 HB hHeld ⊢
   refine tW (i := 0) (N := some 6) (bb 10 1) HT_ HW_ hHeld ?_
   refine oT (i := 1) (N := some 7) (bb 10 3) HT_ fun K hK => ?_
   refine gS Try.func48 #[.int .i64 9223372036854775807] ?_
   with_reducible refine (whetstoneref02_Of.calls k 9223372036854775807 t666 t667 _ A4.out).mono ?_
   rintro e w14 ⟨v668, rfl, ho0, hb⟩
   refine ⟨_, rfl, ?_⟩
   have HO669 := rl ho0 HB
   replace BK665 := kb BK665 hb
   replace HB := bs HB hb
   (try clear hb); (try clear hb2); (try clear hk); (try clear hi); (try clear ho0)
   obtain ⟨Ao15, co15, eo15⟩ := Kd.R_slice HO669.out
   (first | subst eo15 | (injection eo15 with f1_ f2_ f3_; have f4_ := f1_.symm; have f5_ := f3_.symm; clear f1_ f2_ f3_; subst f4_; subst f5_))
   refine hK.out _ _ ⟨(blk_cell BK665.out 0).trans rfl, (blk_cell BK665.out 1).trans rfl⟩ fun hHeld => nT (N := some 7) ?_
   clear hK K
   refine oT (i := 2) (N := some 8) (bb 10 7) HT_ fun K hK => ?_
   refine gS Try.func25 #[.agg #[.bool a0_0, .slice A0_1 l0_1.length c0_1], .agg #[.bool t666, .slice Ao15 t667.length co15]] ?_
   with_reducible refine (whetstoneref02_Cmp.calls k a0_0 _ _ l0_1 t666 _ _ t667 t670 _ ?side1 ?side2 ?side3 ?side4 A5.out).mono ?_
   (case side1 => exact tc (Kd.C_below HR0_1.out HB.out))
   (case side2 => exact HC0_1.out)
   (case side3 => exact tc (Kd.R_reads' HO669.out).2.2)
   (case side4 => exact (Kd.R_reads' HO669.out).2.1)
   rintro e w16 ⟨rfl, hb⟩
   refine ⟨_, rfl, ?_⟩
   replace HO669 := rb HO669 hb
   replace BK665 := kb BK665 hb
   replace HB := bs HB hb
   (try clear hb); (try clear hb2); (try clear hk); (try clear hi)
   refine hK.out _ _ ⟨(blk_cell BK665.out 0).trans rfl, (blk_cell BK665.out 1).trans rfl⟩ fun hHeld => nT (N := some 8) ?_
   clear hK K
   refine pT (i := 3) (N := some 9) (bb 10 15) HT_ ?_
   refine pT (i := 4) (N := some 10) (bb 10 31) HT_ ?_
   refine tW (i := 5) (N := some 11) (bb 10 63) HT_ HW_ hHeld ?_
   refine oT (i := 6) (N := some 12) (bb 10 127) HT_ fun K hK => ?_
   refine gS Try.func48 #[.int .i64 (-9223372036854775808)] ?_
   with_reducible refine (whetstoneref02_Of.calls k (-9223372036854775808) t671 t672 _ A11.out).mono ?_
   rintro e w17 ⟨v673, rfl, ho0, hb⟩
   refine ⟨_, rfl, ?_⟩
   have HO674 := Aside0.mk (Kd.R_lower (Kd.R_new' ho0 (Kd.R_lt (tq HO669))) (below_size (tb HB)))
   replace BK665 := kb BK665 hb
   replace HB := bs HB hb
   (try clear hb); (try clear hb2); (try clear hk); (try clear hi); (try clear ho0)
   obtain ⟨Ao18, co18, eo18⟩ := Kd.R_slice HO674.out
   (first | subst eo18 | (injection eo18 with f1_ f2_ f3_; have f4_ := f1_.symm; have f5_ := f3_.symm; clear f1_ f2_ f3_; subst f4_; subst f5_))
   refine hK.out _ _ ⟨(blk_cell BK665.out 0).trans rfl, (blk_cell BK665.out 1).trans rfl⟩ fun hHeld => nT (N := some 12) ?_
   clear hK K
   refine oT (i := 7) (N := some 13) (bb 10 255) HT_ fun K hK => ?_
   refine gS Try.func25 #[.agg #[.bool a0_0, .slice A0_1 l0_1.length c0_1], .agg #[.bool t671, .slice Ao18 t672.length co18]] ?_
   with_reducible refine (whetstoneref02_Cmp.calls k a0_0 _ _ l0_1 t671 _ _ t672 t675 _ ?side1 ?side2 ?side3 ?side4 A12.out).mono ?_
   (case side1 => exact tc (Kd.C_below HR0_1.out HB.out))
   (case side2 => exact HC0_1.out)
   (case side3 => exact tc (Kd.R_reads' HO674.out).2.2)
   (case side4 => exact (Kd.R_reads' HO674.out).2.1)
   rintro e w19 ⟨rfl, hb⟩
   refine ⟨_, rfl, ?_⟩
   replace BK665 := kb BK665 hb
   replace HB := bs HB hb
   (try clear hb); (try clear hb2); (try clear hk); (try clear hi)
   refine hK.out _ _ ⟨(blk_cell BK665.out 0).trans rfl, (blk_cell BK665.out 1).trans rfl⟩ fun hHeld => nT (N := some 13) ?_
   clear hK K
   refine pT (i := 8) (N := some 14) (bb 10 511) HT_ ?_
   refine pT (i := 9) (N := some 15) (bb 10 1023) HT_ ?_
   refine done_ (done_of HT_.out (by kernel_rfl)) ?_
   try go_wp2
   go_meet
   case rel => exact ⟨_, (decide (t675 < 0)), (by first | rfl | (simp; done) | (simp [*]; done)), H', ⟨by first | omega | exact Nat.le_refl _⟩, ⟨tk BK665⟩, ⟨tb HB⟩⟩
 case rest =>
  clear HC2
  (try clear c2); (try clear p2); (try clear c4); (try clear c6); (try clear c6b0)
  obtain ⟨kq, x15_1, rfl, HA, HJ1, BK665, HB⟩ := hcut
  cases kq with
  | zero => exact absurd HA.out (by simp [whetstoneref02_Small.j0])
  | succ kj1 =>
   have H := HA.out
   clear HA
   simp only [whetstoneref02_Small.j0] at H
   by_cases c20 : x15_1 = true
   ·subst c20
    have H1 : (some (0, false)) = some (r1, r2) := by rw [if_pos rfl] at H; exact H
    clear H
    have H := H1
    clear H1
    simp only [Option.some.injEq, Prod.mk.injEq] at H
    obtain ⟨rfl, rfl⟩ := H
    go_wp2
    go_ret2
    exact ⟨by first | rfl | (simp [errW_none, errW_some] <;> rfl) | (simp [*, errW_none, errW_some] <;> rfl), tb HB⟩
   ·replace c20 := Bool.eq_false_iff.mpr c20
    subst c20
    have H1 : (whetstoneref02_Small.l0 kj1 0 (wrap64 ((l0_1.length : Int) - 1)) a0_0 l0_1) = some (r1, r2) := by rw [if_neg (show ¬ (false = true) by decide)] at H; exact H
    clear H
    have H := H1
    clear H1
    have H' := Aside0.mk H
    clear H
    have hcz21_0 := bc BK665 0 (.bool a0_0)
    have hcz21_1 := bc BK665 1 (.slice A0_1 l0_1.length c0_1)
    have hfz21_0 := blk_frozen BK665.out 0
    have hfz21_1 := blk_frozen BK665.out 1
    go_wp2
    go_loopg [4, 5] kj1 (fun kq v4 v5 w' => ∃ (x4_2 : Int) (x5_2 : Int), v4 = .int .i64 x4_2 ∧ v5 = .int .i64 x5_2 ∧ Aside0 (whetstoneref02_Small.l0 kq x4_2 x5_2 a0_0 l0_1 = some (r1, r2)) ∧ Aside0 (kq ≤ kj1) ∧ Aside0 (w'.heap[gb665]? = some (.cells #[.bool a0_0, (.slice A0_1 l0_1.length c0_1)] 32 (0, 0))) ∧ Aside0 (Below w.heap.size w w'))
    case atStart => exact ⟨(0), (wrap64 ((l0_1.length : Int) - 1)), (by first | rfl | (simp; done) | (simp [*]; done)), (by first | rfl | (simp; done) | (simp [*]; done)), H', ⟨Nat.le_refl _⟩, ⟨tk BK665⟩, ⟨tb HB⟩⟩
    case round =>
     clear H'
     (try clear c2); (try clear p2); (try clear c4); (try clear c6); (try clear c6b0); (try clear p6); (try clear c20); (try clear hcz21_0); (try clear hcz21_1); (try clear hfz21_0); (try clear hfz21_1); (try clear p2)
     obtain ⟨x4_2, x5_2, rfl, rfl, HA, HK2, BK665, HB⟩ := hrel
     cases gk with
     | zero => exact absurd HA.out (by simp [whetstoneref02_Small.l0])
     | succ k2 =>
      have H := HA.out
      clear HA
      simp only [whetstoneref02_Small.l0] at H
      by_cases c22 : x5_2 ≥ 0
      ·rw [if_pos c22] at H
       have c22b0 : decide (0 ≤ x5_2) = true := decide_eq_true c22
       clear c22
       by_cases c23 : a0_0 = true
       ·subst c23
        have H1 : (if 0 ≤ x5_2 then (if x5_2 < (l0_1.length : Int) then (whetstoneref02_Small.l0 k2 (wrap64 ((wrap64 (x4_2 * 10)) - (rd l0_1 x5_2))) (wrap64 (x5_2 - 1)) true l0_1) else (none)) else (none)) = some (r1, r2) := by rw [if_pos rfl] at H; exact H
        clear H
        have H := H1
        clear H1
        by_cases c24 : 0 ≤ x5_2
        ·rw [if_pos c24] at H
         have c24b0 : decide (0 ≤ x5_2) = true := decide_eq_true c24
         clear c24
         by_cases c25 : x5_2 < (l0_1.length : Int)
         ·rw [if_pos c25] at H
          have c25b0 : decide (x5_2 < (l0_1.length : Int)) = true := decide_eq_true c25
          clear c25
          have H' := Aside0.mk H
          clear H
          have hcz26_0 := bc BK665 0 (.bool true)
          have hcz26_1 := bc BK665 1 (.slice A0_1 l0_1.length c0_1)
          have hfz26_0 := blk_frozen BK665.out 0
          have hfz26_1 := blk_frozen BK665.out 1
          have p676 : 0 ≤ (x5_2 : Int) := td
          have q676 : x5_2 < (l0_1.length : Int) := td
          obtain ⟨ad676, e676, hx676_0⟩ := Kd.at_int HR0_1.out x5_2 p676 q676
          cases e676
          replace hx676_0 := (HB.out.cell (World.block_lt_of_cell? w _ hx676_0)).trans hx676_0
          replace p676 := eq_true p676
          replace q676 := eq_true q676
          go_wp2
          go_roundg k2
          case measure => have := HJ1.out; have := HK2.out; omega
          case rel => exact ⟨(wrap64 ((wrap64 (x4_2 * 10)) - (rd l0_1 x5_2))), (wrap64 (x5_2 - 1)), (by first | rfl | (simp; done) | (simp [*]; done)), (by first | rfl | (simp; done) | (simp [*]; done)), H', ⟨by have := HJ1.out; have := HK2.out; omega⟩, ⟨tk BK665⟩, ⟨tb HB⟩⟩
         ·rw [if_neg c25] at H
          exact absurd H (by simp)
        ·rw [if_neg c24] at H
         exact absurd H (by simp)
       ·replace c23 := Bool.eq_false_iff.mpr c23
        subst c23
        have H1 : (if 0 ≤ x5_2 then (if x5_2 < (l0_1.length : Int) then (whetstoneref02_Small.l0 k2 (wrap64 ((wrap64 (x4_2 * 10)) + (rd l0_1 x5_2))) (wrap64 (x5_2 - 1)) false l0_1) else (none)) else (none)) = some (r1, r2) := by rw [if_neg (show ¬ (false = true) by decide)] at H; exact H
        clear H
        have H := H1
        clear H1
        by_cases c27 : 0 ≤ x5_2
        ·rw [if_pos c27] at H
         have c27b0 : decide (0 ≤ x5_2) = true := decide_eq_true c27
         clear c27
         by_cases c28 : x5_2 < (l0_1.length : Int)
         ·rw [if_pos c28] at H
          have c28b0 : decide (x5_2 < (l0_1.length : Int)) = true := decide_eq_true c28
          clear c28
          have H' := Aside0.mk H
          clear H
          have hcz29_0 := bc BK665 0 (.bool false)
          have hcz29_1 := bc BK665 1 (.slice A0_1 l0_1.length c0_1)
          have hfz29_0 := blk_frozen BK665.out 0
          have hfz29_1 := blk_frozen BK665.out 1
          have p677 : 0 ≤ (x5_2 : Int) := td
          have q677 : x5_2 < (l0_1.length : Int) := td
          obtain ⟨ad677, e677, hx677_0⟩ := Kd.at_int HR0_1.out x5_2 p677 q677
          cases e677
          replace hx677_0 := (HB.out.cell (World.block_lt_of_cell? w _ hx677_0)).trans hx677_0
          replace p677 := eq_true p677
          replace q677 := eq_true q677
          go_wp2
          go_roundg k2
          case measure => have := HJ1.out; have := HK2.out; omega
          case rel => exact ⟨(wrap64 ((wrap64 (x4_2 * 10)) + (rd l0_1 x5_2))), (wrap64 (x5_2 - 1)), (by first | rfl | (simp; done) | (simp [*]; done)), (by first | rfl | (simp; done) | (simp [*]; done)), H', ⟨by have := HJ1.out; have := HK2.out; omega⟩, ⟨tk BK665⟩, ⟨tb HB⟩⟩
         ·rw [if_neg c28] at H
          exact absurd H (by simp)
        ·rw [if_neg c27] at H
         exact absurd H (by simp)
      ·rw [if_neg c22] at H
       have c22b0 : decide (0 ≤ x5_2) = false := decide_eq_false c22
       clear c22
       simp only [Option.some.injEq, Prod.mk.injEq] at H
       obtain ⟨rfl, rfl⟩ := H
       go_wp2
       go_ret2
       exact ⟨by first | rfl | (simp [errW_none, errW_some] <;> rfl) | (simp [*, errW_none, errW_some] <;> rfl), tb HB⟩

/-! ### whetstonelaw02_BigSmalls: function 8 -/
def whetstonelaw02_BigSmalls.f (k : Nat) (a0_0 : Bool) (l0_1 : List Int) (a1 : Int) : Option (Bool) := (whetstonelaw02_small.f a0_0 l0_1).bind fun t679 => (if t679 = true then ((big_Small.f k a0_0 l0_1).bind fun bt681 => ((whetstonelaw02_of.f k a0_0 l0_1).bind fun bt683 => ((whetstoneref02_Small.f k bt683.1 bt683.2).bind fun bt687 => ((big_Of.f k a1).bind fun bt689 => ((big_Small.f k bt689.1 bt689.2).bind fun bt693 => ((whetstonelaw02_signed.f k).bind fun t695 => (if t695 = true then (if bt681.1 = bt687.1 then (if (bt681.2 == bt687.2) = true then (if bt693.1 = a1 then (if bt693.2 = true then ((big_Of.f k a1).bind fun bt696 => ((whetstoneref02_Of.f k a1).bind fun bt700 => ((whetstonelaw02_same.f k bt696.1 bt696.2 bt700.1 bt700.2).bind fun t704 => (some t704)))) else (none)) else (none)) else (none)) else (none)) else (none)))))))) else ((whetstonelaw02_signed.f k).bind fun t680 => (some t680)))
theorem whetstonelaw02_BigSmalls.mono : ∀ a0 a1 a2 k, LeO (whetstonelaw02_BigSmalls.f k a0 a1 a2) (whetstonelaw02_BigSmalls.f (k + 1) a0 a1 a2) := by
 intro a0 a1 a2 k
 unfold whetstonelaw02_BigSmalls.f
 repeat' with_reducible first | exact big_Of.mono _ _ | exact big_Small.mono _ _ _ | exact whetstonelaw02_of.mono _ _ _ | exact whetstonelaw02_same.mono _ _ _ _ _ | exact whetstonelaw02_signed.mono _ | exact whetstoneref02_Of.mono _ _ | exact whetstoneref02_Small.mono _ _ _ | exact LeO.refl _ | exact LeO.none _ | refine LeO.ite ?_ ?_ | refine LeO.bind ?_ (fun _ => ?_)
set_option maxHeartbeats 8000000 in
set_option maxRecDepth 100000 in
theorem whetstonelaw02_BigSmalls.calls (k : Nat) (a0_0 : Bool) (A0_1 : Option Addr) (c0_1 : Nat) (l0_1 : List Int) (a1 : Int) (r : Bool) (w : World) (hr0_1 : Kd.C (Kd.int .u32) w A0_1 l0_1.length l0_1) (hc0_1 : l0_1.length ≤ c0_1) (h : whetstonelaw02_BigSmalls.f k a0_0 l0_1 a1 = some r) :
  Calls Try.prog 8 #[.agg #[.bool a0_0, .slice A0_1 l0_1.length c0_1], .int .i64 a1] w fun e w' => e = .returned (.bool r) ∧ Below w.heap.size w w' := by
 have hu24 := Try.underlying24
 have HR0_1 := Aside0.mk hr0_1
 have HC0_1 := Aside0.mk hc0_1
 clear hr0_1 hc0_1
 have HB := Aside0.mk (Below.refl w.heap.size w)
 have H : ((whetstonelaw02_small.f a0_0 l0_1).bind fun t679 => (if t679 = true then ((big_Small.f k a0_0 l0_1).bind fun bt681 => ((whetstonelaw02_of.f k a0_0 l0_1).bind fun bt683 => ((whetstoneref02_Small.f k bt683.1 bt683.2).bind fun bt687 => ((big_Of.f k a1).bind fun bt689 => ((big_Small.f k bt689.1 bt689.2).bind fun bt693 => ((whetstonelaw02_signed.f k).bind fun t695 => (if t695 = true then (if bt681.1 = bt687.1 then (if (bt681.2 == bt687.2) = true then (if bt693.1 = a1 then (if bt693.2 = true then ((big_Of.f k a1).bind fun bt696 => ((whetstoneref02_Of.f k a1).bind fun bt700 => ((whetstonelaw02_same.f k bt696.1 bt696.2 bt700.1 bt700.2).bind fun t704 => (some t704)))) else (none)) else (none)) else (none)) else (none)) else (none)))))))) else ((whetstonelaw02_signed.f k).bind fun t680 => (some t680)))) = some r := h
 clear h
 replace H := bi H
 obtain ⟨t679, A30, H⟩ := H
 have A3 := Aside0.mk A30
 clear A30
 by_cases c4 : t679 = true
 ·subst c4
  have H1 : ((big_Small.f k a0_0 l0_1).bind fun bt681 => ((whetstonelaw02_of.f k a0_0 l0_1).bind fun bt683 => ((whetstoneref02_Small.f k bt683.1 bt683.2).bind fun bt687 => ((big_Of.f k a1).bind fun bt689 => ((big_Small.f k bt689.1 bt689.2).bind fun bt693 => ((whetstonelaw02_signed.f k).bind fun t695 => (if t695 = true then (if bt681.1 = bt687.1 then (if (bt681.2 == bt687.2) = true then (if bt693.1 = a1 then (if bt693.2 = true then ((big_Of.f k a1).bind fun bt696 => ((whetstoneref02_Of.f k a1).bind fun bt700 => ((whetstonelaw02_same.f k bt696.1 bt696.2 bt700.1 bt700.2).bind fun t704 => (some t704)))) else (none)) else (none)) else (none)) else (none)) else (none)))))))) = some r := by rw [if_pos rfl] at H; exact H
  clear H
  have H := H1
  clear H1
  replace H := bi H
  obtain ⟨⟨t681, t682⟩, A50, H⟩ := H
  try dsimp only at H
  have A5 := Aside0.mk A50
  clear A50
  replace H := bi H
  obtain ⟨⟨t683, t684⟩, A60, H⟩ := H
  try dsimp only at H
  have A6 := Aside0.mk A60
  clear A60
  replace H := bi H
  obtain ⟨⟨t687, t688⟩, A70, H⟩ := H
  try dsimp only at H
  have A7 := Aside0.mk A70
  clear A70
  replace H := bi H
  obtain ⟨⟨t689, t690⟩, A80, H⟩ := H
  try dsimp only at H
  have A8 := Aside0.mk A80
  clear A80
  replace H := bi H
  obtain ⟨⟨t693, t694⟩, A90, H⟩ := H
  try dsimp only at H
  have A9 := Aside0.mk A90
  clear A90
  replace H := bi H
  obtain ⟨t695, A100, H⟩ := H
  have A10 := Aside0.mk A100
  clear A100
  by_cases c11 : t695 = true
  ·subst c11
   have H1 : (if t681 = t687 then (if (t682 == t688) = true then (if t693 = a1 then (if t694 = true then ((big_Of.f k a1).bind fun bt696 => ((whetstoneref02_Of.f k a1).bind fun bt700 => ((whetstonelaw02_same.f k bt696.1 bt696.2 bt700.1 bt700.2).bind fun t704 => (some t704)))) else (none)) else (none)) else (none)) else (none)) = some r := by rw [if_pos rfl] at H; exact H
   clear H
   have H := H1
   clear H1
   by_cases c12 : t681 = t687
   ·rw [if_pos c12] at H
    have c12b0 : (t681 == t687) = true := beq_iff_eq.mpr c12
    have c12b1 : (t681 != t687) = false := bne_eq_false_iff_eq.mpr c12
    clear c12
    by_cases c13 : (t682 == t688) = true
    ·rw [if_pos c13] at H
     have c13b0 : (t682 == t688) = true := c13
     (try (have c13b1 : decide (t682 = t688) = true := by simpa using c13))
     (try (have c13b2 : (t682 == t688) = true := by simpa using c13))
     clear c13
     by_cases c14 : t693 = a1
     ·rw [if_pos c14] at H
      have c14b0 : (t693 == a1) = true := beq_iff_eq.mpr c14
      have c14b1 : (t693 != a1) = false := bne_eq_false_iff_eq.mpr c14
      clear c14
      by_cases c15 : t694 = true
      ·subst c15
       have H1 : ((big_Of.f k a1).bind fun bt696 => ((whetstoneref02_Of.f k a1).bind fun bt700 => ((whetstonelaw02_same.f k bt696.1 bt696.2 bt700.1 bt700.2).bind fun t704 => (some t704)))) = some r := by rw [if_pos rfl] at H; exact H
       clear H
       have H := H1
       clear H1
       replace H := bi H
       obtain ⟨⟨t696, t697⟩, A160, H⟩ := H
       try dsimp only at H
       have A16 := Aside0.mk A160
       clear A160
       replace H := bi H
       obtain ⟨⟨t700, t701⟩, A170, H⟩ := H
       try dsimp only at H
       have A17 := Aside0.mk A170
       clear A170
       replace H := bi H
       obtain ⟨t704, A180, H⟩ := H
       have A18 := Aside0.mk A180
       clear A180
       obtain rfl := Option.some.inj H
       go_enter Try.func8, Try.ntmps8
       go_wp2_with (first | ((with_reducible refine gate_dst (N := 2) rfl ?_); refine bx (N := 2) #[.bool a0_0, .slice A0_1 l0_1.length c0_1] 24 ?_; intro gb678 hg w19 hbox hb; have BK678 := Aside0.mk (hbox); have GW678 := bz hg HB; have GE678 := bz hg HB; replace HB := bs HB hb; clear hb hbox hg; have hcz20_0 := bc BK678 0 (.bool a0_0); have hcz20_1 := bc BK678 1 (.slice A0_1 l0_1.length c0_1); have hfz20_0 := blk_frozen BK678.out 0; have hfz20_1 := blk_frozen BK678.out 1) | ((with_reducible refine gate_callee (f := 12) rfl ?_); refine gL (N := some 12) Try.func12 #[.agg #[.bool a0_0, .slice A0_1 l0_1.length c0_1]] ?_; (with_reducible refine (whetstonelaw02_small.calls a0_0 _ _ l0_1 true _ ?side1 ?side2 A3.out).mono ?_); (case side1 => exact tc (Kd.C_below HR0_1.out HB.out)); (case side2 => exact HC0_1.out); rintro e w21 ⟨rfl, hb⟩; refine ⟨_, rfl, ?_⟩; replace BK678 := kb BK678 hb; replace HB := bs HB hb; (try clear hb); (try clear hb2); (try clear hk); (try clear hi); have hcz22_0 := bc BK678 0 (.bool a0_0); have hcz22_1 := bc BK678 1 (.slice A0_1 l0_1.length c0_1); have hfz22_0 := blk_frozen BK678.out 0; have hfz22_1 := blk_frozen BK678.out 1) | ((with_reducible refine gate_callee (f := 46) rfl ?_); refine gL (N := some 17) Try.func46 #[.agg #[.bool a0_0, .slice A0_1 l0_1.length c0_1]] ?_; (with_reducible refine (big_Small.calls k a0_0 _ _ l0_1 t681 t682 _ ?side1 ?side2 A5.out).mono ?_); (case side1 => exact tc (Kd.C_below HR0_1.out HB.out)); (case side2 => exact HC0_1.out); rintro e w23 ⟨rfl, hb⟩; refine ⟨_, rfl, ?_⟩; replace BK678 := kb BK678 hb; replace HB := bs HB hb; (try clear hb); (try clear hb2); (try clear hk); (try clear hi); have hcz24_0 := bc BK678 0 (.bool a0_0); have hcz24_1 := bc BK678 1 (.slice A0_1 l0_1.length c0_1); have hfz24_0 := blk_frozen BK678.out 0; have hfz24_1 := blk_frozen BK678.out 1) | ((with_reducible refine gate_callee (f := 18) rfl ?_); refine gL (N := some 22) Try.func18 #[.agg #[.bool a0_0, .slice A0_1 l0_1.length c0_1]] ?_; (with_reducible refine (whetstonelaw02_of.calls k a0_0 _ _ l0_1 t683 t684 _ ?side1 ?side2 A6.out).mono ?_); (case side1 => exact tc (Kd.C_below HR0_1.out HB.out)); (case side2 => exact HC0_1.out); rintro e w25 ⟨v685, rfl, ho0, hb⟩; refine ⟨_, rfl, ?_⟩; have HO686 := rl ho0 HB; replace HB := bs HB hb; (try clear hb); (try clear hb2); (try clear hk); (try clear hi); (try clear ho0); obtain ⟨Ao26, co26, eo26⟩ := Kd.R_slice HO686.out; subst eo26) | ((with_reducible refine gate_callee (f := 47) rfl ?_); refine gL (N := some 23) Try.func47 #[.agg #[.bool t683, .slice Ao26 t684.length co26]] ?_; (with_reducible refine (whetstoneref02_Small.calls k t683 _ _ t684 t687 t688 _ ?side1 ?side2 A7.out).mono ?_); (case side1 => exact tc (Kd.R_reads' HO686.out).2.2); (case side2 => exact (Kd.R_reads' HO686.out).2.1); rintro e w27 ⟨rfl, hb⟩; refine ⟨_, rfl, ?_⟩; replace HO686 := rb HO686 hb; replace HB := bs HB hb; (try clear hb); (try clear hb2); (try clear hk); (try clear hi)) | ((with_reducible refine gate_callee (f := 40) rfl ?_); refine gL (N := some 28) Try.func40 #[.int .i64 a1] ?_; (with_reducible refine (big_Of.calls k a1 t689 t690 _ A8.out).mono ?_); rintro e w28 ⟨v691, rfl, ho0, hb⟩; refine ⟨_, rfl, ?_⟩; replace HO686 := rb HO686 hb; have HO692 := rl ho0 HB; replace HB := bs HB hb; (try clear hb); (try clear hb2); (try clear hk); (try clear hi); (try clear ho0); obtain ⟨Ao29, co29, eo29⟩ := Kd.R_slice HO692.out; subst eo29) | ((with_reducible refine gate_callee (f := 46) rfl ?_); refine gL (N := some 29) Try.func46 #[.agg #[.bool t689, .slice Ao29 t690.length co29]] ?_; (with_reducible refine (big_Small.calls k t689 _ _ t690 t693 true _ ?side1 ?side2 A9.out).mono ?_); (case side1 => exact tc (Kd.R_reads' HO692.out).2.2); (case side2 => exact (Kd.R_reads' HO692.out).2.1); rintro e w30 ⟨rfl, hb⟩; refine ⟨_, rfl, ?_⟩; replace HO686 := rb HO686 hb; replace HO692 := rb HO692 hb; replace HB := bs HB hb; (try clear hb); (try clear hb2); (try clear hk); (try clear hi)) | ((with_reducible refine gate_callee (f := 13) rfl ?_); refine gL (N := some 32) Try.func13 #[] ?_; (with_reducible refine (whetstonelaw02_signed.calls k  true _ A10.out).mono ?_); rintro e w31 ⟨rfl, hb⟩; refine ⟨_, rfl, ?_⟩; replace HO686 := rb HO686 hb; replace HO692 := rb HO692 hb; replace HB := bs HB hb; (try clear hb); (try clear hb2); (try clear hk); (try clear hi)) | (go_at_call 40; (with_reducible refine (big_Of.calls k a1 t696 t697 _ A16.out).mono ?_); rintro e w32 ⟨v698, rfl, ho0, hb⟩; replace HO686 := rb HO686 hb; have HO699 := Aside0.mk (Kd.R_lower (Kd.R_new' ho0 (Kd.R_lt (tq HO692))) (below_size (tb HB))); replace HB := bs HB hb; (try clear hb); (try clear hb2); (try clear hk); (try clear hi); (try clear ho0)) | (go_at_call 48; (with_reducible refine (whetstoneref02_Of.calls k a1 t700 t701 _ A17.out).mono ?_); rintro e w33 ⟨v702, rfl, ho0, hb⟩; replace HO699 := rb HO699 hb; have HO703 := Aside0.mk (Kd.R_lower (Kd.R_new' ho0 (Kd.R_lt (tq HO686))) (below_size (tb HB))); replace HB := bs HB hb; (try clear hb); (try clear hb2); (try clear hk); (try clear hi); (try clear ho0); obtain ⟨Ao34, co34, eo34⟩ := Kd.R_slice HO699.out; subst eo34; obtain ⟨Ao35, co35, eo35⟩ := Kd.R_slice HO703.out; subst eo35) | (go_at_call 19; (with_reducible refine (whetstonelaw02_same.calls k t696 _ _ t697 t700 _ _ t701 t704 _ ?side1 ?side2 ?side3 ?side4 A18.out).mono ?_); (case side1 => exact tc (Kd.R_reads' HO699.out).2.2); (case side2 => exact (Kd.R_reads' HO699.out).2.1); (case side3 => exact tc (Kd.R_reads' HO703.out).2.2); (case side4 => exact (Kd.R_reads' HO703.out).2.1); rintro e w36 ⟨rfl, hb⟩; replace HB := bs HB hb; (try clear hb); (try clear hb2); (try clear hk); (try clear hi)))
       go_ret
       exact ⟨by first | rfl | (simp [errW_none, errW_some] <;> rfl) | (simp [*, errW_none, errW_some] <;> rfl), tb HB⟩
      ·replace c15 := Bool.eq_false_iff.mpr c15
       subst c15
       have H1 : (none) = some r := by rw [if_neg (show ¬ (false = true) by decide)] at H; exact H
       clear H
       have H := H1
       clear H1
       exact absurd H (by simp)
     ·rw [if_neg c14] at H
      exact absurd H (by simp)
    ·rw [if_neg c13] at H
     exact absurd H (by simp)
   ·rw [if_neg c12] at H
    exact absurd H (by simp)
  ·replace c11 := Bool.eq_false_iff.mpr c11
   subst c11
   have H1 : (none) = some r := by rw [if_neg (show ¬ (false = true) by decide)] at H; exact H
   clear H
   have H := H1
   clear H1
   exact absurd H (by simp)
 ·replace c4 := Bool.eq_false_iff.mpr c4
  subst c4
  have H1 : ((whetstonelaw02_signed.f k).bind fun t680 => (some t680)) = some r := by rw [if_neg (show ¬ (false = true) by decide)] at H; exact H
  clear H
  have H := H1
  clear H1
  replace H := bi H
  obtain ⟨t680, A370, H⟩ := H
  have A37 := Aside0.mk A370
  clear A370
  obtain rfl := Option.some.inj H
  go_enter Try.func8, Try.ntmps8
  go_wp2_with (first | ((with_reducible refine gate_dst (N := 2) rfl ?_); refine bx (N := 2) #[.bool a0_0, .slice A0_1 l0_1.length c0_1] 24 ?_; intro gb678 hg w38 hbox hb; have BK678 := Aside0.mk (hbox); have GW678 := bz hg HB; have GE678 := bz hg HB; replace HB := bs HB hb; clear hb hbox hg; have hcz39_0 := bc BK678 0 (.bool a0_0); have hcz39_1 := bc BK678 1 (.slice A0_1 l0_1.length c0_1); have hfz39_0 := blk_frozen BK678.out 0; have hfz39_1 := blk_frozen BK678.out 1) | ((with_reducible refine gate_callee (f := 12) rfl ?_); refine gL (N := some 12) Try.func12 #[.agg #[.bool a0_0, .slice A0_1 l0_1.length c0_1]] ?_; (with_reducible refine (whetstonelaw02_small.calls a0_0 _ _ l0_1 false _ ?side1 ?side2 A3.out).mono ?_); (case side1 => exact tc (Kd.C_below HR0_1.out HB.out)); (case side2 => exact HC0_1.out); rintro e w40 ⟨rfl, hb⟩; refine ⟨_, rfl, ?_⟩; replace HB := bs HB hb; (try clear hb); (try clear hb2); (try clear hk); (try clear hi)) | ((with_reducible refine gate_callee (f := 13) rfl ?_); refine gL (N := some 14) Try.func13 #[] ?_; (with_reducible refine (whetstonelaw02_signed.calls k  t680 _ A37.out).mono ?_); rintro e w41 ⟨rfl, hb⟩; refine ⟨_, rfl, ?_⟩; replace HB := bs HB hb; (try clear hb); (try clear hb2); (try clear hk); (try clear hi)))
  go_ret
  exact ⟨by first | rfl | (simp [errW_none, errW_some] <;> rfl) | (simp [*, errW_none, errW_some] <;> rfl), tb HB⟩

/-- THE ONE PURE STATEMENT of whetstonelaw02_BigSmalls: yours. -/
def whetstonelaw02_BigSmalls.Pure : Prop := ∀ (a0_0 : Bool) (l0_1 : List Int) (a1 : Int), l0_1.length ≤ maxLen → (∀ x ∈ l0_1, (Lit.int .u32 x).wf = true) → (Lit.int .i64 a1).wf = true → ∃ k, whetstonelaw02_BigSmalls.f k a0_0 l0_1 a1 = some true
theorem whetstonelaw02_BigSmalls.walk (P : whetstonelaw02_BigSmalls.Pure) (a0_0 : Bool) (A0_1 : Option Addr) (n0_1 c0_1 : Nat) (z0_1 : List Int) (a1 : Int) (w : World) (w0_1 : (A0_1 = none ∧ n0_1 = 0 ∧ c0_1 = 0 ∧ z0_1 = []) ∨ ∃ x, A0_1 = some x ∧ n0_1 ≤ c0_1 ∧ c0_1 ≤ maxLen ∧ z0_1.length = c0_1 ∧ (∀ i, i < z0_1.length → w.cell? (x.add i) = some (.int .u32 (z0_1.getD i 0))) ∧ ∀ n ∈ z0_1, (Lit.int .u32 n).wf = true) (w1 : (Lit.int .i64 a1).wf = true) :
  Calls Try.prog 8 #[.agg #[.bool a0_0, .slice A0_1 n0_1 c0_1], .int .i64 a1] w fun e w' => e = .returned (.bool true) ∧ Below w.heap.size w w' := by
 obtain ⟨l0_1, rfl, hr0_1, hm0_1, hw0_1, hc0_1⟩ := ReadsInt.ofRowC w0_1
 obtain ⟨k, h⟩ := P a0_0 l0_1 a1 hm0_1 hw0_1 w1
 refine (whetstonelaw02_BigSmalls.calls k a0_0 _ _ l0_1 a1 true w (Kd.C_of_reads (d := (0 : Int)) (h1 := fun _ => rfl) hr0_1) hc0_1 h).mono ?_
 rintro e w' ⟨rfl, hd⟩
 exact ⟨rfl, hd⟩

end Go.Proofs.Ytjpnaapimnoamaa.QBigSmalls
