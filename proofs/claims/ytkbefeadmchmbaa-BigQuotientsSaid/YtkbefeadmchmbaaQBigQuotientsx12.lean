-- written by wip/wprint, a program of this session
import Derived.Test.YtkbefeadmchmbaaQBigQuotientsx0
import Derived.Test.YtkbefeadmchmbaaQBigQuotientsx9
import Derived.Test.YtkbefeadmchmbaaQBigQuotientsx11
namespace Go.Proofs.Ytkbefeadmchmbaa.QBigQuotients
open Go.RowKit Go.Proofs.YtkbefeadmchmbaaW.PrintWords Go.Proofs.YtkbefeadmchmbaaW.PrintLast Go.Proofs.YtkbefeadmchmbaaW.PrintMore
open Go.Proofs.YtkbefeadmchmbaaW.PrintWords.Kd renaming R_alloc → qa, R_drewN → qn, R_drew → qd
open Go.Proofs.YtkbefeadmchmbaaW.PrintWords renaming below_alloc → ba, pw_below_drewN → bn, below_drew1 → bd
attribute [local go_sem] max2_int min2_int max_two min_two max_three min_three max_four min_four   -- for this text's walks alone
set_option linter.unusedVariables false
set_option linter.unusedSimpArgs false

/-! ### whetstonelaw02_same: function 13 -/
def whetstonelaw02_same.f (k : Nat) (a0_0 : Bool) (l0_1 : List Int) (a1_0 : Bool) (l1_1 : List Int) : Option (Bool) := (whetstoneref02_Norm.f k a1_0 l1_1).bind fun bt472 => (if (a0_0 == bt472.1) = true then ((whetstoneref01_Limbs.f k bt472.2).bind fun t477 => ((whetstoneref01_Words.f k l0_1 t477).bind fun t480 => (some t480))) else (some false))
theorem whetstonelaw02_same.mono : ∀ a0 a1 a2 a3 k, LeO (whetstonelaw02_same.f k a0 a1 a2 a3) (whetstonelaw02_same.f (k + 1) a0 a1 a2 a3) := by
 intro a0 a1 a2 a3 k
 unfold whetstonelaw02_same.f
 repeat' with_reducible first | exact whetstoneref01_Limbs.mono _ _ | exact whetstoneref01_Words.mono _ _ _ | exact whetstoneref02_Norm.mono _ _ _ | exact LeO.refl _ | exact LeO.none _ | refine LeO.ite ?_ ?_ | refine LeO.bind ?_ (fun _ => ?_)
def whetstonelaw02_same.T2 : Bool × List (List Nat × List Nat) := (true, [([], []), ([0], [0]), ([], []), ([2], [2]), ([1, 3], [1, 3]), ([4], [4]), ([5], [5]), ([6, 5], [5, 6]), ([5], [5]), ([8, 5], [5, 8]), ([9, 5, 5], [5, 9]), ([7, 10, 10, 5], [5, 7, 10]), ([5, 11], [5, 11]), ([12, 11, 0, 1, 2, 3, 4, 5, 6, 7, 8, 9, 10, 11, 12], [12])])
def whetstonelaw02_same.B2 : List Nat := [0, 1, 0, 4, 15, 31, 63, 127, 63, 319, 831, 2047, 4095, 8191]
theorem whetstonelaw02_same.tab2 : rtab .any (opsOf Try.f13 2) = whetstonelaw02_same.T2 := by kernel_rfl
theorem whetstonelaw02_same.bits2 : waitsOk whetstonelaw02_same.T2.2 whetstonelaw02_same.B2 = true := by kernel_rfl
set_option maxHeartbeats 8000000 in
set_option maxRecDepth 100000 in
theorem whetstonelaw02_same.calls (k : Nat) (a0_0 : Bool) (A0_1 : Option Addr) (c0_1 : Nat) (l0_1 : List Int) (a1_0 : Bool) (A1_1 : Option Addr) (c1_1 : Nat) (l1_1 : List Int) (r : Bool) (w : World) (hr0_1 : Kd.C (Kd.int .u32) w A0_1 l0_1.length l0_1) (hc0_1 : l0_1.length ≤ c0_1) (hr1_1 : Kd.C (Kd.int .i64) w A1_1 l1_1.length l1_1) (hc1_1 : l1_1.length ≤ c1_1) (h : whetstonelaw02_same.f k a0_0 l0_1 a1_0 l1_1 = some r) :
  Calls Try.prog 13 #[.agg #[.bool a0_0, .slice A0_1 l0_1.length c0_1], .agg #[.bool a1_0, .slice A1_1 l1_1.length c1_1]] w fun e w' => e = .returned (.bool r) ∧ Below w.heap.size w w' := by
 have hu24 := Try.underlying24; have hu32 := Try.underlying32; have HR0_1 := Aside0.mk hr0_1; have HC0_1 := Aside0.mk hc0_1; clear hr0_1 hc0_1; have HR1_1 := Aside0.mk hr1_1; have HC1_1 := Aside0.mk hc1_1; clear hr1_1 hc1_1; have HB := Aside0.mk (Below.refl w.heap.size w); have H : ((whetstoneref02_Norm.f k a1_0 l1_1).bind fun bt472 => (if (a0_0 == bt472.1) = true then ((whetstoneref01_Limbs.f k bt472.2).bind fun t477 => ((whetstoneref01_Words.f k l0_1 t477).bind fun t480 => (some t480))) else (some false))) = some r := h; clear h; replace H := bi H; obtain ⟨⟨t472, t473⟩, A30, H⟩ := H
 try dsimp only at H
 have A3 := Aside0.mk A30; clear A30
 by_cases c4 : (a0_0 == t472) = true
 ·rw [if_pos c4] at H
  have c4b0 : (a0_0 == t472) = true := c4; (try (have c4b1 : decide (a0_0 = t472) = true := by simpa using c4)); (try (have c4b2 : (a0_0 == t472) = true := by simpa using c4)); clear c4; replace H := bi H; obtain ⟨t477, A50, H⟩ := H; have A5 := Aside0.mk A50; clear A50; replace H := bi H; obtain ⟨t480, A60, H⟩ := H; have A6 := Aside0.mk A60; clear A60; obtain rfl := Option.some.inj H
  go_enter Try.func13, Try.ntmps13
  try go_wp2_with (first | ((with_reducible refine gate_dst (N := 2) rfl ?_); refine bx (N := 2) #[.bool a0_0, .slice A0_1 l0_1.length c0_1] 24 ?_; intro gb470 hg w7 hbox hb; have BK470 := Aside0.mk (hbox); have GW470 := bz hg HB; have GE470 := bz hg HB; replace HB := bs HB hb; clear hb hbox hg) | ((with_reducible refine gate_dst (N := 3) rfl ?_); refine bx (N := 3) #[.bool a1_0, .slice A1_1 l1_1.length c1_1] 32 ?_; intro gb471 hg w8 hbox hb; have BK471 := Aside0.mk (hbox); have GW471 := bz hg HB; have GE471 := bz hg HB; replace HB := bs HB hb; obtain ⟨NB470_471, NB471_470⟩ := nb hg BK470; replace BK470 := kb BK470 hb; clear hb hbox hg; have hnb9 := NB471_470.out; have hnc9 := NB470_471.out; obtain ⟨hcz10_0, hcz10_1, hfz10_0, hfz10_1⟩ := b2 BK471) | ((with_reducible refine gate_callee (f := 27) rfl ?_); refine gL (N := some 7) Try.func27 #[.agg #[.bool a1_0, .slice A1_1 l1_1.length c1_1]] ?_; (with_reducible refine (whetstoneref02_Norm.calls k a1_0 _ _ l1_1 t472 t473 _ ?side1 ?side2 A3.out).mono ?_); (case side1 => exact tc (Kd.C_below HR1_1.out HB.out)); (case side2 => exact HC1_1.out); rintro e w11 ⟨v474, rfl, ho0, hb⟩; refine ⟨_, rfl, ?_⟩; have HO475 := rl ho0 HB; replace BK470 := kb BK470 hb; replace BK471 := kb BK471 hb; replace HB := bs HB hb; (try clear hb); (try clear ho0)) | ((with_reducible refine gate_dst (N := 5) rfl ?_); refine bx (N := 5) #[.bool false, .slice none 0 0] 32 ?_; intro gb476 hg w12 hbox hb; replace HO475 := rb HO475 hb; have BK476 := Aside0.mk (hbox); have GW476 := bz hg HB; have GE476 := bz hg HB; replace HB := bs HB hb; obtain ⟨NB470_476, NB476_470⟩ := nb hg BK470; replace BK470 := kb BK470 hb; obtain ⟨NB471_476, NB476_471⟩ := nb hg BK471; clear hb hbox hg; have hnb13 := NB476_470.out; have hnc13 := NB470_476.out; have hnb14 := NB476_471.out; have hnc14 := NB471_476.out; obtain ⟨hcz15_0, hcz15_1, hfz15_0, hfz15_1⟩ := b2 BK476; obtain ⟨Ao16, co16, eo16⟩ := Kd.R_slice HO475.out; subst eo16))
  obtain ⟨w17, hw_⟩ : ∃ x_, x_ = ((w12.setCell ⟨gb476, 0, none⟩ (.bool t472)).setCell ⟨gb476, 1, none⟩ (.slice Ao16 t473.length co16)) := ⟨_, rfl⟩; have n0_ : Aside0 (Kd.R (Kd.int .i64) 3 w17 w.heap.size (fun _ => True) (.slice Ao16 t473.length co16) t473) := ⟨by rw [hw_]; (with_reducible repeat first | apply qa | apply qn | apply qd); exact Kd.R_mono (Kd.R_far (p := ⟨gb476, 1, none⟩) (Kd.R_far (p := ⟨gb476, 0, none⟩) (Kd.R_types HO475.out BK476.out (by decide)) (fun _ hk => hk.2) (.bool t472)) (fun _ hk => hk.2) (.slice Ao16 t473.length co16)) (fun _ hk => trivial)⟩; have n1_ : Aside0 (w17.heap[gb470]? = some (.cells #[.bool a0_0, .slice A0_1 l0_1.length c0_1] 24 (0, 0))) := ⟨by rw [hw_]; exact tk BK470⟩; have n3_ : Aside0 (w17.heap[gb476]? = some (.cells #[.bool t472, .slice Ao16 t473.length co16] 32 (0, 0))) := ⟨by rw [hw_]; exact tk BK476⟩; have n4_ : Aside0 (Below w.heap.size w w17) := ⟨by rw [hw_]; exact tb HB⟩; (try clear HO475); (try clear BK470); (try clear BK471); (try clear BK476); (try clear HB); rw [← hw_]; clear hw_; have HO475 := n0_; have BK470 := n1_; have BK476 := n3_; have HB := n4_; clear n0_ n1_ n3_ n4_; replace HO475 := Aside0.mk (Kd.R_drew HO475.out); replace BK470 := Aside0.mk (blk_drew BK470.out); replace BK476 := Aside0.mk (blk_drew BK476.out); replace HB := Aside0.mk (below_drew1 HB.out); refine start_ (n := 14) (S := fun w' => w'.cell? ⟨gb470, 0, none⟩ = some (.bool a0_0) ∧ w'.cell? ⟨gb470, 1, none⟩ = some (.slice A0_1 l0_1.length c0_1) ∧ w'.cell? ⟨gb476, 0, none⟩ = some (.bool t472) ∧ w'.cell? ⟨gb476, 1, none⟩ = some (.slice Ao16 t473.length co16)) (ds := []) #[false, false, false, false, false, false, false, false, false, false, false, false, false, false] (by kernel_rfl) rfl rfl ⟨(blk_cell BK470.out 0).trans rfl, (blk_cell BK470.out 1).trans rfl, (blk_cell BK476.out 0).trans rfl, (blk_cell BK476.out 1).trans rfl⟩ (fun hHeld => ?_); refine with_tabW whetstonelaw02_same.tab2 whetstonelaw02_same.bits2 (fun HT_ HW_ => ?_); generalize w17.drew = w18 at HO475 BK470 BK476 HB hHeld ⊢; refine pT (i := 0) (N := some 8) (bb 14 1) HT_ ?_; refine pT (i := 2) (N := some 10) (bb 14 5) HT_ ?_; refine tW (i := 1) (N := some 9) (bb 14 7) HT_ HW_ hHeld ?_; refine tW (i := 3) (N := some 11) (bb 14 15) HT_ HW_ hHeld ?_; refine pT (i := 4) (N := some 12) (bb 14 31) HT_ ?_; refine pT (i := 5) (N := some 13) (bb 14 63) HT_ ?_; refine pT (i := 6) (N := some 14) (bb 14 127) HT_ ?_; refine pT (i := 8) (N := some 16) (bb 14 383) HT_ ?_; refine tW (i := 7) (N := some 15) (bb 14 511) HT_ HW_ hHeld ?_; refine tW (i := 9) (N := some 17) (bb 14 1023) HT_ HW_ hHeld ?_; refine oT (i := 10) (N := some 18) (bb 14 2047) HT_ fun K hK => ?_; refine gS Try.func34 #[.slice Ao16 t473.length co16] ?_; (with_reducible refine (whetstoneref01_Limbs.calls k _ _ t473 t477 _ ?side1 ?side2 A5.out).mono ?_); (case side1 => exact tc (Kd.R_reads' HO475.out).2.2); (case side2 => exact (Kd.R_reads' HO475.out).2.1); rintro e w19 ⟨v478, rfl, ho0, hb⟩; refine ⟨_, rfl, ?_⟩; have HO479 := rl ho0 HB; replace BK470 := kb BK470 hb; replace BK476 := kb BK476 hb; replace HB := bs HB hb; (try clear hb); (try clear ho0); obtain ⟨Ao20, co20, eo20⟩ := Kd.R_slice HO479.out; (first | subst eo20 | (injection eo20 with f1_ f2_ f3_; have f4_ := f1_.symm; have f5_ := f3_.symm; clear f1_ f2_ f3_; subst f4_; subst f5_)); refine hK.out _ _ ⟨(blk_cell BK470.out 0).trans rfl, (blk_cell BK470.out 1).trans rfl, (blk_cell BK476.out 0).trans rfl, (blk_cell BK476.out 1).trans rfl⟩ fun hHeld => nT (N := some 18) ?_; clear hK K; refine oT (i := 11) (N := some 19) (bb 14 4095) HT_ fun K hK => ?_; refine gS Try.func33 #[.slice A0_1 l0_1.length c0_1, .slice Ao20 t477.length co20] ?_; (with_reducible refine (whetstoneref01_Words.calls k _ _ l0_1 _ _ t477 t480 _ ?side1 ?side2 ?side3 ?side4 A6.out).mono ?_); (case side1 => exact tc (Kd.C_below HR0_1.out HB.out)); (case side2 => exact HC0_1.out); (case side3 => exact tc (Kd.R_reads' HO479.out).2.2); (case side4 => exact (Kd.R_reads' HO479.out).2.1)
  rintro e w' ⟨rfl, ⟨nd, rfl⟩⟩; refine ⟨_, rfl, ?_⟩; refine hK.out _ _ ⟨(blk_cell BK470.out 0).trans rfl, (blk_cell BK470.out 1).trans rfl, (blk_cell BK476.out 0).trans rfl, (blk_cell BK476.out 1).trans rfl⟩ fun hHeld => nT (N := some 19) ?_; clear hK K; refine pT (i := 12) (N := some 20) (bb 14 8191) HT_ ?_; refine pT (i := 13) (N := some 4) (bb 14 16383) HT_ ?_; refine done_ (done_of HT_.out (by kernel_rfl)) ?_
  try go_wp2
  go_ret
  exact ⟨ee, tb HB⟩
 ·rw [if_neg c4] at H
  have c4b0 : (a0_0 == t472) = false := by simpa using c4
  (try (have c4b1 : decide (a0_0 = t472) = false := by simpa using c4)); (try (have c4b2 : (a0_0 == t472) = false := by simpa using c4)); (try (have c4b3 : ¬ (a0_0 = t472) := by simpa using c4)); clear c4; obtain rfl := Option.some.inj H
  go_enter Try.func13, Try.ntmps13
  try go_wp2_with (first | ((with_reducible refine gate_dst (N := 2) rfl ?_); refine bx (N := 2) #[.bool a0_0, .slice A0_1 l0_1.length c0_1] 24 ?_; intro gb470 hg w21 hbox hb; have BK470 := Aside0.mk (hbox); have GW470 := bz hg HB; have GE470 := bz hg HB; replace HB := bs HB hb; clear hb hbox hg) | ((with_reducible refine gate_dst (N := 3) rfl ?_); refine bx (N := 3) #[.bool a1_0, .slice A1_1 l1_1.length c1_1] 32 ?_; intro gb471 hg w22 hbox hb; have BK471 := Aside0.mk (hbox); have GW471 := bz hg HB; have GE471 := bz hg HB; replace HB := bs HB hb; obtain ⟨NB470_471, NB471_470⟩ := nb hg BK470; replace BK470 := kb BK470 hb; clear hb hbox hg; have hnb23 := NB471_470.out; have hnc23 := NB470_471.out; obtain ⟨hcz24_0, hcz24_1, hfz24_0, hfz24_1⟩ := b2 BK471) | ((with_reducible refine gate_callee (f := 27) rfl ?_); refine gL (N := some 7) Try.func27 #[.agg #[.bool a1_0, .slice A1_1 l1_1.length c1_1]] ?_; (with_reducible refine (whetstoneref02_Norm.calls k a1_0 _ _ l1_1 t472 t473 _ ?side1 ?side2 A3.out).mono ?_); (case side1 => exact tc (Kd.C_below HR1_1.out HB.out)); (case side2 => exact HC1_1.out); rintro e w25 ⟨v474, rfl, ho0, hb⟩; refine ⟨_, rfl, ?_⟩; have HO475 := rl ho0 HB; replace BK470 := kb BK470 hb; replace BK471 := kb BK471 hb; replace HB := bs HB hb; (try clear hb); (try clear ho0)) | ((with_reducible refine gate_dst (N := 5) rfl ?_); refine bx (N := 5) #[.bool false, .slice none 0 0] 32 ?_; intro gb476 hg w26 hbox hb; replace HO475 := rb HO475 hb; have BK476 := Aside0.mk (hbox); have GW476 := bz hg HB; have GE476 := bz hg HB; replace HB := bs HB hb; obtain ⟨NB470_476, NB476_470⟩ := nb hg BK470; replace BK470 := kb BK470 hb; obtain ⟨NB471_476, NB476_471⟩ := nb hg BK471; clear hb hbox hg; have hnb27 := NB476_470.out; have hnc27 := NB470_476.out; have hnb28 := NB476_471.out; have hnc28 := NB471_476.out; obtain ⟨hcz29_0, hcz29_1, hfz29_0, hfz29_1⟩ := b2 BK476; obtain ⟨Ao30, co30, eo30⟩ := Kd.R_slice HO475.out; subst eo30))
  have n1_ : Aside0 (((w26.setCell ⟨gb476, 0, none⟩ (.bool t472)).setCell ⟨gb476, 1, none⟩ (.slice Ao30 t473.length co30)).heap[gb470]? = some (.cells #[.bool a0_0, .slice A0_1 l0_1.length c0_1] 24 (0, 0))) := ⟨tk BK470⟩; have n3_ : Aside0 (((w26.setCell ⟨gb476, 0, none⟩ (.bool t472)).setCell ⟨gb476, 1, none⟩ (.slice Ao30 t473.length co30)).heap[gb476]? = some (.cells #[.bool t472, .slice Ao30 t473.length co30] 32 (0, 0))) := ⟨tk BK476⟩; have n4_ : Aside0 (Below w.heap.size w ((w26.setCell ⟨gb476, 0, none⟩ (.bool t472)).setCell ⟨gb476, 1, none⟩ (.slice Ao30 t473.length co30))) := ⟨tb HB⟩; (try clear HO475); (try clear BK470); (try clear BK471); (try clear BK476); (try clear HB); generalize ((w26.setCell ⟨gb476, 0, none⟩ (.bool t472)).setCell ⟨gb476, 1, none⟩ (.slice Ao30 t473.length co30)) = w31 at n1_ n3_ n4_ ⊢; have BK470 := n1_; have BK476 := n3_; have HB := n4_; clear n1_ n3_ n4_; replace BK470 := Aside0.mk (blk_drew BK470.out); replace BK476 := Aside0.mk (blk_drew BK476.out); replace HB := Aside0.mk (below_drew1 HB.out); refine start_ (n := 14) (S := fun w' => w'.cell? ⟨gb470, 0, none⟩ = some (.bool a0_0) ∧ w'.cell? ⟨gb470, 1, none⟩ = some (.slice A0_1 l0_1.length c0_1) ∧ w'.cell? ⟨gb476, 0, none⟩ = some (.bool t472) ∧ w'.cell? ⟨gb476, 1, none⟩ = some (.slice Ao30 t473.length co30)) (ds := []) #[false, false, false, false, false, false, false, false, false, false, false, false, false, false] (by kernel_rfl) rfl rfl ⟨(blk_cell BK470.out 0).trans rfl, (blk_cell BK470.out 1).trans rfl, (blk_cell BK476.out 0).trans rfl, (blk_cell BK476.out 1).trans rfl⟩ (fun hHeld => ?_); refine with_tabW whetstonelaw02_same.tab2 whetstonelaw02_same.bits2 (fun HT_ HW_ => ?_); generalize w31.drew = w32 at HB hHeld ⊢; refine pT (i := 0) (N := some 8) (bb 14 1) HT_ ?_; refine pT (i := 2) (N := some 10) (bb 14 5) HT_ ?_; refine tW (i := 1) (N := some 9) (bb 14 7) HT_ HW_ hHeld ?_; refine tW (i := 3) (N := some 11) (bb 14 15) HT_ HW_ hHeld ?_; refine pT (i := 4) (N := some 12) (bb 14 31) HT_ ?_; refine pT (i := 5) (N := some 13) (bb 14 63) HT_ ?_; refine pure_ (i := 6) (N := some 14) (v := undef) (a' := ?_) #[true, true, true, true, true, true, true, false, false, false, false, false, false, false] rfl rfl (any_of HT_.out (by kernel_rfl)) (fun _ _ _ h => h) (Or.inr ⟨by rfl, rfl⟩) ?_ ?_; rotate_left
  ·simp only [Act.put, List.setIfInBounds_toArray, List.set_cons_zero, List.set_cons_succ, i64_w, i32_w]
   rfl
  refine pure_ (i := 7) (N := some 15) (v := undef) (a' := ?_) #[true, true, true, true, true, true, true, true, false, false, false, false, false, false] rfl rfl (any_of HT_.out (by kernel_rfl)) (fun _ _ _ h => h) (Or.inr ⟨by rfl, rfl⟩) ?_ ?_; rotate_left
  ·simp only [Act.put, List.setIfInBounds_toArray, List.set_cons_zero, List.set_cons_succ, i64_w, i32_w]
   rfl
  refine pure_ (i := 8) (N := some 16) (v := undef) (a' := ?_) #[true, true, true, true, true, true, true, true, true, false, false, false, false, false] rfl rfl (any_of HT_.out (by kernel_rfl)) (fun _ _ _ h => h) (Or.inr ⟨by rfl, rfl⟩) ?_ ?_; rotate_left
  ·simp only [Act.put, List.setIfInBounds_toArray, List.set_cons_zero, List.set_cons_succ, i64_w, i32_w]
   rfl
  refine pure_ (i := 9) (N := some 17) (v := undef) (a' := ?_) #[true, true, true, true, true, true, true, true, true, true, false, false, false, false] rfl rfl (any_of HT_.out (by kernel_rfl)) (fun _ _ _ h => h) (Or.inr ⟨by rfl, rfl⟩) ?_ ?_; rotate_left
  ·simp only [Act.put, List.setIfInBounds_toArray, List.set_cons_zero, List.set_cons_succ, i64_w, i32_w]
   rfl
  refine pure_ (i := 10) (N := some 18) (v := undef) (a' := ?_) #[true, true, true, true, true, true, true, true, true, true, true, false, false, false] rfl rfl (any_of HT_.out (by kernel_rfl)) (fun _ _ _ h => h) (Or.inr ⟨by rfl, rfl⟩) ?_ ?_; rotate_left
  ·simp only [Act.put, List.setIfInBounds_toArray, List.set_cons_zero, List.set_cons_succ, i64_w, i32_w]
   rfl
  refine pure_ (i := 11) (N := some 19) (v := undef) (a' := ?_) #[true, true, true, true, true, true, true, true, true, true, true, true, false, false] rfl rfl (any_of HT_.out (by kernel_rfl)) (fun _ _ _ h => h) (Or.inr ⟨by rfl, rfl⟩) ?_ ?_; rotate_left
  ·simp only [Act.put, List.setIfInBounds_toArray, List.set_cons_zero, List.set_cons_succ, i64_w, i32_w]
   rfl
  refine pT (i := 12) (N := some 20) (bb 14 8191) HT_ ?_; refine pT (i := 13) (N := some 4) (bb 14 16383) HT_ ?_; refine done_ (done_of HT_.out (by kernel_rfl)) ?_
  try go_wp2
  go_ret
  exact ⟨ee, tb HB⟩

/-! ### nat_addTo: function 65 -/
mutual
def nat_addTo.l0 : Nat → List Int → Int → Int → List Int → Int → List Int → Int → Int → Option (List Int)
 | 0, _, _, _, _, _, _, _, _ => none
 | k + 1, x0, x1, x2, x3, x8, x14, x15, x16 => if x16 < x15 then (if 0 ≤ x16 then (if x16 < (x14.length : Int) then (if 0 ≤ (wrap64 (x1 + x16)) then (if (wrap64 (x1 + x16)) < (x0.length : Int) then (nat_addTo.l0 k (x0.set ((wrap64 (x1 + x16)) : Int).toNat ((IntKind.u64.wrap ((IntKind.u64.wrap ((IntKind.u64.wrap ((IntKind.u64.wrap (x2)) * (IntKind.u64.wrap (rd x14 x16)))) + (IntKind.u64.wrap (rd x0 (wrap64 (x1 + x16)))))) + x8)) % 4294967296)) x1 x2 x3 ((IntKind.u64.wrap ((IntKind.u64.wrap ((IntKind.u64.wrap ((IntKind.u64.wrap (x2)) * (IntKind.u64.wrap (rd x14 x16)))) + (IntKind.u64.wrap (rd x0 (wrap64 (x1 + x16)))))) + x8)) / 4294967296) x14 x15 (wrap64 (x16 + 1))) else (none)) else (none)) else (none)) else (none)) else (nat_addTo.l1 k x0 x8 (wrap64 (x1 + (x3.length : Int))))
def nat_addTo.l1 : Nat → List Int → Int → Int → Option (List Int)
 | 0, _, _, _ => none
 | k + 1, x0, x8, x12 => if x8 > 0 then (if 0 ≤ x12 then (if x12 < (x0.length : Int) then (nat_addTo.l1 k (x0.set (x12 : Int).toNat ((IntKind.u64.wrap ((IntKind.u64.wrap (rd x0 x12)) + x8)) % 4294967296)) ((IntKind.u64.wrap ((IntKind.u64.wrap (rd x0 x12)) + x8)) / 4294967296) (wrap64 (x12 + 1))) else (none)) else (none)) else (some x0)
end
def nat_addTo.f (k : Nat) (l0 : List Int) (a1 : Int) (a2 : Int) (l3 : List Int) : Option (List Int) := nat_addTo.l0 k l0 a1 a2 l3 0 l3 (l3.length : Int) 0
theorem nat_addTo.mono_l : ∀ k, (∀ y0 y1 y2 y3 y4 y5 y6 y7, LeO (nat_addTo.l0 k y0 y1 y2 y3 y4 y5 y6 y7) (nat_addTo.l0 (k + 1) y0 y1 y2 y3 y4 y5 y6 y7)) ∧ (∀ y0 y1 y2, LeO (nat_addTo.l1 k y0 y1 y2) (nat_addTo.l1 (k + 1) y0 y1 y2))
 | 0 => ⟨fun _ _ _ _ _ _ _ _ r h => by simp [nat_addTo.l0] at h, fun _ _ _ r h => by simp [nat_addTo.l1] at h⟩
 | k + 1 => by
  obtain ⟨ih0, ih1⟩ := nat_addTo.mono_l k; refine ⟨?_, ?_⟩
  ·intro y0 y1 y2 y3 y4 y5 y6 y7
   unfold nat_addTo.l0
   repeat' with_reducible first | exact ih0 _ _ _ _ _ _ _ _ | exact ih1 _ _ _ | exact LeO.refl _ | exact LeO.none _ | refine LeO.ite ?_ ?_ | refine LeO.bind ?_ (fun _ => ?_)
  ·intro y0 y1 y2
   unfold nat_addTo.l1
   repeat' with_reducible first | exact ih0 _ _ _ _ _ _ _ _ | exact ih1 _ _ _ | exact LeO.refl _ | exact LeO.none _ | refine LeO.ite ?_ ?_ | refine LeO.bind ?_ (fun _ => ?_)
theorem nat_addTo.mono : ∀ a0 a1 a2 a3 k, LeO (nat_addTo.f k a0 a1 a2 a3) (nat_addTo.f (k + 1) a0 a1 a2 a3) := by
 intro a0 a1 a2 a3 k; obtain ⟨ih0, ih1⟩ := nat_addTo.mono_l k
 unfold nat_addTo.f
 repeat' with_reducible first | exact ih0 _ _ _ _ _ _ _ _ | exact ih1 _ _ _ | exact LeO.refl _ | exact LeO.none _ | refine LeO.ite ?_ ?_ | refine LeO.bind ?_ (fun _ => ?_)
set_option maxHeartbeats 8000000 in
set_option maxRecDepth 100000 in
theorem nat_addTo.calls (k : Nat) (P0_ : Nat → Prop) (u9000_ : Value) (l0 : List Int) (a1 : Int) (a2 : Int) (A3 : Option Addr) (c3 : Nat) (l3 : List Int) (r : List Int) (w0 w : World) (hB : Below w0.heap.size w0 w) (ho0 : Kd.R (Kd.int .u32) 70 w w0.heap.size P0_ u9000_ l0) (hr3 : ∀ W_, Kept w W_ (fun k_ => P0_ k_) → Kd.C (Kd.int .u32) W_ A3 l3.length l3) (hc3 : l3.length ≤ c3) (h : nat_addTo.f k l0 a1 a2 l3 = some r) :
  Calls Try.prog 65 #[u9000_, .int .i64 a1, .int .u32 a2, .slice A3 l3.length c3] w fun e w' => e = .returned (.tuple #[]) ∧ Kd.R (Kd.int .u32) 70 w' w0.heap.size (fun k_ => (P0_ k_ ∨ w.heap.size ≤ k_)) u9000_ r ∧ Below w0.heap.size w0 w' ∧ Kept w w' (fun k_ => P0_ k_) := by
 have HO0 := Aside0.mk (show Kd.R (Kd.int .u32) 70 w w0.heap.size (fun k_ => (P0_ k_ ∨ w.heap.size ≤ k_)) u9000_ l0 from Kd.R_mono ho0 (fun k_ hk => (.inl hk))); have HR3 := Aside0.mk hr3; have HC3 := Aside0.mk hc3; clear hr3 hc3; have HK := Aside0.mk (Kept.refl w (fun k_ => P0_ k_)); have HW0 := Aside0.mk hB.size; have HB := Aside0.mk hB; clear hB; have H : (nat_addTo.l0 k l0 a1 a2 l3 0 l3 (l3.length : Int) 0) = some r := h; clear h; have H' := Aside0.mk H; clear H
 go_enter Try.func65, Try.ntmps65
 go_wp2
 go_loopg [8, 16] k (fun kq v8 v16 w' => ∃ (x0_1 : List Int) (x8_1 : Int) (x16_1 : Int), v8 = .int .u64 x8_1 ∧ v16 = .int .i64 x16_1 ∧ Aside0 (nat_addTo.l0 kq x0_1 a1 a2 l3 x8_1 l3 (l3.length : Int) x16_1 = some r) ∧ Aside0 (kq ≤ k) ∧ Aside0 (Kd.R (Kd.int .u32) 70 w' w0.heap.size (fun k_ => (P0_ k_ ∨ w.heap.size ≤ k_)) u9000_ x0_1) ∧ Aside0 (Kept w w' (fun k_ => P0_ k_)) ∧ Aside0 (Below w0.heap.size w0 w'))
 case atStart => exact ⟨(l0), (0), (0), (by first | rfl | (simp; done) | (simp [*]; done)), (by first | rfl | (simp; done) | (simp [*]; done)), H', ⟨Nat.le_refl _⟩, ⟨tq HO0⟩, ⟨by repeat (first | (with_reducible first | exact HK.out | apply Kept.alloc | apply Kept.drewN | apply Kept.drew) | exact HK.out)⟩, ⟨tb HB⟩⟩
 case round =>
  clear H'; (try clear p2); (try clear c3); obtain ⟨x0_1, x8_1, x16_1, rfl, rfl, HA, HK1, HO_0, HK, HB⟩ := hrel
  cases gk with
  | zero => exact absurd HA.out (by simp [nat_addTo.l0])
  | succ k1 =>
   have H := HA.out; clear HA; simp only [nat_addTo.l0] at H
   by_cases c5 : x16_1 < (l3.length : Int)
   ·rw [if_pos c5] at H
    have c5b0 : decide (x16_1 < (l3.length : Int)) = true := decide_eq_true c5; clear c5
    by_cases c6 : 0 ≤ x16_1
    ·rw [if_pos c6] at H
     have c6b0 : decide (0 ≤ x16_1) = true := decide_eq_true c6; clear c6
     by_cases c7 : x16_1 < (l3.length : Int)
     ·rw [if_pos c7] at H
      have c7b0 : decide (x16_1 < (l3.length : Int)) = true := decide_eq_true c7; clear c7; obtain ⟨ji8, hji8⟩ : ∃ j_ : Int, (wrap64 (a1 + x16_1)) = j_ := ⟨_, rfl⟩
      replace H : (if 0 ≤ (ji8) then (if (ji8) < (x0_1.length : Int) then (nat_addTo.l0 k1 (x0_1.set ((ji8) : Int).toNat ((IntKind.u64.wrap ((IntKind.u64.wrap ((IntKind.u64.wrap ((IntKind.u64.wrap (a2)) * (IntKind.u64.wrap (rd l3 x16_1)))) + (IntKind.u64.wrap (rd x0_1 (ji8))))) + x8_1)) % 4294967296)) a1 a2 l3 ((IntKind.u64.wrap ((IntKind.u64.wrap ((IntKind.u64.wrap ((IntKind.u64.wrap (a2)) * (IntKind.u64.wrap (rd l3 x16_1)))) + (IntKind.u64.wrap (rd x0_1 (ji8))))) + x8_1)) / 4294967296) l3 (l3.length : Int) (wrap64 (x16_1 + 1))) else (none)) else (none)) = some r := by first | (rw [hji8] at H; exact H) | (simp only [hji8] at H ⊢; exact H)
      have hji8w : (IntKind.i64.wrap (a1 + x16_1)) = ji8 := (i64_w _).trans hji8
      by_cases c9 : 0 ≤ (ji8)
      ·rw [if_pos c9] at H
       have c9b0 : decide (0 ≤ (ji8)) = true := decide_eq_true c9; clear c9
       by_cases c10 : (ji8) < (x0_1.length : Int)
       ·rw [if_pos c10] at H
        have c10b0 : decide ((ji8) < (x0_1.length : Int)) = true := decide_eq_true c10; clear c10; obtain ⟨y483, hy483⟩ : ∃ y_ : List Int, y_ = (x0_1.set ((ji8) : Int).toNat ((IntKind.u64.wrap ((IntKind.u64.wrap ((IntKind.u64.wrap ((IntKind.u64.wrap (a2)) * (IntKind.u64.wrap (rd l3 x16_1)))) + (IntKind.u64.wrap (rd x0_1 (ji8))))) + x8_1)) % 4294967296)) := ⟨_, rfl⟩; replace H : (nat_addTo.l0 k1 y483 a1 a2 l3 ((IntKind.u64.wrap ((IntKind.u64.wrap ((IntKind.u64.wrap ((IntKind.u64.wrap (a2)) * (IntKind.u64.wrap (rd l3 x16_1)))) + (IntKind.u64.wrap (rd x0_1 (ji8))))) + x8_1)) / 4294967296) l3 (l3.length : Int) (wrap64 (x16_1 + 1))) = some r := ti hy483 H; have Ny483 := Aside0.mk hy483; clear hy483; have H' := Aside0.mk H; clear H; have p481 : 0 ≤ (x16_1 : Int) := td; have q481 : x16_1 < (l3.length : Int) := td; obtain ⟨ad481, e481, hx481_0⟩ := Kd.at_int (Kd.C_kept_now HR3.out HK.out) x16_1 p481 q481
        cases e481
        replace p481 := eq_true p481; replace q481 := eq_true q481; obtain ⟨Ao12, co12, eo12⟩ := Kd.R_slice HO_0.out; subst eo12; have p482 : 0 ≤ ((ji8) : Int) := td; have q482 : (ji8) < (x0_1.length : Int) := td; obtain ⟨ad482, e482, hx482_0⟩ := Kd.at_int (Kd.R_reads' HO_0.out).2.2 (ji8) p482 q482
        cases e482
        replace p482 := eq_true p482; replace q482 := eq_true q482; have p11 : 0 ≤ ((ji8) : Int) := td; have q11 : ((ji8) : Int) < ((x0_1.length : Int) : Int) := td; obtain ⟨go11, co11, eo11, gb11, gl11, cl11, HG11⟩ := Kd.R_form HO_0.out (by omega); (first | cases eo11 | (injection eo11 with ea_ en_ ec_; (first | subst ea_ | (injection ea_ with ea_; subst ea_)); subst ec_; clear en_)); have GB11 := Aside0.mk gb11; have GG11 := Aside0.mk HG11; clear gb11 gl11 HG11; have HMgo11 := Aside0.mk (show (P0_ go11 ∨ w.heap.size ≤ go11) from (HO_0.out.1 _ rfl)); (first | simp only [add_plain] at hx482_0 | skip); obtain ⟨hx11_0, hf11_0⟩ := Kd.R_celln 0 HO_0.out ((ji8) : Int) p11 q11; replace p11 := eq_true p11; replace q11 := eq_true q11; have HP13 := Kd.R_putg HO_0.out ((ji8) : Int) ((IntKind.u64.wrap ((IntKind.u64.wrap ((IntKind.u64.wrap ((IntKind.u64.wrap (a2)) * (IntKind.u64.wrap (rd l3 x16_1)))) + (IntKind.u64.wrap (rd x0_1 (ji8))))) + x8_1)) % 4294967296)
        go_wp2_with (first | ((with_reducible refine gate_store (t := 70) (p := 44) rfl ?_); refine store_event (t := 70) (p := 44) (v := ?vo_w14) (w1 := (wr.setCell ⟨go11, ((ji8) : Int).toNat, none⟩ (.int .u32 ((IntKind.u64.wrap ((IntKind.u64.wrap ((IntKind.u64.wrap ((IntKind.u64.wrap (a2)) * (IntKind.u64.wrap (rd l3 x16_1)))) + (IntKind.u64.wrap (rd x0_1 (ji8))))) + x8_1)) % 4294967296)))) ?hg ?ho ?hn ?hr ?_; (case ho => rfl); (case hg => rfl); (case hn => rfl); (case hr => first | (go_simp; done) | (go_simp; rfl)); intro w14 hw; have hg : wr.grownBy w14 (some go11) := (by rw [hw]; exact HP13.2); have hp_ : Kd.R (Kd.int .u32) 70 w14 w0.heap.size (fun k_ => (P0_ k_ ∨ w.heap.size ≤ k_)) (.slice (some ⟨go11, 0, none⟩) x0_1.length co12) y483 := (by rw [hw, Ny483.out]; exact HP13.1); clear HP13; have n0_ := Aside0.mk (hp_); have n1_ := Aside0.mk ((by rw [hw]; exact below_set (HB.out) GB11.out : Below w0.heap.size w0 w14)); have n2_ := Aside0.mk (Kept.of_grown (S := (fun k_ => P0_ k_)) hg (by repeat (first | (with_reducible first | exact HK.out | apply Kept.alloc | apply Kept.drewN | apply Kept.drew) | exact HK.out)) (fun k_ e_ => (HO_0.out.1 k_ e_))); clear HO_0 HB HK; have HO_0 := n0_; have HB := n1_; have HK := n2_; clear n0_ n1_ n2_; clear hg hw hp_))
        go_roundg k1
        case measure => have := HK1.out; omega
        case rel => exact ⟨(y483), ((IntKind.u64.wrap ((IntKind.u64.wrap ((IntKind.u64.wrap ((IntKind.u64.wrap (a2)) * (IntKind.u64.wrap (rd l3 x16_1)))) + (IntKind.u64.wrap (rd x0_1 (ji8))))) + x8_1)) / 4294967296), (wrap64 (x16_1 + 1)), (by first | rfl | (simp; done) | (simp only [← hji8] <;> (first | rfl | simp)) | (simp [*]; done)), (by first | rfl | (simp; done) | (simp [*]; done)), H', ⟨by have := HK1.out; omega⟩, ⟨tq HO_0⟩, ⟨by repeat (first | (with_reducible first | exact HK.out | apply Kept.alloc | apply Kept.drewN | apply Kept.drew) | exact HK.out)⟩, ⟨tb HB⟩⟩
       ·rw [if_neg c10] at H
        exact absurd H (by simp)
      ·rw [if_neg c9] at H
       exact absurd H (by simp)
     ·rw [if_neg c7] at H
      exact absurd H (by simp)
    ·rw [if_neg c6] at H
     exact absurd H (by simp)
   ·rw [if_neg c5] at H
    have c5b0 : decide (x16_1 < (l3.length : Int)) = false := decide_eq_false c5; clear c5; have H' := Aside0.mk H; clear H
    go_wp2
    go_loopg [8, 12] k1 (fun kq v8 v12 w' => ∃ (x0_2 : List Int) (x8_2 : Int) (x12_2 : Int), v8 = .int .u64 x8_2 ∧ v12 = .int .i64 x12_2 ∧ Aside0 (nat_addTo.l1 kq x0_2 x8_2 x12_2 = some r) ∧ Aside0 (kq ≤ k1) ∧ Aside0 (Kd.R (Kd.int .u32) 70 w' w0.heap.size (fun k_ => (P0_ k_ ∨ w.heap.size ≤ k_)) u9000_ x0_2) ∧ Aside0 (Kept w w' (fun k_ => P0_ k_)) ∧ Aside0 (Below w0.heap.size w0 w'))
    case atStart => exact ⟨(x0_1), (x8_1), (wrap64 (a1 + (l3.length : Int))), (by first | rfl | (simp; done) | (simp [*]; done)), (by first | rfl | (simp; done) | (simp [*]; done)), H', ⟨Nat.le_refl _⟩, ⟨tq HO_0⟩, ⟨by repeat (first | (with_reducible first | exact HK.out | apply Kept.alloc | apply Kept.drewN | apply Kept.drew) | exact HK.out)⟩, ⟨tb HB⟩⟩
    case round =>
     clear H'; (try clear c1); (try clear p1); (try clear q1); (try clear hx1); (try clear p2); (try clear c3); (try clear p4); (try clear q4); (try clear hx4); (try clear c5); (try clear c5b0); (try clear c6); (try clear c6b0); (try clear p6); (try clear c7); (try clear c7b0); (try clear c9); (try clear c9b0); (try clear c10); (try clear c10b0); (try clear p11); (try clear q11); (try clear hx11); (try clear hf11); (try clear hx11_0); (try clear hx481_0); (try clear hx482_0); (try clear p11); (try clear p2); (try clear p481); (try clear p482); (try clear q11); (try clear q481); (try clear q482); obtain ⟨x0_2, x8_2, x12_2, rfl, rfl, HA, HK2, HO_0, HK, HB⟩ := hrel
     cases gk with
     | zero => exact absurd HA.out (by simp [nat_addTo.l1])
     | succ k2 =>
      have H := HA.out; clear HA; simp only [nat_addTo.l1] at H
      by_cases c15 : x8_2 > 0
      ·rw [if_pos c15] at H
       have c15b0 : decide (0 < x8_2) = true := decide_eq_true c15; clear c15
       by_cases c16 : 0 ≤ x12_2
       ·rw [if_pos c16] at H
        have c16b0 : decide (0 ≤ x12_2) = true := decide_eq_true c16; clear c16
        by_cases c17 : x12_2 < (x0_2.length : Int)
        ·rw [if_pos c17] at H
         have c17b0 : decide (x12_2 < (x0_2.length : Int)) = true := decide_eq_true c17; clear c17; obtain ⟨y485, hy485⟩ : ∃ y_ : List Int, y_ = (x0_2.set (x12_2 : Int).toNat ((IntKind.u64.wrap ((IntKind.u64.wrap (rd x0_2 x12_2)) + x8_2)) % 4294967296)) := ⟨_, rfl⟩; replace H : (nat_addTo.l1 k2 y485 ((IntKind.u64.wrap ((IntKind.u64.wrap (rd x0_2 x12_2)) + x8_2)) / 4294967296) (wrap64 (x12_2 + 1))) = some r := ti hy485 H; have Ny485 := Aside0.mk hy485; clear hy485; have H' := Aside0.mk H; clear H; obtain ⟨Ao19, co19, eo19⟩ := Kd.R_slice HO_0.out; subst eo19; have p484 : 0 ≤ (x12_2 : Int) := td; have q484 : x12_2 < (x0_2.length : Int) := td; obtain ⟨ad484, e484, hx484_0⟩ := Kd.at_int (Kd.R_reads' HO_0.out).2.2 x12_2 p484 q484
         cases e484
         replace p484 := eq_true p484; replace q484 := eq_true q484; have p18 : 0 ≤ (x12_2 : Int) := td; have q18 : (x12_2 : Int) < ((x0_2.length : Int) : Int) := td; obtain ⟨go18, co18, eo18, gb18, gl18, cl18, HG18⟩ := Kd.R_form HO_0.out (by omega); (first | cases eo18 | (injection eo18 with ea_ en_ ec_; (first | subst ea_ | (injection ea_ with ea_; subst ea_)); subst ec_; clear en_)); have GB18 := Aside0.mk gb18; have GG18 := Aside0.mk HG18; clear gb18 gl18 HG18; have HMgo18 := Aside0.mk (show (P0_ go18 ∨ w.heap.size ≤ go18) from (HO_0.out.1 _ rfl)); (first | simp only [add_plain] at hx484_0 | skip); obtain ⟨hx18_0, hf18_0⟩ := Kd.R_celln 0 HO_0.out (x12_2 : Int) p18 q18; replace p18 := eq_true p18; replace q18 := eq_true q18; have HP20 := Kd.R_putg HO_0.out (x12_2 : Int) ((IntKind.u64.wrap ((IntKind.u64.wrap (rd x0_2 x12_2)) + x8_2)) % 4294967296)
         go_wp2_with (first | ((with_reducible refine gate_store (t := 70) (p := 67) rfl ?_); refine store_event (t := 70) (p := 67) (v := ?vo_w21) (w1 := (wr.setCell ⟨go18, (x12_2 : Int).toNat, none⟩ (.int .u32 ((IntKind.u64.wrap ((IntKind.u64.wrap (rd x0_2 x12_2)) + x8_2)) % 4294967296)))) ?hg ?ho ?hn ?hr ?_; (case ho => rfl); (case hg => rfl); (case hn => rfl); (case hr => first | (go_simp; done) | (go_simp; rfl)); intro w21 hw; have hg : wr.grownBy w21 (some go18) := (by rw [hw]; exact HP20.2); have hp_ : Kd.R (Kd.int .u32) 70 w21 w0.heap.size (fun k_ => (P0_ k_ ∨ w.heap.size ≤ k_)) (.slice (some ⟨go18, 0, none⟩) x0_2.length co19) y485 := (by rw [hw, Ny485.out]; exact HP20.1); clear HP20; have n0_ := Aside0.mk (hp_); have n1_ := Aside0.mk ((by rw [hw]; exact below_set (HB.out) GB18.out : Below w0.heap.size w0 w21)); have n2_ := Aside0.mk (Kept.of_grown (S := (fun k_ => P0_ k_)) hg (by repeat (first | (with_reducible first | exact HK.out | apply Kept.alloc | apply Kept.drewN | apply Kept.drew) | exact HK.out)) (fun k_ e_ => (HO_0.out.1 k_ e_))); clear HO_0 HB HK; have HO_0 := n0_; have HB := n1_; have HK := n2_; clear n0_ n1_ n2_; clear hg hw hp_))
         go_roundg k2
         case measure => have := HK1.out; have := HK2.out; omega
         case rel => exact ⟨(y485), ((IntKind.u64.wrap ((IntKind.u64.wrap (rd x0_2 x12_2)) + x8_2)) / 4294967296), (wrap64 (x12_2 + 1)), (by first | rfl | (simp; done) | (simp [*]; done)), (by first | rfl | (simp; done) | (simp [*]; done)), H', ⟨by have := HK1.out; have := HK2.out; omega⟩, ⟨tq HO_0⟩, ⟨by repeat (first | (with_reducible first | exact HK.out | apply Kept.alloc | apply Kept.drewN | apply Kept.drew) | exact HK.out)⟩, ⟨tb HB⟩⟩
        ·rw [if_neg c17] at H
         exact absurd H (by simp)
       ·rw [if_neg c16] at H
        exact absurd H (by simp)
      ·rw [if_neg c15] at H
       have c15b0 : decide (0 < x8_2) = false := decide_eq_false c15; clear c15; obtain rfl := Option.some.inj H
       go_wp2
       first | go_end0 | ((try simp only [Exit.inBlock, Exit.then]); refine bodyPost_ret (results_none rfl _ _ _) rfl ?_)
       exact ⟨ee, tq HO_0, tb HB, by repeat (first | (with_reducible first | exact HK.out | apply Kept.alloc | apply Kept.drewN | apply Kept.drew) | exact HK.out)⟩

end Go.Proofs.Ytkbefeadmchmbaa.QBigQuotients
