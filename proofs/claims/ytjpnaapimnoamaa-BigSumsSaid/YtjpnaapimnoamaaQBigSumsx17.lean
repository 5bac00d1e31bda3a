-- written by wip/wprint, a program of this session
import Derived.Test.YtjpnaapimnoamaaQBigSumsx0
import Derived.Test.YtjpnaapimnoamaaQBigSumsx4
import Derived.Test.YtjpnaapimnoamaaQBigSumsx6
import Derived.Test.YtjpnaapimnoamaaQBigSumsx7
import Derived.Test.YtjpnaapimnoamaaQBigSumsx9
namespace Go.Proofs.Ytjpnaapimnoamaa.QBigSums
open Go.RowKit Go.Proofs.YtjpnaapimnoamaaW.PrintWords Go.Proofs.YtjpnaapimnoamaaW.PrintLast Go.Proofs.YtjpnaapimnoamaaW.PrintMore
open Go.Proofs.YtjpnaapimnoamaaW.PrintWords.Kd renaming R_alloc → qa, R_drewN → qn, R_drew → qd
open Go.Proofs.YtjpnaapimnoamaaW.PrintWords renaming below_alloc → ba, pw_below_drewN → bn, below_drew1 → bd
attribute [local go_sem] max2_int min2_int max_two min_two max_three min_three max_four min_four   -- for this text's walks alone
set_option linter.unusedVariables false
set_option linter.unusedSimpArgs false

/-! ### big_Cmp: function 24 -/
def big_Cmp.f (k : Nat) (a0_0 : Bool) (l0_1 : List Int) (a1_0 : Bool) (l1_1 : List Int) : Option (Int) := (big_Sign.f k a0_0 l0_1).bind fun t690 => ((big_Sign.f k a1_0 l1_1).bind fun t691 => (if t690 < t691 then (some (-1)) else (if t690 > t691 then (some 1) else ((nat_Cmp.f k l0_1 l1_1).bind fun t692 => (some (wrap64 (t690 * t692)))))))
theorem big_Cmp.mono : ∀ a0 a1 a2 a3 k, LeO (big_Cmp.f k a0 a1 a2 a3) (big_Cmp.f (k + 1) a0 a1 a2 a3) := by
 intro a0 a1 a2 a3 k
 unfold big_Cmp.f
 repeat' first
   | (with_reducible exact big_Sign.mono _ _ _)
   | (with_reducible exact nat_Cmp.mono _ _ _)
   | (with_reducible exact LeO.refl _)
   | (with_reducible exact LeO.none _)
   | (with_reducible refine LeO.ite ?_ ?_)
   | (with_reducible refine LeO.bind ?_ (fun _ => ?_))
   | exact big_Sign.mono _ _ _
   | exact nat_Cmp.mono _ _ _
   | exact LeO.none _
   | refine LeO.ite ?_ ?_
   | refine LeO.bind ?_ (fun _ => ?_)
set_option maxHeartbeats 8000000 in
set_option maxRecDepth 100000 in
theorem big_Cmp.calls (k : Nat) (a0_0 : Bool) (A0_1 : Option Addr) (c0_1 : Nat) (l0_1 : List Int) (a1_0 : Bool) (A1_1 : Option Addr) (c1_1 : Nat) (l1_1 : List Int) (r : Int) (w : World) (hr0_1 : Kd.C (Kd.int .u32) w A0_1 l0_1.length l0_1) (hc0_1 : l0_1.length ≤ c0_1) (hr1_1 : Kd.C (Kd.int .u32) w A1_1 l1_1.length l1_1) (hc1_1 : l1_1.length ≤ c1_1) (h : big_Cmp.f k a0_0 l0_1 a1_0 l1_1 = some r) :
  Calls Try.prog 24 #[.agg #[.bool a0_0, .slice A0_1 l0_1.length c0_1], .agg #[.bool a1_0, .slice A1_1 l1_1.length c1_1]] w fun e w' => e = .returned (.int .i64 r) ∧ Below w.heap.size w w' := by
 have hu24 := Try.underlying24
 have HR0_1 := Aside0.mk hr0_1
 have HC0_1 := Aside0.mk hc0_1
 clear hr0_1 hc0_1
 have HR1_1 := Aside0.mk hr1_1
 have HC1_1 := Aside0.mk hc1_1
 clear hr1_1 hc1_1
 have HB := Aside0.mk (Below.refl w.heap.size w)
 have H : ((big_Sign.f k a0_0 l0_1).bind fun t690 => ((big_Sign.f k a1_0 l1_1).bind fun t691 => (if t690 < t691 then (some (-1)) else (if t690 > t691 then (some 1) else ((nat_Cmp.f k l0_1 l1_1).bind fun t692 => (some (wrap64 (t690 * t692)))))))) = some r := h
 clear h
 replace H := Option.bind_eq_some_iff.mp H
 obtain ⟨t690, A30, H⟩ := H
 have A3 := Aside0.mk A30
 clear A30
 replace H := Option.bind_eq_some_iff.mp H
 obtain ⟨t691, A40, H⟩ := H
 have A4 := Aside0.mk A40
 clear A40
 by_cases c5 : t690 < t691
 ·rw [if_pos c5] at H
  have c5b0 : decide (t690 < t691) = true := decide_eq_true c5
  clear c5
  obtain rfl := Option.some.inj H
  go_enter Try.func24, Try.ntmps24
  try go_wp2_with (first | ((with_reducible refine gate_dst (N := 2) rfl ?_); refine bx (N := 2) #[.bool a0_0, .slice A0_1 l0_1.length c0_1] 24 ?_; intro gb688 hg w6 hbox hb; have BK688 := Aside0.mk (hbox); have GW688 := bz hg HB; have GE688 := bz hg HB; replace HB := bs HB hb; clear hb hbox hg) | ((with_reducible refine gate_dst (N := 3) rfl ?_); refine bx (N := 3) #[.bool a1_0, .slice A1_1 l1_1.length c1_1] 24 ?_; intro gb689 hg w7 hbox hb; have BK689 := Aside0.mk (hbox); have GW689 := bz hg HB; have GE689 := bz hg HB; replace HB := bs HB hb; have NB688_689 := nl hg BK688; have NB689_688 := ng hg BK688; replace BK688 := kb BK688 hb; clear hb hbox hg))
  replace BK688 := Aside0.mk (blk_drew BK688.out)
  replace BK689 := Aside0.mk (blk_drew BK689.out)
  replace HB := Aside0.mk (below_drew1 HB.out)
  refine start_ (n := 6) (S := fun w' => w'.cell? ⟨gb688, 0, none⟩ = some (.bool a0_0) ∧ w'.cell? ⟨gb688, 1, none⟩ = some (.slice A0_1 l0_1.length c0_1) ∧ w'.cell? ⟨gb689, 0, none⟩ = some (.bool a1_0) ∧ w'.cell? ⟨gb689, 1, none⟩ = some (.slice A1_1 l1_1.length c1_1)) (ds := []) #[false, false, false, false, false, false] (by kernel_rfl) rfl rfl ⟨(blk_cell BK688.out 0).trans rfl, (blk_cell BK688.out 1).trans rfl, (blk_cell BK689.out 0).trans rfl, (blk_cell BK689.out 1).trans rfl⟩ (fun hHeld => ?_)
  generalize w7.drew = w8 at BK688 BK689 HB hHeld ⊢
  refine t0 (i := 0) (N := some 7) (bb 6 1) hHeld ?_
  refine t0 (i := 2) (N := some 9) (bb 6 5) hHeld ?_
  refine o0 (i := 1) (N := some 8) (bb 6 7) fun K hK => ?_
  refine gS Try.func26 #[.agg #[.bool a0_0, .slice A0_1 l0_1.length c0_1]] ?_
  with_reducible refine (big_Sign.calls k a0_0 _ _ l0_1 t690 _ ?side1 ?side2 A3.out).mono ?_
  (case side1 => exact tc (Kd.C_below HR0_1.out HB.out))
  (case side2 => exact HC0_1.out)
  rintro e w9 ⟨rfl, hb⟩
  refine ⟨_, rfl, ?_⟩
  replace BK688 := kb BK688 hb
  replace BK689 := kb BK689 hb
  replace HB := bs HB hb
  (try clear hb); (try clear hb2); (try clear hk); (try clear hi)
  refine hK.out _ _ ⟨(blk_cell BK688.out 0).trans rfl, (blk_cell BK688.out 1).trans rfl, (blk_cell BK689.out 0).trans rfl, (blk_cell BK689.out 1).trans rfl⟩ fun hHeld => nT (N := some 8) ?_
  clear hK K
  refine o0 (i := 3) (N := some 10) (bb 6 15) fun K hK => ?_
  refine gS Try.func26 #[.agg #[.bool a1_0, .slice A1_1 l1_1.length c1_1]] ?_
  with_reducible refine (big_Sign.calls k a1_0 _ _ l1_1 t691 _ ?side1 ?side2 A4.out).mono ?_
  (case side1 => exact tc (Kd.C_below HR1_1.out HB.out))
  (case side2 => exact HC1_1.out)
  rintro e w10 ⟨rfl, hb⟩
  refine ⟨_, rfl, ?_⟩
  replace BK688 := kb BK688 hb
  replace BK689 := kb BK689 hb
  replace HB := bs HB hb
  (try clear hb); (try clear hb2); (try clear hk); (try clear hi)
  refine hK.out _ _ ⟨(blk_cell BK688.out 0).trans rfl, (blk_cell BK688.out 1).trans rfl, (blk_cell BK689.out 0).trans rfl, (blk_cell BK689.out 1).trans rfl⟩ fun hHeld => nT (N := some 10) ?_
  clear hK K
  refine p0 (i := 4) (N := some 5) (bb 6 31) ?_
  refine p0 (i := 5) (N := some 6) (bb 6 63) ?_
  refine done_ (by kernel_rfl) ?_
  try go_wp2
  go_ret
  exact ⟨by first | rfl | (simp [errW_none, errW_some] <;> rfl) | (simp [*, errW_none, errW_some] <;> rfl), tb HB⟩
 ·rw [if_neg c5] at H
  have c5b0 : decide (t690 < t691) = false := decide_eq_false c5
  clear c5
  by_cases c11 : t690 > t691
  ·rw [if_pos c11] at H
   have c11b0 : decide (t691 < t690) = true := decide_eq_true c11
   clear c11
   obtain rfl := Option.some.inj H
   go_enter Try.func24, Try.ntmps24
   try go_wp2_with (first | ((with_reducible refine gate_dst (N := 2) rfl ?_); refine bx (N := 2) #[.bool a0_0, .slice A0_1 l0_1.length c0_1] 24 ?_; intro gb688 hg w12 hbox hb; have BK688 := Aside0.mk (hbox); have GW688 := bz hg HB; have GE688 := bz hg HB; replace HB := bs HB hb; clear hb hbox hg) | ((with_reducible refine gate_dst (N := 3) rfl ?_); refine bx (N := 3) #[.bool a1_0, .slice A1_1 l1_1.length c1_1] 24 ?_; intro gb689 hg w13 hbox hb; have BK689 := Aside0.mk (hbox); have GW689 := bz hg HB; have GE689 := bz hg HB; replace HB := bs HB hb; have NB688_689 := nl hg BK688; have NB689_688 := ng hg BK688; replace BK688 := kb BK688 hb; clear hb hbox hg))
   replace BK688 := Aside0.mk (blk_drew BK688.out)
   replace BK689 := Aside0.mk (blk_drew BK689.out)
   replace HB := Aside0.mk (below_drew1 HB.out)
   refine start_ (n := 6) (S := fun w' => w'.cell? ⟨gb688, 0, none⟩ = some (.bool a0_0) ∧ w'.cell? ⟨gb688, 1, none⟩ = some (.slice A0_1 l0_1.length c0_1) ∧ w'.cell? ⟨gb689, 0, none⟩ = some (.bool a1_0) ∧ w'.cell? ⟨gb689, 1, none⟩ = some (.slice A1_1 l1_1.length c1_1)) (ds := []) #[false, false, false, false, false, false] (by kernel_rfl) rfl rfl ⟨(blk_cell BK688.out 0).trans rfl, (blk_cell BK688.out 1).trans rfl, (blk_cell BK689.out 0).trans rfl, (blk_cell BK689.out 1).trans rfl⟩ (fun hHeld => ?_)
   generalize w13.drew = w14 at BK688 BK689 HB hHeld ⊢
   refine t0 (i := 0) (N := some 7) (bb 6 1) hHeld ?_
   refine t0 (i := 2) (N := some 9) (bb 6 5) hHeld ?_
   refine o0 (i := 1) (N := some 8) (bb 6 7) fun K hK => ?_
   refine gS Try.func26 #[.agg #[.bool a0_0, .slice A0_1 l0_1.length c0_1]] ?_
   with_reducible refine (big_Sign.calls k a0_0 _ _ l0_1 t690 _ ?side1 ?side2 A3.out).mono ?_
   (case side1 => exact tc (Kd.C_below HR0_1.out HB.out))
   (case side2 => exact HC0_1.out)
   rintro e w15 ⟨rfl, hb⟩
   refine ⟨_, rfl, ?_⟩
   replace BK688 := kb BK688 hb
   replace BK689 := kb BK689 hb
   replace HB := bs HB hb
   (try clear hb); (try clear hb2); (try clear hk); (try clear hi)
   refine hK.out _ _ ⟨(blk_cell BK688.out 0).trans rfl, (blk_cell BK688.out 1).trans rfl, (blk_cell BK689.out 0).trans rfl, (blk_cell BK689.out 1).trans rfl⟩ fun hHeld => nT (N := some 8) ?_
   clear hK K
   refine o0 (i := 3) (N := some 10) (bb 6 15) fun K hK => ?_
   refine gS Try.func26 #[.agg #[.bool a1_0, .slice A1_1 l1_1.length c1_1]] ?_
   with_reducible refine (big_Sign.calls k a1_0 _ _ l1_1 t691 _ ?side1 ?side2 A4.out).mono ?_
   (case side1 => exact tc (Kd.C_below HR1_1.out HB.out))
   (case side2 => exact HC1_1.out)
   rintro e w16 ⟨rfl, hb⟩
   refine ⟨_, rfl, ?_⟩
   replace BK688 := kb BK688 hb
   replace BK689 := kb BK689 hb
   replace HB := bs HB hb
   (try clear hb); (try clear hb2); (try clear hk); (try clear hi)
   refine hK.out _ _ ⟨(blk_cell BK688.out 0).trans rfl, (blk_cell BK688.out 1).trans rfl, (blk_cell BK689.out 0).trans rfl, (blk_cell BK689.out 1).trans rfl⟩ fun hHeld => nT (N := some 10) ?_
   clear hK K
   refine p0 (i := 4) (N := some 5) (bb 6 31) ?_
   refine p0 (i := 5) (N := some 6) (bb 6 63) ?_
   refine done_ (by kernel_rfl) ?_
   try go_wp2
   go_ret
   exact ⟨by first | rfl | (simp [errW_none, errW_some] <;> rfl) | (simp [*, errW_none, errW_some] <;> rfl), tb HB⟩
  ·rw [if_neg c11] at H
   have c11b0 : decide (t691 < t690) = false := decide_eq_false c11
   clear c11
   replace H := Option.bind_eq_some_iff.mp H
   obtain ⟨t692, A170, H⟩ := H
   have A17 := Aside0.mk A170
   clear A170
   obtain rfl := Option.some.inj H
   go_enter Try.func24, Try.ntmps24
   try go_wp2_with (first | ((with_reducible refine gate_dst (N := 2) rfl ?_); refine bx (N := 2) #[.bool a0_0, .slice A0_1 l0_1.length c0_1] 24 ?_; intro gb688 hg w18 hbox hb; have BK688 := Aside0.mk (hbox); have GW688 := bz hg HB; have GE688 := bz hg HB; replace HB := bs HB hb; clear hb hbox hg) | ((with_reducible refine gate_dst (N := 3) rfl ?_); refine bx (N := 3) #[.bool a1_0, .slice A1_1 l1_1.length c1_1] 24 ?_; intro gb689 hg w19 hbox hb; have BK689 := Aside0.mk (hbox); have GW689 := bz hg HB; have GE689 := bz hg HB; replace HB := bs HB hb; have NB688_689 := nl hg BK688; have NB689_688 := ng hg BK688; replace BK688 := kb BK688 hb; clear hb hbox hg))
   replace BK688 := Aside0.mk (blk_drew BK688.out)
   replace BK689 := Aside0.mk (blk_drew BK689.out)
   replace HB := Aside0.mk (below_drew1 HB.out)
   refine start_ (n := 6) (S := fun w' => w'.cell? ⟨gb688, 0, none⟩ = some (.bool a0_0) ∧ w'.cell? ⟨gb688, 1, none⟩ = some (.slice A0_1 l0_1.length c0_1) ∧ w'.cell? ⟨gb689, 0, none⟩ = some (.bool a1_0) ∧ w'.cell? ⟨gb689, 1, none⟩ = some (.slice A1_1 l1_1.length c1_1)) (ds := []) #[false, false, false, false, false, false] (by kernel_rfl) rfl rfl ⟨(blk_cell BK688.out 0).trans rfl, (blk_cell BK688.out 1).trans rfl, (blk_cell BK689.out 0).trans rfl, (blk_cell BK689.out 1).trans rfl⟩ (fun hHeld => ?_)
   generalize w19.drew = w20 at BK688 BK689 HB hHeld ⊢
   refine t0 (i := 0) (N := some 7) (bb 6 1) hHeld ?_
   refine t0 (i := 2) (N := some 9) (bb 6 5) hHeld ?_
   refine o0 (i := 1) (N := some 8) (bb 6 7) fun K hK => ?_
   refine gS Try.func26 #[.agg #[.bool a0_0, .slice A0_1 l0_1.length c0_1]] ?_
   with_reducible refine (big_Sign.calls k a0_0 _ _ l0_1 t690 _ ?side1 ?side2 A3.out).mono ?_
   (case side1 => exact tc (Kd.C_below HR0_1.out HB.out))
   (case side2 => exact HC0_1.out)
   rintro e w21 ⟨rfl, hb⟩
   refine ⟨_, rfl, ?_⟩
   replace BK688 := kb BK688 hb
   replace BK689 := kb BK689 hb
   replace HB := bs HB hb
   (try clear hb); (try clear hb2); (try clear hk); (try clear hi)
   refine hK.out _ _ ⟨(blk_cell BK688.out 0).trans rfl, (blk_cell BK688.out 1).trans rfl, (blk_cell BK689.out 0).trans rfl, (blk_cell BK689.out 1).trans rfl⟩ fun hHeld => nT (N := some 8) ?_
   clear hK K
   refine o0 (i := 3) (N := some 10) (bb 6 15) fun K hK => ?_
   refine gS Try.func26 #[.agg #[.bool a1_0, .slice A1_1 l1_1.length c1_1]] ?_
   with_reducible refine (big_Sign.calls k a1_0 _ _ l1_1 t691 _ ?side1 ?side2 A4.out).mono ?_
   (case side1 => exact tc (Kd.C_below HR1_1.out HB.out))
   (case side2 => exact HC1_1.out)
   rintro e w22 ⟨rfl, hb⟩
   refine ⟨_, rfl, ?_⟩
   replace BK688 := kb BK688 hb
   replace BK689 := kb BK689 hb
   replace HB := bs HB hb
   (try clear hb); (try clear hb2); (try clear hk); (try clear hi)
   refine hK.out _ _ ⟨(blk_cell BK688.out 0).trans rfl, (blk_cell BK688.out 1).trans rfl, (blk_cell BK689.out 0).trans rfl, (blk_cell BK689.out 1).trans rfl⟩ fun hHeld => nT (N := some 10) ?_
   clear hK K
   refine p0 (i := 4) (N := some 5) (bb 6 31) ?_
   refine p0 (i := 5) (N := some 6) (bb 6 63) ?_
   refine done_ (by kernel_rfl) ?_
   have hnb23 := NB688_689.out
   have hnc23 := NB689_688.out
   have hcz24_0 := bc BK688 0 (.bool a0_0)
   have hcz24_1 := bc BK688 1 (.slice A0_1 l0_1.length c0_1)
   have hfz24_0 := blk_frozen BK688.out 0
   have hfz24_1 := blk_frozen BK688.out 1
   have hcz25_0 := bc BK689 0 (.bool a1_0)
   have hcz25_1 := bc BK689 1 (.slice A1_1 l1_1.length c1_1)
   have hfz25_0 := blk_frozen BK689.out 0
   have hfz25_1 := blk_frozen BK689.out 1
   try go_wp2_with (first | ((with_reducible refine gate_callee (f := 65) rfl ?_); refine gL (N := some 24) Try.func65 #[.slice A0_1 l0_1.length c0_1, .slice A1_1 l1_1.length c1_1] ?_; (with_reducible refine (nat_Cmp.calls k _ _ l0_1 _ _ l1_1 t692 _ ?side1 ?side2 ?side3 ?side4 A17.out).mono ?_); (case side1 => exact tc (Kd.C_below HR0_1.out HB.out)); (case side2 => exact HC0_1.out); (case side3 => exact tc (Kd.C_below HR1_1.out HB.out)); (case side4 => exact HC1_1.out); rintro e w26 ⟨rfl, hb⟩; refine ⟨_, rfl, ?_⟩; replace HB := bs HB hb; (try clear hb); (try clear hb2); (try clear hk); (try clear hi)))
   go_ret
   exact ⟨by first | rfl | (simp [errW_none, errW_some] <;> rfl) | (simp [*, errW_none, errW_some] <;> rfl), tb HB⟩

/-! ### whetstoneref02_Cmp: function 25 -/
def whetstoneref02_Cmp.f (k : Nat) (a0_0 : Bool) (l0_1 : List Int) (a1_0 : Bool) (l1_1 : List Int) : Option (Int) := (whetstoneref02_Norm.f k a0_0 l0_1).bind fun bt695 => ((whetstoneref02_Norm.f k a1_0 l1_1).bind fun bt700 => (if (bt695.1 != bt700.1) = true then (if bt695.1 = true then (some (-1)) else (some 1)) else (if bt695.1 = true then ((whetstoneref01_Cmp.f k bt700.2 bt695.2).bind fun t705 => (some t705)) else ((whetstoneref01_Cmp.f k bt695.2 bt700.2).bind fun t706 => (some t706)))))
theorem whetstoneref02_Cmp.mono : ∀ a0 a1 a2 a3 k, LeO (whetstoneref02_Cmp.f k a0 a1 a2 a3) (whetstoneref02_Cmp.f (k + 1) a0 a1 a2 a3) := by
 intro a0 a1 a2 a3 k
 unfold whetstoneref02_Cmp.f
 repeat' first
   | (with_reducible exact whetstoneref01_Cmp.mono _ _ _)
   | (with_reducible exact whetstoneref02_Norm.mono _ _ _)
   | (with_reducible exact LeO.refl _)
   | (with_reducible exact LeO.none _)
   | (with_reducible refine LeO.ite ?_ ?_)
   | (with_reducible refine LeO.bind ?_ (fun _ => ?_))
   | exact whetstoneref01_Cmp.mono _ _ _
   | exact whetstoneref02_Norm.mono _ _ _
   | exact LeO.none _
   | refine LeO.ite ?_ ?_
   | refine LeO.bind ?_ (fun _ => ?_)
set_option maxHeartbeats 8000000 in
set_option maxRecDepth 100000 in
theorem whetstoneref02_Cmp.calls (k : Nat) (a0_0 : Bool) (A0_1 : Option Addr) (c0_1 : Nat) (l0_1 : List Int) (a1_0 : Bool) (A1_1 : Option Addr) (c1_1 : Nat) (l1_1 : List Int) (r : Int) (w : World) (hr0_1 : Kd.C (Kd.int .i64) w A0_1 l0_1.length l0_1) (hc0_1 : l0_1.length ≤ c0_1) (hr1_1 : Kd.C (Kd.int .i64) w A1_1 l1_1.length l1_1) (hc1_1 : l1_1.length ≤ c1_1) (h : whetstoneref02_Cmp.f k a0_0 l0_1 a1_0 l1_1 = some r) :
  Calls Try.prog 25 #[.agg #[.bool a0_0, .slice A0_1 l0_1.length c0_1], .agg #[.bool a1_0, .slice A1_1 l1_1.length c1_1]] w fun e w' => e = .returned (.int .i64 r) ∧ Below w.heap.size w w' := by
 have hu32 := Try.underlying32
 have HR0_1 := Aside0.mk hr0_1
 have HC0_1 := Aside0.mk hc0_1
 clear hr0_1 hc0_1
 have HR1_1 := Aside0.mk hr1_1
 have HC1_1 := Aside0.mk hc1_1
 clear hr1_1 hc1_1
 have HB := Aside0.mk (Below.refl w.heap.size w)
 have H : ((whetstoneref02_Norm.f k a0_0 l0_1).bind fun bt695 => ((whetstoneref02_Norm.f k a1_0 l1_1).bind fun bt700 => (if (bt695.1 != bt700.1) = true then (if bt695.1 = true then (some (-1)) else (some 1)) else (if bt695.1 = true then ((whetstoneref01_Cmp.f k bt700.2 bt695.2).bind fun t705 => (some t705)) else ((whetstoneref01_Cmp.f k bt695.2 bt700.2).bind fun t706 => (some t706)))))) = some r := h
 clear h
 replace H := Option.bind_eq_some_iff.mp H
 obtain ⟨⟨t695, t696⟩, A30, H⟩ := H
 try dsimp only at H
 have A3 := Aside0.mk A30
 clear A30
 replace H := Option.bind_eq_some_iff.mp H
 obtain ⟨⟨t700, t701⟩, A40, H⟩ := H
 try dsimp only at H
 have A4 := Aside0.mk A40
 clear A40
 by_cases c5 : (t695 != t700) = true
 ·rw [if_pos c5] at H
  have c5b0 : (t695 != t700) = true := c5
  (try (have c5b1 : decide (t695 = t700) = false := by simpa using c5))
  (try (have c5b2 : (t695 == t700) = false := by simpa using c5))
  (try (have c5b3 : ¬ (t695 = t700) := by simpa using c5))
  clear c5
  by_cases c6 : t695 = true
  ·subst c6
   have H1 : (some (-1)) = some r := by rw [if_pos rfl] at H; exact H
   clear H
   have H := H1
   clear H1
   obtain rfl := Option.some.inj H
   go_enter Try.func25, Try.ntmps25
   go_wp2_with (first | ((with_reducible refine gate_dst (N := 2) rfl ?_); refine bx (N := 2) #[.bool a0_0, .slice A0_1 l0_1.length c0_1] 32 ?_; intro gb693 hg w7 hbox hb; have BK693 := Aside0.mk (hbox); have GW693 := bz hg HB; have GE693 := bz hg HB; replace HB := bs HB hb; clear hb hbox hg) | ((with_reducible refine gate_dst (N := 3) rfl ?_); refine bx (N := 3) #[.bool a1_0, .slice A1_1 l1_1.length c1_1] 32 ?_; intro gb694 hg w8 hbox hb; have BK694 := Aside0.mk (hbox); have GW694 := bz hg HB; have GE694 := bz hg HB; replace HB := bs HB hb; have NB693_694 := nl hg BK693; have NB694_693 := ng hg BK693; replace BK693 := kb BK693 hb; clear hb hbox hg; have hnb9 := NB693_694.out; have hnc9 := NB694_693.out; have hcz10_0 := bc BK693 0 (.bool a0_0); have hcz10_1 := bc BK693 1 (.slice A0_1 l0_1.length c0_1); have hfz10_0 := blk_frozen BK693.out 0; have hfz10_1 := blk_frozen BK693.out 1) | ((with_reducible refine gate_callee (f := 54) rfl ?_); refine gL (N := some 8) Try.func54 #[.agg #[.bool a0_0, .slice A0_1 l0_1.length c0_1]] ?_; (with_reducible refine (whetstoneref02_Norm.calls k a0_0 _ _ l0_1 true t696 _ ?side1 ?side2 A3.out).mono ?_); (case side1 => exact tc (Kd.C_below HR0_1.out HB.out)); (case side2 => exact HC0_1.out); rintro e w11 ⟨v697, rfl, ho0, hb⟩; refine ⟨_, rfl, ?_⟩; have HO698 := rl ho0 HB; replace BK693 := kb BK693 hb; replace BK694 := kb BK694 hb; replace HB := bs HB hb; (try clear hb); (try clear hb2); (try clear hk); (try clear hi); (try clear ho0)) | ((with_reducible refine gate_dst (N := 5) rfl ?_); refine bx (N := 5) #[.bool false, .slice none 0 0] 32 ?_; intro gb699 hg w12 hbox hb; replace HO698 := rb HO698 hb; have BK699 := Aside0.mk (hbox); have GW699 := bz hg HB; have GE699 := bz hg HB; replace HB := bs HB hb; have NB693_699 := nl hg BK693; have NB699_693 := ng hg BK693; replace BK693 := kb BK693 hb; have NB694_699 := nl hg BK694; have NB699_694 := ng hg BK694; replace BK694 := kb BK694 hb; clear hb hbox hg; have hnb13 := NB699_693.out; have hnc13 := NB693_699.out; have hnb14 := NB699_694.out; have hnc14 := NB694_699.out; have hcz15_0 := bc BK699 0 (.bool false); have hcz15_1 := bc BK699 1 (.slice none 0 0); have hfz15_0 := blk_frozen BK699.out 0; have hfz15_1 := blk_frozen BK699.out 1; obtain ⟨Ao16, co16, eo16⟩ := Kd.R_slice HO698.out; subst eo16; have hcz17_0 := bc BK694 0 (.bool a1_0); have hcz17_1 := bc BK694 1 (.slice A1_1 l1_1.length c1_1); have hfz17_0 := blk_frozen BK694.out 0; have hfz17_1 := blk_frozen BK694.out 1) | ((with_reducible refine gate_callee (f := 54) rfl ?_); refine gL (N := some 10) Try.func54 #[.agg #[.bool a1_0, .slice A1_1 l1_1.length c1_1]] ?_; (with_reducible refine (whetstoneref02_Norm.calls k a1_0 _ _ l1_1 t700 t701 _ ?side1 ?side2 A4.out).mono ?_); (case side1 => exact Kd.C_below HR1_1.out (tb HB)); (case side2 => exact HC1_1.out); rintro e w18 ⟨v702, rfl, ho0, hb⟩; refine ⟨_, rfl, ?_⟩; have HO703 := Aside0.mk (Kd.R_lower (Kd.R_new' ho0 (Kd.R_lt (by (with_reducible repeat first | apply qa | apply qn | apply qd); exact (Kd.R_mono (Kd.R_far (p := ⟨gb699, 1, none⟩) (Kd.R_far (p := ⟨gb699, 0, none⟩) (Kd.R_types HO698.out BK699.out (by decide)) (fun _ hk => hk.2) (.bool true)) (fun _ hk => hk.2) (.slice Ao16 t696.length co16)) (fun _ h_ => h_.1))))) (below_size (tb HB))); replace BK693 := kb BK693 hb; replace BK694 := kb BK694 hb; replace BK699 := kb (o' := .cells #[.bool true, .slice Ao16 t696.length co16] 32 (0, 0)) BK699 hb; replace HB := bs HB hb; (try clear hb); (try clear hb2); (try clear hk); (try clear hi); (try clear ho0)) | ((with_reducible refine gate_dst (N := 6) rfl ?_); refine bx (N := 6) #[.bool false, .slice none 0 0] 32 ?_; intro gb704 hg w19 hbox hb; replace HO703 := rb HO703 hb; have BK704 := Aside0.mk (hbox); have GW704 := bz hg HB; have GE704 := bz hg HB; replace HB := bs HB hb; have NB693_704 := nl hg BK693; have NB704_693 := ng hg BK693; have NB694_704 := nl hg BK694; have NB704_694 := ng hg BK694; have NB699_704 := nl hg BK699; have NB704_699 := ng hg BK699; replace BK699 := kb BK699 hb; clear hb hbox hg; have hnb20 := NB704_693.out; have hnc20 := NB693_704.out; have hnb21 := NB704_694.out; have hnc21 := NB694_704.out; have hnb22 := NB704_699.out; have hnc22 := NB699_704.out; have hcz23_0 := bc BK704 0 (.bool false); have hcz23_1 := bc BK704 1 (.slice none 0 0); have hfz23_0 := blk_frozen BK704.out 0; have hfz23_1 := blk_frozen BK704.out 1; obtain ⟨Ao24, co24, eo24⟩ := Kd.R_slice HO703.out; subst eo24; have hcz25_0 := bc BK699 0 (.bool true); have hcz25_1 := bc BK699 1 (.slice Ao16 t696.length co16); have hfz25_0 := blk_frozen BK699.out 0; have hfz25_1 := blk_frozen BK699.out 1))
   go_ret
   exact ⟨by first | rfl | (simp [errW_none, errW_some] <;> rfl) | (simp [*, errW_none, errW_some] <;> rfl), tb HB⟩
  ·replace c6 := Bool.eq_false_iff.mpr c6
   subst c6
   have H1 : (some 1) = some r := by rw [if_neg (show ¬ (false = true) by decide)] at H; exact H
   clear H
   have H := H1
   clear H1
   obtain rfl := Option.some.inj H
   go_enter Try.func25, Try.ntmps25
   go_wp2_with (first | ((with_reducible refine gate_dst (N := 2) rfl ?_); refine bx (N := 2) #[.bool a0_0, .slice A0_1 l0_1.length c0_1] 32 ?_; intro gb693 hg w26 hbox hb; have BK693 := Aside0.mk (hbox); have GW693 := bz hg HB; have GE693 := bz hg HB; replace HB := bs HB hb; clear hb hbox hg) | ((with_reducible refine gate_dst (N := 3) rfl ?_); refine bx (N := 3) #[.bool a1_0, .slice A1_1 l1_1.length c1_1] 32 ?_; intro gb694 hg w27 hbox hb; have BK694 := Aside0.mk (hbox); have GW694 := bz hg HB; have GE694 := bz hg HB; replace HB := bs HB hb; have NB693_694 := nl hg BK693; have NB694_693 := ng hg BK693; replace BK693 := kb BK693 hb; clear hb hbox hg; have hnb28 := NB693_694.out; have hnc28 := NB694_693.out; have hcz29_0 := bc BK693 0 (.bool a0_0); have hcz29_1 := bc BK693 1 (.slice A0_1 l0_1.length c0_1); have hfz29_0 := blk_frozen BK693.out 0; have hfz29_1 := blk_frozen BK693.out 1) | ((with_reducible refine gate_callee (f := 54) rfl ?_); refine gL (N := some 8) Try.func54 #[.agg #[.bool a0_0, .slice A0_1 l0_1.length c0_1]] ?_; (with_reducible refine (whetstoneref02_Norm.calls k a0_0 _ _ l0_1 false t696 _ ?side1 ?side2 A3.out).mono ?_); (case side1 => exact tc (Kd.C_below HR0_1.out HB.out)); (case side2 => exact HC0_1.out); rintro e w30 ⟨v697, rfl, ho0, hb⟩; refine ⟨_, rfl, ?_⟩; have HO698 := rl ho0 HB; replace BK693 := kb BK693 hb; replace BK694 := kb BK694 hb; replace HB := bs HB hb; (try clear hb); (try clear hb2); (try clear hk); (try clear hi); (try clear ho0)) | ((with_reducible refine gate_dst (N := 5) rfl ?_); refine bx (N := 5) #[.bool false, .slice none 0 0] 32 ?_; intro gb699 hg w31 hbox hb; replace HO698 := rb HO698 hb; have BK699 := Aside0.mk (hbox); have GW699 := bz hg HB; have GE699 := bz hg HB; replace HB := bs HB hb; have NB693_699 := nl hg BK693; have NB699_693 := ng hg BK693; replace BK693 := kb BK693 hb; have NB694_699 := nl hg BK694; have NB699_694 := ng hg BK694; replace BK694 := kb BK694 hb; clear hb hbox hg; have hnb32 := NB699_693.out; have hnc32 := NB693_699.out; have hnb33 := NB699_694.out; have hnc33 := NB694_699.out; have hcz34_0 := bc BK699 0 (.bool false); have hcz34_1 := bc BK699 1 (.slice none 0 0); have hfz34_0 := blk_frozen BK699.out 0; have hfz34_1 := blk_frozen BK699.out 1; obtain ⟨Ao35, co35, eo35⟩ := Kd.R_slice HO698.out; subst eo35; have hcz36_0 := bc BK694 0 (.bool a1_0); have hcz36_1 := bc BK694 1 (.slice A1_1 l1_1.length c1_1); have hfz36_0 := blk_frozen BK694.out 0; have hfz36_1 := blk_frozen BK694.out 1) | ((with_reducible refine gate_callee (f := 54) rfl ?_); refine gL (N := some 10) Try.func54 #[.agg #[.bool a1_0, .slice A1_1 l1_1.length c1_1]] ?_; (with_reducible refine (whetstoneref02_Norm.calls k a1_0 _ _ l1_1 t700 t701 _ ?side1 ?side2 A4.out).mono ?_); (case side1 => exact Kd.C_below HR1_1.out (tb HB)); (case side2 => exact HC1_1.out); rintro e w37 ⟨v702, rfl, ho0, hb⟩; refine ⟨_, rfl, ?_⟩; have HO703 := Aside0.mk (Kd.R_lower (Kd.R_new' ho0 (Kd.R_lt (by (with_reducible repeat first | apply qa | apply qn | apply qd); exact (Kd.R_mono (Kd.R_far (p := ⟨gb699, 1, none⟩) (Kd.R_far (p := ⟨gb699, 0, none⟩) (Kd.R_types HO698.out BK699.out (by decide)) (fun _ hk => hk.2) (.bool false)) (fun _ hk => hk.2) (.slice Ao35 t696.length co35)) (fun _ h_ => h_.1))))) (below_size (tb HB))); replace BK693 := kb BK693 hb; replace BK694 := kb BK694 hb; replace BK699 := kb (o' := .cells #[.bool false, .slice Ao35 t696.length co35] 32 (0, 0)) BK699 hb; replace HB := bs HB hb; (try clear hb); (try clear hb2); (try clear hk); (try clear hi); (try clear ho0)) | ((with_reducible refine gate_dst (N := 6) rfl ?_); refine bx (N := 6) #[.bool false, .slice none 0 0] 32 ?_; intro gb704 hg w38 hbox hb; replace HO703 := rb HO703 hb; have BK704 := Aside0.mk (hbox); have GW704 := bz hg HB; have GE704 := bz hg HB; replace HB := bs HB hb; have NB693_704 := nl hg BK693; have NB704_693 := ng hg BK693; have NB694_704 := nl hg BK694; have NB704_694 := ng hg BK694; have NB699_704 := nl hg BK699; have NB704_699 := ng hg BK699; replace BK699 := kb BK699 hb; clear hb hbox hg; have hnb39 := NB704_693.out; have hnc39 := NB693_704.out; have hnb40 := NB704_694.out; have hnc40 := NB694_704.out; have hnb41 := NB704_699.out; have hnc41 := NB699_704.out; have hcz42_0 := bc BK704 0 (.bool false); have hcz42_1 := bc BK704 1 (.slice none 0 0); have hfz42_0 := blk_frozen BK704.out 0; have hfz42_1 := blk_frozen BK704.out 1; obtain ⟨Ao43, co43, eo43⟩ := Kd.R_slice HO703.out; subst eo43; have hcz44_0 := bc BK699 0 (.bool false); have hcz44_1 := bc BK699 1 (.slice Ao35 t696.length co35); have hfz44_0 := blk_frozen BK699.out 0; have hfz44_1 := blk_frozen BK699.out 1))
   go_ret
   exact ⟨by first | rfl | (simp [errW_none, errW_some] <;> rfl) | (simp [*, errW_none, errW_some] <;> rfl), tb HB⟩
 ·rw [if_neg c5] at H
  have c5b0 : (t695 != t700) = false := by simpa using c5
  (try (have c5b1 : decide (t695 = t700) = true := by simpa using c5))
  (try (have c5b2 : (t695 == t700) = true := by simpa using c5))
  clear c5
  by_cases c45 : t695 = true
  ·subst c45
   have H1 : ((whetstoneref01_Cmp.f k t701 t696).bind fun t705 => (some t705)) = some r := by rw [if_pos rfl] at H; exact H
   clear H
   have H := H1
   clear H1
   replace H := Option.bind_eq_some_iff.mp H
   obtain ⟨t705, A460, H⟩ := H
   have A46 := Aside0.mk A460
   clear A460
   obtain rfl := Option.some.inj H
   go_enter Try.func25, Try.ntmps25
   go_wp2_with (first | ((with_reducible refine gate_dst (N := 2) rfl ?_); refine bx (N := 2) #[.bool a0_0, .slice A0_1 l0_1.length c0_1] 32 ?_; intro gb693 hg w47 hbox hb; have BK693 := Aside0.mk (hbox); have GW693 := bz hg HB; have GE693 := bz hg HB; replace HB := bs HB hb; clear hb hbox hg) | ((with_reducible refine gate_dst (N := 3) rfl ?_); refine bx (N := 3) #[.bool a1_0, .slice A1_1 l1_1.length c1_1] 32 ?_; intro gb694 hg w48 hbox hb; have BK694 := Aside0.mk (hbox); have GW694 := bz hg HB; have GE694 := bz hg HB; replace HB := bs HB hb; have NB693_694 := nl hg BK693; have NB694_693 := ng hg BK693; replace BK693 := kb BK693 hb; clear hb hbox hg; have hnb49 := NB693_694.out; have hnc49 := NB694_693.out; have hcz50_0 := bc BK693 0 (.bool a0_0); have hcz50_1 := bc BK693 1 (.slice A0_1 l0_1.length c0_1); have hfz50_0 := blk_frozen BK693.out 0; have hfz50_1 := blk_frozen BK693.out 1) | ((with_reducible refine gate_callee (f := 54) rfl ?_); refine gL (N := some 8) Try.func54 #[.agg #[.bool a0_0, .slice A0_1 l0_1.length c0_1]] ?_; (with_reducible refine (whetstoneref02_Norm.calls k a0_0 _ _ l0_1 true t696 _ ?side1 ?side2 A3.out).mono ?_); (case side1 => exact tc (Kd.C_below HR0_1.out HB.out)); (case side2 => exact HC0_1.out); rintro e w51 ⟨v697, rfl, ho0, hb⟩; refine ⟨_, rfl, ?_⟩; have HO698 := rl ho0 HB; replace BK693 := kb BK693 hb; replace BK694 := kb BK694 hb; replace HB := bs HB hb; (try clear hb); (try clear hb2); (try clear hk); (try clear hi); (try clear ho0)) | ((with_reducible refine gate_dst (N := 5) rfl ?_); refine bx (N := 5) #[.bool false, .slice none 0 0] 32 ?_; intro gb699 hg w52 hbox hb; replace HO698 := rb HO698 hb; have BK699 := Aside0.mk (hbox); have GW699 := bz hg HB; have GE699 := bz hg HB; replace HB := bs HB hb; have NB693_699 := nl hg BK693; have NB699_693 := ng hg BK693; replace BK693 := kb BK693 hb; have NB694_699 := nl hg BK694; have NB699_694 := ng hg BK694; replace BK694 := kb BK694 hb; clear hb hbox hg; have hnb53 := NB699_693.out; have hnc53 := NB693_699.out; have hnb54 := NB699_694.out; have hnc54 := NB694_699.out; have hcz55_0 := bc BK699 0 (.bool false); have hcz55_1 := bc BK699 1 (.slice none 0 0); have hfz55_0 := blk_frozen BK699.out 0; have hfz55_1 := blk_frozen BK699.out 1; obtain ⟨Ao56, co56, eo56⟩ := Kd.R_slice HO698.out; subst eo56; have hcz57_0 := bc BK694 0 (.bool a1_0); have hcz57_1 := bc BK694 1 (.slice A1_1 l1_1.length c1_1); have hfz57_0 := blk_frozen BK694.out 0; have hfz57_1 := blk_frozen BK694.out 1) | ((with_reducible refine gate_callee (f := 54) rfl ?_); refine gL (N := some 10) Try.func54 #[.agg #[.bool a1_0, .slice A1_1 l1_1.length c1_1]] ?_; (with_reducible refine (whetstoneref02_Norm.calls k a1_0 _ _ l1_1 t700 t701 _ ?side1 ?side2 A4.out).mono ?_); (case side1 => exact Kd.C_below HR1_1.out (tb HB)); (case side2 => exact HC1_1.out); rintro e w58 ⟨v702, rfl, ho0, hb⟩; refine ⟨_, rfl, ?_⟩; have HO703 := Aside0.mk (Kd.R_lower (Kd.R_new' ho0 (Kd.R_lt (by (with_reducible repeat first | apply qa | apply qn | apply qd); exact (Kd.R_mono (Kd.R_far (p := ⟨gb699, 1, none⟩) (Kd.R_far (p := ⟨gb699, 0, none⟩) (Kd.R_types HO698.out BK699.out (by decide)) (fun _ hk => hk.2) (.bool true)) (fun _ hk => hk.2) (.slice Ao56 t696.length co56)) (fun _ h_ => h_.1))))) (below_size (tb HB))); replace HO698 := Aside0.mk (Kd.R_elder' (by (with_reducible repeat first | apply qa | apply qn | apply qd); exact (Kd.R_mono (Kd.R_far (p := ⟨gb699, 1, none⟩) (Kd.R_far (p := ⟨gb699, 0, none⟩) (Kd.R_types HO698.out BK699.out (by decide)) (fun _ hk => hk.2) (.bool true)) (fun _ hk => hk.2) (.slice Ao56 t696.length co56)) (fun _ h_ => h_.1))) (Kd.R_base ho0) hb); replace BK693 := kb BK693 hb; replace BK694 := kb BK694 hb; replace BK699 := kb (o' := .cells #[.bool true, .slice Ao56 t696.length co56] 32 (0, 0)) BK699 hb; replace HB := bs HB hb; (try clear hb); (try clear hb2); (try clear hk); (try clear hi); (try clear ho0)) | ((with_reducible refine gate_dst (N := 6) rfl ?_); refine bx (N := 6) #[.bool false, .slice none 0 0] 32 ?_; intro gb704 hg w59 hbox hb; replace HO698 := rb HO698 hb; replace HO703 := rb HO703 hb; have BK704 := Aside0.mk (hbox); have GW704 := bz hg HB; have GE704 := bz hg HB; replace HB := bs HB hb; have NB693_704 := nl hg BK693; have NB704_693 := ng hg BK693; have NB694_704 := nl hg BK694; have NB704_694 := ng hg BK694; have NB699_704 := nl hg BK699; have NB704_699 := ng hg BK699; replace BK699 := kb BK699 hb; clear hb hbox hg; have hnb60 := NB704_693.out; have hnc60 := NB693_704.out; have hnb61 := NB704_694.out; have hnc61 := NB694_704.out; have hnb62 := NB704_699.out; have hnc62 := NB699_704.out; have hcz63_0 := bc BK704 0 (.bool false); have hcz63_1 := bc BK704 1 (.slice none 0 0); have hfz63_0 := blk_frozen BK704.out 0; have hfz63_1 := blk_frozen BK704.out 1; obtain ⟨Ao64, co64, eo64⟩ := Kd.R_slice HO703.out; subst eo64; have hcz65_0 := bc BK699 0 (.bool true); have hcz65_1 := bc BK699 1 (.slice Ao56 t696.length co56); have hfz65_0 := blk_frozen BK699.out 0; have hfz65_1 := blk_frozen BK699.out 1) | ((with_reducible refine gate_callee (f := 63) rfl ?_); refine gL (N := some 24) Try.func63 #[.slice Ao64 t701.length co64, .slice Ao56 t696.length co56] ?_; (with_reducible refine (whetstoneref01_Cmp.calls k _ _ t701 _ _ t696 t705 _ ?side1 ?side2 ?side3 ?side4 A46.out).mono ?_); (case side1 => refine (Kd.R_reads' (e := 3) (base := w.heap.size) (ok := fun k_ => (True ∧ some k_ ≠ (.slice Ao56 t696.length co56 : Value).ownBlock)) (n := t701.length) (c := co64) ?_).2.2; exact (by (with_reducible repeat first | apply qa | apply qn | apply qd); exact (Kd.R_mono (Kd.R_far (p := ⟨gb704, 1, none⟩) (Kd.R_far (p := ⟨gb704, 0, none⟩) (Kd.R_types HO703.out BK704.out (by decide)) (fun _ hk => hk.2) (.bool t700)) (fun _ hk => hk.2) (.slice Ao64 t701.length co64)) (fun _ h_ => h_.1)))); (case side2 => exact (Kd.R_reads' HO703.out).2.1); (case side3 => refine (Kd.R_reads' (e := 3) (base := w.heap.size) (ok := fun k_ => (True ∧ some k_ ≠ (.slice Ao64 t701.length co64 : Value).ownBlock)) (n := t696.length) (c := co56) ?_).2.2; exact (by (with_reducible repeat first | apply qa | apply qn | apply qd); exact (Kd.R_mono (Kd.R_far (p := ⟨gb704, 1, none⟩) (Kd.R_far (p := ⟨gb704, 0, none⟩) (Kd.R_types HO698.out BK704.out (by decide)) (fun _ hk => hk.2) (.bool t700)) (fun _ hk => hk.2) (.slice Ao64 t701.length co64)) (fun _ h_ => h_.1)))); (case side4 => exact (Kd.R_reads' HO698.out).2.1); rintro e w66 ⟨rfl, hb⟩; refine ⟨_, rfl, ?_⟩; replace HB := bs HB hb; (try clear hb); (try clear hb2); (try clear hk); (try clear hi)))
   go_ret
   exact ⟨by first | rfl | (simp [errW_none, errW_some] <;> rfl) | (simp [*, errW_none, errW_some] <;> rfl), tb HB⟩
  ·replace c45 := Bool.eq_false_iff.mpr c45
   subst c45
   have H1 : ((whetstoneref01_Cmp.f k t696 t701).bind fun t706 => (some t706)) = some r := by rw [if_neg (show ¬ (false = true) by decide)] at H; exact H
   clear H
   have H := H1
   clear H1
   replace H := Option.bind_eq_some_iff.mp H
   obtain ⟨t706, A670, H⟩ := H
   have A67 := Aside0.mk A670
   clear A670
   obtain rfl := Option.some.inj H
   go_enter Try.func25, Try.ntmps25
   go_wp2_with (first | ((with_reducible refine gate_dst (N := 2) rfl ?_); refine bx (N := 2) #[.bool a0_0, .slice A0_1 l0_1.length c0_1] 32 ?_; intro gb693 hg w68 hbox hb; have BK693 := Aside0.mk (hbox); have GW693 := bz hg HB; have GE693 := bz hg HB; replace HB := bs HB hb; clear hb hbox hg) | ((with_reducible refine gate_dst (N := 3) rfl ?_); refine bx (N := 3) #[.bool a1_0, .slice A1_1 l1_1.length c1_1] 32 ?_; intro gb694 hg w69 hbox hb; have BK694 := Aside0.mk (hbox); have GW694 := bz hg HB; have GE694 := bz hg HB; replace HB := bs HB hb; have NB693_694 := nl hg BK693; have NB694_693 := ng hg BK693; replace BK693 := kb BK693 hb; clear hb hbox hg; have hnb70 := NB693_694.out; have hnc70 := NB694_693.out; have hcz71_0 := bc BK693 0 (.bool a0_0); have hcz71_1 := bc BK693 1 (.slice A0_1 l0_1.length c0_1); have hfz71_0 := blk_frozen BK693.out 0; have hfz71_1 := blk_frozen BK693.out 1) | ((with_reducible refine gate_callee (f := 54) rfl ?_); refine gL (N := some 8) Try.func54 #[.agg #[.bool a0_0, .slice A0_1 l0_1.length c0_1]] ?_; (with_reducible refine (whetstoneref02_Norm.calls k a0_0 _ _ l0_1 false t696 _ ?side1 ?side2 A3.out).mono ?_); (case side1 => exact tc (Kd.C_below HR0_1.out HB.out)); (case side2 => exact HC0_1.out); rintro e w72 ⟨v697, rfl, ho0, hb⟩; refine ⟨_, rfl, ?_⟩; have HO698 := rl ho0 HB; replace BK693 := kb BK693 hb; replace BK694 := kb BK694 hb; replace HB := bs HB hb; (try clear hb); (try clear hb2); (try clear hk); (try clear hi); (try clear ho0)) | ((with_reducible refine gate_dst (N := 5) rfl ?_); refine bx (N := 5) #[.bool false, .slice none 0 0] 32 ?_; intro gb699 hg w73 hbox hb; replace HO698 := rb HO698 hb; have BK699 := Aside0.mk (hbox); have GW699 := bz hg HB; have GE699 := bz hg HB; replace HB := bs HB hb; have NB693_699 := nl hg BK693; have NB699_693 := ng hg BK693; replace BK693 := kb BK693 hb; have NB694_699 := nl hg BK694; have NB699_694 := ng hg BK694; replace BK694 := kb BK694 hb; clear hb hbox hg; have hnb74 := NB699_693.out; have hnc74 := NB693_699.out; have hnb75 := NB699_694.out; have hnc75 := NB694_699.out; have hcz76_0 := bc BK699 0 (.bool false); have hcz76_1 := bc BK699 1 (.slice none 0 0); have hfz76_0 := blk_frozen BK699.out 0; have hfz76_1 := blk_frozen BK699.out 1; obtain ⟨Ao77, co77, eo77⟩ := Kd.R_slice HO698.out; subst eo77; have hcz78_0 := bc BK694 0 (.bool a1_0); have hcz78_1 := bc BK694 1 (.slice A1_1 l1_1.length c1_1); have hfz78_0 := blk_frozen BK694.out 0; have hfz78_1 := blk_frozen BK694.out 1) | ((with_reducible refine gate_callee (f := 54) rfl ?_); refine gL (N := some 10) Try.func54 #[.agg #[.bool a1_0, .slice A1_1 l1_1.length c1_1]] ?_; (with_reducible refine (whetstoneref02_Norm.calls k a1_0 _ _ l1_1 t700 t701 _ ?side1 ?side2 A4.out).mono ?_); (case side1 => exact Kd.C_below HR1_1.out (tb HB)); (case side2 => exact HC1_1.out); rintro e w79 ⟨v702, rfl, ho0, hb⟩; refine ⟨_, rfl, ?_⟩; have HO703 := Aside0.mk (Kd.R_lower (Kd.R_new' ho0 (Kd.R_lt (by (with_reducible repeat first | apply qa | apply qn | apply qd); exact (Kd.R_mono (Kd.R_far (p := ⟨gb699, 1, none⟩) (Kd.R_far (p := ⟨gb699, 0, none⟩) (Kd.R_types HO698.out BK699.out (by decide)) (fun _ hk => hk.2) (.bool false)) (fun _ hk => hk.2) (.slice Ao77 t696.length co77)) (fun _ h_ => h_.1))))) (below_size (tb HB))); replace HO698 := Aside0.mk (Kd.R_elder' (by (with_reducible repeat first | apply qa | apply qn | apply qd); exact (Kd.R_mono (Kd.R_far (p := ⟨gb699, 1, none⟩) (Kd.R_far (p := ⟨gb699, 0, none⟩) (Kd.R_types HO698.out BK699.out (by decide)) (fun _ hk => hk.2) (.bool false)) (fun _ hk => hk.2) (.slice Ao77 t696.length co77)) (fun _ h_ => h_.1))) (Kd.R_base ho0) hb); replace BK693 := kb BK693 hb; replace BK694 := kb BK694 hb; replace BK699 := kb (o' := .cells #[.bool false, .slice Ao77 t696.length co77] 32 (0, 0)) BK699 hb; replace HB := bs HB hb; (try clear hb); (try clear hb2); (try clear hk); (try clear hi); (try clear ho0)) | ((with_reducible refine gate_dst (N := 6) rfl ?_); refine bx (N := 6) #[.bool false, .slice none 0 0] 32 ?_; intro gb704 hg w80 hbox hb; replace HO698 := rb HO698 hb; replace HO703 := rb HO703 hb; have BK704 := Aside0.mk (hbox); have GW704 := bz hg HB; have GE704 := bz hg HB; replace HB := bs HB hb; have NB693_704 := nl hg BK693; have NB704_693 := ng hg BK693; have NB694_704 := nl hg BK694; have NB704_694 := ng hg BK694; have NB699_704 := nl hg BK699; have NB704_699 := ng hg BK699; replace BK699 := kb BK699 hb; clear hb hbox hg; have hnb81 := NB704_693.out; have hnc81 := NB693_704.out; have hnb82 := NB704_694.out; have hnc82 := NB694_704.out; have hnb83 := NB704_699.out; have hnc83 := NB699_704.out; have hcz84_0 := bc BK704 0 (.bool false); have hcz84_1 := bc BK704 1 (.slice none 0 0); have hfz84_0 := blk_frozen BK704.out 0; have hfz84_1 := blk_frozen BK704.out 1; obtain ⟨Ao85, co85, eo85⟩ := Kd.R_slice HO703.out; subst eo85; have hcz86_0 := bc BK699 0 (.bool false); have hcz86_1 := bc BK699 1 (.slice Ao77 t696.length co77); have hfz86_0 := blk_frozen BK699.out 0; have hfz86_1 := blk_frozen BK699.out 1) | ((with_reducible refine gate_callee (f := 63) rfl ?_); refine gL (N := some 29) Try.func63 #[.slice Ao77 t696.length co77, .slice Ao85 t701.length co85] ?_; (with_reducible refine (whetstoneref01_Cmp.calls k _ _ t696 _ _ t701 t706 _ ?side1 ?side2 ?side3 ?side4 A67.out).mono ?_); (case side1 => refine (Kd.R_reads' (e := 3) (base := w.heap.size) (ok := fun k_ => (True ∧ some k_ ≠ (.slice Ao85 t701.length co85 : Value).ownBlock)) (n := t696.length) (c := co77) ?_).2.2; exact (by (with_reducible repeat first | apply qa | apply qn | apply qd); exact (Kd.R_mono (Kd.R_far (p := ⟨gb704, 1, none⟩) (Kd.R_far (p := ⟨gb704, 0, none⟩) (Kd.R_types HO698.out BK704.out (by decide)) (fun _ hk => hk.2) (.bool t700)) (fun _ hk => hk.2) (.slice Ao85 t701.length co85)) (fun _ h_ => h_.1)))); (case side2 => exact (Kd.R_reads' HO698.out).2.1); (case side3 => refine (Kd.R_reads' (e := 3) (base := w.heap.size) (ok := fun k_ => (True ∧ some k_ ≠ (.slice Ao77 t696.length co77 : Value).ownBlock)) (n := t701.length) (c := co85) ?_).2.2; exact (by (with_reducible repeat first | apply qa | apply qn | apply qd); exact (Kd.R_mono (Kd.R_far (p := ⟨gb704, 1, none⟩) (Kd.R_far (p := ⟨gb704, 0, none⟩) (Kd.R_types HO703.out BK704.out (by decide)) (fun _ hk => hk.2) (.bool t700)) (fun _ hk => hk.2) (.slice Ao85 t701.length co85)) (fun _ h_ => h_.1)))); (case side4 => exact (Kd.R_reads' HO703.out).2.1); rintro e w87 ⟨rfl, hb⟩; refine ⟨_, rfl, ?_⟩; replace HB := bs HB hb; (try clear hb); (try clear hb2); (try clear hk); (try clear hi)))
   go_ret
   exact ⟨by first | rfl | (simp [errW_none, errW_some] <;> rfl) | (simp [*, errW_none, errW_some] <;> rfl), tb HB⟩

/-! ### whetstoneref02_Sign: function 27 -/
def whetstoneref02_Sign.f (k : Nat) (a0_0 : Bool) (l0_1 : List Int) : Option (Int) := (whetstoneref02_Norm.f k a0_0 l0_1).bind fun bt708 => (if (bt708.2.length : Int) = 0 then (some 0) else (if bt708.1 = true then (some (-1)) else (some 1)))
theorem whetstoneref02_Sign.mono : ∀ a0 a1 k, LeO (whetstoneref02_Sign.f k a0 a1) (whetstoneref02_Sign.f (k + 1) a0 a1) := by
 intro a0 a1 k
 unfold whetstoneref02_Sign.f
 repeat' first
   | (with_reducible exact whetstoneref02_Norm.mono _ _ _)
   | (with_reducible exact LeO.refl _)
   | (with_reducible exact LeO.none _)
   | (with_reducible refine LeO.ite ?_ ?_)
   | (with_reducible refine LeO.bind ?_ (fun _ => ?_))
   | exact whetstoneref02_Norm.mono _ _ _
   | exact LeO.none _
   | refine LeO.ite ?_ ?_
   | refine LeO.bind ?_ (fun _ => ?_)
set_option maxHeartbeats 8000000 in
set_option maxRecDepth 100000 in
theorem whetstoneref02_Sign.calls (k : Nat) (a0_0 : Bool) (A0_1 : Option Addr) (c0_1 : Nat) (l0_1 : List Int) (r : Int) (w : World) (hr0_1 : Kd.C (Kd.int .i64) w A0_1 l0_1.length l0_1) (hc0_1 : l0_1.length ≤ c0_1) (h : whetstoneref02_Sign.f k a0_0 l0_1 = some r) :
  Calls Try.prog 27 #[.agg #[.bool a0_0, .slice A0_1 l0_1.length c0_1]] w fun e w' => e = .returned (.int .i64 r) ∧ Below w.heap.size w w' := by
 have hu32 := Try.underlying32
 have HR0_1 := Aside0.mk hr0_1
 have HC0_1 := Aside0.mk hc0_1
 clear hr0_1 hc0_1
 have HB := Aside0.mk (Below.refl w.heap.size w)
 have H : ((whetstoneref02_Norm.f k a0_0 l0_1).bind fun bt708 => (if (bt708.2.length : Int) = 0 then (some 0) else (if bt708.1 = true then (some (-1)) else (some 1)))) = some r := h
 clear h
 replace H := Option.bind_eq_some_iff.mp H
 obtain ⟨⟨t708, t709⟩, A20, H⟩ := H
 try dsimp only at H
 have A2 := Aside0.mk A20
 clear A20
 by_cases c3 : (t709.length : Int) = 0
 ·rw [if_pos c3] at H
  have c3b0 : ((t709.length : Int) == 0) = true := beq_iff_eq.mpr c3
  have c3b1 : ((t709.length : Int) != 0) = false := bne_eq_false_iff_eq.mpr c3
  clear c3
  obtain rfl := Option.some.inj H
  go_enter Try.func27, Try.ntmps27
  go_wp2_with (first | ((with_reducible refine gate_dst (N := 1) rfl ?_); refine bx (N := 1) #[.bool a0_0, .slice A0_1 l0_1.length c0_1] 32 ?_; intro gb707 hg w4 hbox hb; have BK707 := Aside0.mk (hbox); have GW707 := bz hg HB; have GE707 := bz hg HB; replace HB := bs HB hb; clear hb hbox hg; have hcz5_0 := bc BK707 0 (.bool a0_0); have hcz5_1 := bc BK707 1 (.slice A0_1 l0_1.length c0_1); have hfz5_0 := blk_frozen BK707.out 0; have hfz5_1 := blk_frozen BK707.out 1) | ((with_reducible refine gate_callee (f := 54) rfl ?_); refine gL (N := some 5) Try.func54 #[.agg #[.bool a0_0, .slice A0_1 l0_1.length c0_1]] ?_; (with_reducible refine (whetstoneref02_Norm.calls k a0_0 _ _ l0_1 t708 t709 _ ?side1 ?side2 A2.out).mono ?_); (case side1 => exact tc (Kd.C_below HR0_1.out HB.out)); (case side2 => exact HC0_1.out); rintro e w6 ⟨v710, rfl, ho0, hb⟩; refine ⟨_, rfl, ?_⟩; have HO711 := rl ho0 HB; replace BK707 := kb BK707 hb; replace HB := bs HB hb; (try clear hb); (try clear hb2); (try clear hk); (try clear hi); (try clear ho0)) | ((with_reducible refine gate_dst (N := 3) rfl ?_); refine bx (N := 3) #[.bool false, .slice none 0 0] 32 ?_; intro gb712 hg w7 hbox hb; replace HO711 := rb HO711 hb; have BK712 := Aside0.mk (hbox); have GW712 := bz hg HB; have GE712 := bz hg HB; replace HB := bs HB hb; have NB707_712 := nl hg BK707; have NB712_707 := ng hg BK707; clear hb hbox hg; have hnb8 := NB712_707.out; have hnc8 := NB707_712.out; have hcz9_0 := bc BK712 0 (.bool false); have hcz9_1 := bc BK712 1 (.slice none 0 0); have hfz9_0 := blk_frozen BK712.out 0; have hfz9_1 := blk_frozen BK712.out 1; obtain ⟨Ao10, co10, eo10⟩ := Kd.R_slice HO711.out; subst eo10))
  go_ret
  exact ⟨by first | rfl | (simp [errW_none, errW_some] <;> rfl) | (simp [*, errW_none, errW_some] <;> rfl), tb HB⟩
 ·rw [if_neg c3] at H
  have c3b0 : ((t709.length : Int) == 0) = false := beq_eq_false_iff_ne.mpr c3
  have c3b1 : ((t709.length : Int) != 0) = true := bne_iff_ne.mpr c3
  have c3b2 : ¬ (t709 = []) := fun h_ => c3 (by rw [h_]; rfl)
  by_cases c11 : t708 = true
  ·subst c11
   have H1 : (some (-1)) = some r := by rw [if_pos rfl] at H; exact H
   clear H
   have H := H1
   clear H1
   obtain rfl := Option.some.inj H
   go_enter Try.func27, Try.ntmps27
   go_wp2_with (first | ((with_reducible refine gate_dst (N := 1) rfl ?_); refine bx (N := 1) #[.bool a0_0, .slice A0_1 l0_1.length c0_1] 32 ?_; intro gb707 hg w12 hbox hb; have BK707 := Aside0.mk (hbox); have GW707 := bz hg HB; have GE707 := bz hg HB; replace HB := bs HB hb; clear hb hbox hg; have hcz13_0 := bc BK707 0 (.bool a0_0); have hcz13_1 := bc BK707 1 (.slice A0_1 l0_1.length c0_1); have hfz13_0 := blk_frozen BK707.out 0; have hfz13_1 := blk_frozen BK707.out 1) | ((with_reducible refine gate_callee (f := 54) rfl ?_); refine gL (N := some 5) Try.func54 #[.agg #[.bool a0_0, .slice A0_1 l0_1.length c0_1]] ?_; (with_reducible refine (whetstoneref02_Norm.calls k a0_0 _ _ l0_1 true t709 _ ?side1 ?side2 A2.out).mono ?_); (case side1 => exact tc (Kd.C_below HR0_1.out HB.out)); (case side2 => exact HC0_1.out); rintro e w14 ⟨v710, rfl, ho0, hb⟩; refine ⟨_, rfl, ?_⟩; have HO711 := rl ho0 HB; replace BK707 := kb BK707 hb; replace HB := bs HB hb; (try clear hb); (try clear hb2); (try clear hk); (try clear hi); (try clear ho0)) | ((with_reducible refine gate_dst (N := 3) rfl ?_); refine bx (N := 3) #[.bool false, .slice none 0 0] 32 ?_; intro gb712 hg w15 hbox hb; replace HO711 := rb HO711 hb; have BK712 := Aside0.mk (hbox); have GW712 := bz hg HB; have GE712 := bz hg HB; replace HB := bs HB hb; have NB707_712 := nl hg BK707; have NB712_707 := ng hg BK707; clear hb hbox hg; have hnb16 := NB712_707.out; have hnc16 := NB707_712.out; have hcz17_0 := bc BK712 0 (.bool false); have hcz17_1 := bc BK712 1 (.slice none 0 0); have hfz17_0 := blk_frozen BK712.out 0; have hfz17_1 := blk_frozen BK712.out 1; obtain ⟨Ao18, co18, eo18⟩ := Kd.R_slice HO711.out; subst eo18))
   go_ret
   exact ⟨by first | rfl | (simp [errW_none, errW_some] <;> rfl) | (simp [*, errW_none, errW_some] <;> rfl), tb HB⟩
  ·replace c11 := Bool.eq_false_iff.mpr c11
   subst c11
   have H1 : (some 1) = some r := by rw [if_neg (show ¬ (false = true) by decide)] at H; exact H
   clear H
   have H := H1
   clear H1
   obtain rfl := Option.some.inj H
   go_enter Try.func27, Try.ntmps27
   go_wp2_with (first | ((with_reducible refine gate_dst (N := 1) rfl ?_); refine bx (N := 1) #[.bool a0_0, .slice A0_1 l0_1.length c0_1] 32 ?_; intro gb707 hg w19 hbox hb; have BK707 := Aside0.mk (hbox); have GW707 := bz hg HB; have GE707 := bz hg HB; replace HB := bs HB hb; clear hb hbox hg; have hcz20_0 := bc BK707 0 (.bool a0_0); have hcz20_1 := bc BK707 1 (.slice A0_1 l0_1.length c0_1); have hfz20_0 := blk_frozen BK707.out 0; have hfz20_1 := blk_frozen BK707.out 1) | ((with_reducible refine gate_callee (f := 54) rfl ?_); refine gL (N := some 5) Try.func54 #[.agg #[.bool a0_0, .slice A0_1 l0_1.length c0_1]] ?_; (with_reducible refine (whetstoneref02_Norm.calls k a0_0 _ _ l0_1 false t709 _ ?side1 ?side2 A2.out).mono ?_); (case side1 => exact tc (Kd.C_below HR0_1.out HB.out)); (case side2 => exact HC0_1.out); rintro e w21 ⟨v710, rfl, ho0, hb⟩; refine ⟨_, rfl, ?_⟩; have HO711 := rl ho0 HB; replace BK707 := kb BK707 hb; replace HB := bs HB hb; (try clear hb); (try clear hb2); (try clear hk); (try clear hi); (try clear ho0)) | ((with_reducible refine gate_dst (N := 3) rfl ?_); refine bx (N := 3) #[.bool false, .slice none 0 0] 32 ?_; intro gb712 hg w22 hbox hb; replace HO711 := rb HO711 hb; have BK712 := Aside0.mk (hbox); have GW712 := bz hg HB; have GE712 := bz hg HB; replace HB := bs HB hb; have NB707_712 := nl hg BK707; have NB712_707 := ng hg BK707; clear hb hbox hg; have hnb23 := NB712_707.out; have hnc23 := NB707_712.out; have hcz24_0 := bc BK712 0 (.bool false); have hcz24_1 := bc BK712 1 (.slice none 0 0); have hfz24_0 := blk_frozen BK712.out 0; have hfz24_1 := blk_frozen BK712.out 1; obtain ⟨Ao25, co25, eo25⟩ := Kd.R_slice HO711.out; subst eo25))
   go_ret
   exact ⟨by first | rfl | (simp [errW_none, errW_some] <;> rfl) | (simp [*, errW_none, errW_some] <;> rfl), tb HB⟩

/-! ### whetstoneref02_Abs: function 31 -/
def whetstoneref02_Abs.f (k : Nat) (a0_0 : Bool) (l0_1 : List Int) : Option (Bool × List Int) := (whetstoneref02_Norm.f k false l0_1).bind fun bt715 => (some (bt715.1, bt715.2))
theorem whetstoneref02_Abs.mono : ∀ a0 a1 k, LeO (whetstoneref02_Abs.f k a0 a1) (whetstoneref02_Abs.f (k + 1) a0 a1) := by
 intro a0 a1 k
 unfold whetstoneref02_Abs.f
 repeat' first
   | (with_reducible exact whetstoneref02_Norm.mono _ _ _)
   | (with_reducible exact LeO.refl _)
   | (with_reducible exact LeO.none _)
   | (with_reducible refine LeO.ite ?_ ?_)
   | (with_reducible refine LeO.bind ?_ (fun _ => ?_))
   | exact whetstoneref02_Norm.mono _ _ _
   | exact LeO.none _
   | refine LeO.ite ?_ ?_
   | refine LeO.bind ?_ (fun _ => ?_)
set_option maxHeartbeats 8000000 in
set_option maxRecDepth 100000 in
theorem whetstoneref02_Abs.calls (k : Nat) (a0_0 : Bool) (A0_1 : Option Addr) (c0_1 : Nat) (l0_1 : List Int) (r1 : Bool) (r2 : List Int) (w : World) (hr0_1 : Kd.C (Kd.int .i64) w A0_1 l0_1.length l0_1) (hc0_1 : l0_1.length ≤ c0_1) (h : whetstoneref02_Abs.f k a0_0 l0_1 = some (r1, r2)) :
  Calls Try.prog 31 #[.agg #[.bool a0_0, .slice A0_1 l0_1.length c0_1]] w fun e w' => ∃ v1_ : Value, e = .returned (.agg #[.bool r1, v1_]) ∧ Kd.R (Kd.int .i64) 3 w' w.heap.size (fun _ => True) v1_ r2 ∧ Below w.heap.size w w' := by
 have hu32 := Try.underlying32
 have HR0_1 := Aside0.mk hr0_1
 have HC0_1 := Aside0.mk hc0_1
 clear hr0_1 hc0_1
 have HB := Aside0.mk (Below.refl w.heap.size w)
 have H : ((whetstoneref02_Norm.f k false l0_1).bind fun bt715 => (some (bt715.1, bt715.2))) = some (r1, r2) := h
 clear h
 replace H := Option.bind_eq_some_iff.mp H
 obtain ⟨⟨t715, t716⟩, A20, H⟩ := H
 try dsimp only at H
 have A2 := Aside0.mk A20
 clear A20
 simp only [Option.some.injEq, Prod.mk.injEq] at H
 obtain ⟨rfl, rfl⟩ := H
 go_enter Try.func31, Try.ntmps31
 go_wp2_with (first | ((with_reducible refine gate_dst (N := 1) rfl ?_); refine bx (N := 1) #[.bool a0_0, .slice A0_1 l0_1.length c0_1] 32 ?_; intro gb713 hg w3 hbox hb; have BK713 := Aside0.mk (hbox); have GW713 := bz hg HB; have GE713 := bz hg HB; replace HB := bs HB hb; clear hb hbox hg) | ((with_reducible refine gate_dst (N := 2) rfl ?_); refine bx (N := 2) #[.bool false, .slice none 0 0] 32 ?_; intro gb714 hg w4 hbox hb; have BK714 := Aside0.mk (hbox); have GW714 := bz hg HB; have GE714 := bz hg HB; replace HB := bs HB hb; have NB713_714 := nl hg BK713; have NB714_713 := ng hg BK713; replace BK713 := kb BK713 hb; clear hb hbox hg; have hnb5 := NB713_714.out; have hnc5 := NB714_713.out; have hcz6_0 := bc BK713 0 (.bool a0_0); have hcz6_1 := bc BK713 1 (.slice A0_1 l0_1.length c0_1); have hfz6_0 := blk_frozen BK713.out 0; have hfz6_1 := blk_frozen BK713.out 1) | ((with_reducible refine gate_callee (f := 54) rfl ?_); refine gL (N := some 6) Try.func54 #[.agg #[.bool false, .slice A0_1 l0_1.length c0_1]] ?_; (with_reducible refine (whetstoneref02_Norm.calls k false _ _ l0_1 t715 t716 _ ?side1 ?side2 A2.out).mono ?_); (case side1 => exact tc (Kd.C_below HR0_1.out HB.out)); (case side2 => exact HC0_1.out); rintro e w7 ⟨v717, rfl, ho0, hb⟩; refine ⟨_, rfl, ?_⟩; have HO718 := rl ho0 HB; replace BK714 := kb BK714 hb; replace HB := bs HB hb; (try clear hb); (try clear hb2); (try clear hk); (try clear hi); (try clear ho0); have hcz8_0 := bc BK714 0 (.bool false); have hcz8_1 := bc BK714 1 (.slice none 0 0); have hfz8_0 := blk_frozen BK714.out 0; have hfz8_1 := blk_frozen BK714.out 1; obtain ⟨Ao9, co9, eo9⟩ := Kd.R_slice HO718.out; subst eo9))
 refine bodyPost_ret (results_cell_row rfl _ _ gb714 32 #[.bool t715, .slice Ao9 t716.length co9] (0, 0) _ rfl (tk BK714) Try.underlying32 rfl (by kernel_rfl)) rfl ?_
 exact ⟨_, by first | rfl | (simp [errW_none, errW_some] <;> rfl) | (simp [*, errW_none, errW_some] <;> rfl), by (with_reducible repeat first | apply qa | apply qn | apply qd); exact Kd.R_mono (Kd.R_far (p := ⟨gb714, 1, none⟩) (Kd.R_far (p := ⟨gb714, 0, none⟩) (Kd.R_types HO718.out BK714.out (by decide)) (fun _ hk => hk.2) (.bool t715)) (fun _ hk => hk.2) (.slice Ao9 t716.length co9)) (fun _ hk => trivial), tb HB⟩

/-! ### big_Norm: function 32 -/
def big_Norm.f (k : Nat) (a0_0 : Bool) (l0_1 : List Int) : Option (Bool × List Int) := (big_norm.f k a0_0 l0_1).bind fun bt721 => (some (bt721.1, bt721.2))
theorem big_Norm.mono : ∀ a0 a1 k, LeO (big_Norm.f k a0 a1) (big_Norm.f (k + 1) a0 a1) := by
 intro a0 a1 k
 unfold big_Norm.f
 repeat' first
   | (with_reducible exact big_norm.mono _ _ _)
   | (with_reducible exact LeO.refl _)
   | (with_reducible exact LeO.none _)
   | (with_reducible refine LeO.ite ?_ ?_)
   | (with_reducible refine LeO.bind ?_ (fun _ => ?_))
   | exact big_norm.mono _ _ _
   | exact LeO.none _
   | refine LeO.ite ?_ ?_
   | refine LeO.bind ?_ (fun _ => ?_)
set_option maxHeartbeats 8000000 in
set_option maxRecDepth 100000 in
theorem big_Norm.calls (k : Nat) (a0_0 : Bool) (A0_1 : Option Addr) (c0_1 : Nat) (l0_1 : List Int) (r1 : Bool) (r2 : List Int) (w : World) (hr0_1 : Kd.C (Kd.int .u32) w A0_1 l0_1.length l0_1) (hc0_1 : l0_1.length ≤ c0_1) (h : big_Norm.f k a0_0 l0_1 = some (r1, r2)) :
  Calls Try.prog 32 #[.agg #[.bool a0_0, .slice A0_1 l0_1.length c0_1]] w fun e w' => ∃ v1_ : Value, e = .returned (.agg #[.bool r1, v1_]) ∧ Kd.R (Kd.int .u32) 87 w' w.heap.size (fun _ => True) v1_ r2 ∧ Below w.heap.size w w' := by
 have hu24 := Try.underlying24
 have HR0_1 := Aside0.mk hr0_1
 have HC0_1 := Aside0.mk hc0_1
 clear hr0_1 hc0_1
 have HB := Aside0.mk (Below.refl w.heap.size w)
 have H : ((big_norm.f k a0_0 l0_1).bind fun bt721 => (some (bt721.1, bt721.2))) = some (r1, r2) := h
 clear h
 replace H := Option.bind_eq_some_iff.mp H
 obtain ⟨⟨t721, t722⟩, A20, H⟩ := H
 try dsimp only at H
 have A2 := Aside0.mk A20
 clear A20
 simp only [Option.some.injEq, Prod.mk.injEq] at H
 obtain ⟨rfl, rfl⟩ := H
 go_enter Try.func32, Try.ntmps32
 go_wp2_with (first | ((with_reducible refine gate_dst (N := 1) rfl ?_); refine bx (N := 1) #[.bool a0_0, .slice A0_1 l0_1.length c0_1] 24 ?_; intro gb719 hg w3 hbox hb; have BK719 := Aside0.mk (hbox); have GW719 := bz hg HB; have GE719 := bz hg HB; replace HB := bs HB hb; clear hb hbox hg) | ((with_reducible refine gate_dst (N := 2) rfl ?_); refine bx (N := 2) #[.bool false, .slice none 0 0] 24 ?_; intro gb720 hg w4 hbox hb; have BK720 := Aside0.mk (hbox); have GW720 := bz hg HB; have GE720 := bz hg HB; replace HB := bs HB hb; have NB719_720 := nl hg BK719; have NB720_719 := ng hg BK719; replace BK719 := kb BK719 hb; clear hb hbox hg; have hnb5 := NB719_720.out; have hnc5 := NB720_719.out; have hcz6_0 := bc BK719 0 (.bool a0_0); have hcz6_1 := bc BK719 1 (.slice A0_1 l0_1.length c0_1); have hfz6_0 := blk_frozen BK719.out 0; have hfz6_1 := blk_frozen BK719.out 1) | ((with_reducible refine gate_callee (f := 52) rfl ?_); refine gL (N := some 7) Try.func52 #[.bool a0_0, .slice A0_1 l0_1.length c0_1] ?_; (with_reducible refine (big_norm.calls k a0_0 _ _ l0_1 t721 t722 _ ?side1 ?side2 A2.out).mono ?_); (case side1 => exact tc (Kd.C_below HR0_1.out HB.out)); (case side2 => exact HC0_1.out); rintro e w7 ⟨v723, rfl, ho0, hb⟩; refine ⟨_, rfl, ?_⟩; have HO724 := rl ho0 HB; replace BK720 := kb BK720 hb; replace HB := bs HB hb; (try clear hb); (try clear hb2); (try clear hk); (try clear hi); (try clear ho0); have hcz8_0 := bc BK720 0 (.bool false); have hcz8_1 := bc BK720 1 (.slice none 0 0); have hfz8_0 := blk_frozen BK720.out 0; have hfz8_1 := blk_frozen BK720.out 1; obtain ⟨Ao9, co9, eo9⟩ := Kd.R_slice HO724.out; subst eo9))
 refine bodyPost_ret (results_cell_row rfl _ _ gb720 24 #[.bool t721, .slice Ao9 t722.length co9] (0, 0) _ rfl (tk BK720) Try.underlying24 rfl (by kernel_rfl)) rfl ?_
 exact ⟨_, by first | rfl | (simp [errW_none, errW_some] <;> rfl) | (simp [*, errW_none, errW_some] <;> rfl), by (with_reducible repeat first | apply qa | apply qn | apply qd); exact Kd.R_mono (Kd.R_far (p := ⟨gb720, 1, none⟩) (Kd.R_far (p := ⟨gb720, 0, none⟩) (Kd.R_types HO724.out BK720.out (by decide)) (fun _ hk => hk.2) (.bool t721)) (fun _ hk => hk.2) (.slice Ao9 t722.length co9)) (fun _ hk => trivial), tb HB⟩

end Go.Proofs.Ytjpnaapimnoamaa.QBigSums
