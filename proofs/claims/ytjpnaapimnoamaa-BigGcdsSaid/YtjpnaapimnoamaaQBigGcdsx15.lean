-- written by wip/wprint, a program of this session
import Derived.Test.YtjpnaapimnoamaaQBigGcdsx0
import Derived.Test.YtjpnaapimnoamaaQBigGcdsx2
import Derived.Test.YtjpnaapimnoamaaQBigGcdsx4
import Derived.Test.YtjpnaapimnoamaaQBigGcdsx9
import Derived.Test.YtjpnaapimnoamaaQBigGcdsx12
import Derived.Test.YtjpnaapimnoamaaQBigGcdsx13
namespace Go.Proofs.Ytjpnaapimnoamaa.QBigGcds
open Go.RowKit Go.Proofs.YtjpnaapimnoamaaW.PrintWords Go.Proofs.YtjpnaapimnoamaaW.PrintLast Go.Proofs.YtjpnaapimnoamaaW.PrintMore
open Go.Proofs.YtjpnaapimnoamaaW.PrintWords.Kd renaming R_alloc → qa, R_drewN → qn, R_drew → qd, V_alloc → va, V_drewN → vn, V_drew → vd
open Go.Proofs.YtjpnaapimnoamaaW.PrintWords renaming below_alloc → ba, pw_below_drewN → bn, below_drew1 → bd
attribute [local go_sem] max2_int min2_int max_two min_two max_three min_three max_four min_four   -- for this text's walks alone
set_option linter.unusedVariables false
set_option linter.unusedSimpArgs false

/-! ### big_Cmp: function 24 -/
def big_Cmp.f (k : Nat) (a0_0 : Bool) (l0_1 : List Int) (a1_0 : Bool) (l1_1 : List Int) : Option (Int) := (big_Sign.f k a0_0 l0_1).bind fun t610 => ((big_Sign.f k a1_0 l1_1).bind fun t611 => (if t610 < t611 then (some (-1)) else (if t610 > t611 then (some 1) else ((nat_Cmp.f k l0_1 l1_1).bind fun t612 => (some (wrap64 (t610 * t612)))))))
theorem big_Cmp.mono : ∀ a0 a1 a2 a3 k, LeO (big_Cmp.f k a0 a1 a2 a3) (big_Cmp.f (k + 1) a0 a1 a2 a3) := by
 intro a0 a1 a2 a3 k
 unfold big_Cmp.f
 repeat' with_reducible first | exact big_Sign.mono _ _ _ | exact nat_Cmp.mono _ _ _ | exact LeO.refl _ | exact LeO.none _ | refine LeO.ite ?_ ?_ | refine LeO.bind ?_ (fun _ => ?_)
set_option maxHeartbeats 8000000 in
set_option maxRecDepth 100000 in
theorem big_Cmp.calls (k : Nat) (a0_0 : Bool) (A0_1 : Option Addr) (c0_1 : Nat) (l0_1 : List Int) (a1_0 : Bool) (A1_1 : Option Addr) (c1_1 : Nat) (l1_1 : List Int) (r : Int) (w : World) (hr0_1 : Kd.C (Kd.int .u32) w A0_1 l0_1.length l0_1) (hc0_1 : l0_1.length ≤ c0_1) (hr1_1 : Kd.C (Kd.int .u32) w A1_1 l1_1.length l1_1) (hc1_1 : l1_1.length ≤ c1_1) (h : big_Cmp.f k a0_0 l0_1 a1_0 l1_1 = some r) :
  Calls Try.prog 24 #[.agg #[.bool a0_0, .slice A0_1 l0_1.length c0_1], .agg #[.bool a1_0, .slice A1_1 l1_1.length c1_1]] w fun e w' => e = .returned (.int .i64 r) ∧ Below w.heap.size w w' := by
 have hu24 := Try.underlying24
 have HR0_1 := Aside0.mk hr0_1
 have HC0_1 := Aside0.mk hc0_1
 clear hr0_1 hc0_1
 have HR1_1 := Aside0.mk hr1_1
 have HC1_1 := Aside0.mk hc1_1
 clear hr1_1 hc1_1
 have HB := Aside0.mk (Below.refl w.heap.size w)
 have H : ((big_Sign.f k a0_0 l0_1).bind fun t610 => ((big_Sign.f k a1_0 l1_1).bind fun t611 => (if t610 < t611 then (some (-1)) else (if t610 > t611 then (some 1) else ((nat_Cmp.f k l0_1 l1_1).bind fun t612 => (some (wrap64 (t610 * t612)))))))) = some r := h
 clear h
 replace H := bi H
 obtain ⟨t610, A30, H⟩ := H
 have A3 := Aside0.mk A30
 clear A30
 replace H := bi H
 obtain ⟨t611, A40, H⟩ := H
 have A4 := Aside0.mk A40
 clear A40
 by_cases c5 : t610 < t611
 ·rw [if_pos c5] at H
  have c5b0 : decide (t610 < t611) = true := decide_eq_true c5
  clear c5
  obtain rfl := Option.some.inj H
  go_enter Try.func24, Try.ntmps24
  try go_wp2_with (first | ((with_reducible refine gate_dst (N := 2) rfl ?_); refine bx (N := 2) #[.bool a0_0, .slice A0_1 l0_1.length c0_1] 24 ?_; intro gb608 hg w6 hbox hb; have BK608 := Aside0.mk (hbox); have GW608 := bz hg HB; have GE608 := bz hg HB; replace HB := bs HB hb; clear hb hbox hg) | ((with_reducible refine gate_dst (N := 3) rfl ?_); refine bx (N := 3) #[.bool a1_0, .slice A1_1 l1_1.length c1_1] 24 ?_; intro gb609 hg w7 hbox hb; have BK609 := Aside0.mk (hbox); have GW609 := bz hg HB; have GE609 := bz hg HB; replace HB := bs HB hb; have NB608_609 := nl hg BK608; have NB609_608 := ng hg BK608; replace BK608 := kb BK608 hb; clear hb hbox hg))
  replace BK608 := Aside0.mk (blk_drew BK608.out)
  replace BK609 := Aside0.mk (blk_drew BK609.out)
  replace HB := Aside0.mk (below_drew1 HB.out)
  refine start_ (n := 6) (S := fun w' => w'.cell? ⟨gb608, 0, none⟩ = some (.bool a0_0) ∧ w'.cell? ⟨gb608, 1, none⟩ = some (.slice A0_1 l0_1.length c0_1) ∧ w'.cell? ⟨gb609, 0, none⟩ = some (.bool a1_0) ∧ w'.cell? ⟨gb609, 1, none⟩ = some (.slice A1_1 l1_1.length c1_1)) (ds := []) #[false, false, false, false, false, false] (by kernel_rfl) rfl rfl ⟨(blk_cell BK608.out 0).trans rfl, (blk_cell BK608.out 1).trans rfl, (blk_cell BK609.out 0).trans rfl, (blk_cell BK609.out 1).trans rfl⟩ (fun hHeld => ?_)
  generalize w7.drew = w8 at BK608 BK609 HB hHeld ⊢
  refine t0 (i := 0) (N := some 7) (bb 6 1) hHeld ?_
  refine t0 (i := 2) (N := some 9) (bb 6 5) hHeld ?_
  refine o0 (i := 1) (N := some 8) (bb 6 7) fun K hK => ?_
  refine gS Try.func26 #[.agg #[.bool a0_0, .slice A0_1 l0_1.length c0_1]] ?_
  with_reducible refine (big_Sign.calls k a0_0 _ _ l0_1 t610 _ ?side1 ?side2 A3.out).mono ?_
  (case side1 => exact tc (Kd.C_below HR0_1.out HB.out))
  (case side2 => exact HC0_1.out)
  rintro e w9 ⟨rfl, hb⟩
  refine ⟨_, rfl, ?_⟩
  replace BK608 := kb BK608 hb
  replace BK609 := kb BK609 hb
  replace HB := bs HB hb
  (try clear hb); (try clear hb2); (try clear hk); (try clear hi)
  refine hK.out _ _ ⟨(blk_cell BK608.out 0).trans rfl, (blk_cell BK608.out 1).trans rfl, (blk_cell BK609.out 0).trans rfl, (blk_cell BK609.out 1).trans rfl⟩ fun hHeld => nT (N := some 8) ?_
  clear hK K
  refine o0 (i := 3) (N := some 10) (bb 6 15) fun K hK => ?_
  refine gS Try.func26 #[.agg #[.bool a1_0, .slice A1_1 l1_1.length c1_1]] ?_
  with_reducible refine (big_Sign.calls k a1_0 _ _ l1_1 t611 _ ?side1 ?side2 A4.out).mono ?_
  (case side1 => exact tc (Kd.C_below HR1_1.out HB.out))
  (case side2 => exact HC1_1.out)
  rintro e w10 ⟨rfl, hb⟩
  refine ⟨_, rfl, ?_⟩
  replace BK608 := kb BK608 hb
  replace BK609 := kb BK609 hb
  replace HB := bs HB hb
  (try clear hb); (try clear hb2); (try clear hk); (try clear hi)
  refine hK.out _ _ ⟨(blk_cell BK608.out 0).trans rfl, (blk_cell BK608.out 1).trans rfl, (blk_cell BK609.out 0).trans rfl, (blk_cell BK609.out 1).trans rfl⟩ fun hHeld => nT (N := some 10) ?_
  clear hK K
  refine p0 (i := 4) (N := some 5) (bb 6 31) ?_
  refine p0 (i := 5) (N := some 6) (bb 6 63) ?_
  refine done_ (by kernel_rfl) ?_
  try go_wp2
  go_ret
  exact ⟨by first | rfl | (simp [errW_none, errW_some] <;> rfl) | (simp [*, errW_none, errW_some] <;> rfl), tb HB⟩
 ·rw [if_neg c5] at H
  have c5b0 : decide (t610 < t611) = false := decide_eq_false c5
  clear c5
  by_cases c11 : t610 > t611
  ·rw [if_pos c11] at H
   have c11b0 : decide (t611 < t610) = true := decide_eq_true c11
   clear c11
   obtain rfl := Option.some.inj H
   go_enter Try.func24, Try.ntmps24
   try go_wp2_with (first | ((with_reducible refine gate_dst (N := 2) rfl ?_); refine bx (N := 2) #[.bool a0_0, .slice A0_1 l0_1.length c0_1] 24 ?_; intro gb608 hg w12 hbox hb; have BK608 := Aside0.mk (hbox); have GW608 := bz hg HB; have GE608 := bz hg HB; replace HB := bs HB hb; clear hb hbox hg) | ((with_reducible refine gate_dst (N := 3) rfl ?_); refine bx (N := 3) #[.bool a1_0, .slice A1_1 l1_1.length c1_1] 24 ?_; intro gb609 hg w13 hbox hb; have BK609 := Aside0.mk (hbox); have GW609 := bz hg HB; have GE609 := bz hg HB; replace HB := bs HB hb; have NB608_609 := nl hg BK608; have NB609_608 := ng hg BK608; replace BK608 := kb BK608 hb; clear hb hbox hg))
   replace BK608 := Aside0.mk (blk_drew BK608.out)
   replace BK609 := Aside0.mk (blk_drew BK609.out)
   replace HB := Aside0.mk (below_drew1 HB.out)
   refine start_ (n := 6) (S := fun w' => w'.cell? ⟨gb608, 0, none⟩ = some (.bool a0_0) ∧ w'.cell? ⟨gb608, 1, none⟩ = some (.slice A0_1 l0_1.length c0_1) ∧ w'.cell? ⟨gb609, 0, none⟩ = some (.bool a1_0) ∧ w'.cell? ⟨gb609, 1, none⟩ = some (.slice A1_1 l1_1.length c1_1)) (ds := []) #[false, false, false, false, false, false] (by kernel_rfl) rfl rfl ⟨(blk_cell BK608.out 0).trans rfl, (blk_cell BK608.out 1).trans rfl, (blk_cell BK609.out 0).trans rfl, (blk_cell BK609.out 1).trans rfl⟩ (fun hHeld => ?_)
   generalize w13.drew = w14 at BK608 BK609 HB hHeld ⊢
   refine t0 (i := 0) (N := some 7) (bb 6 1) hHeld ?_
   refine t0 (i := 2) (N := some 9) (bb 6 5) hHeld ?_
   refine o0 (i := 1) (N := some 8) (bb 6 7) fun K hK => ?_
   refine gS Try.func26 #[.agg #[.bool a0_0, .slice A0_1 l0_1.length c0_1]] ?_
   with_reducible refine (big_Sign.calls k a0_0 _ _ l0_1 t610 _ ?side1 ?side2 A3.out).mono ?_
   (case side1 => exact tc (Kd.C_below HR0_1.out HB.out))
   (case side2 => exact HC0_1.out)
   rintro e w15 ⟨rfl, hb⟩
   refine ⟨_, rfl, ?_⟩
   replace BK608 := kb BK608 hb
   replace BK609 := kb BK609 hb
   replace HB := bs HB hb
   (try clear hb); (try clear hb2); (try clear hk); (try clear hi)
   refine hK.out _ _ ⟨(blk_cell BK608.out 0).trans rfl, (blk_cell BK608.out 1).trans rfl, (blk_cell BK609.out 0).trans rfl, (blk_cell BK609.out 1).trans rfl⟩ fun hHeld => nT (N := some 8) ?_
   clear hK K
   refine o0 (i := 3) (N := some 10) (bb 6 15) fun K hK => ?_
   refine gS Try.func26 #[.agg #[.bool a1_0, .slice A1_1 l1_1.length c1_1]] ?_
   with_reducible refine (big_Sign.calls k a1_0 _ _ l1_1 t611 _ ?side1 ?side2 A4.out).mono ?_
   (case side1 => exact tc (Kd.C_below HR1_1.out HB.out))
   (case side2 => exact HC1_1.out)
   rintro e w16 ⟨rfl, hb⟩
   refine ⟨_, rfl, ?_⟩
   replace BK608 := kb BK608 hb
   replace BK609 := kb BK609 hb
   replace HB := bs HB hb
   (try clear hb); (try clear hb2); (try clear hk); (try clear hi)
   refine hK.out _ _ ⟨(blk_cell BK608.out 0).trans rfl, (blk_cell BK608.out 1).trans rfl, (blk_cell BK609.out 0).trans rfl, (blk_cell BK609.out 1).trans rfl⟩ fun hHeld => nT (N := some 10) ?_
   clear hK K
   refine p0 (i := 4) (N := some 5) (bb 6 31) ?_
   refine p0 (i := 5) (N := some 6) (bb 6 63) ?_
   refine done_ (by kernel_rfl) ?_
   try go_wp2
   go_ret
   exact ⟨by first | rfl | (simp [errW_none, errW_some] <;> rfl) | (simp [*, errW_none, errW_some] <;> rfl), tb HB⟩
  ·rw [if_neg c11] at H
   have c11b0 : decide (t611 < t610) = false := decide_eq_false c11
   clear c11
   replace H := bi H
   obtain ⟨t612, A170, H⟩ := H
   have A17 := Aside0.mk A170
   clear A170
   obtain rfl := Option.some.inj H
   go_enter Try.func24, Try.ntmps24
   try go_wp2_with (first | ((with_reducible refine gate_dst (N := 2) rfl ?_); refine bx (N := 2) #[.bool a0_0, .slice A0_1 l0_1.length c0_1] 24 ?_; intro gb608 hg w18 hbox hb; have BK608 := Aside0.mk (hbox); have GW608 := bz hg HB; have GE608 := bz hg HB; replace HB := bs HB hb; clear hb hbox hg) | ((with_reducible refine gate_dst (N := 3) rfl ?_); refine bx (N := 3) #[.bool a1_0, .slice A1_1 l1_1.length c1_1] 24 ?_; intro gb609 hg w19 hbox hb; have BK609 := Aside0.mk (hbox); have GW609 := bz hg HB; have GE609 := bz hg HB; replace HB := bs HB hb; have NB608_609 := nl hg BK608; have NB609_608 := ng hg BK608; replace BK608 := kb BK608 hb; clear hb hbox hg))
   replace BK608 := Aside0.mk (blk_drew BK608.out)
   replace BK609 := Aside0.mk (blk_drew BK609.out)
   replace HB := Aside0.mk (below_drew1 HB.out)
   refine start_ (n := 6) (S := fun w' => w'.cell? ⟨gb608, 0, none⟩ = some (.bool a0_0) ∧ w'.cell? ⟨gb608, 1, none⟩ = some (.slice A0_1 l0_1.length c0_1) ∧ w'.cell? ⟨gb609, 0, none⟩ = some (.bool a1_0) ∧ w'.cell? ⟨gb609, 1, none⟩ = some (.slice A1_1 l1_1.length c1_1)) (ds := []) #[false, false, false, false, false, false] (by kernel_rfl) rfl rfl ⟨(blk_cell BK608.out 0).trans rfl, (blk_cell BK608.out 1).trans rfl, (blk_cell BK609.out 0).trans rfl, (blk_cell BK609.out 1).trans rfl⟩ (fun hHeld => ?_)
   generalize w19.drew = w20 at BK608 BK609 HB hHeld ⊢
   refine t0 (i := 0) (N := some 7) (bb 6 1) hHeld ?_
   refine t0 (i := 2) (N := some 9) (bb 6 5) hHeld ?_
   refine o0 (i := 1) (N := some 8) (bb 6 7) fun K hK => ?_
   refine gS Try.func26 #[.agg #[.bool a0_0, .slice A0_1 l0_1.length c0_1]] ?_
   with_reducible refine (big_Sign.calls k a0_0 _ _ l0_1 t610 _ ?side1 ?side2 A3.out).mono ?_
   (case side1 => exact tc (Kd.C_below HR0_1.out HB.out))
   (case side2 => exact HC0_1.out)
   rintro e w21 ⟨rfl, hb⟩
   refine ⟨_, rfl, ?_⟩
   replace BK608 := kb BK608 hb
   replace BK609 := kb BK609 hb
   replace HB := bs HB hb
   (try clear hb); (try clear hb2); (try clear hk); (try clear hi)
   refine hK.out _ _ ⟨(blk_cell BK608.out 0).trans rfl, (blk_cell BK608.out 1).trans rfl, (blk_cell BK609.out 0).trans rfl, (blk_cell BK609.out 1).trans rfl⟩ fun hHeld => nT (N := some 8) ?_
   clear hK K
   refine o0 (i := 3) (N := some 10) (bb 6 15) fun K hK => ?_
   refine gS Try.func26 #[.agg #[.bool a1_0, .slice A1_1 l1_1.length c1_1]] ?_
   with_reducible refine (big_Sign.calls k a1_0 _ _ l1_1 t611 _ ?side1 ?side2 A4.out).mono ?_
   (case side1 => exact tc (Kd.C_below HR1_1.out HB.out))
   (case side2 => exact HC1_1.out)
   rintro e w22 ⟨rfl, hb⟩
   refine ⟨_, rfl, ?_⟩
   replace BK608 := kb BK608 hb
   replace BK609 := kb BK609 hb
   replace HB := bs HB hb
   (try clear hb); (try clear hb2); (try clear hk); (try clear hi)
   refine hK.out _ _ ⟨(blk_cell BK608.out 0).trans rfl, (blk_cell BK608.out 1).trans rfl, (blk_cell BK609.out 0).trans rfl, (blk_cell BK609.out 1).trans rfl⟩ fun hHeld => nT (N := some 10) ?_
   clear hK K
   refine p0 (i := 4) (N := some 5) (bb 6 31) ?_
   refine p0 (i := 5) (N := some 6) (bb 6 63) ?_
   refine done_ (by kernel_rfl) ?_
   have hnb23 := NB608_609.out
   have hnc23 := NB609_608.out
   have hcz24_0 := bc BK608 0 (.bool a0_0)
   have hcz24_1 := bc BK608 1 (.slice A0_1 l0_1.length c0_1)
   have hfz24_0 := blk_frozen BK608.out 0
   have hfz24_1 := blk_frozen BK608.out 1
   have hcz25_0 := bc BK609 0 (.bool a1_0)
   have hcz25_1 := bc BK609 1 (.slice A1_1 l1_1.length c1_1)
   have hfz25_0 := blk_frozen BK609.out 0
   have hfz25_1 := blk_frozen BK609.out 1
   try go_wp2_with (first | ((with_reducible refine gate_callee (f := 65) rfl ?_); refine gL (N := some 24) Try.func65 #[.slice A0_1 l0_1.length c0_1, .slice A1_1 l1_1.length c1_1] ?_; (with_reducible refine (nat_Cmp.calls k _ _ l0_1 _ _ l1_1 t612 _ ?side1 ?side2 ?side3 ?side4 A17.out).mono ?_); (case side1 => exact tc (Kd.C_below HR0_1.out HB.out)); (case side2 => exact HC0_1.out); (case side3 => exact tc (Kd.C_below HR1_1.out HB.out)); (case side4 => exact HC1_1.out); rintro e w26 ⟨rfl, hb⟩; refine ⟨_, rfl, ?_⟩; replace HB := bs HB hb; (try clear hb); (try clear hb2); (try clear hk); (try clear hi)))
   go_ret
   exact ⟨by first | rfl | (simp [errW_none, errW_some] <;> rfl) | (simp [*, errW_none, errW_some] <;> rfl), tb HB⟩

/-! ### big_Mul: function 39 -/
def big_Mul.f (k : Nat) (a0_0 : Bool) (l0_1 : List Int) (a1_0 : Bool) (l1_1 : List Int) : Option (Bool × List Int) := (nat_Mul.f k l0_1 l1_1).bind fun t616 => ((big_norm.f k (a0_0 != a1_0) t616).bind fun bt619 => (some (bt619.1, bt619.2)))
theorem big_Mul.mono : ∀ a0 a1 a2 a3 k, LeO (big_Mul.f k a0 a1 a2 a3) (big_Mul.f (k + 1) a0 a1 a2 a3) := by
 intro a0 a1 a2 a3 k
 unfold big_Mul.f
 repeat' with_reducible first | exact big_norm.mono _ _ _ | exact nat_Mul.mono _ _ _ | exact LeO.refl _ | exact LeO.none _ | refine LeO.ite ?_ ?_ | refine LeO.bind ?_ (fun _ => ?_)
def big_Mul.T1 : Bool × List (List Nat × List Nat) := (true, [([], []), ([0], [0]), ([], []), ([2], [2]), ([1, 3], [1, 3]), ([], []), ([5], [5]), ([], []), ([7], [7]), ([6, 8], [6, 8]), ([4, 9, 9], [4, 9]), ([10, 10, 0, 1, 2, 3, 4, 5, 6, 7, 8, 9, 10], [10])])
def big_Mul.B1 : List Nat := [0, 1, 0, 4, 15, 0, 32, 0, 128, 480, 1023, 2047]
theorem big_Mul.tab1 : rtab .any (opsOf Try.f39 1) = big_Mul.T1 := by kernel_rfl
theorem big_Mul.bits1 : waitsOk big_Mul.T1.2 big_Mul.B1 = true := by kernel_rfl
set_option maxHeartbeats 8000000 in
set_option maxRecDepth 100000 in
theorem big_Mul.calls (k : Nat) (a0_0 : Bool) (A0_1 : Option Addr) (c0_1 : Nat) (l0_1 : List Int) (a1_0 : Bool) (A1_1 : Option Addr) (c1_1 : Nat) (l1_1 : List Int) (r1 : Bool) (r2 : List Int) (w : World) (hr0_1 : Kd.C (Kd.int .u32) w A0_1 l0_1.length l0_1) (hc0_1 : l0_1.length ≤ c0_1) (hr1_1 : Kd.C (Kd.int .u32) w A1_1 l1_1.length l1_1) (hc1_1 : l1_1.length ≤ c1_1) (h : big_Mul.f k a0_0 l0_1 a1_0 l1_1 = some (r1, r2)) :
  Calls Try.prog 39 #[.agg #[.bool a0_0, .slice A0_1 l0_1.length c0_1], .agg #[.bool a1_0, .slice A1_1 l1_1.length c1_1]] w fun e w' => ∃ v1_ : Value, e = .returned (.agg #[.bool r1, v1_]) ∧ Kd.R (Kd.int .u32) 87 w' w.heap.size (fun _ => True) v1_ r2 ∧ Below w.heap.size w w' := by
 have hu24 := Try.underlying24
 have HR0_1 := Aside0.mk hr0_1
 have HC0_1 := Aside0.mk hc0_1
 clear hr0_1 hc0_1
 have HR1_1 := Aside0.mk hr1_1
 have HC1_1 := Aside0.mk hc1_1
 clear hr1_1 hc1_1
 have HB := Aside0.mk (Below.refl w.heap.size w)
 have H : ((nat_Mul.f k l0_1 l1_1).bind fun t616 => ((big_norm.f k (a0_0 != a1_0) t616).bind fun bt619 => (some (bt619.1, bt619.2)))) = some (r1, r2) := h
 clear h
 replace H := bi H
 obtain ⟨t616, A30, H⟩ := H
 have A3 := Aside0.mk A30
 clear A30
 replace H := bi H
 obtain ⟨⟨t619, t620⟩, A40, H⟩ := H
 try dsimp only at H
 have A4 := Aside0.mk A40
 clear A40
 simp only [Option.some.injEq, Prod.mk.injEq] at H
 obtain ⟨rfl, rfl⟩ := H
 go_enter Try.func39, Try.ntmps39
 try go_wp2_with (first | ((with_reducible refine gate_dst (N := 2) rfl ?_); refine bx (N := 2) #[.bool a0_0, .slice A0_1 l0_1.length c0_1] 24 ?_; intro gb613 hg w5 hbox hb; have BK613 := Aside0.mk (hbox); have GW613 := bz hg HB; have GE613 := bz hg HB; replace HB := bs HB hb; clear hb hbox hg) | ((with_reducible refine gate_dst (N := 3) rfl ?_); refine bx (N := 3) #[.bool a1_0, .slice A1_1 l1_1.length c1_1] 24 ?_; intro gb614 hg w6 hbox hb; have BK614 := Aside0.mk (hbox); have GW614 := bz hg HB; have GE614 := bz hg HB; replace HB := bs HB hb; have NB613_614 := nl hg BK613; have NB614_613 := ng hg BK613; replace BK613 := kb BK613 hb; clear hb hbox hg) | ((with_reducible refine gate_dst (N := 4) rfl ?_); refine bx (N := 4) #[.bool false, .slice none 0 0] 24 ?_; intro gb615 hg w7 hbox hb; have BK615 := Aside0.mk (hbox); have GW615 := bz hg HB; have GE615 := bz hg HB; replace HB := bs HB hb; have NB613_615 := nl hg BK613; have NB615_613 := ng hg BK613; replace BK613 := kb BK613 hb; have NB614_615 := nl hg BK614; have NB615_614 := ng hg BK614; replace BK614 := kb BK614 hb; clear hb hbox hg))
 replace BK613 := Aside0.mk (blk_drew BK613.out)
 replace BK614 := Aside0.mk (blk_drew BK614.out)
 replace BK615 := Aside0.mk (blk_drew BK615.out)
 replace HB := Aside0.mk (below_drew1 HB.out)
 refine start_ (n := 12) (S := fun w' => w'.cell? ⟨gb613, 0, none⟩ = some (.bool a0_0) ∧ w'.cell? ⟨gb613, 1, none⟩ = some (.slice A0_1 l0_1.length c0_1) ∧ w'.cell? ⟨gb614, 0, none⟩ = some (.bool a1_0) ∧ w'.cell? ⟨gb614, 1, none⟩ = some (.slice A1_1 l1_1.length c1_1)) (ds := []) #[false, false, false, false, false, false, false, false, false, false, false, false] (by kernel_rfl) rfl rfl ⟨(blk_cell BK613.out 0).trans rfl, (blk_cell BK613.out 1).trans rfl, (blk_cell BK614.out 0).trans rfl, (blk_cell BK614.out 1).trans rfl⟩ (fun hHeld => ?_); refine with_tabW big_Mul.tab1 big_Mul.bits1 (fun HT_ HW_ => ?_)
 generalize w7.drew = w8 at BK613 BK614 BK615 HB hHeld ⊢
 refine pT (i := 0) (N := some 5) (bb 12 1) HT_ ?_
 refine pT (i := 2) (N := some 7) (bb 12 5) HT_ ?_
 refine pT (i := 5) (N := some 10) (bb 12 37) HT_ ?_
 refine pT (i := 7) (N := some 12) (bb 12 165) HT_ ?_
 refine tW (i := 1) (N := some 6) (bb 12 167) HT_ HW_ hHeld ?_
 refine tW (i := 3) (N := some 8) (bb 12 175) HT_ HW_ hHeld ?_
 refine pT (i := 4) (N := some 9) (bb 12 191) HT_ ?_
 refine tW (i := 6) (N := some 11) (bb 12 255) HT_ HW_ hHeld ?_
 refine tW (i := 8) (N := some 13) (bb 12 511) HT_ HW_ hHeld ?_
 refine oT (i := 9) (N := some 14) (bb 12 1023) HT_ fun K hK => ?_
 refine gS Try.func70 #[.slice A0_1 l0_1.length c0_1, .slice A1_1 l1_1.length c1_1] ?_
 with_reducible refine (nat_Mul.calls k (fun k_ => k_ < w.heap.size) _ _ l0_1 (fun k_ => k_ < w.heap.size) _ _ l1_1 t616 _ ?side1 ?side2 A3.out).mono ?_
 (case side1 => exact Kd.V_mk HC0_1.out (Kd.F_below (Kd.C_F (Kd.heap_int .u32) HR0_1.out) (tb HB)))
 (case side2 => exact Kd.V_mk HC1_1.out (Kd.F_below (Kd.C_F (Kd.heap_int .u32) HR1_1.out) (tb HB)))
 rintro e w9 ⟨v617, rfl, ho0, hb⟩
 refine ⟨_, rfl, ?_⟩
 have HO618 := Aside0.mk (Kd.V_lower (Kd.V_mono (ok' := fun k_ => k_ ≠ gb613 ∧ k_ ≠ gb614 ∧ k_ ≠ gb615) ho0 (fun k_ hk_ => ⟨Or.elim hk_ (fun hs_ => Or.elim hs_ (fun hs_ => fun e_ => Nat.not_le.2 hs_ (by rw [e_]; exact GW613.out)) (fun hs_ => fun e_ => Nat.not_le.2 hs_ (by rw [e_]; exact GW613.out))) (fun hn_ => (Kd.freshB (g := gb613) (o := .cells #[.bool a0_0, .slice A0_1 l0_1.length c0_1] 24 (0, 0)) (tk BK613) k_ hn_)), Or.elim hk_ (fun hs_ => Or.elim hs_ (fun hs_ => fun e_ => Nat.not_le.2 hs_ (by rw [e_]; exact GW614.out)) (fun hs_ => fun e_ => Nat.not_le.2 hs_ (by rw [e_]; exact GW614.out))) (fun hn_ => (Kd.freshB (g := gb614) (o := .cells #[.bool a1_0, .slice A1_1 l1_1.length c1_1] 24 (0, 0)) (tk BK614) k_ hn_)), Or.elim hk_ (fun hs_ => Or.elim hs_ (fun hs_ => fun e_ => Nat.not_le.2 hs_ (by rw [e_]; exact GW615.out)) (fun hs_ => fun e_ => Nat.not_le.2 hs_ (by rw [e_]; exact GW615.out))) (fun hn_ => (Kd.freshB (g := gb615) (o := .cells #[.bool false, .slice none 0 0] 24 (0, 0)) (tk BK615) k_ hn_))⟩)) (below_size (tb HB)))
 replace BK613 := kb BK613 hb
 replace BK614 := kb BK614 hb
 replace BK615 := kb BK615 hb
 replace HB := bs HB hb
 (try clear hb); (try clear hb2); (try clear hk); (try clear hi); (try clear ho0)
 obtain ⟨Ao10, co10, eo10⟩ := Kd.V_slice HO618.out
 (first | subst eo10 | (injection eo10 with f1_ f2_ f3_; have f4_ := f1_.symm; have f5_ := f3_.symm; clear f1_ f2_ f3_; subst f4_; subst f5_))
 refine hK.out _ _ ⟨(blk_cell BK613.out 0).trans rfl, (blk_cell BK613.out 1).trans rfl, (blk_cell BK614.out 0).trans rfl, (blk_cell BK614.out 1).trans rfl⟩ fun hHeld => nT (N := some 14) ?_
 clear hK K
 refine oT (i := 10) (N := some 15) (bb 12 2047) HT_ fun K hK => ?_
 refine gS Try.func52 #[.bool (a0_0 != a1_0), .slice Ao10 t616.length co10] ?_
 with_reducible refine (big_norm.calls k (a0_0 != a1_0) _ _ t616 t619 t620 _ ?side1 ?side2 A4.out).mono ?_
 (case side1 => exact tc (Kd.V_reads' HO618.out).2.2)
 (case side2 => exact (Kd.V_reads' HO618.out).2.1)
 rintro e w11 ⟨v621, rfl, ho0, hb⟩
 refine ⟨_, rfl, ?_⟩
 have HO622 := rl ho0 HB
 replace BK613 := kb BK613 hb
 replace BK614 := kb BK614 hb
 replace BK615 := kb BK615 hb
 replace HB := bs HB hb
 (try clear hb); (try clear hb2); (try clear hk); (try clear hi); (try clear ho0)
 obtain ⟨Ao13, co13, eo13⟩ := Kd.R_slice HO622.out
 (first | subst eo13 | (injection eo13 with f1_ f2_ f3_; have f4_ := f1_.symm; have f5_ := f3_.symm; clear f1_ f2_ f3_; subst f4_; subst f5_))
 refine hK.out _ _ ⟨(blk_cell BK613.out 0).trans rfl, (blk_cell BK613.out 1).trans rfl, (blk_cell BK614.out 0).trans rfl, (blk_cell BK614.out 1).trans rfl⟩ fun hHeld => nT (N := some 15) ?_
 clear hK K
 refine oT (i := 11) (N := none) (bb 12 4095) HT_ fun K hK => ?_
 have hs12 := bc BK615 0 (.bool false)
 have hfs12 := blk_frozen BK615.out 0
 have hns12_0 := NB613_615.out
 have hns12_1 := NB614_615.out
 have hms12_0 := NB615_613.out
 have hms12_1 := NB615_614.out
 have hs14 := bc BK615 1 (.slice none 0 0)
 have hfs14 := blk_frozen BK615.out 1
 have hns14_0 := NB613_615.out
 have hns14_1 := NB614_615.out
 have hms14_0 := NB615_613.out
 have hms14_1 := NB615_614.out
 refine skip_ (w1 := ?_) (by rfl) rfl ?_ ?_
 rotate_left
 ·go_simp
  rfl
 refine hK.out _ _ ⟨((cell_far (p := ⟨gb615, _, none⟩) NB613_615.out _).trans (((cell_far (p := ⟨gb615, _, none⟩) NB613_615.out _).trans (hHeld.1)))), ((cell_far (p := ⟨gb615, _, none⟩) NB613_615.out _).trans (((cell_far (p := ⟨gb615, _, none⟩) NB613_615.out _).trans (hHeld.2.1)))), ((cell_far (p := ⟨gb615, _, none⟩) NB614_615.out _).trans (((cell_far (p := ⟨gb615, _, none⟩) NB614_615.out _).trans (hHeld.2.2.1)))), ((cell_far (p := ⟨gb615, _, none⟩) NB614_615.out _).trans (((cell_far (p := ⟨gb615, _, none⟩) NB614_615.out _).trans (hHeld.2.2.2))))⟩ (fun hHeld => ?_)
 clear hK K
 refine done_ (done_of HT_.out (by kernel_rfl)) ?_
 try go_wp2
 refine bodyPost_ret (results_cell_row rfl _ _ gb615 24 #[.bool t619, .slice Ao13 t620.length co13] (0, 0) _ rfl (tk BK615) Try.underlying24 rfl (by kernel_rfl)) rfl ?_
 exact ⟨_, by first | rfl | (simp [errW_none, errW_some] <;> rfl) | (simp [*, errW_none, errW_some] <;> rfl), by (with_reducible repeat first | apply qa | apply qn | apply qd); exact Kd.R_mono (Kd.R_far (p := ⟨gb615, 1, none⟩) (Kd.R_far (p := ⟨gb615, 0, none⟩) (Kd.R_types HO622.out BK615.out (by decide)) (fun _ hk => hk.2) (.bool t619)) (fun _ hk => hk.2) (.slice Ao13 t620.length co13)) (fun _ hk => trivial), tb HB⟩

/-! ### nat_Gcd: function 73 -/
def nat_Gcd.l0 : Nat → List Int → List Int → Option (List Int)
 | 0, _, _ => none
 | k + 1, x, y => if (y.length : Int) > 0 then ((nat_DivMod.f k x y).bind fun t => (nat_Gcd.l0 k y t.2.1)) else (some x)
def nat_Gcd.f (k : Nat) (l0 : List Int) (l1 : List Int) : Option (List Int) := (nat_Norm.f k l0).bind fun x => ((nat_Norm.f k l1).bind fun y => (nat_Gcd.l0 k x y))
theorem nat_Gcd.mono_l : ∀ k y0 y1, LeO (nat_Gcd.l0 k y0 y1) (nat_Gcd.l0 (k + 1) y0 y1)
 | 0, _, _ => fun r h => by simp [nat_Gcd.l0] at h
 | k + 1, y0, y1 => by
  have ih0 := nat_Gcd.mono_l k
  unfold nat_Gcd.l0
  exact LeO.ite (LeO.bind (nat_DivMod.mono _ _ _) (fun _ => ih0 _ _)) (LeO.refl _)
theorem nat_Gcd.mono : ∀ a0 a1 k, LeO (nat_Gcd.f k a0 a1) (nat_Gcd.f (k + 1) a0 a1) := by
 intro a0 a1 k
 unfold nat_Gcd.f
 exact LeO.bind (nat_Norm.mono _ _) (fun _ => LeO.bind (nat_Norm.mono _ _) (fun _ => nat_Gcd.mono_l _ _ _))
set_option maxHeartbeats 8000000 in
set_option maxRecDepth 100000 in
theorem nat_Gcd.calls (k : Nat) (A0 : Option Addr) (c0 : Nat) (l0 : List Int) (A1 : Option Addr) (c1 : Nat) (l1 : List Int) (r : List Int) (w : World) (hr0 : Kd.C (Kd.int .u32) w A0 l0.length l0) (hc0 : l0.length ≤ c0) (hr1 : Kd.C (Kd.int .u32) w A1 l1.length l1) (hc1 : l1.length ≤ c1) (h : nat_Gcd.f k l0 l1 = some r) :
  Calls Try.prog 73 #[.slice A0 l0.length c0, .slice A1 l1.length c1] w fun e w' => ∃ v0_ : Value, e = .returned (v0_) ∧ Kd.V (Kd.int .u32) 87 w' w.heap.size (fun k_ => w.heap.size ≤ k_) v0_ r ∧ Below w.heap.size w w' := by
 have HR0 := Aside0.mk hr0
 have HC0 := Aside0.mk hc0
 clear hr0 hc0
 have HR1 := Aside0.mk hr1
 have HC1 := Aside0.mk hc1
 clear hr1 hc1
 have HB := Aside0.mk (Below.refl w.heap.size w)
 have H : ((nat_Norm.f k l0).bind fun t423 => ((nat_Norm.f k l1).bind fun t426 => (nat_Gcd.l0 k t423 t426))) = some r := h
 clear h
 replace H := bi H
 obtain ⟨t423, A30, H⟩ := H
 have A3 := Aside0.mk A30
 clear A30
 replace H := bi H
 obtain ⟨t426, A40, H⟩ := H
 have A4 := Aside0.mk A40
 clear A40
 have H' := Aside0.mk H
 clear H
 go_enter Try.func73, Try.ntmps73
 go_wp2_with (first | ((with_reducible refine gate_callee (f := 75) rfl ?_); refine gL (N := some 11) Try.func75 #[.slice A0 l0.length c0] ?_; (with_reducible refine (nat_Norm.calls k _ _ l0 t423 _ ?side1 ?side2 A3.out).mono ?_); (case side1 => repeat (first | exact HR0.out | (with_reducible refine Kd.C_alloc ?_ _) | (with_reducible refine Kd.C_drewN ?_ _) | (with_reducible refine Kd.C_drew ?_))); (case side2 => exact HC0.out); rintro e w5 ⟨v424, rfl, ho0, hb⟩; refine ⟨_, rfl, ?_⟩; have HO425 := Aside0.mk (Kd.V_mono (Kd.R_V (base' := w.heap.size) (Kd.R_newM (M := fun k_ => w.heap.size ≤ k_) ho0 (below_size (tb HB)) (fun k_ h_ => h_))) (fun k_ h_ => h_.1)); replace HB := bs HB hb; clear hb ho0; obtain ⟨Ao5, co5, eo5⟩ := Kd.V_slice HO425.out; subst eo5) | ((with_reducible refine gate_callee (f := 75) rfl ?_); refine gL (N := some 13) Try.func75 #[.slice A1 l1.length c1] ?_; (with_reducible refine (nat_Norm.calls k _ _ l1 t426 _ ?side1 ?side2 A4.out).mono ?_); (case side1 => exact tc (Kd.C_below HR1.out HB.out)); (case side2 => exact HC1.out); rintro e w6 ⟨v427, rfl, ho0, hb⟩; refine ⟨_, rfl, ?_⟩; have HO428 := Aside0.mk (Kd.V_mono (Kd.R_V (base' := w.heap.size) (Kd.R_newM (M := fun k_ => w.heap.size ≤ k_) ho0 (below_size (tb HB)) (fun k_ h_ => h_))) (fun k_ h_ => h_.1)); replace HO425 := vb HO425 hb; replace HB := bs HB hb; clear hb ho0; obtain ⟨Ao6, co6, eo6⟩ := Kd.V_slice HO428.out; subst eo6))
 go_loopg [5, 6] k (fun kq v5 v6 w' => ∃ (x5_1 : List Int) (x6_1 : List Int), Aside0 (nat_Gcd.l0 kq x5_1 x6_1 = some r) ∧ Aside0 (kq ≤ k) ∧ Aside0 (Kd.V (Kd.int .u32) 87 w' w.heap.size (fun k_ => w.heap.size ≤ k_) v5 x5_1) ∧ Aside0 (Kd.V (Kd.int .u32) 87 w' w.heap.size (fun k_ => w.heap.size ≤ k_) v6 x6_1) ∧ Aside0 (Below w.heap.size w w'))
 case atStart => exact ⟨(t423), (t426), H', ⟨Nat.le_refl _⟩, ⟨tv HO425⟩, ⟨tv HO428⟩, ⟨tb HB⟩⟩
 case round =>
  clear H'
  obtain ⟨x5_1, x6_1, HA, HK1, HO_5, HO_6, HB⟩ := hrel
  cases gk with
  | zero => exact absurd HA.out (by simp [nat_Gcd.l0])
  | succ k1 =>
   have H := HA.out
   clear HA
   simp only [nat_Gcd.l0] at H
   by_cases c7 : (x6_1.length : Int) > 0
   ·rw [if_pos c7] at H
    have c7b0 : decide (0 < (x6_1.length : Int)) = true := decide_eq_true c7
    have c7b1 : decide (0 < x6_1.length) = true := decide_eq_true (by omega)
    clear c7
    replace H := bi H
    obtain ⟨⟨t429, t430, t431⟩, A80, H⟩ := H
    try dsimp only at H
    have A8 := Aside0.mk A80
    clear A80
    have H' := Aside0.mk H
    clear H
    obtain ⟨Ao9, co9, eo9⟩ := Kd.V_slice HO_6.out
    subst eo9
    obtain ⟨Ao10, co10, eo10⟩ := Kd.V_slice HO_5.out
    subst eo10
    go_wp2_with (first | ((with_reducible refine gate_callee (f := 67) rfl ?_); refine gL (N := some 20) Try.func67 #[.slice Ao10 x5_1.length co10, .slice Ao9 x6_1.length co9] ?_; (with_reducible refine (nat_DivMod.calls k1 (fun k_ => w.heap.size ≤ k_) _ _ x5_1 (fun k_ => w.heap.size ≤ k_) _ _ x6_1 t429 t430 t431 _ ?side1 ?side2 A8.out).mono ?_); (case side1 => (with_reducible repeat first | apply va | apply vn | apply vd); exact HO_5.out); (case side2 => (with_reducible repeat first | apply va | apply vn | apply vd); exact HO_6.out); rintro e w11 ⟨v431, v433, rfl, ho0, ho1, hb⟩; refine ⟨_, rfl, ?_⟩; have hsz := below_size (show Below w.heap.size w _ from (tb HB)); have n0_ := vb HO_5 hb; have n1_ := vb HO_6 hb; have n2_ := Aside0.mk (Kd.V_lower (Kd.V_mono (ok' := fun k_ => w.heap.size ≤ k_) ho1 (fun k_ h_ => h_.elim (fun h2_ => h2_.elim (fun h3_ => h3_) (fun h3_ => h3_)) (fun h2_ => Nat.le_trans hsz h2_))) hsz); have n3_ := bs HB hb; clear HO_5 HO_6 HB hsz; have HO_5 := n0_; have HO_6 := n1_; have HO434 := n2_; have HB := n3_; clear n0_ n1_ n2_ n3_; clear hb ho0 ho1; obtain ⟨Ao11, co11, eo11⟩ := Kd.V_slice HO434.out; subst eo11))
    go_roundg k1
    case measure => have := HK1.out; omega
    case rel => exact ⟨(x6_1), (t430), H', ⟨by have := HK1.out; omega⟩, ⟨tv HO_6⟩, ⟨tv HO434⟩, ⟨tb HB⟩⟩
   ·rw [if_neg c7] at H
    have c7b0 : decide (0 < (x6_1.length : Int)) = false := decide_eq_false c7
    have c7b1 : decide (0 < x6_1.length) = false := decide_eq_false (by omega)
    clear c7
    obtain rfl := Option.some.inj H
    obtain ⟨Ao12, co12, eo12⟩ := Kd.V_slice HO_6.out
    subst eo12
    obtain ⟨Ao13, co13, eo13⟩ := Kd.V_slice HO_5.out
    subst eo13
    go_wp2
    go_ret
    exact ⟨_, by first | rfl | (simp [errW_none, errW_some] <;> rfl) | (simp [*, errW_none, errW_some] <;> rfl), tv HO_5, tb HB⟩

/-! ### big_Gcd: function 42 -/
def big_Gcd.f (k : Nat) (a0_0 : Bool) (l0_1 : List Int) (a1_0 : Bool) (l1_1 : List Int) : Option (Bool × List Int) := (nat_Gcd.f k l0_1 l1_1).bind fun t626 => ((big_norm.f k false t626).bind fun bt629 => (some (bt629.1, bt629.2)))
theorem big_Gcd.mono : ∀ a0 a1 a2 a3 k, LeO (big_Gcd.f k a0 a1 a2 a3) (big_Gcd.f (k + 1) a0 a1 a2 a3) := by
 intro a0 a1 a2 a3 k
 unfold big_Gcd.f
 repeat' with_reducible first | exact big_norm.mono _ _ _ | exact nat_Gcd.mono _ _ _ | exact LeO.refl _ | exact LeO.none _ | refine LeO.ite ?_ ?_ | refine LeO.bind ?_ (fun _ => ?_)
set_option maxHeartbeats 8000000 in
set_option maxRecDepth 100000 in
theorem big_Gcd.calls (k : Nat) (a0_0 : Bool) (A0_1 : Option Addr) (c0_1 : Nat) (l0_1 : List Int) (a1_0 : Bool) (A1_1 : Option Addr) (c1_1 : Nat) (l1_1 : List Int) (r1 : Bool) (r2 : List Int) (w : World) (hr0_1 : Kd.C (Kd.int .u32) w A0_1 l0_1.length l0_1) (hc0_1 : l0_1.length ≤ c0_1) (hr1_1 : Kd.C (Kd.int .u32) w A1_1 l1_1.length l1_1) (hc1_1 : l1_1.length ≤ c1_1) (h : big_Gcd.f k a0_0 l0_1 a1_0 l1_1 = some (r1, r2)) :
  Calls Try.prog 42 #[.agg #[.bool a0_0, .slice A0_1 l0_1.length c0_1], .agg #[.bool a1_0, .slice A1_1 l1_1.length c1_1]] w fun e w' => ∃ v1_ : Value, e = .returned (.agg #[.bool r1, v1_]) ∧ Kd.R (Kd.int .u32) 87 w' w.heap.size (fun _ => True) v1_ r2 ∧ Below w.heap.size w w' := by
 have hu24 := Try.underlying24
 have HR0_1 := Aside0.mk hr0_1
 have HC0_1 := Aside0.mk hc0_1
 clear hr0_1 hc0_1
 have HR1_1 := Aside0.mk hr1_1
 have HC1_1 := Aside0.mk hc1_1
 clear hr1_1 hc1_1
 have HB := Aside0.mk (Below.refl w.heap.size w)
 have H : ((nat_Gcd.f k l0_1 l1_1).bind fun t626 => ((big_norm.f k false t626).bind fun bt629 => (some (bt629.1, bt629.2)))) = some (r1, r2) := h
 clear h
 replace H := bi H
 obtain ⟨t626, A30, H⟩ := H
 have A3 := Aside0.mk A30
 clear A30
 replace H := bi H
 obtain ⟨⟨t629, t630⟩, A40, H⟩ := H
 try dsimp only at H
 have A4 := Aside0.mk A40
 clear A40
 simp only [Option.some.injEq, Prod.mk.injEq] at H
 obtain ⟨rfl, rfl⟩ := H
 go_enter Try.func42, Try.ntmps42
 go_wp2_with (first | ((with_reducible refine gate_dst (N := 2) rfl ?_); refine bx (N := 2) #[.bool a0_0, .slice A0_1 l0_1.length c0_1] 24 ?_; intro gb623 hg w5 hbox hb; have BK623 := Aside0.mk (hbox); have GW623 := bz hg HB; have GE623 := bz hg HB; replace HB := bs HB hb; clear hb hbox hg) | ((with_reducible refine gate_dst (N := 3) rfl ?_); refine bx (N := 3) #[.bool a1_0, .slice A1_1 l1_1.length c1_1] 24 ?_; intro gb624 hg w6 hbox hb; have BK624 := Aside0.mk (hbox); have GW624 := bz hg HB; have GE624 := bz hg HB; replace HB := bs HB hb; have NB623_624 := nl hg BK623; have NB624_623 := ng hg BK623; replace BK623 := kb BK623 hb; clear hb hbox hg) | ((with_reducible refine gate_dst (N := 4) rfl ?_); refine bx (N := 4) #[.bool false, .slice none 0 0] 24 ?_; intro gb625 hg w7 hbox hb; have BK625 := Aside0.mk (hbox); have GW625 := bz hg HB; have GE625 := bz hg HB; replace HB := bs HB hb; have NB623_625 := nl hg BK623; have NB625_623 := ng hg BK623; replace BK623 := kb BK623 hb; have NB624_625 := nl hg BK624; have NB625_624 := ng hg BK624; replace BK624 := kb BK624 hb; clear hb hbox hg; have hnb8 := NB623_624.out; have hnc8 := NB624_623.out; have hnb9 := NB623_625.out; have hnc9 := NB625_623.out; have hcz10_0 := bc BK623 0 (.bool a0_0); have hcz10_1 := bc BK623 1 (.slice A0_1 l0_1.length c0_1); have hfz10_0 := blk_frozen BK623.out 0; have hfz10_1 := blk_frozen BK623.out 1; have hnb11 := NB624_625.out; have hnc11 := NB625_624.out; have hcz12_0 := bc BK624 0 (.bool a1_0); have hcz12_1 := bc BK624 1 (.slice A1_1 l1_1.length c1_1); have hfz12_0 := blk_frozen BK624.out 0; have hfz12_1 := blk_frozen BK624.out 1) | ((with_reducible refine gate_callee (f := 73) rfl ?_); refine gL (N := some 9) Try.func73 #[.slice A0_1 l0_1.length c0_1, .slice A1_1 l1_1.length c1_1] ?_; (with_reducible refine (nat_Gcd.calls k _ _ l0_1 _ _ l1_1 t626 _ ?side1 ?side2 ?side3 ?side4 A3.out).mono ?_); (case side1 => exact tc (Kd.C_below HR0_1.out HB.out)); (case side2 => exact HC0_1.out); (case side3 => exact tc (Kd.C_below HR1_1.out HB.out)); (case side4 => exact HC1_1.out); rintro e w13 ⟨v627, rfl, ho0, hb⟩; refine ⟨_, rfl, ?_⟩; have HO628 := Aside0.mk (Kd.V_lower (Kd.V_mono (ok' := fun k_ => k_ ≠ gb623 ∧ k_ ≠ gb624 ∧ k_ ≠ gb625) ho0 (fun k_ hk_ => ⟨(Kd.freshB (g := gb623) (o := .cells #[.bool a0_0, .slice A0_1 l0_1.length c0_1] 24 (0, 0)) (tk BK623) k_ hk_), (Kd.freshB (g := gb624) (o := .cells #[.bool a1_0, .slice A1_1 l1_1.length c1_1] 24 (0, 0)) (tk BK624) k_ hk_), (Kd.freshB (g := gb625) (o := .cells #[.bool false, .slice none 0 0] 24 (0, 0)) (tk BK625) k_ hk_)⟩)) (below_size (tb HB))); replace BK625 := kb BK625 hb; replace HB := bs HB hb; (try clear hb); (try clear hb2); (try clear hk); (try clear hi); (try clear ho0); obtain ⟨Ao14, co14, eo14⟩ := Kd.V_slice HO628.out; subst eo14) | ((with_reducible refine gate_callee (f := 52) rfl ?_); refine gL (N := some 10) Try.func52 #[.bool false, .slice Ao14 t626.length co14] ?_; (with_reducible refine (big_norm.calls k false _ _ t626 t629 t630 _ ?side1 ?side2 A4.out).mono ?_); (case side1 => exact tc (Kd.V_reads' HO628.out).2.2); (case side2 => exact (Kd.V_reads' HO628.out).2.1); rintro e w15 ⟨v631, rfl, ho0, hb⟩; refine ⟨_, rfl, ?_⟩; have HO632 := rl ho0 HB; replace BK625 := kb BK625 hb; replace HB := bs HB hb; (try clear hb); (try clear hb2); (try clear hk); (try clear hi); (try clear ho0); have hcz16_0 := bc BK625 0 (.bool false); have hcz16_1 := bc BK625 1 (.slice none 0 0); have hfz16_0 := blk_frozen BK625.out 0; have hfz16_1 := blk_frozen BK625.out 1; obtain ⟨Ao17, co17, eo17⟩ := Kd.R_slice HO632.out; subst eo17))
 refine bodyPost_ret (results_cell_row rfl _ _ gb625 24 #[.bool t629, .slice Ao17 t630.length co17] (0, 0) _ rfl (tk BK625) Try.underlying24 rfl (by kernel_rfl)) rfl ?_
 exact ⟨_, by first | rfl | (simp [errW_none, errW_some] <;> rfl) | (simp [*, errW_none, errW_some] <;> rfl), by (with_reducible repeat first | apply qa | apply qn | apply qd); exact Kd.R_mono (Kd.R_far (p := ⟨gb625, 1, none⟩) (Kd.R_far (p := ⟨gb625, 0, none⟩) (Kd.R_types HO632.out BK625.out (by decide)) (fun _ hk => hk.2) (.bool t629)) (fun _ hk => hk.2) (.slice Ao17 t630.length co17)) (fun _ hk => trivial), tb HB⟩

/-! ### big_Divides: function 44 -/
def big_Divides.f (k : Nat) (a0_0 : Bool) (l0_1 : List Int) (a1_0 : Bool) (l1_1 : List Int) : Option (Bool) := (big_Sign.f k a0_0 l0_1).bind fun t635 => (if t635 = 0 then ((big_Sign.f k a1_0 l1_1).bind fun t636 => (some (t636 == 0))) else ((big_DivMod.f k a1_0 l1_1 a0_0 l0_1).bind fun bt637 => ((big_Sign.f k bt637.2.2.1 bt637.2.2.2.1).bind fun t648 => (some (t648 == 0)))))
theorem big_Divides.mono : ∀ a0 a1 a2 a3 k, LeO (big_Divides.f k a0 a1 a2 a3) (big_Divides.f (k + 1) a0 a1 a2 a3) := by
 intro a0 a1 a2 a3 k
 unfold big_Divides.f
 repeat' with_reducible first | exact big_DivMod.mono _ _ _ _ _ | exact big_Sign.mono _ _ _ | exact LeO.refl _ | exact LeO.none _ | refine LeO.ite ?_ ?_ | refine LeO.bind ?_ (fun _ => ?_)
set_option maxHeartbeats 8000000 in
set_option maxRecDepth 100000 in
theorem big_Divides.calls (k : Nat) (a0_0 : Bool) (A0_1 : Option Addr) (c0_1 : Nat) (l0_1 : List Int) (a1_0 : Bool) (A1_1 : Option Addr) (c1_1 : Nat) (l1_1 : List Int) (r : Bool) (w : World) (hr0_1 : Kd.C (Kd.int .u32) w A0_1 l0_1.length l0_1) (hc0_1 : l0_1.length ≤ c0_1) (hr1_1 : Kd.C (Kd.int .u32) w A1_1 l1_1.length l1_1) (hc1_1 : l1_1.length ≤ c1_1) (h : big_Divides.f k a0_0 l0_1 a1_0 l1_1 = some r) :
  Calls Try.prog 44 #[.agg #[.bool a0_0, .slice A0_1 l0_1.length c0_1], .agg #[.bool a1_0, .slice A1_1 l1_1.length c1_1]] w fun e w' => e = .returned (.bool r) ∧ Below w.heap.size w w' := by
 have hu24 := Try.underlying24
 have HR0_1 := Aside0.mk hr0_1
 have HC0_1 := Aside0.mk hc0_1
 clear hr0_1 hc0_1
 have HR1_1 := Aside0.mk hr1_1
 have HC1_1 := Aside0.mk hc1_1
 clear hr1_1 hc1_1
 have HB := Aside0.mk (Below.refl w.heap.size w)
 have H : ((big_Sign.f k a0_0 l0_1).bind fun t635 => (if t635 = 0 then ((big_Sign.f k a1_0 l1_1).bind fun t636 => (some (t636 == 0))) else ((big_DivMod.f k a1_0 l1_1 a0_0 l0_1).bind fun bt637 => ((big_Sign.f k bt637.2.2.1 bt637.2.2.2.1).bind fun t648 => (some (t648 == 0)))))) = some r := h
 clear h
 replace H := bi H
 obtain ⟨t635, A30, H⟩ := H
 have A3 := Aside0.mk A30
 clear A30
 by_cases c4 : t635 = 0
 ·rw [if_pos c4] at H
  have c4b0 : (t635 == 0) = true := beq_iff_eq.mpr c4
  have c4b1 : (t635 != 0) = false := bne_eq_false_iff_eq.mpr c4
  clear c4
  replace H := bi H
  obtain ⟨t636, A50, H⟩ := H
  have A5 := Aside0.mk A50
  clear A50
  obtain rfl := Option.some.inj H
  go_enter Try.func44, Try.ntmps44
  go_wp2_with (first | ((with_reducible refine gate_dst (N := 2) rfl ?_); refine bx (N := 2) #[.bool a0_0, .slice A0_1 l0_1.length c0_1] 24 ?_; intro gb633 hg w6 hbox hb; have BK633 := Aside0.mk (hbox); have GW633 := bz hg HB; have GE633 := bz hg HB; replace HB := bs HB hb; clear hb hbox hg) | ((with_reducible refine gate_dst (N := 3) rfl ?_); refine bx (N := 3) #[.bool a1_0, .slice A1_1 l1_1.length c1_1] 24 ?_; intro gb634 hg w7 hbox hb; have BK634 := Aside0.mk (hbox); have GW634 := bz hg HB; have GE634 := bz hg HB; replace HB := bs HB hb; have NB633_634 := nl hg BK633; have NB634_633 := ng hg BK633; replace BK633 := kb BK633 hb; clear hb hbox hg; have hnb8 := NB633_634.out; have hnc8 := NB634_633.out; have hcz9_0 := bc BK633 0 (.bool a0_0); have hcz9_1 := bc BK633 1 (.slice A0_1 l0_1.length c0_1); have hfz9_0 := blk_frozen BK633.out 0; have hfz9_1 := blk_frozen BK633.out 1) | ((with_reducible refine gate_callee (f := 26) rfl ?_); refine gL (N := some 9) Try.func26 #[.agg #[.bool a0_0, .slice A0_1 l0_1.length c0_1]] ?_; (with_reducible refine (big_Sign.calls k a0_0 _ _ l0_1 t635 _ ?side1 ?side2 A3.out).mono ?_); (case side1 => exact tc (Kd.C_below HR0_1.out HB.out)); (case side2 => exact HC0_1.out); rintro e w10 ⟨rfl, hb⟩; refine ⟨_, rfl, ?_⟩; replace BK634 := kb BK634 hb; replace HB := bs HB hb; (try clear hb); (try clear hb2); (try clear hk); (try clear hi); have hcz11_0 := bc BK634 0 (.bool a1_0); have hcz11_1 := bc BK634 1 (.slice A1_1 l1_1.length c1_1); have hfz11_0 := blk_frozen BK634.out 0; have hfz11_1 := blk_frozen BK634.out 1) | ((with_reducible refine gate_callee (f := 26) rfl ?_); refine gL (N := some 12) Try.func26 #[.agg #[.bool a1_0, .slice A1_1 l1_1.length c1_1]] ?_; (with_reducible refine (big_Sign.calls k a1_0 _ _ l1_1 t636 _ ?side1 ?side2 A5.out).mono ?_); (case side1 => exact tc (Kd.C_below HR1_1.out HB.out)); (case side2 => exact HC1_1.out); rintro e w12 ⟨rfl, hb⟩; refine ⟨_, rfl, ?_⟩; replace HB := bs HB hb; (try clear hb); (try clear hb2); (try clear hk); (try clear hi)))
  go_ret
  exact ⟨by first | rfl | (simp [errW_none, errW_some] <;> rfl) | (simp [*, errW_none, errW_some] <;> rfl), tb HB⟩
 ·rw [if_neg c4] at H
  have c4b0 : (t635 == 0) = false := beq_eq_false_iff_ne.mpr c4
  have c4b1 : (t635 != 0) = true := bne_iff_ne.mpr c4
  replace H := bi H
  obtain ⟨⟨t637, t638, t641, t642, t645⟩, A130, H⟩ := H
  try dsimp only at H
  have A13 := Aside0.mk A130
  clear A130
  replace H := bi H
  obtain ⟨t648, A140, H⟩ := H
  have A14 := Aside0.mk A140
  clear A140
  obtain rfl := Option.some.inj H
  go_enter Try.func44, Try.ntmps44
  go_wp2_with (first | ((with_reducible refine gate_dst (N := 2) rfl ?_); refine bx (N := 2) #[.bool a0_0, .slice A0_1 l0_1.length c0_1] 24 ?_; intro gb633 hg w15 hbox hb; have BK633 := Aside0.mk (hbox); have GW633 := bz hg HB; have GE633 := bz hg HB; replace HB := bs HB hb; clear hb hbox hg) | ((with_reducible refine gate_dst (N := 3) rfl ?_); refine bx (N := 3) #[.bool a1_0, .slice A1_1 l1_1.length c1_1] 24 ?_; intro gb634 hg w16 hbox hb; have BK634 := Aside0.mk (hbox); have GW634 := bz hg HB; have GE634 := bz hg HB; replace HB := bs HB hb; have NB633_634 := nl hg BK633; have NB634_633 := ng hg BK633; replace BK633 := kb BK633 hb; clear hb hbox hg; have hnb17 := NB633_634.out; have hnc17 := NB634_633.out; have hcz18_0 := bc BK633 0 (.bool a0_0); have hcz18_1 := bc BK633 1 (.slice A0_1 l0_1.length c0_1); have hfz18_0 := blk_frozen BK633.out 0; have hfz18_1 := blk_frozen BK633.out 1) | ((with_reducible refine gate_callee (f := 26) rfl ?_); refine gL (N := some 9) Try.func26 #[.agg #[.bool a0_0, .slice A0_1 l0_1.length c0_1]] ?_; (with_reducible refine (big_Sign.calls k a0_0 _ _ l0_1 t635 _ ?side1 ?side2 A3.out).mono ?_); (case side1 => exact tc (Kd.C_below HR0_1.out HB.out)); (case side2 => exact HC0_1.out); rintro e w19 ⟨rfl, hb⟩; refine ⟨_, rfl, ?_⟩; replace BK633 := kb BK633 hb; replace BK634 := kb BK634 hb; replace HB := bs HB hb; (try clear hb); (try clear hb2); (try clear hk); (try clear hi); have hcz20_0 := bc BK634 0 (.bool a1_0); have hcz20_1 := bc BK634 1 (.slice A1_1 l1_1.length c1_1); have hfz20_0 := blk_frozen BK634.out 0; have hfz20_1 := blk_frozen BK634.out 1; have hcz21_0 := bc BK633 0 (.bool a0_0); have hcz21_1 := bc BK633 1 (.slice A0_1 l0_1.length c0_1); have hfz21_0 := blk_frozen BK633.out 0; have hfz21_1 := blk_frozen BK633.out 1) | ((with_reducible refine gate_callee (f := 33) rfl ?_); refine gL (N := some 17) Try.func33 #[.agg #[.bool a1_0, .slice A1_1 l1_1.length c1_1], .agg #[.bool a0_0, .slice A0_1 l0_1.length c0_1]] ?_; (with_reducible refine (big_DivMod.calls k a1_0 _ _ l1_1 a0_0 _ _ l0_1 t637 t638 t641 t642 t645 _ ?side1 ?side2 ?side3 ?side4 A13.out).mono ?_); (case side1 => exact tc (Kd.C_below HR1_1.out HB.out)); (case side2 => exact HC1_1.out); (case side3 => exact tc (Kd.C_below HR0_1.out HB.out)); (case side4 => exact HC0_1.out); rintro e w22 ⟨v639, v643, rfl, ho0, ho1, hb⟩; refine ⟨_, rfl, ?_⟩; have HO640 := rl ho0 HB; have HO644 := rl ho1 HB; replace BK633 := kb BK633 hb; replace BK634 := kb BK634 hb; replace HB := bs HB hb; (try clear hb); (try clear hb2); (try clear hk); (try clear hi); (try clear ho0); (try clear ho1)) | ((with_reducible refine gate_dst (N := 5) rfl ?_); refine bx (N := 5) #[.bool false, .slice none 0 0] 24 ?_; intro gb646 hg w23 hbox hb; replace HO640 := rb HO640 hb; replace HO644 := rb HO644 hb; have BK646 := Aside0.mk (hbox); have GW646 := bz hg HB; have GE646 := bz hg HB; replace HB := bs HB hb; have NB633_646 := nl hg BK633; have NB646_633 := ng hg BK633; replace BK633 := kb BK633 hb; have NB634_646 := nl hg BK634; have NB646_634 := ng hg BK634; replace BK634 := kb BK634 hb; clear hb hbox hg) | ((with_reducible refine gate_dst (N := 6) rfl ?_); refine bx (N := 6) #[.bool false, .slice none 0 0] 24 ?_; intro gb647 hg w24 hbox hb; replace HO640 := rb HO640 hb; replace HO644 := rb HO644 hb; have BK647 := Aside0.mk (hbox); have GW647 := bz hg HB; have GE647 := bz hg HB; replace HB := bs HB hb; have NB633_647 := nl hg BK633; have NB647_633 := ng hg BK633; have NB634_647 := nl hg BK634; have NB647_634 := ng hg BK634; have NB646_647 := nl hg BK646; have NB647_646 := ng hg BK646; replace BK646 := kb BK646 hb; clear hb hbox hg; have hnb25 := NB646_633.out; have hnc25 := NB633_646.out; have hnb26 := NB646_634.out; have hnc26 := NB634_646.out; have hnb27 := NB646_647.out; have hnc27 := NB647_646.out; have hcz28_0 := bc BK646 0 (.bool false); have hcz28_1 := bc BK646 1 (.slice none 0 0); have hfz28_0 := blk_frozen BK646.out 0; have hfz28_1 := blk_frozen BK646.out 1; obtain ⟨Ao29, co29, eo29⟩ := Kd.R_slice HO640.out; subst eo29; have hnb30 := NB647_633.out; have hnc30 := NB633_647.out; have hnb31 := NB647_634.out; have hnc31 := NB634_647.out; have hcz32_0 := bc BK647 0 (.bool false); have hcz32_1 := bc BK647 1 (.slice none 0 0); have hfz32_0 := blk_frozen BK647.out 0; have hfz32_1 := blk_frozen BK647.out 1; obtain ⟨Ao33, co33, eo33⟩ := Kd.R_slice HO644.out; subst eo33) | ((with_reducible refine gate_callee (f := 26) rfl ?_); refine gL (N := some 22) Try.func26 #[.agg #[.bool t641, .slice Ao33 t642.length co33]] ?_; (with_reducible refine (big_Sign.calls k t641 _ _ t642 t648 _ ?side1 ?side2 A14.out).mono ?_); (case side1 => refine (Kd.R_reads' (e := 87) (base := w.heap.size) (ok := fun k_ => some k_ ≠ (.slice Ao29 t638.length co29 : Value).ownBlock) (n := t642.length) (c := co33) ?_).2.2; exact (by (with_reducible repeat first | apply qa | apply qn | apply qd); exact (Kd.R_mono (Kd.R_mono (Kd.R_far (p := ⟨gb647, 1, none⟩) (Kd.R_far (p := ⟨gb647, 0, none⟩) (Kd.R_far (p := ⟨gb646, 1, none⟩) (Kd.R_far (p := ⟨gb646, 0, none⟩) (Kd.R_types (Kd.R_types HO644.out BK646.out (by decide)) BK647.out (by decide)) (fun _ hk => hk.1.2) (.bool t637)) (fun _ hk => hk.1.2) (.slice Ao29 t638.length co29)) (fun _ hk => hk.2) (.bool t641)) (fun _ hk => hk.2) (.slice Ao33 t642.length co33)) (fun _ h_ => h_.1)) (fun _ h_ => h_.1)))); (case side2 => exact (Kd.R_reads' HO644.out).2.1); rintro e w34 ⟨rfl, hb⟩; refine ⟨_, rfl, ?_⟩; replace HB := bs HB hb; (try clear hb); (try clear hb2); (try clear hk); (try clear hi)))
  go_ret
  exact ⟨by first | rfl | (simp [errW_none, errW_some] <;> rfl) | (simp [*, errW_none, errW_some] <;> rfl), tb HB⟩

end Go.Proofs.Ytjpnaapimnoamaa.QBigGcds
