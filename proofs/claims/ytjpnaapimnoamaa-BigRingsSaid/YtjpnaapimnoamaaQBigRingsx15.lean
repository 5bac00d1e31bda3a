-- written by wip/wprint, a program of this session
import Derived.Test.YtjpnaapimnoamaaQBigRingsx0
import Derived.Test.YtjpnaapimnoamaaQBigRingsx2
import Derived.Test.YtjpnaapimnoamaaQBigRingsx4
import Derived.Test.YtjpnaapimnoamaaQBigRingsx9
namespace Go.Proofs.Ytjpnaapimnoamaa.QBigRings
open Go.RowKit Go.Proofs.YtjpnaapimnoamaaW.PrintWords Go.Proofs.YtjpnaapimnoamaaW.PrintLast Go.Proofs.YtjpnaapimnoamaaW.PrintMore
open Go.Proofs.YtjpnaapimnoamaaW.PrintWords.Kd renaming R_alloc → qa, R_drewN → qn, R_drew → qd, V_alloc → va, V_drewN → vn, V_drew → vd
open Go.Proofs.YtjpnaapimnoamaaW.PrintWords renaming below_alloc → ba, pw_below_drewN → bn, below_drew1 → bd
attribute [local go_sem] max2_int min2_int max_two min_two max_three min_three max_four min_four   -- for this text's walks alone
set_option linter.unusedVariables false
set_option linter.unusedSimpArgs false

/-! ### big_Cmp: function 24 -/
def big_Cmp.f (k : Nat) (a0_0 : Bool) (l0_1 : List Int) (a1_0 : Bool) (l1_1 : List Int) : Option (Int) := (big_Sign.f k a0_0 l0_1).bind fun t611 => ((big_Sign.f k a1_0 l1_1).bind fun t612 => (if t611 < t612 then (some (-1)) else (if t611 > t612 then (some 1) else ((nat_Cmp.f k l0_1 l1_1).bind fun t613 => (some (wrap64 (t611 * t613)))))))
theorem big_Cmp.mono : ∀ a0 a1 a2 a3 k, LeO (big_Cmp.f k a0 a1 a2 a3) (big_Cmp.f (k + 1) a0 a1 a2 a3) := by
 intro a0 a1 a2 a3 k
 unfold big_Cmp.f
 repeat' first
   | (with_reducible exact big_Sign.mono _ _ _)
   | (with_reducible exact nat_Cmp.mono _ _ _)
   | (with_reducible exact LeO.refl _)
   | (with_reducible exact LeO.none _)
   | (with_reducible refine LeO.ite ?_ ?_)
   | (with_reducible refine LeO.bind ?_ (fun _ => ?_))
   | exact big_Sign.mono _ _ _
   | exact nat_Cmp.mono _ _ _
   | exact LeO.none _
   | refine LeO.ite ?_ ?_
   | refine LeO.bind ?_ (fun _ => ?_)
set_option maxHeartbeats 8000000 in
set_option maxRecDepth 100000 in
theorem big_Cmp.calls (k : Nat) (a0_0 : Bool) (A0_1 : Option Addr) (c0_1 : Nat) (l0_1 : List Int) (a1_0 : Bool) (A1_1 : Option Addr) (c1_1 : Nat) (l1_1 : List Int) (r : Int) (w : World) (hr0_1 : Kd.C (Kd.int .u32) w A0_1 l0_1.length l0_1) (hc0_1 : l0_1.length ≤ c0_1) (hr1_1 : Kd.C (Kd.int .u32) w A1_1 l1_1.length l1_1) (hc1_1 : l1_1.length ≤ c1_1) (h : big_Cmp.f k a0_0 l0_1 a1_0 l1_1 = some r) :
  Calls Try.prog 24 #[.agg #[.bool a0_0, .slice A0_1 l0_1.length c0_1], .agg #[.bool a1_0, .slice A1_1 l1_1.length c1_1]] w fun e w' => e = .returned (.int .i64 r) ∧ Below w.heap.size w w' := by
 have hu24 := Try.underlying24
 have HR0_1 := Aside0.mk hr0_1
 have HC0_1 := Aside0.mk hc0_1
 clear hr0_1 hc0_1
 have HR1_1 := Aside0.mk hr1_1
 have HC1_1 := Aside0.mk hc1_1
 clear hr1_1 hc1_1
 have HB := Aside0.mk (Below.refl w.heap.size w)
 have H : ((big_Sign.f k a0_0 l0_1).bind fun t611 => ((big_Sign.f k a1_0 l1_1).bind fun t612 => (if t611 < t612 then (some (-1)) else (if t611 > t612 then (some 1) else ((nat_Cmp.f k l0_1 l1_1).bind fun t613 => (some (wrap64 (t611 * t613)))))))) = some r := h
 clear h
 replace H := Option.bind_eq_some_iff.mp H
 obtain ⟨t611, A30, H⟩ := H
 have A3 := Aside0.mk A30
 clear A30
 replace H := Option.bind_eq_some_iff.mp H
 obtain ⟨t612, A40, H⟩ := H
 have A4 := Aside0.mk A40
 clear A40
 by_cases c5 : t611 < t612
 ·rw [if_pos c5] at H
  have c5b0 : decide (t611 < t612) = true := decide_eq_true c5
  clear c5
  obtain rfl := Option.some.inj H
  go_enter Try.func24, Try.ntmps24
  try go_wp2_with (first | ((with_reducible refine gate_dst (N := 2) rfl ?_); refine bx (N := 2) #[.bool a0_0, .slice A0_1 l0_1.length c0_1] 24 ?_; intro gb609 hg w6 hbox hb; have BK609 := Aside0.mk (hbox); have GW609 := bz hg HB; have GE609 := bz hg HB; replace HB := bs HB hb; clear hb hbox hg) | ((with_reducible refine gate_dst (N := 3) rfl ?_); refine bx (N := 3) #[.bool a1_0, .slice A1_1 l1_1.length c1_1] 24 ?_; intro gb610 hg w7 hbox hb; have BK610 := Aside0.mk (hbox); have GW610 := bz hg HB; have GE610 := bz hg HB; replace HB := bs HB hb; have NB609_610 := nl hg BK609; have NB610_609 := ng hg BK609; replace BK609 := kb BK609 hb; clear hb hbox hg))
  replace BK609 := Aside0.mk (blk_drew BK609.out)
  replace BK610 := Aside0.mk (blk_drew BK610.out)
  replace HB := Aside0.mk (below_drew1 HB.out)
  refine start_ (n := 6) (S := fun w' => w'.cell? ⟨gb609, 0, none⟩ = some (.bool a0_0) ∧ w'.cell? ⟨gb609, 1, none⟩ = some (.slice A0_1 l0_1.length c0_1) ∧ w'.cell? ⟨gb610, 0, none⟩ = some (.bool a1_0) ∧ w'.cell? ⟨gb610, 1, none⟩ = some (.slice A1_1 l1_1.length c1_1)) (ds := []) #[false, false, false, false, false, false] (by kernel_rfl) rfl rfl ⟨(blk_cell BK609.out 0).trans rfl, (blk_cell BK609.out 1).trans rfl, (blk_cell BK610.out 0).trans rfl, (blk_cell BK610.out 1).trans rfl⟩ (fun hHeld => ?_)
  generalize w7.drew = w8 at BK609 BK610 HB hHeld ⊢
  refine t0 (i := 0) (N := some 7) (bb 6 1) hHeld ?_
  refine t0 (i := 2) (N := some 9) (bb 6 5) hHeld ?_
  refine o0 (i := 1) (N := some 8) (bb 6 7) fun K hK => ?_
  refine gS Try.func26 #[.agg #[.bool a0_0, .slice A0_1 l0_1.length c0_1]] ?_
  with_reducible refine (big_Sign.calls k a0_0 _ _ l0_1 t611 _ ?side1 ?side2 A3.out).mono ?_
  (case side1 => exact tc (Kd.C_below HR0_1.out HB.out))
  (case side2 => exact HC0_1.out)
  rintro e w9 ⟨rfl, hb⟩
  refine ⟨_, rfl, ?_⟩
  replace BK609 := kb BK609 hb
  replace BK610 := kb BK610 hb
  replace HB := bs HB hb
  (try clear hb); (try clear hb2); (try clear hk); (try clear hi)
  refine hK.out _ _ ⟨(blk_cell BK609.out 0).trans rfl, (blk_cell BK609.out 1).trans rfl, (blk_cell BK610.out 0).trans rfl, (blk_cell BK610.out 1).trans rfl⟩ fun hHeld => nT (N := some 8) ?_
  clear hK K
  refine o0 (i := 3) (N := some 10) (bb 6 15) fun K hK => ?_
  refine gS Try.func26 #[.agg #[.bool a1_0, .slice A1_1 l1_1.length c1_1]] ?_
  with_reducible refine (big_Sign.calls k a1_0 _ _ l1_1 t612 _ ?side1 ?side2 A4.out).mono ?_
  (case side1 => exact tc (Kd.C_below HR1_1.out HB.out))
  (case side2 => exact HC1_1.out)
  rintro e w10 ⟨rfl, hb⟩
  refine ⟨_, rfl, ?_⟩
  replace BK609 := kb BK609 hb
  replace BK610 := kb BK610 hb
  replace HB := bs HB hb
  (try clear hb); (try clear hb2); (try clear hk); (try clear hi)
  refine hK.out _ _ ⟨(blk_cell BK609.out 0).trans rfl, (blk_cell BK609.out 1).trans rfl, (blk_cell BK610.out 0).trans rfl, (blk_cell BK610.out 1).trans rfl⟩ fun hHeld => nT (N := some 10) ?_
  clear hK K
  refine p0 (i := 4) (N := some 5) (bb 6 31) ?_
  refine p0 (i := 5) (N := some 6) (bb 6 63) ?_
  refine done_ (by kernel_rfl) ?_
  try go_wp2
  go_ret
  exact ⟨by first | rfl | (simp [errW_none, errW_some] <;> rfl) | (simp [*, errW_none, errW_some] <;> rfl), tb HB⟩
 ·rw [if_neg c5] at H
  have c5b0 : decide (t611 < t612) = false := decide_eq_false c5
  clear c5
  by_cases c11 : t611 > t612
  ·rw [if_pos c11] at H
   have c11b0 : decide (t612 < t611) = true := decide_eq_true c11
   clear c11
   obtain rfl := Option.some.inj H
   go_enter Try.func24, Try.ntmps24
   try go_wp2_with (first | ((with_reducible refine gate_dst (N := 2) rfl ?_); refine bx (N := 2) #[.bool a0_0, .slice A0_1 l0_1.length c0_1] 24 ?_; intro gb609 hg w12 hbox hb; have BK609 := Aside0.mk (hbox); have GW609 := bz hg HB; have GE609 := bz hg HB; replace HB := bs HB hb; clear hb hbox hg) | ((with_reducible refine gate_dst (N := 3) rfl ?_); refine bx (N := 3) #[.bool a1_0, .slice A1_1 l1_1.length c1_1] 24 ?_; intro gb610 hg w13 hbox hb; have BK610 := Aside0.mk (hbox); have GW610 := bz hg HB; have GE610 := bz hg HB; replace HB := bs HB hb; have NB609_610 := nl hg BK609; have NB610_609 := ng hg BK609; replace BK609 := kb BK609 hb; clear hb hbox hg))
   replace BK609 := Aside0.mk (blk_drew BK609.out)
   replace BK610 := Aside0.mk (blk_drew BK610.out)
   replace HB := Aside0.mk (below_drew1 HB.out)
   refine start_ (n := 6) (S := fun w' => w'.cell? ⟨gb609, 0, none⟩ = some (.bool a0_0) ∧ w'.cell? ⟨gb609, 1, none⟩ = some (.slice A0_1 l0_1.length c0_1) ∧ w'.cell? ⟨gb610, 0, none⟩ = some (.bool a1_0) ∧ w'.cell? ⟨gb610, 1, none⟩ = some (.slice A1_1 l1_1.length c1_1)) (ds := []) #[false, false, false, false, false, false] (by kernel_rfl) rfl rfl ⟨(blk_cell BK609.out 0).trans rfl, (blk_cell BK609.out 1).trans rfl, (blk_cell BK610.out 0).trans rfl, (blk_cell BK610.out 1).trans rfl⟩ (fun hHeld => ?_)
   generalize w13.drew = w14 at BK609 BK610 HB hHeld ⊢
   refine t0 (i := 0) (N := some 7) (bb 6 1) hHeld ?_
   refine t0 (i := 2) (N := some 9) (bb 6 5) hHeld ?_
   refine o0 (i := 1) (N := some 8) (bb 6 7) fun K hK => ?_
   refine gS Try.func26 #[.agg #[.bool a0_0, .slice A0_1 l0_1.length c0_1]] ?_
   with_reducible refine (big_Sign.calls k a0_0 _ _ l0_1 t611 _ ?side1 ?side2 A3.out).mono ?_
   (case side1 => exact tc (Kd.C_below HR0_1.out HB.out))
   (case side2 => exact HC0_1.out)
   rintro e w15 ⟨rfl, hb⟩
   refine ⟨_, rfl, ?_⟩
   replace BK609 := kb BK609 hb
   replace BK610 := kb BK610 hb
   replace HB := bs HB hb
   (try clear hb); (try clear hb2); (try clear hk); (try clear hi)
   refine hK.out _ _ ⟨(blk_cell BK609.out 0).trans rfl, (blk_cell BK609.out 1).trans rfl, (blk_cell BK610.out 0).trans rfl, (blk_cell BK610.out 1).trans rfl⟩ fun hHeld => nT (N := some 8) ?_
   clear hK K
   refine o0 (i := 3) (N := some 10) (bb 6 15) fun K hK => ?_
   refine gS Try.func26 #[.agg #[.bool a1_0, .slice A1_1 l1_1.length c1_1]] ?_
   with_reducible refine (big_Sign.calls k a1_0 _ _ l1_1 t612 _ ?side1 ?side2 A4.out).mono ?_
   (case side1 => exact tc (Kd.C_below HR1_1.out HB.out))
   (case side2 => exact HC1_1.out)
   rintro e w16 ⟨rfl, hb⟩
   refine ⟨_, rfl, ?_⟩
   replace BK609 := kb BK609 hb
   replace BK610 := kb BK610 hb
   replace HB := bs HB hb
   (try clear hb); (try clear hb2); (try clear hk); (try clear hi)
   refine hK.out _ _ ⟨(blk_cell BK609.out 0).trans rfl, (blk_cell BK609.out 1).trans rfl, (blk_cell BK610.out 0).trans rfl, (blk_cell BK610.out 1).trans rfl⟩ fun hHeld => nT (N := some 10) ?_
   clear hK K
   refine p0 (i := 4) (N := some 5) (bb 6 31) ?_
   refine p0 (i := 5) (N := some 6) (bb 6 63) ?_
   refine done_ (by kernel_rfl) ?_
   try go_wp2
   go_ret
   exact ⟨by first | rfl | (simp [errW_none, errW_some] <;> rfl) | (simp [*, errW_none, errW_some] <;> rfl), tb HB⟩
  ·rw [if_neg c11] at H
   have c11b0 : decide (t612 < t611) = false := decide_eq_false c11
   clear c11
   replace H := Option.bind_eq_some_iff.mp H
   obtain ⟨t613, A170, H⟩ := H
   have A17 := Aside0.mk A170
   clear A170
   obtain rfl := Option.some.inj H
   go_enter Try.func24, Try.ntmps24
   try go_wp2_with (first | ((with_reducible refine gate_dst (N := 2) rfl ?_); refine bx (N := 2) #[.bool a0_0, .slice A0_1 l0_1.length c0_1] 24 ?_; intro gb609 hg w18 hbox hb; have BK609 := Aside0.mk (hbox); have GW609 := bz hg HB; have GE609 := bz hg HB; replace HB := bs HB hb; clear hb hbox hg) | ((with_reducible refine gate_dst (N := 3) rfl ?_); refine bx (N := 3) #[.bool a1_0, .slice A1_1 l1_1.length c1_1] 24 ?_; intro gb610 hg w19 hbox hb; have BK610 := Aside0.mk (hbox); have GW610 := bz hg HB; have GE610 := bz hg HB; replace HB := bs HB hb; have NB609_610 := nl hg BK609; have NB610_609 := ng hg BK609; replace BK609 := kb BK609 hb; clear hb hbox hg))
   replace BK609 := Aside0.mk (blk_drew BK609.out)
   replace BK610 := Aside0.mk (blk_drew BK610.out)
   replace HB := Aside0.mk (below_drew1 HB.out)
   refine start_ (n := 6) (S := fun w' => w'.cell? ⟨gb609, 0, none⟩ = some (.bool a0_0) ∧ w'.cell? ⟨gb609, 1, none⟩ = some (.slice A0_1 l0_1.length c0_1) ∧ w'.cell? ⟨gb610, 0, none⟩ = some (.bool a1_0) ∧ w'.cell? ⟨gb610, 1, none⟩ = some (.slice A1_1 l1_1.length c1_1)) (ds := []) #[false, false, false, false, false, false] (by kernel_rfl) rfl rfl ⟨(blk_cell BK609.out 0).trans rfl, (blk_cell BK609.out 1).trans rfl, (blk_cell BK610.out 0).trans rfl, (blk_cell BK610.out 1).trans rfl⟩ (fun hHeld => ?_)
   generalize w19.drew = w20 at BK609 BK610 HB hHeld ⊢
   refine t0 (i := 0) (N := some 7) (bb 6 1) hHeld ?_
   refine t0 (i := 2) (N := some 9) (bb 6 5) hHeld ?_
   refine o0 (i := 1) (N := some 8) (bb 6 7) fun K hK => ?_
   refine gS Try.func26 #[.agg #[.bool a0_0, .slice A0_1 l0_1.length c0_1]] ?_
   with_reducible refine (big_Sign.calls k a0_0 _ _ l0_1 t611 _ ?side1 ?side2 A3.out).mono ?_
   (case side1 => exact tc (Kd.C_below HR0_1.out HB.out))
   (case side2 => exact HC0_1.out)
   rintro e w21 ⟨rfl, hb⟩
   refine ⟨_, rfl, ?_⟩
   replace BK609 := kb BK609 hb
   replace BK610 := kb BK610 hb
   replace HB := bs HB hb
   (try clear hb); (try clear hb2); (try clear hk); (try clear hi)
   refine hK.out _ _ ⟨(blk_cell BK609.out 0).trans rfl, (blk_cell BK609.out 1).trans rfl, (blk_cell BK610.out 0).trans rfl, (blk_cell BK610.out 1).trans rfl⟩ fun hHeld => nT (N := some 8) ?_
   clear hK K
   refine o0 (i := 3) (N := some 10) (bb 6 15) fun K hK => ?_
   refine gS Try.func26 #[.agg #[.bool a1_0, .slice A1_1 l1_1.length c1_1]] ?_
   with_reducible refine (big_Sign.calls k a1_0 _ _ l1_1 t612 _ ?side1 ?side2 A4.out).mono ?_
   (case side1 => exact tc (Kd.C_below HR1_1.out HB.out))
   (case side2 => exact HC1_1.out)
   rintro e w22 ⟨rfl, hb⟩
   refine ⟨_, rfl, ?_⟩
   replace BK609 := kb BK609 hb
   replace BK610 := kb BK610 hb
   replace HB := bs HB hb
   (try clear hb); (try clear hb2); (try clear hk); (try clear hi)
   refine hK.out _ _ ⟨(blk_cell BK609.out 0).trans rfl, (blk_cell BK609.out 1).trans rfl, (blk_cell BK610.out 0).trans rfl, (blk_cell BK610.out 1).trans rfl⟩ fun hHeld => nT (N := some 10) ?_
   clear hK K
   refine p0 (i := 4) (N := some 5) (bb 6 31) ?_
   refine p0 (i := 5) (N := some 6) (bb 6 63) ?_
   refine done_ (by kernel_rfl) ?_
   have hnb23 := NB609_610.out
   have hnc23 := NB610_609.out
   have hcz24_0 := bc BK609 0 (.bool a0_0)
   have hcz24_1 := bc BK609 1 (.slice A0_1 l0_1.length c0_1)
   have hfz24_0 := blk_frozen BK609.out 0
   have hfz24_1 := blk_frozen BK609.out 1
   have hcz25_0 := bc BK610 0 (.bool a1_0)
   have hcz25_1 := bc BK610 1 (.slice A1_1 l1_1.length c1_1)
   have hfz25_0 := blk_frozen BK610.out 0
   have hfz25_1 := blk_frozen BK610.out 1
   try go_wp2_with (first | ((with_reducible refine gate_callee (f := 65) rfl ?_); refine gL (N := some 24) Try.func65 #[.slice A0_1 l0_1.length c0_1, .slice A1_1 l1_1.length c1_1] ?_; (with_reducible refine (nat_Cmp.calls k _ _ l0_1 _ _ l1_1 t613 _ ?side1 ?side2 ?side3 ?side4 A17.out).mono ?_); (case side1 => exact tc (Kd.C_below HR0_1.out HB.out)); (case side2 => exact HC0_1.out); (case side3 => exact tc (Kd.C_below HR1_1.out HB.out)); (case side4 => exact HC1_1.out); rintro e w26 ⟨rfl, hb⟩; refine ⟨_, rfl, ?_⟩; replace HB := bs HB hb; (try clear hb); (try clear hb2); (try clear hk); (try clear hi)))
   go_ret
   exact ⟨by first | rfl | (simp [errW_none, errW_some] <;> rfl) | (simp [*, errW_none, errW_some] <;> rfl), tb HB⟩

/-! ### big_Mul: function 39 -/
def big_Mul.f (k : Nat) (a0_0 : Bool) (l0_1 : List Int) (a1_0 : Bool) (l1_1 : List Int) : Option (Bool × List Int) := (nat_Mul.f k l0_1 l1_1).bind fun t617 => ((big_norm.f k (a0_0 != a1_0) t617).bind fun bt620 => (some (bt620.1, bt620.2)))
theorem big_Mul.mono : ∀ a0 a1 a2 a3 k, LeO (big_Mul.f k a0 a1 a2 a3) (big_Mul.f (k + 1) a0 a1 a2 a3) := by
 intro a0 a1 a2 a3 k
 unfold big_Mul.f
 repeat' first
   | (with_reducible exact big_norm.mono _ _ _)
   | (with_reducible exact nat_Mul.mono _ _ _)
   | (with_reducible exact LeO.refl _)
   | (with_reducible exact LeO.none _)
   | (with_reducible refine LeO.ite ?_ ?_)
   | (with_reducible refine LeO.bind ?_ (fun _ => ?_))
   | exact big_norm.mono _ _ _
   | exact nat_Mul.mono _ _ _
   | exact LeO.none _
   | refine LeO.ite ?_ ?_
   | refine LeO.bind ?_ (fun _ => ?_)
def big_Mul.T1 : Bool × List (List Nat × List Nat) := (true, [([], []), ([0], [0]), ([], []), ([2], [2]), ([1, 3], [1, 3]), ([], []), ([5], [5]), ([], []), ([7], [7]), ([6, 8], [6, 8]), ([4, 9, 9], [4, 9]), ([10, 10, 0, 1, 2, 3, 4, 5, 6, 7, 8, 9, 10], [10])])
def big_Mul.B1 : List Nat := [0, 1, 0, 4, 15, 0, 32, 0, 128, 480, 1023, 2047]
theorem big_Mul.tab1 : rtab .any (opsOf Try.f39 1) = big_Mul.T1 := by kernel_rfl
theorem big_Mul.bits1 : waitsOk big_Mul.T1.2 big_Mul.B1 = true := by kernel_rfl
set_option maxHeartbeats 8000000 in
set_option maxRecDepth 100000 in
theorem big_Mul.calls (k : Nat) (a0_0 : Bool) (A0_1 : Option Addr) (c0_1 : Nat) (l0_1 : List Int) (a1_0 : Bool) (A1_1 : Option Addr) (c1_1 : Nat) (l1_1 : List Int) (r1 : Bool) (r2 : List Int) (w : World) (hr0_1 : Kd.C (Kd.int .u32) w A0_1 l0_1.length l0_1) (hc0_1 : l0_1.length ≤ c0_1) (hr1_1 : Kd.C (Kd.int .u32) w A1_1 l1_1.length l1_1) (hc1_1 : l1_1.length ≤ c1_1) (h : big_Mul.f k a0_0 l0_1 a1_0 l1_1 = some (r1, r2)) :
  Calls Try.prog 39 #[.agg #[.bool a0_0, .slice A0_1 l0_1.length c0_1], .agg #[.bool a1_0, .slice A1_1 l1_1.length c1_1]] w fun e w' => ∃ v1_ : Value, e = .returned (.agg #[.bool r1, v1_]) ∧ Kd.R (Kd.int .u32) 87 w' w.heap.size (fun _ => True) v1_ r2 ∧ Below w.heap.size w w' := by
 have hu24 := Try.underlying24
 have HR0_1 := Aside0.mk hr0_1
 have HC0_1 := Aside0.mk hc0_1
 clear hr0_1 hc0_1
 have HR1_1 := Aside0.mk hr1_1
 have HC1_1 := Aside0.mk hc1_1
 clear hr1_1 hc1_1
 have HB := Aside0.mk (Below.refl w.heap.size w)
 have H : ((nat_Mul.f k l0_1 l1_1).bind fun t617 => ((big_norm.f k (a0_0 != a1_0) t617).bind fun bt620 => (some (bt620.1, bt620.2)))) = some (r1, r2) := h
 clear h
 replace H := Option.bind_eq_some_iff.mp H
 obtain ⟨t617, A30, H⟩ := H
 have A3 := Aside0.mk A30
 clear A30
 replace H := Option.bind_eq_some_iff.mp H
 obtain ⟨⟨t620, t621⟩, A40, H⟩ := H
 try dsimp only at H
 have A4 := Aside0.mk A40
 clear A40
 simp only [Option.some.injEq, Prod.mk.injEq] at H
 obtain ⟨rfl, rfl⟩ := H
 go_enter Try.func39, Try.ntmps39
 try go_wp2_with (first | ((with_reducible refine gate_dst (N := 2) rfl ?_); refine bx (N := 2) #[.bool a0_0, .slice A0_1 l0_1.length c0_1] 24 ?_; intro gb614 hg w5 hbox hb; have BK614 := Aside0.mk (hbox); have GW614 := bz hg HB; have GE614 := bz hg HB; replace HB := bs HB hb; clear hb hbox hg) | ((with_reducible refine gate_dst (N := 3) rfl ?_); refine bx (N := 3) #[.bool a1_0, .slice A1_1 l1_1.length c1_1] 24 ?_; intro gb615 hg w6 hbox hb; have BK615 := Aside0.mk (hbox); have GW615 := bz hg HB; have GE615 := bz hg HB; replace HB := bs HB hb; have NB614_615 := nl hg BK614; have NB615_614 := ng hg BK614; replace BK614 := kb BK614 hb; clear hb hbox hg) | ((with_reducible refine gate_dst (N := 4) rfl ?_); refine bx (N := 4) #[.bool false, .slice none 0 0] 24 ?_; intro gb616 hg w7 hbox hb; have BK616 := Aside0.mk (hbox); have GW616 := bz hg HB; have GE616 := bz hg HB; replace HB := bs HB hb; have NB614_616 := nl hg BK614; have NB616_614 := ng hg BK614; replace BK614 := kb BK614 hb; have NB615_616 := nl hg BK615; have NB616_615 := ng hg BK615; replace BK615 := kb BK615 hb; clear hb hbox hg))
 replace BK614 := Aside0.mk (blk_drew BK614.out)
 replace BK615 := Aside0.mk (blk_drew BK615.out)
 replace BK616 := Aside0.mk (blk_drew BK616.out)
 replace HB := Aside0.mk (below_drew1 HB.out)
 refine start_ (n := 12) (S := fun w' => w'.cell? ⟨gb614, 0, none⟩ = some (.bool a0_0) ∧ w'.cell? ⟨gb614, 1, none⟩ = some (.slice A0_1 l0_1.length c0_1) ∧ w'.cell? ⟨gb615, 0, none⟩ = some (.bool a1_0) ∧ w'.cell? ⟨gb615, 1, none⟩ = some (.slice A1_1 l1_1.length c1_1)) (ds := []) #[false, false, false, false, false, false, false, false, false, false, false, false] (by kernel_rfl) rfl rfl ⟨(blk_cell BK614.out 0).trans rfl, (blk_cell BK614.out 1).trans rfl, (blk_cell BK615.out 0).trans rfl, (blk_cell BK615.out 1).trans rfl⟩ (fun hHeld => ?_); refine with_tabW big_Mul.tab1 big_Mul.bits1 (fun HT_ HW_ => ?_)
 generalize w7.drew = w8 at BK614 BK615 BK616 HB hHeld ⊢
 refine pT (i := 0) (N := some 5) (bb 12 1) HT_ ?_
 refine pT (i := 2) (N := some 7) (bb 12 5) HT_ ?_
 refine pT (i := 5) (N := some 10) (bb 12 37) HT_ ?_
 refine pT (i := 7) (N := some 12) (bb 12 165) HT_ ?_
 refine tW (i := 1) (N := some 6) (bb 12 167) HT_ HW_ hHeld ?_
 refine tW (i := 3) (N := some 8) (bb 12 175) HT_ HW_ hHeld ?_
 refine pT (i := 4) (N := some 9) (bb 12 191) HT_ ?_
 refine tW (i := 6) (N := some 11) (bb 12 255) HT_ HW_ hHeld ?_
 refine tW (i := 8) (N := some 13) (bb 12 511) HT_ HW_ hHeld ?_
 refine oT (i := 9) (N := some 14) (bb 12 1023) HT_ fun K hK => ?_
 refine gS Try.func70 #[.slice A0_1 l0_1.length c0_1, .slice A1_1 l1_1.length c1_1] ?_
 with_reducible refine (nat_Mul.calls k (fun k_ => k_ < w.heap.size) _ _ l0_1 (fun k_ => k_ < w.heap.size) _ _ l1_1 t617 _ ?side1 ?side2 A3.out).mono ?_
 (case side1 => exact Kd.V_mk HC0_1.out (Kd.F_below (Kd.C_F (Kd.heap_int .u32) HR0_1.out) (tb HB)))
 (case side2 => exact Kd.V_mk HC1_1.out (Kd.F_below (Kd.C_F (Kd.heap_int .u32) HR1_1.out) (tb HB)))
 rintro e w9 ⟨v618, rfl, ho0, hb⟩
 refine ⟨_, rfl, ?_⟩
 have HO619 := Aside0.mk (Kd.V_lower (Kd.V_mono (ok' := fun k_ => k_ ≠ gb614 ∧ k_ ≠ gb615 ∧ k_ ≠ gb616) ho0 (fun k_ hk_ => ⟨Or.elim hk_ (fun hs_ => Or.elim hs_ (fun hs_ => fun e_ => Nat.not_le.2 hs_ (by rw [e_]; exact GW614.out)) (fun hs_ => fun e_ => Nat.not_le.2 hs_ (by rw [e_]; exact GW614.out))) (fun hn_ => (Kd.freshB (g := gb614) (o := .cells #[.bool a0_0, .slice A0_1 l0_1.length c0_1] 24 (0, 0)) (tk BK614) k_ hn_)), Or.elim hk_ (fun hs_ => Or.elim hs_ (fun hs_ => fun e_ => Nat.not_le.2 hs_ (by rw [e_]; exact GW615.out)) (fun hs_ => fun e_ => Nat.not_le.2 hs_ (by rw [e_]; exact GW615.out))) (fun hn_ => (Kd.freshB (g := gb615) (o := .cells #[.bool a1_0, .slice A1_1 l1_1.length c1_1] 24 (0, 0)) (tk BK615) k_ hn_)), Or.elim hk_ (fun hs_ => Or.elim hs_ (fun hs_ => fun e_ => Nat.not_le.2 hs_ (by rw [e_]; exact GW616.out)) (fun hs_ => fun e_ => Nat.not_le.2 hs_ (by rw [e_]; exact GW616.out))) (fun hn_ => (Kd.freshB (g := gb616) (o := .cells #[.bool false, .slice none 0 0] 24 (0, 0)) (tk BK616) k_ hn_))⟩)) (below_size (tb HB)))
 replace BK614 := kb BK614 hb
 replace BK615 := kb BK615 hb
 replace BK616 := kb BK616 hb
 replace HB := bs HB hb
 (try clear hb); (try clear hb2); (try clear hk); (try clear hi); (try clear ho0)
 obtain ⟨Ao10, co10, eo10⟩ := Kd.V_slice HO619.out
 (first | subst eo10 | (injection eo10 with f1_ f2_ f3_; have f4_ := f1_.symm; have f5_ := f3_.symm; clear f1_ f2_ f3_; subst f4_; subst f5_))
 refine hK.out _ _ ⟨(blk_cell BK614.out 0).trans rfl, (blk_cell BK614.out 1).trans rfl, (blk_cell BK615.out 0).trans rfl, (blk_cell BK615.out 1).trans rfl⟩ fun hHeld => nT (N := some 14) ?_
 clear hK K
 refine oT (i := 10) (N := some 15) (bb 12 2047) HT_ fun K hK => ?_
 refine gS Try.func52 #[.bool (a0_0 != a1_0), .slice Ao10 t617.length co10] ?_
 with_reducible refine (big_norm.calls k (a0_0 != a1_0) _ _ t617 t620 t621 _ ?side1 ?side2 A4.out).mono ?_
 (case side1 => exact tc (Kd.V_reads' HO619.out).2.2)
 (case side2 => exact (Kd.V_reads' HO619.out).2.1)
 rintro e w11 ⟨v622, rfl, ho0, hb⟩
 refine ⟨_, rfl, ?_⟩
 have HO623 := rl ho0 HB
 replace BK614 := kb BK614 hb
 replace BK615 := kb BK615 hb
 replace BK616 := kb BK616 hb
 replace HB := bs HB hb
 (try clear hb); (try clear hb2); (try clear hk); (try clear hi); (try clear ho0)
 obtain ⟨Ao13, co13, eo13⟩ := Kd.R_slice HO623.out
 (first | subst eo13 | (injection eo13 with f1_ f2_ f3_; have f4_ := f1_.symm; have f5_ := f3_.symm; clear f1_ f2_ f3_; subst f4_; subst f5_))
 refine hK.out _ _ ⟨(blk_cell BK614.out 0).trans rfl, (blk_cell BK614.out 1).trans rfl, (blk_cell BK615.out 0).trans rfl, (blk_cell BK615.out 1).trans rfl⟩ fun hHeld => nT (N := some 15) ?_
 clear hK K
 refine oT (i := 11) (N := none) (bb 12 4095) HT_ fun K hK => ?_
 have hs12 := bc BK616 0 (.bool false)
 have hfs12 := blk_frozen BK616.out 0
 have hns12_0 := NB614_616.out
 have hns12_1 := NB615_616.out
 have hms12_0 := NB616_614.out
 have hms12_1 := NB616_615.out
 have hs14 := bc BK616 1 (.slice none 0 0)
 have hfs14 := blk_frozen BK616.out 1
 have hns14_0 := NB614_616.out
 have hns14_1 := NB615_616.out
 have hms14_0 := NB616_614.out
 have hms14_1 := NB616_615.out
 refine skip_ (w1 := ?_) (by rfl) rfl ?_ ?_
 rotate_left
 ·go_simp
  rfl
 refine hK.out _ _ ⟨((cell_far (p := ⟨gb616, _, none⟩) NB614_616.out _).trans (((cell_far (p := ⟨gb616, _, none⟩) NB614_616.out _).trans (hHeld.1)))), ((cell_far (p := ⟨gb616, _, none⟩) NB614_616.out _).trans (((cell_far (p := ⟨gb616, _, none⟩) NB614_616.out _).trans (hHeld.2.1)))), ((cell_far (p := ⟨gb616, _, none⟩) NB615_616.out _).trans (((cell_far (p := ⟨gb616, _, none⟩) NB615_616.out _).trans (hHeld.2.2.1)))), ((cell_far (p := ⟨gb616, _, none⟩) NB615_616.out _).trans (((cell_far (p := ⟨gb616, _, none⟩) NB615_616.out _).trans (hHeld.2.2.2))))⟩ (fun hHeld => ?_)
 clear hK K
 refine done_ (done_of HT_.out (by kernel_rfl)) ?_
 try go_wp2
 refine bodyPost_ret (results_cell_row rfl _ _ gb616 24 #[.bool t620, .slice Ao13 t621.length co13] (0, 0) _ rfl (tk BK616) Try.underlying24 rfl (by kernel_rfl)) rfl ?_
 exact ⟨_, by first | rfl | (simp [errW_none, errW_some] <;> rfl) | (simp [*, errW_none, errW_some] <;> rfl), by (with_reducible repeat first | apply qa | apply qn | apply qd); exact Kd.R_mono (Kd.R_far (p := ⟨gb616, 1, none⟩) (Kd.R_far (p := ⟨gb616, 0, none⟩) (Kd.R_types HO623.out BK616.out (by decide)) (fun _ hk => hk.2) (.bool t620)) (fun _ hk => hk.2) (.slice Ao13 t621.length co13)) (fun _ hk => trivial), tb HB⟩

end Go.Proofs.Ytjpnaapimnoamaa.QBigRings
