-- written by wip/wprint, a program of this session
import Derived.Test.YtjpnaapimnoamaaQBigChoicesx0
import Derived.Test.YtjpnaapimnoamaaQBigChoicesx4
import Derived.Test.YtjpnaapimnoamaaQBigChoicesx9
namespace Go.Proofs.Ytjpnaapimnoamaa.QBigChoices
open Go.RowKit Go.Proofs.YtjpnaapimnoamaaW.PrintWords Go.Proofs.YtjpnaapimnoamaaW.PrintLast Go.Proofs.YtjpnaapimnoamaaW.PrintMore
open Go.Proofs.YtjpnaapimnoamaaW.PrintWords.Kd renaming R_alloc → qa, R_drewN → qn, R_drew → qd
open Go.Proofs.YtjpnaapimnoamaaW.PrintWords renaming below_alloc → ba, pw_below_drewN → bn, below_drew1 → bd
attribute [local go_sem] max2_int min2_int max_two min_two max_three min_three max_four min_four   -- for this text's walks alone
set_option linter.unusedVariables false
set_option linter.unusedSimpArgs false

/-! ### big_Cmp: function 24 -/
def big_Cmp.f (k : Nat) (a0_0 : Bool) (l0_1 : List Int) (a1_0 : Bool) (l1_1 : List Int) : Option (Int) := (big_Sign.f k a0_0 l0_1).bind fun t662 => ((big_Sign.f k a1_0 l1_1).bind fun t663 => (if t662 < t663 then (some (-1)) else (if t662 > t663 then (some 1) else ((nat_Cmp.f k l0_1 l1_1).bind fun t664 => (some (wrap64 (t662 * t664)))))))
theorem big_Cmp.mono : ∀ a0 a1 a2 a3 k, LeO (big_Cmp.f k a0 a1 a2 a3) (big_Cmp.f (k + 1) a0 a1 a2 a3) := by
 intro a0 a1 a2 a3 k
 unfold big_Cmp.f
 repeat' with_reducible first | exact big_Sign.mono _ _ _ | exact nat_Cmp.mono _ _ _ | exact LeO.refl _ | exact LeO.none _ | refine LeO.ite ?_ ?_ | refine LeO.bind ?_ (fun _ => ?_)
set_option maxHeartbeats 8000000 in
set_option maxRecDepth 100000 in
theorem big_Cmp.calls (k : Nat) (a0_0 : Bool) (A0_1 : Option Addr) (c0_1 : Nat) (l0_1 : List Int) (a1_0 : Bool) (A1_1 : Option Addr) (c1_1 : Nat) (l1_1 : List Int) (r : Int) (w : World) (hr0_1 : Kd.C (Kd.int .u32) w A0_1 l0_1.length l0_1) (hc0_1 : l0_1.length ≤ c0_1) (hr1_1 : Kd.C (Kd.int .u32) w A1_1 l1_1.length l1_1) (hc1_1 : l1_1.length ≤ c1_1) (h : big_Cmp.f k a0_0 l0_1 a1_0 l1_1 = some r) :
  Calls Try.prog 24 #[.agg #[.bool a0_0, .slice A0_1 l0_1.length c0_1], .agg #[.bool a1_0, .slice A1_1 l1_1.length c1_1]] w fun e w' => e = .returned (.int .i64 r) ∧ Below w.heap.size w w' := by
 have hu24 := Try.underlying24
 have HR0_1 := Aside0.mk hr0_1
 have HC0_1 := Aside0.mk hc0_1
 clear hr0_1 hc0_1
 have HR1_1 := Aside0.mk hr1_1
 have HC1_1 := Aside0.mk hc1_1
 clear hr1_1 hc1_1
 have HB := Aside0.mk (Below.refl w.heap.size w)
 have H : ((big_Sign.f k a0_0 l0_1).bind fun t662 => ((big_Sign.f k a1_0 l1_1).bind fun t663 => (if t662 < t663 then (some (-1)) else (if t662 > t663 then (some 1) else ((nat_Cmp.f k l0_1 l1_1).bind fun t664 => (some (wrap64 (t662 * t664)))))))) = some r := h
 clear h
 replace H := bi H
 obtain ⟨t662, A30, H⟩ := H
 have A3 := Aside0.mk A30
 clear A30
 replace H := bi H
 obtain ⟨t663, A40, H⟩ := H
 have A4 := Aside0.mk A40
 clear A40
 by_cases c5 : t662 < t663
 ·rw [if_pos c5] at H
  have c5b0 : decide (t662 < t663) = true := decide_eq_true c5
  clear c5
  obtain rfl := Option.some.inj H
  go_enter Try.func24, Try.ntmps24
  try go_wp2_with (first | ((with_reducible refine gate_dst (N := 2) rfl ?_); refine bx (N := 2) #[.bool a0_0, .slice A0_1 l0_1.length c0_1] 24 ?_; intro gb660 hg w6 hbox hb; have BK660 := Aside0.mk (hbox); have GW660 := bz hg HB; have GE660 := bz hg HB; replace HB := bs HB hb; clear hb hbox hg) | ((with_reducible refine gate_dst (N := 3) rfl ?_); refine bx (N := 3) #[.bool a1_0, .slice A1_1 l1_1.length c1_1] 24 ?_; intro gb661 hg w7 hbox hb; have BK661 := Aside0.mk (hbox); have GW661 := bz hg HB; have GE661 := bz hg HB; replace HB := bs HB hb; have NB660_661 := nl hg BK660; have NB661_660 := ng hg BK660; replace BK660 := kb BK660 hb; clear hb hbox hg))
  replace BK660 := Aside0.mk (blk_drew BK660.out)
  replace BK661 := Aside0.mk (blk_drew BK661.out)
  replace HB := Aside0.mk (below_drew1 HB.out)
  refine start_ (n := 6) (S := fun w' => w'.cell? ⟨gb660, 0, none⟩ = some (.bool a0_0) ∧ w'.cell? ⟨gb660, 1, none⟩ = some (.slice A0_1 l0_1.length c0_1) ∧ w'.cell? ⟨gb661, 0, none⟩ = some (.bool a1_0) ∧ w'.cell? ⟨gb661, 1, none⟩ = some (.slice A1_1 l1_1.length c1_1)) (ds := []) #[false, false, false, false, false, false] (by kernel_rfl) rfl rfl ⟨(blk_cell BK660.out 0).trans rfl, (blk_cell BK660.out 1).trans rfl, (blk_cell BK661.out 0).trans rfl, (blk_cell BK661.out 1).trans rfl⟩ (fun hHeld => ?_)
  generalize w7.drew = w8 at BK660 BK661 HB hHeld ⊢
  refine t0 (i := 0) (N := some 7) (bb 6 1) hHeld ?_
  refine t0 (i := 2) (N := some 9) (bb 6 5) hHeld ?_
  refine o0 (i := 1) (N := some 8) (bb 6 7) fun K hK => ?_
  refine gS Try.func26 #[.agg #[.bool a0_0, .slice A0_1 l0_1.length c0_1]] ?_
  with_reducible refine (big_Sign.calls k a0_0 _ _ l0_1 t662 _ ?side1 ?side2 A3.out).mono ?_
  (case side1 => exact tc (Kd.C_below HR0_1.out HB.out))
  (case side2 => exact HC0_1.out)
  rintro e w9 ⟨rfl, hb⟩
  refine ⟨_, rfl, ?_⟩
  replace BK660 := kb BK660 hb
  replace BK661 := kb BK661 hb
  replace HB := bs HB hb
  (try clear hb); (try clear hb2); (try clear hk); (try clear hi)
  refine hK.out _ _ ⟨(blk_cell BK660.out 0).trans rfl, (blk_cell BK660.out 1).trans rfl, (blk_cell BK661.out 0).trans rfl, (blk_cell BK661.out 1).trans rfl⟩ fun hHeld => nT (N := some 8) ?_
  clear hK K
  refine o0 (i := 3) (N := some 10) (bb 6 15) fun K hK => ?_
  refine gS Try.func26 #[.agg #[.bool a1_0, .slice A1_1 l1_1.length c1_1]] ?_
  with_reducible refine (big_Sign.calls k a1_0 _ _ l1_1 t663 _ ?side1 ?side2 A4.out).mono ?_
  (case side1 => exact tc (Kd.C_below HR1_1.out HB.out))
  (case side2 => exact HC1_1.out)
  rintro e w10 ⟨rfl, hb⟩
  refine ⟨_, rfl, ?_⟩
  replace BK660 := kb BK660 hb
  replace BK661 := kb BK661 hb
  replace HB := bs HB hb
  (try clear hb); (try clear hb2); (try clear hk); (try clear hi)
  refine hK.out _ _ ⟨(blk_cell BK660.out 0).trans rfl, (blk_cell BK660.out 1).trans rfl, (blk_cell BK661.out 0).trans rfl, (blk_cell BK661.out 1).trans rfl⟩ fun hHeld => nT (N := some 10) ?_
  clear hK K
  refine p0 (i := 4) (N := some 5) (bb 6 31) ?_
  refine p0 (i := 5) (N := some 6) (bb 6 63) ?_
  refine done_ (by kernel_rfl) ?_
  try go_wp2
  go_ret
  exact ⟨by first | rfl | (simp [errW_none, errW_some] <;> rfl) | (simp [*, errW_none, errW_some] <;> rfl), tb HB⟩
 ·rw [if_neg c5] at H
  have c5b0 : decide (t662 < t663) = false := decide_eq_false c5
  clear c5
  by_cases c11 : t662 > t663
  ·rw [if_pos c11] at H
   have c11b0 : decide (t663 < t662) = true := decide_eq_true c11
   clear c11
   obtain rfl := Option.some.inj H
   go_enter Try.func24, Try.ntmps24
   try go_wp2_with (first | ((with_reducible refine gate_dst (N := 2) rfl ?_); refine bx (N := 2) #[.bool a0_0, .slice A0_1 l0_1.length c0_1] 24 ?_; intro gb660 hg w12 hbox hb; have BK660 := Aside0.mk (hbox); have GW660 := bz hg HB; have GE660 := bz hg HB; replace HB := bs HB hb; clear hb hbox hg) | ((with_reducible refine gate_dst (N := 3) rfl ?_); refine bx (N := 3) #[.bool a1_0, .slice A1_1 l1_1.length c1_1] 24 ?_; intro gb661 hg w13 hbox hb; have BK661 := Aside0.mk (hbox); have GW661 := bz hg HB; have GE661 := bz hg HB; replace HB := bs HB hb; have NB660_661 := nl hg BK660; have NB661_660 := ng hg BK660; replace BK660 := kb BK660 hb; clear hb hbox hg))
   replace BK660 := Aside0.mk (blk_drew BK660.out)
   replace BK661 := Aside0.mk (blk_drew BK661.out)
   replace HB := Aside0.mk (below_drew1 HB.out)
   refine start_ (n := 6) (S := fun w' => w'.cell? ⟨gb660, 0, none⟩ = some (.bool a0_0) ∧ w'.cell? ⟨gb660, 1, none⟩ = some (.slice A0_1 l0_1.length c0_1) ∧ w'.cell? ⟨gb661, 0, none⟩ = some (.bool a1_0) ∧ w'.cell? ⟨gb661, 1, none⟩ = some (.slice A1_1 l1_1.length c1_1)) (ds := []) #[false, false, false, false, false, false] (by kernel_rfl) rfl rfl ⟨(blk_cell BK660.out 0).trans rfl, (blk_cell BK660.out 1).trans rfl, (blk_cell BK661.out 0).trans rfl, (blk_cell BK661.out 1).trans rfl⟩ (fun hHeld => ?_)
   generalize w13.drew = w14 at BK660 BK661 HB hHeld ⊢
   refine t0 (i := 0) (N := some 7) (bb 6 1) hHeld ?_
   refine t0 (i := 2) (N := some 9) (bb 6 5) hHeld ?_
   refine o0 (i := 1) (N := some 8) (bb 6 7) fun K hK => ?_
   refine gS Try.func26 #[.agg #[.bool a0_0, .slice A0_1 l0_1.length c0_1]] ?_
   with_reducible refine (big_Sign.calls k a0_0 _ _ l0_1 t662 _ ?side1 ?side2 A3.out).mono ?_
   (case side1 => exact tc (Kd.C_below HR0_1.out HB.out))
   (case side2 => exact HC0_1.out)
   rintro e w15 ⟨rfl, hb⟩
   refine ⟨_, rfl, ?_⟩
   replace BK660 := kb BK660 hb
   replace BK661 := kb BK661 hb
   replace HB := bs HB hb
   (try clear hb); (try clear hb2); (try clear hk); (try clear hi)
   refine hK.out _ _ ⟨(blk_cell BK660.out 0).trans rfl, (blk_cell BK660.out 1).trans rfl, (blk_cell BK661.out 0).trans rfl, (blk_cell BK661.out 1).trans rfl⟩ fun hHeld => nT (N := some 8) ?_
   clear hK K
   refine o0 (i := 3) (N := some 10) (bb 6 15) fun K hK => ?_
   refine gS Try.func26 #[.agg #[.bool a1_0, .slice A1_1 l1_1.length c1_1]] ?_
   with_reducible refine (big_Sign.calls k a1_0 _ _ l1_1 t663 _ ?side1 ?side2 A4.out).mono ?_
   (case side1 => exact tc (Kd.C_below HR1_1.out HB.out))
   (case side2 => exact HC1_1.out)
   rintro e w16 ⟨rfl, hb⟩
   refine ⟨_, rfl, ?_⟩
   replace BK660 := kb BK660 hb
   replace BK661 := kb BK661 hb
   replace HB := bs HB hb
   (try clear hb); (try clear hb2); (try clear hk); (try clear hi)
   refine hK.out _ _ ⟨(blk_cell BK660.out 0).trans rfl, (blk_cell BK660.out 1).trans rfl, (blk_cell BK661.out 0).trans rfl, (blk_cell BK661.out 1).trans rfl⟩ fun hHeld => nT (N := some 10) ?_
   clear hK K
   refine p0 (i := 4) (N := some 5) (bb 6 31) ?_
   refine p0 (i := 5) (N := some 6) (bb 6 63) ?_
   refine done_ (by kernel_rfl) ?_
   try go_wp2
   go_ret
   exact ⟨by first | rfl | (simp [errW_none, errW_some] <;> rfl) | (simp [*, errW_none, errW_some] <;> rfl), tb HB⟩
  ·rw [if_neg c11] at H
   have c11b0 : decide (t663 < t662) = false := decide_eq_false c11
   clear c11
   replace H := bi H
   obtain ⟨t664, A170, H⟩ := H
   have A17 := Aside0.mk A170
   clear A170
   obtain rfl := Option.some.inj H
   go_enter Try.func24, Try.ntmps24
   try go_wp2_with (first | ((with_reducible refine gate_dst (N := 2) rfl ?_); refine bx (N := 2) #[.bool a0_0, .slice A0_1 l0_1.length c0_1] 24 ?_; intro gb660 hg w18 hbox hb; have BK660 := Aside0.mk (hbox); have GW660 := bz hg HB; have GE660 := bz hg HB; replace HB := bs HB hb; clear hb hbox hg) | ((with_reducible refine gate_dst (N := 3) rfl ?_); refine bx (N := 3) #[.bool a1_0, .slice A1_1 l1_1.length c1_1] 24 ?_; intro gb661 hg w19 hbox hb; have BK661 := Aside0.mk (hbox); have GW661 := bz hg HB; have GE661 := bz hg HB; replace HB := bs HB hb; have NB660_661 := nl hg BK660; have NB661_660 := ng hg BK660; replace BK660 := kb BK660 hb; clear hb hbox hg))
   replace BK660 := Aside0.mk (blk_drew BK660.out)
   replace BK661 := Aside0.mk (blk_drew BK661.out)
   replace HB := Aside0.mk (below_drew1 HB.out)
   refine start_ (n := 6) (S := fun w' => w'.cell? ⟨gb660, 0, none⟩ = some (.bool a0_0) ∧ w'.cell? ⟨gb660, 1, none⟩ = some (.slice A0_1 l0_1.length c0_1) ∧ w'.cell? ⟨gb661, 0, none⟩ = some (.bool a1_0) ∧ w'.cell? ⟨gb661, 1, none⟩ = some (.slice A1_1 l1_1.length c1_1)) (ds := []) #[false, false, false, false, false, false] (by kernel_rfl) rfl rfl ⟨(blk_cell BK660.out 0).trans rfl, (blk_cell BK660.out 1).trans rfl, (blk_cell BK661.out 0).trans rfl, (blk_cell BK661.out 1).trans rfl⟩ (fun hHeld => ?_)
   generalize w19.drew = w20 at BK660 BK661 HB hHeld ⊢
   refine t0 (i := 0) (N := some 7) (bb 6 1) hHeld ?_
   refine t0 (i := 2) (N := some 9) (bb 6 5) hHeld ?_
   refine o0 (i := 1) (N := some 8) (bb 6 7) fun K hK => ?_
   refine gS Try.func26 #[.agg #[.bool a0_0, .slice A0_1 l0_1.length c0_1]] ?_
   with_reducible refine (big_Sign.calls k a0_0 _ _ l0_1 t662 _ ?side1 ?side2 A3.out).mono ?_
   (case side1 => exact tc (Kd.C_below HR0_1.out HB.out))
   (case side2 => exact HC0_1.out)
   rintro e w21 ⟨rfl, hb⟩
   refine ⟨_, rfl, ?_⟩
   replace BK660 := kb BK660 hb
   replace BK661 := kb BK661 hb
   replace HB := bs HB hb
   (try clear hb); (try clear hb2); (try clear hk); (try clear hi)
   refine hK.out _ _ ⟨(blk_cell BK660.out 0).trans rfl, (blk_cell BK660.out 1).trans rfl, (blk_cell BK661.out 0).trans rfl, (blk_cell BK661.out 1).trans rfl⟩ fun hHeld => nT (N := some 8) ?_
   clear hK K
   refine o0 (i := 3) (N := some 10) (bb 6 15) fun K hK => ?_
   refine gS Try.func26 #[.agg #[.bool a1_0, .slice A1_1 l1_1.length c1_1]] ?_
   with_reducible refine (big_Sign.calls k a1_0 _ _ l1_1 t663 _ ?side1 ?side2 A4.out).mono ?_
   (case side1 => exact tc (Kd.C_below HR1_1.out HB.out))
   (case side2 => exact HC1_1.out)
   rintro e w22 ⟨rfl, hb⟩
   refine ⟨_, rfl, ?_⟩
   replace BK660 := kb BK660 hb
   replace BK661 := kb BK661 hb
   replace HB := bs HB hb
   (try clear hb); (try clear hb2); (try clear hk); (try clear hi)
   refine hK.out _ _ ⟨(blk_cell BK660.out 0).trans rfl, (blk_cell BK660.out 1).trans rfl, (blk_cell BK661.out 0).trans rfl, (blk_cell BK661.out 1).trans rfl⟩ fun hHeld => nT (N := some 10) ?_
   clear hK K
   refine p0 (i := 4) (N := some 5) (bb 6 31) ?_
   refine p0 (i := 5) (N := some 6) (bb 6 63) ?_
   refine done_ (by kernel_rfl) ?_
   have hnb23 := NB660_661.out
   have hnc23 := NB661_660.out
   have hcz24_0 := bc BK660 0 (.bool a0_0)
   have hcz24_1 := bc BK660 1 (.slice A0_1 l0_1.length c0_1)
   have hfz24_0 := blk_frozen BK660.out 0
   have hfz24_1 := blk_frozen BK660.out 1
   have hcz25_0 := bc BK661 0 (.bool a1_0)
   have hcz25_1 := bc BK661 1 (.slice A1_1 l1_1.length c1_1)
   have hfz25_0 := blk_frozen BK661.out 0
   have hfz25_1 := blk_frozen BK661.out 1
   try go_wp2_with (first | ((with_reducible refine gate_callee (f := 65) rfl ?_); refine gL (N := some 24) Try.func65 #[.slice A0_1 l0_1.length c0_1, .slice A1_1 l1_1.length c1_1] ?_; (with_reducible refine (nat_Cmp.calls k _ _ l0_1 _ _ l1_1 t664 _ ?side1 ?side2 ?side3 ?side4 A17.out).mono ?_); (case side1 => exact tc (Kd.C_below HR0_1.out HB.out)); (case side2 => exact HC0_1.out); (case side3 => exact tc (Kd.C_below HR1_1.out HB.out)); (case side4 => exact HC1_1.out); rintro e w26 ⟨rfl, hb⟩; refine ⟨_, rfl, ?_⟩; replace HB := bs HB hb; (try clear hb); (try clear hb2); (try clear hk); (try clear hi)))
   go_ret
   exact ⟨by first | rfl | (simp [errW_none, errW_some] <;> rfl) | (simp [*, errW_none, errW_some] <;> rfl), tb HB⟩

/-! ### big_Norm: function 32 -/
def big_Norm.f (k : Nat) (a0_0 : Bool) (l0_1 : List Int) : Option (Bool × List Int) := (big_norm.f k a0_0 l0_1).bind fun bt667 => (some (bt667.1, bt667.2))
theorem big_Norm.mono : ∀ a0 a1 k, LeO (big_Norm.f k a0 a1) (big_Norm.f (k + 1) a0 a1) := by
 intro a0 a1 k
 unfold big_Norm.f
 repeat' with_reducible first | exact big_norm.mono _ _ _ | exact LeO.refl _ | exact LeO.none _ | refine LeO.ite ?_ ?_ | refine LeO.bind ?_ (fun _ => ?_)
set_option maxHeartbeats 8000000 in
set_option maxRecDepth 100000 in
theorem big_Norm.calls (k : Nat) (a0_0 : Bool) (A0_1 : Option Addr) (c0_1 : Nat) (l0_1 : List Int) (r1 : Bool) (r2 : List Int) (w : World) (hr0_1 : Kd.C (Kd.int .u32) w A0_1 l0_1.length l0_1) (hc0_1 : l0_1.length ≤ c0_1) (h : big_Norm.f k a0_0 l0_1 = some (r1, r2)) :
  Calls Try.prog 32 #[.agg #[.bool a0_0, .slice A0_1 l0_1.length c0_1]] w fun e w' => ∃ v1_ : Value, e = .returned (.agg #[.bool r1, v1_]) ∧ Kd.R (Kd.int .u32) 87 w' w.heap.size (fun _ => True) v1_ r2 ∧ Below w.heap.size w w' := by
 have hu24 := Try.underlying24
 have HR0_1 := Aside0.mk hr0_1
 have HC0_1 := Aside0.mk hc0_1
 clear hr0_1 hc0_1
 have HB := Aside0.mk (Below.refl w.heap.size w)
 have H : ((big_norm.f k a0_0 l0_1).bind fun bt667 => (some (bt667.1, bt667.2))) = some (r1, r2) := h
 clear h
 replace H := bi H
 obtain ⟨⟨t667, t668⟩, A20, H⟩ := H
 try dsimp only at H
 have A2 := Aside0.mk A20
 clear A20
 simp only [Option.some.injEq, Prod.mk.injEq] at H
 obtain ⟨rfl, rfl⟩ := H
 go_enter Try.func32, Try.ntmps32
 go_wp2_with (first | ((with_reducible refine gate_dst (N := 1) rfl ?_); refine bx (N := 1) #[.bool a0_0, .slice A0_1 l0_1.length c0_1] 24 ?_; intro gb665 hg w3 hbox hb; have BK665 := Aside0.mk (hbox); have GW665 := bz hg HB; have GE665 := bz hg HB; replace HB := bs HB hb; clear hb hbox hg) | ((with_reducible refine gate_dst (N := 2) rfl ?_); refine bx (N := 2) #[.bool false, .slice none 0 0] 24 ?_; intro gb666 hg w4 hbox hb; have BK666 := Aside0.mk (hbox); have GW666 := bz hg HB; have GE666 := bz hg HB; replace HB := bs HB hb; have NB665_666 := nl hg BK665; have NB666_665 := ng hg BK665; replace BK665 := kb BK665 hb; clear hb hbox hg; have hnb5 := NB665_666.out; have hnc5 := NB666_665.out; have hcz6_0 := bc BK665 0 (.bool a0_0); have hcz6_1 := bc BK665 1 (.slice A0_1 l0_1.length c0_1); have hfz6_0 := blk_frozen BK665.out 0; have hfz6_1 := blk_frozen BK665.out 1) | ((with_reducible refine gate_callee (f := 52) rfl ?_); refine gL (N := some 7) Try.func52 #[.bool a0_0, .slice A0_1 l0_1.length c0_1] ?_; (with_reducible refine (big_norm.calls k a0_0 _ _ l0_1 t667 t668 _ ?side1 ?side2 A2.out).mono ?_); (case side1 => exact tc (Kd.C_below HR0_1.out HB.out)); (case side2 => exact HC0_1.out); rintro e w7 ⟨v669, rfl, ho0, hb⟩; refine ⟨_, rfl, ?_⟩; have HO670 := rl ho0 HB; replace BK666 := kb BK666 hb; replace HB := bs HB hb; (try clear hb); (try clear hb2); (try clear hk); (try clear hi); (try clear ho0); have hcz8_0 := bc BK666 0 (.bool false); have hcz8_1 := bc BK666 1 (.slice none 0 0); have hfz8_0 := blk_frozen BK666.out 0; have hfz8_1 := blk_frozen BK666.out 1; obtain ⟨Ao9, co9, eo9⟩ := Kd.R_slice HO670.out; subst eo9))
 refine bodyPost_ret (results_cell_row rfl _ _ gb666 24 #[.bool t667, .slice Ao9 t668.length co9] (0, 0) _ rfl (tk BK666) Try.underlying24 rfl (by kernel_rfl)) rfl ?_
 exact ⟨_, by first | rfl | (simp [errW_none, errW_some] <;> rfl) | (simp [*, errW_none, errW_some] <;> rfl), by (with_reducible repeat first | apply qa | apply qn | apply qd); exact Kd.R_mono (Kd.R_far (p := ⟨gb666, 1, none⟩) (Kd.R_far (p := ⟨gb666, 0, none⟩) (Kd.R_types HO670.out BK666.out (by decide)) (fun _ hk => hk.2) (.bool t667)) (fun _ hk => hk.2) (.slice Ao9 t668.length co9)) (fun _ hk => trivial), tb HB⟩

/-! ### big_Min: function 49 -/
def big_Min.f (k : Nat) (a0_0 : Bool) (l0_1 : List Int) (a1_0 : Bool) (l1_1 : List Int) : Option (Bool × List Int) := (big_Cmp.f k a0_0 l0_1 a1_0 l1_1).bind fun t674 => (if t674 ≤ 0 then ((big_Norm.f k a0_0 l0_1).bind fun bt675 => (some (bt675.1, bt675.2))) else ((big_Norm.f k a1_0 l1_1).bind fun bt679 => (some (bt679.1, bt679.2))))
theorem big_Min.mono : ∀ a0 a1 a2 a3 k, LeO (big_Min.f k a0 a1 a2 a3) (big_Min.f (k + 1) a0 a1 a2 a3) := by
 intro a0 a1 a2 a3 k
 unfold big_Min.f
 repeat' with_reducible first | exact big_Cmp.mono _ _ _ _ _ | exact big_Norm.mono _ _ _ | exact LeO.refl _ | exact LeO.none _ | refine LeO.ite ?_ ?_ | refine LeO.bind ?_ (fun _ => ?_)
set_option maxHeartbeats 8000000 in
set_option maxRecDepth 100000 in
theorem big_Min.calls (k : Nat) (a0_0 : Bool) (A0_1 : Option Addr) (c0_1 : Nat) (l0_1 : List Int) (a1_0 : Bool) (A1_1 : Option Addr) (c1_1 : Nat) (l1_1 : List Int) (r1 : Bool) (r2 : List Int) (w : World) (hr0_1 : Kd.C (Kd.int .u32) w A0_1 l0_1.length l0_1) (hc0_1 : l0_1.length ≤ c0_1) (hr1_1 : Kd.C (Kd.int .u32) w A1_1 l1_1.length l1_1) (hc1_1 : l1_1.length ≤ c1_1) (h : big_Min.f k a0_0 l0_1 a1_0 l1_1 = some (r1, r2)) :
  Calls Try.prog 49 #[.agg #[.bool a0_0, .slice A0_1 l0_1.length c0_1], .agg #[.bool a1_0, .slice A1_1 l1_1.length c1_1]] w fun e w' => ∃ v1_ : Value, e = .returned (.agg #[.bool r1, v1_]) ∧ Kd.R (Kd.int .u32) 87 w' w.heap.size (fun _ => True) v1_ r2 ∧ Below w.heap.size w w' := by
 have hu24 := Try.underlying24
 have HR0_1 := Aside0.mk hr0_1
 have HC0_1 := Aside0.mk hc0_1
 clear hr0_1 hc0_1
 have HR1_1 := Aside0.mk hr1_1
 have HC1_1 := Aside0.mk hc1_1
 clear hr1_1 hc1_1
 have HB := Aside0.mk (Below.refl w.heap.size w)
 have H : ((big_Cmp.f k a0_0 l0_1 a1_0 l1_1).bind fun t674 => (if t674 ≤ 0 then ((big_Norm.f k a0_0 l0_1).bind fun bt675 => (some (bt675.1, bt675.2))) else ((big_Norm.f k a1_0 l1_1).bind fun bt679 => (some (bt679.1, bt679.2))))) = some (r1, r2) := h
 clear h
 replace H := bi H
 obtain ⟨t674, A30, H⟩ := H
 have A3 := Aside0.mk A30
 clear A30
 by_cases c4 : t674 ≤ 0
 ·rw [if_pos c4] at H
  have c4b0 : decide (t674 ≤ 0) = true := decide_eq_true c4
  clear c4
  replace H := bi H
  obtain ⟨⟨t675, t676⟩, A50, H⟩ := H
  try dsimp only at H
  have A5 := Aside0.mk A50
  clear A50
  simp only [Option.some.injEq, Prod.mk.injEq] at H
  obtain ⟨rfl, rfl⟩ := H
  go_enter Try.func49, Try.ntmps49
  go_wp2_with (first | ((with_reducible refine gate_dst (N := 2) rfl ?_); refine bx (N := 2) #[.bool a0_0, .slice A0_1 l0_1.length c0_1] 24 ?_; intro gb671 hg w6 hbox hb; have BK671 := Aside0.mk (hbox); have GW671 := bz hg HB; have GE671 := bz hg HB; replace HB := bs HB hb; clear hb hbox hg) | ((with_reducible refine gate_dst (N := 3) rfl ?_); refine bx (N := 3) #[.bool a1_0, .slice A1_1 l1_1.length c1_1] 24 ?_; intro gb672 hg w7 hbox hb; have BK672 := Aside0.mk (hbox); have GW672 := bz hg HB; have GE672 := bz hg HB; replace HB := bs HB hb; have NB671_672 := nl hg BK671; have NB672_671 := ng hg BK671; replace BK671 := kb BK671 hb; clear hb hbox hg) | ((with_reducible refine gate_dst (N := 4) rfl ?_); refine bx (N := 4) #[.bool false, .slice none 0 0] 24 ?_; intro gb673 hg w8 hbox hb; have BK673 := Aside0.mk (hbox); have GW673 := bz hg HB; have GE673 := bz hg HB; replace HB := bs HB hb; have NB671_673 := nl hg BK671; have NB673_671 := ng hg BK671; replace BK671 := kb BK671 hb; have NB672_673 := nl hg BK672; have NB673_672 := ng hg BK672; replace BK672 := kb BK672 hb; clear hb hbox hg; have hnb9 := NB671_672.out; have hnc9 := NB672_671.out; have hnb10 := NB671_673.out; have hnc10 := NB673_671.out; have hcz11_0 := bc BK671 0 (.bool a0_0); have hcz11_1 := bc BK671 1 (.slice A0_1 l0_1.length c0_1); have hfz11_0 := blk_frozen BK671.out 0; have hfz11_1 := blk_frozen BK671.out 1; have hnb12 := NB672_673.out; have hnc12 := NB673_672.out; have hcz13_0 := bc BK672 0 (.bool a1_0); have hcz13_1 := bc BK672 1 (.slice A1_1 l1_1.length c1_1); have hfz13_0 := blk_frozen BK672.out 0; have hfz13_1 := blk_frozen BK672.out 1) | ((with_reducible refine gate_callee (f := 24) rfl ?_); refine gL (N := some 7) Try.func24 #[.agg #[.bool a0_0, .slice A0_1 l0_1.length c0_1], .agg #[.bool a1_0, .slice A1_1 l1_1.length c1_1]] ?_; (with_reducible refine (big_Cmp.calls k a0_0 _ _ l0_1 a1_0 _ _ l1_1 t674 _ ?side1 ?side2 ?side3 ?side4 A3.out).mono ?_); (case side1 => exact tc (Kd.C_below HR0_1.out HB.out)); (case side2 => exact HC0_1.out); (case side3 => exact tc (Kd.C_below HR1_1.out HB.out)); (case side4 => exact HC1_1.out); rintro e w14 ⟨rfl, hb⟩; refine ⟨_, rfl, ?_⟩; replace BK671 := kb BK671 hb; replace BK673 := kb BK673 hb; replace HB := bs HB hb; (try clear hb); (try clear hb2); (try clear hk); (try clear hi); have hcz15_0 := bc BK671 0 (.bool a0_0); have hcz15_1 := bc BK671 1 (.slice A0_1 l0_1.length c0_1); have hfz15_0 := blk_frozen BK671.out 0; have hfz15_1 := blk_frozen BK671.out 1) | ((with_reducible refine gate_callee (f := 32) rfl ?_); refine gL (N := some 10) Try.func32 #[.agg #[.bool a0_0, .slice A0_1 l0_1.length c0_1]] ?_; (with_reducible refine (big_Norm.calls k a0_0 _ _ l0_1 t675 t676 _ ?side1 ?side2 A5.out).mono ?_); (case side1 => exact tc (Kd.C_below HR0_1.out HB.out)); (case side2 => exact HC0_1.out); rintro e w16 ⟨v677, rfl, ho0, hb⟩; refine ⟨_, rfl, ?_⟩; have HO678 := rl ho0 HB; replace BK673 := kb BK673 hb; replace HB := bs HB hb; (try clear hb); (try clear hb2); (try clear hk); (try clear hi); (try clear ho0); have hcz17_0 := bc BK673 0 (.bool false); have hcz17_1 := bc BK673 1 (.slice none 0 0); have hfz17_0 := blk_frozen BK673.out 0; have hfz17_1 := blk_frozen BK673.out 1; obtain ⟨Ao18, co18, eo18⟩ := Kd.R_slice HO678.out; subst eo18))
  refine bodyPost_ret (results_cell_row rfl _ _ gb673 24 #[.bool t675, .slice Ao18 t676.length co18] (0, 0) _ rfl (tk BK673) Try.underlying24 rfl (by kernel_rfl)) rfl ?_
  exact ⟨_, by first | rfl | (simp [errW_none, errW_some] <;> rfl) | (simp [*, errW_none, errW_some] <;> rfl), by (with_reducible repeat first | apply qa | apply qn | apply qd); exact Kd.R_mono (Kd.R_far (p := ⟨gb673, 1, none⟩) (Kd.R_far (p := ⟨gb673, 0, none⟩) (Kd.R_types HO678.out BK673.out (by decide)) (fun _ hk => hk.2) (.bool t675)) (fun _ hk => hk.2) (.slice Ao18 t676.length co18)) (fun _ hk => trivial), tb HB⟩
 ·rw [if_neg c4] at H
  have c4b0 : decide (t674 ≤ 0) = false := decide_eq_false c4
  clear c4
  replace H := bi H
  obtain ⟨⟨t679, t680⟩, A190, H⟩ := H
  try dsimp only at H
  have A19 := Aside0.mk A190
  clear A190
  simp only [Option.some.injEq, Prod.mk.injEq] at H
  obtain ⟨rfl, rfl⟩ := H
  go_enter Try.func49, Try.ntmps49
  go_wp2_with (first | ((with_reducible refine gate_dst (N := 2) rfl ?_); refine bx (N := 2) #[.bool a0_0, .slice A0_1 l0_1.length c0_1] 24 ?_; intro gb671 hg w20 hbox hb; have BK671 := Aside0.mk (hbox); have GW671 := bz hg HB; have GE671 := bz hg HB; replace HB := bs HB hb; clear hb hbox hg) | ((with_reducible refine gate_dst (N := 3) rfl ?_); refine bx (N := 3) #[.bool a1_0, .slice A1_1 l1_1.length c1_1] 24 ?_; intro gb672 hg w21 hbox hb; have BK672 := Aside0.mk (hbox); have GW672 := bz hg HB; have GE672 := bz hg HB; replace HB := bs HB hb; have NB671_672 := nl hg BK671; have NB672_671 := ng hg BK671; replace BK671 := kb BK671 hb; clear hb hbox hg) | ((with_reducible refine gate_dst (N := 4) rfl ?_); refine bx (N := 4) #[.bool false, .slice none 0 0] 24 ?_; intro gb673 hg w22 hbox hb; have BK673 := Aside0.mk (hbox); have GW673 := bz hg HB; have GE673 := bz hg HB; replace HB := bs HB hb; have NB671_673 := nl hg BK671; have NB673_671 := ng hg BK671; replace BK671 := kb BK671 hb; have NB672_673 := nl hg BK672; have NB673_672 := ng hg BK672; replace BK672 := kb BK672 hb; clear hb hbox hg; have hnb23 := NB671_672.out; have hnc23 := NB672_671.out; have hnb24 := NB671_673.out; have hnc24 := NB673_671.out; have hcz25_0 := bc BK671 0 (.bool a0_0); have hcz25_1 := bc BK671 1 (.slice A0_1 l0_1.length c0_1); have hfz25_0 := blk_frozen BK671.out 0; have hfz25_1 := blk_frozen BK671.out 1; have hnb26 := NB672_673.out; have hnc26 := NB673_672.out; have hcz27_0 := bc BK672 0 (.bool a1_0); have hcz27_1 := bc BK672 1 (.slice A1_1 l1_1.length c1_1); have hfz27_0 := blk_frozen BK672.out 0; have hfz27_1 := blk_frozen BK672.out 1) | ((with_reducible refine gate_callee (f := 24) rfl ?_); refine gL (N := some 7) Try.func24 #[.agg #[.bool a0_0, .slice A0_1 l0_1.length c0_1], .agg #[.bool a1_0, .slice A1_1 l1_1.length c1_1]] ?_; (with_reducible refine (big_Cmp.calls k a0_0 _ _ l0_1 a1_0 _ _ l1_1 t674 _ ?side1 ?side2 ?side3 ?side4 A3.out).mono ?_); (case side1 => exact tc (Kd.C_below HR0_1.out HB.out)); (case side2 => exact HC0_1.out); (case side3 => exact tc (Kd.C_below HR1_1.out HB.out)); (case side4 => exact HC1_1.out); rintro e w28 ⟨rfl, hb⟩; refine ⟨_, rfl, ?_⟩; replace BK672 := kb BK672 hb; replace BK673 := kb BK673 hb; replace HB := bs HB hb; (try clear hb); (try clear hb2); (try clear hk); (try clear hi); have hcz29_0 := bc BK672 0 (.bool a1_0); have hcz29_1 := bc BK672 1 (.slice A1_1 l1_1.length c1_1); have hfz29_0 := blk_frozen BK672.out 0; have hfz29_1 := blk_frozen BK672.out 1) | ((with_reducible refine gate_callee (f := 32) rfl ?_); refine gL (N := some 12) Try.func32 #[.agg #[.bool a1_0, .slice A1_1 l1_1.length c1_1]] ?_; (with_reducible refine (big_Norm.calls k a1_0 _ _ l1_1 t679 t680 _ ?side1 ?side2 A19.out).mono ?_); (case side1 => exact tc (Kd.C_below HR1_1.out HB.out)); (case side2 => exact HC1_1.out); rintro e w30 ⟨v681, rfl, ho0, hb⟩; refine ⟨_, rfl, ?_⟩; have HO682 := rl ho0 HB; replace BK673 := kb BK673 hb; replace HB := bs HB hb; (try clear hb); (try clear hb2); (try clear hk); (try clear hi); (try clear ho0); have hcz31_0 := bc BK673 0 (.bool false); have hcz31_1 := bc BK673 1 (.slice none 0 0); have hfz31_0 := blk_frozen BK673.out 0; have hfz31_1 := blk_frozen BK673.out 1; obtain ⟨Ao32, co32, eo32⟩ := Kd.R_slice HO682.out; subst eo32))
  refine bodyPost_ret (results_cell_row rfl _ _ gb673 24 #[.bool t679, .slice Ao32 t680.length co32] (0, 0) _ rfl (tk BK673) Try.underlying24 rfl (by kernel_rfl)) rfl ?_
  exact ⟨_, by first | rfl | (simp [errW_none, errW_some] <;> rfl) | (simp [*, errW_none, errW_some] <;> rfl), by (with_reducible repeat first | apply qa | apply qn | apply qd); exact Kd.R_mono (Kd.R_far (p := ⟨gb673, 1, none⟩) (Kd.R_far (p := ⟨gb673, 0, none⟩) (Kd.R_types HO682.out BK673.out (by decide)) (fun _ hk => hk.2) (.bool t679)) (fun _ hk => hk.2) (.slice Ao32 t680.length co32)) (fun _ hk => trivial), tb HB⟩

/-! ### big_Max: function 50 -/
def big_Max.f (k : Nat) (a0_0 : Bool) (l0_1 : List Int) (a1_0 : Bool) (l1_1 : List Int) : Option (Bool × List Int) := (big_Cmp.f k a0_0 l0_1 a1_0 l1_1).bind fun t686 => (if t686 ≥ 0 then ((big_Norm.f k a0_0 l0_1).bind fun bt687 => (some (bt687.1, bt687.2))) else ((big_Norm.f k a1_0 l1_1).bind fun bt691 => (some (bt691.1, bt691.2))))
theorem big_Max.mono : ∀ a0 a1 a2 a3 k, LeO (big_Max.f k a0 a1 a2 a3) (big_Max.f (k + 1) a0 a1 a2 a3) := by
 intro a0 a1 a2 a3 k
 unfold big_Max.f
 repeat' with_reducible first | exact big_Cmp.mono _ _ _ _ _ | exact big_Norm.mono _ _ _ | exact LeO.refl _ | exact LeO.none _ | refine LeO.ite ?_ ?_ | refine LeO.bind ?_ (fun _ => ?_)
set_option maxHeartbeats 8000000 in
set_option maxRecDepth 100000 in
theorem big_Max.calls (k : Nat) (a0_0 : Bool) (A0_1 : Option Addr) (c0_1 : Nat) (l0_1 : List Int) (a1_0 : Bool) (A1_1 : Option Addr) (c1_1 : Nat) (l1_1 : List Int) (r1 : Bool) (r2 : List Int) (w : World) (hr0_1 : Kd.C (Kd.int .u32) w A0_1 l0_1.length l0_1) (hc0_1 : l0_1.length ≤ c0_1) (hr1_1 : Kd.C (Kd.int .u32) w A1_1 l1_1.length l1_1) (hc1_1 : l1_1.length ≤ c1_1) (h : big_Max.f k a0_0 l0_1 a1_0 l1_1 = some (r1, r2)) :
  Calls Try.prog 50 #[.agg #[.bool a0_0, .slice A0_1 l0_1.length c0_1], .agg #[.bool a1_0, .slice A1_1 l1_1.length c1_1]] w fun e w' => ∃ v1_ : Value, e = .returned (.agg #[.bool r1, v1_]) ∧ Kd.R (Kd.int .u32) 87 w' w.heap.size (fun _ => True) v1_ r2 ∧ Below w.heap.size w w' := by
 have hu24 := Try.underlying24
 have HR0_1 := Aside0.mk hr0_1
 have HC0_1 := Aside0.mk hc0_1
 clear hr0_1 hc0_1
 have HR1_1 := Aside0.mk hr1_1
 have HC1_1 := Aside0.mk hc1_1
 clear hr1_1 hc1_1
 have HB := Aside0.mk (Below.refl w.heap.size w)
 have H : ((big_Cmp.f k a0_0 l0_1 a1_0 l1_1).bind fun t686 => (if t686 ≥ 0 then ((big_Norm.f k a0_0 l0_1).bind fun bt687 => (some (bt687.1, bt687.2))) else ((big_Norm.f k a1_0 l1_1).bind fun bt691 => (some (bt691.1, bt691.2))))) = some (r1, r2) := h
 clear h
 replace H := bi H
 obtain ⟨t686, A30, H⟩ := H
 have A3 := Aside0.mk A30
 clear A30
 by_cases c4 : t686 ≥ 0
 ·rw [if_pos c4] at H
  have c4b0 : decide (0 ≤ t686) = true := decide_eq_true c4
  clear c4
  replace H := bi H
  obtain ⟨⟨t687, t688⟩, A50, H⟩ := H
  try dsimp only at H
  have A5 := Aside0.mk A50
  clear A50
  simp only [Option.some.injEq, Prod.mk.injEq] at H
  obtain ⟨rfl, rfl⟩ := H
  go_enter Try.func50, Try.ntmps50
  go_wp2_with (first | ((with_reducible refine gate_dst (N := 2) rfl ?_); refine bx (N := 2) #[.bool a0_0, .slice A0_1 l0_1.length c0_1] 24 ?_; intro gb683 hg w6 hbox hb; have BK683 := Aside0.mk (hbox); have GW683 := bz hg HB; have GE683 := bz hg HB; replace HB := bs HB hb; clear hb hbox hg) | ((with_reducible refine gate_dst (N := 3) rfl ?_); refine bx (N := 3) #[.bool a1_0, .slice A1_1 l1_1.length c1_1] 24 ?_; intro gb684 hg w7 hbox hb; have BK684 := Aside0.mk (hbox); have GW684 := bz hg HB; have GE684 := bz hg HB; replace HB := bs HB hb; have NB683_684 := nl hg BK683; have NB684_683 := ng hg BK683; replace BK683 := kb BK683 hb; clear hb hbox hg) | ((with_reducible refine gate_dst (N := 4) rfl ?_); refine bx (N := 4) #[.bool false, .slice none 0 0] 24 ?_; intro gb685 hg w8 hbox hb; have BK685 := Aside0.mk (hbox); have GW685 := bz hg HB; have GE685 := bz hg HB; replace HB := bs HB hb; have NB683_685 := nl hg BK683; have NB685_683 := ng hg BK683; replace BK683 := kb BK683 hb; have NB684_685 := nl hg BK684; have NB685_684 := ng hg BK684; replace BK684 := kb BK684 hb; clear hb hbox hg; have hnb9 := NB683_684.out; have hnc9 := NB684_683.out; have hnb10 := NB683_685.out; have hnc10 := NB685_683.out; have hcz11_0 := bc BK683 0 (.bool a0_0); have hcz11_1 := bc BK683 1 (.slice A0_1 l0_1.length c0_1); have hfz11_0 := blk_frozen BK683.out 0; have hfz11_1 := blk_frozen BK683.out 1; have hnb12 := NB684_685.out; have hnc12 := NB685_684.out; have hcz13_0 := bc BK684 0 (.bool a1_0); have hcz13_1 := bc BK684 1 (.slice A1_1 l1_1.length c1_1); have hfz13_0 := blk_frozen BK684.out 0; have hfz13_1 := blk_frozen BK684.out 1) | ((with_reducible refine gate_callee (f := 24) rfl ?_); refine gL (N := some 7) Try.func24 #[.agg #[.bool a0_0, .slice A0_1 l0_1.length c0_1], .agg #[.bool a1_0, .slice A1_1 l1_1.length c1_1]] ?_; (with_reducible refine (big_Cmp.calls k a0_0 _ _ l0_1 a1_0 _ _ l1_1 t686 _ ?side1 ?side2 ?side3 ?side4 A3.out).mono ?_); (case side1 => exact tc (Kd.C_below HR0_1.out HB.out)); (case side2 => exact HC0_1.out); (case side3 => exact tc (Kd.C_below HR1_1.out HB.out)); (case side4 => exact HC1_1.out); rintro e w14 ⟨rfl, hb⟩; refine ⟨_, rfl, ?_⟩; replace BK683 := kb BK683 hb; replace BK685 := kb BK685 hb; replace HB := bs HB hb; (try clear hb); (try clear hb2); (try clear hk); (try clear hi); have hcz15_0 := bc BK683 0 (.bool a0_0); have hcz15_1 := bc BK683 1 (.slice A0_1 l0_1.length c0_1); have hfz15_0 := blk_frozen BK683.out 0; have hfz15_1 := blk_frozen BK683.out 1) | ((with_reducible refine gate_callee (f := 32) rfl ?_); refine gL (N := some 10) Try.func32 #[.agg #[.bool a0_0, .slice A0_1 l0_1.length c0_1]] ?_; (with_reducible refine (big_Norm.calls k a0_0 _ _ l0_1 t687 t688 _ ?side1 ?side2 A5.out).mono ?_); (case side1 => exact tc (Kd.C_below HR0_1.out HB.out)); (case side2 => exact HC0_1.out); rintro e w16 ⟨v689, rfl, ho0, hb⟩; refine ⟨_, rfl, ?_⟩; have HO690 := rl ho0 HB; replace BK685 := kb BK685 hb; replace HB := bs HB hb; (try clear hb); (try clear hb2); (try clear hk); (try clear hi); (try clear ho0); have hcz17_0 := bc BK685 0 (.bool false); have hcz17_1 := bc BK685 1 (.slice none 0 0); have hfz17_0 := blk_frozen BK685.out 0; have hfz17_1 := blk_frozen BK685.out 1; obtain ⟨Ao18, co18, eo18⟩ := Kd.R_slice HO690.out; subst eo18))
  refine bodyPost_ret (results_cell_row rfl _ _ gb685 24 #[.bool t687, .slice Ao18 t688.length co18] (0, 0) _ rfl (tk BK685) Try.underlying24 rfl (by kernel_rfl)) rfl ?_
  exact ⟨_, by first | rfl | (simp [errW_none, errW_some] <;> rfl) | (simp [*, errW_none, errW_some] <;> rfl), by (with_reducible repeat first | apply qa | apply qn | apply qd); exact Kd.R_mono (Kd.R_far (p := ⟨gb685, 1, none⟩) (Kd.R_far (p := ⟨gb685, 0, none⟩) (Kd.R_types HO690.out BK685.out (by decide)) (fun _ hk => hk.2) (.bool t687)) (fun _ hk => hk.2) (.slice Ao18 t688.length co18)) (fun _ hk => trivial), tb HB⟩
 ·rw [if_neg c4] at H
  have c4b0 : decide (0 ≤ t686) = false := decide_eq_false c4
  clear c4
  replace H := bi H
  obtain ⟨⟨t691, t692⟩, A190, H⟩ := H
  try dsimp only at H
  have A19 := Aside0.mk A190
  clear A190
  simp only [Option.some.injEq, Prod.mk.injEq] at H
  obtain ⟨rfl, rfl⟩ := H
  go_enter Try.func50, Try.ntmps50
  go_wp2_with (first | ((with_reducible refine gate_dst (N := 2) rfl ?_); refine bx (N := 2) #[.bool a0_0, .slice A0_1 l0_1.length c0_1] 24 ?_; intro gb683 hg w20 hbox hb; have BK683 := Aside0.mk (hbox); have GW683 := bz hg HB; have GE683 := bz hg HB; replace HB := bs HB hb; clear hb hbox hg) | ((with_reducible refine gate_dst (N := 3) rfl ?_); refine bx (N := 3) #[.bool a1_0, .slice A1_1 l1_1.length c1_1] 24 ?_; intro gb684 hg w21 hbox hb; have BK684 := Aside0.mk (hbox); have GW684 := bz hg HB; have GE684 := bz hg HB; replace HB := bs HB hb; have NB683_684 := nl hg BK683; have NB684_683 := ng hg BK683; replace BK683 := kb BK683 hb; clear hb hbox hg) | ((with_reducible refine gate_dst (N := 4) rfl ?_); refine bx (N := 4) #[.bool false, .slice none 0 0] 24 ?_; intro gb685 hg w22 hbox hb; have BK685 := Aside0.mk (hbox); have GW685 := bz hg HB; have GE685 := bz hg HB; replace HB := bs HB hb; have NB683_685 := nl hg BK683; have NB685_683 := ng hg BK683; replace BK683 := kb BK683 hb; have NB684_685 := nl hg BK684; have NB685_684 := ng hg BK684; replace BK684 := kb BK684 hb; clear hb hbox hg; have hnb23 := NB683_684.out; have hnc23 := NB684_683.out; have hnb24 := NB683_685.out; have hnc24 := NB685_683.out; have hcz25_0 := bc BK683 0 (.bool a0_0); have hcz25_1 := bc BK683 1 (.slice A0_1 l0_1.length c0_1); have hfz25_0 := blk_frozen BK683.out 0; have hfz25_1 := blk_frozen BK683.out 1; have hnb26 := NB684_685.out; have hnc26 := NB685_684.out; have hcz27_0 := bc BK684 0 (.bool a1_0); have hcz27_1 := bc BK684 1 (.slice A1_1 l1_1.length c1_1); have hfz27_0 := blk_frozen BK684.out 0; have hfz27_1 := blk_frozen BK684.out 1) | ((with_reducible refine gate_callee (f := 24) rfl ?_); refine gL (N := some 7) Try.func24 #[.agg #[.bool a0_0, .slice A0_1 l0_1.length c0_1], .agg #[.bool a1_0, .slice A1_1 l1_1.length c1_1]] ?_; (with_reducible refine (big_Cmp.calls k a0_0 _ _ l0_1 a1_0 _ _ l1_1 t686 _ ?side1 ?side2 ?side3 ?side4 A3.out).mono ?_); (case side1 => exact tc (Kd.C_below HR0_1.out HB.out)); (case side2 => exact HC0_1.out); (case side3 => exact tc (Kd.C_below HR1_1.out HB.out)); (case side4 => exact HC1_1.out); rintro e w28 ⟨rfl, hb⟩; refine ⟨_, rfl, ?_⟩; replace BK684 := kb BK684 hb; replace BK685 := kb BK685 hb; replace HB := bs HB hb; (try clear hb); (try clear hb2); (try clear hk); (try clear hi); have hcz29_0 := bc BK684 0 (.bool a1_0); have hcz29_1 := bc BK684 1 (.slice A1_1 l1_1.length c1_1); have hfz29_0 := blk_frozen BK684.out 0; have hfz29_1 := blk_frozen BK684.out 1) | ((with_reducible refine gate_callee (f := 32) rfl ?_); refine gL (N := some 12) Try.func32 #[.agg #[.bool a1_0, .slice A1_1 l1_1.length c1_1]] ?_; (with_reducible refine (big_Norm.calls k a1_0 _ _ l1_1 t691 t692 _ ?side1 ?side2 A19.out).mono ?_); (case side1 => exact tc (Kd.C_below HR1_1.out HB.out)); (case side2 => exact HC1_1.out); rintro e w30 ⟨v693, rfl, ho0, hb⟩; refine ⟨_, rfl, ?_⟩; have HO694 := rl ho0 HB; replace BK685 := kb BK685 hb; replace HB := bs HB hb; (try clear hb); (try clear hb2); (try clear hk); (try clear hi); (try clear ho0); have hcz31_0 := bc BK685 0 (.bool false); have hcz31_1 := bc BK685 1 (.slice none 0 0); have hfz31_0 := blk_frozen BK685.out 0; have hfz31_1 := blk_frozen BK685.out 1; obtain ⟨Ao32, co32, eo32⟩ := Kd.R_slice HO694.out; subst eo32))
  refine bodyPost_ret (results_cell_row rfl _ _ gb685 24 #[.bool t691, .slice Ao32 t692.length co32] (0, 0) _ rfl (tk BK685) Try.underlying24 rfl (by kernel_rfl)) rfl ?_
  exact ⟨_, by first | rfl | (simp [errW_none, errW_some] <;> rfl) | (simp [*, errW_none, errW_some] <;> rfl), by (with_reducible repeat first | apply qa | apply qn | apply qd); exact Kd.R_mono (Kd.R_far (p := ⟨gb685, 1, none⟩) (Kd.R_far (p := ⟨gb685, 0, none⟩) (Kd.R_types HO694.out BK685.out (by decide)) (fun _ hk => hk.2) (.bool t691)) (fun _ hk => hk.2) (.slice Ao32 t692.length co32)) (fun _ hk => trivial), tb HB⟩

end Go.Proofs.Ytjpnaapimnoamaa.QBigChoices
