-- written by wip/wprint, a program of this session
import Derived.Test.YtjpnaapimnoamaaQBigRestsx0
import Derived.Test.YtjpnaapimnoamaaQBigRestsx4
import Derived.Test.YtjpnaapimnoamaaQBigRestsx9
import Derived.Test.YtjpnaapimnoamaaQBigRestsx10
import Derived.Test.YtjpnaapimnoamaaQBigRestsx13
namespace Go.Proofs.Ytjpnaapimnoamaa.QBigRests
open Go.RowKit Go.Proofs.YtjpnaapimnoamaaW.PrintWords Go.Proofs.YtjpnaapimnoamaaW.PrintLast Go.Proofs.YtjpnaapimnoamaaW.PrintMore
open Go.Proofs.YtjpnaapimnoamaaW.PrintWords.Kd renaming R_alloc → qa, R_drewN → qn, R_drew → qd
open Go.Proofs.YtjpnaapimnoamaaW.PrintWords renaming below_alloc → ba, pw_below_drewN → bn, below_drew1 → bd
attribute [local go_sem] max2_int min2_int max_two min_two max_three min_three max_four min_four   -- for this text's walks alone
set_option linter.unusedVariables false
set_option linter.unusedSimpArgs false

/-! ### big_Cmp: function 24 -/
def big_Cmp.f (k : Nat) (a0_0 : Bool) (l0_1 : List Int) (a1_0 : Bool) (l1_1 : List Int) : Option (Int) := (big_Sign.f k a0_0 l0_1).bind fun t611 => ((big_Sign.f k a1_0 l1_1).bind fun t612 => (if t611 < t612 then (some (-1)) else (if t611 > t612 then (some 1) else ((nat_Cmp.f k l0_1 l1_1).bind fun t613 => (some (wrap64 (t611 * t613)))))))
theorem big_Cmp.mono : ∀ a0 a1 a2 a3 k, LeO (big_Cmp.f k a0 a1 a2 a3) (big_Cmp.f (k + 1) a0 a1 a2 a3) := by
 intro a0 a1 a2 a3 k
 unfold big_Cmp.f
 repeat' first
   | (with_reducible exact big_Sign.mono _ _ _)
   | (with_reducible exact nat_Cmp.mono _ _ _)
   | (with_reducible exact LeO.refl _)
   | (with_reducible exact LeO.none _)
   | (with_reducible refine LeO.ite ?_ ?_)
   | (with_reducible refine LeO.bind ?_ (fun _ => ?_))
   | exact big_Sign.mono _ _ _
   | exact nat_Cmp.mono _ _ _
   | exact LeO.none _
   | refine LeO.ite ?_ ?_
   | refine LeO.bind ?_ (fun _ => ?_)
set_option maxHeartbeats 8000000 in
set_option maxRecDepth 100000 in
theorem big_Cmp.calls (k : Nat) (a0_0 : Bool) (A0_1 : Option Addr) (c0_1 : Nat) (l0_1 : List Int) (a1_0 : Bool) (A1_1 : Option Addr) (c1_1 : Nat) (l1_1 : List Int) (r : Int) (w : World) (hr0_1 : Kd.C (Kd.int .u32) w A0_1 l0_1.length l0_1) (hc0_1 : l0_1.length ≤ c0_1) (hr1_1 : Kd.C (Kd.int .u32) w A1_1 l1_1.length l1_1) (hc1_1 : l1_1.length ≤ c1_1) (h : big_Cmp.f k a0_0 l0_1 a1_0 l1_1 = some r) :
  Calls Try.prog 24 #[.agg #[.bool a0_0, .slice A0_1 l0_1.length c0_1], .agg #[.bool a1_0, .slice A1_1 l1_1.length c1_1]] w fun e w' => e = .returned (.int .i64 r) ∧ Below w.heap.size w w' := by
 have hu24 := Try.underlying24
 have HR0_1 := Aside0.mk hr0_1
 have HC0_1 := Aside0.mk hc0_1
 clear hr0_1 hc0_1
 have HR1_1 := Aside0.mk hr1_1
 have HC1_1 := Aside0.mk hc1_1
 clear hr1_1 hc1_1
 have HB := Aside0.mk (Below.refl w.heap.size w)
 have H : ((big_Sign.f k a0_0 l0_1).bind fun t611 => ((big_Sign.f k a1_0 l1_1).bind fun t612 => (if t611 < t612 then (some (-1)) else (if t611 > t612 then (some 1) else ((nat_Cmp.f k l0_1 l1_1).bind fun t613 => (some (wrap64 (t611 * t613)))))))) = some r := h
 clear h
 replace H := Option.bind_eq_some_iff.mp H
 obtain ⟨t611, A30, H⟩ := H
 have A3 := Aside0.mk A30
 clear A30
 replace H := Option.bind_eq_some_iff.mp H
 obtain ⟨t612, A40, H⟩ := H
 have A4 := Aside0.mk A40
 clear A40
 by_cases c5 : t611 < t612
 ·rw [if_pos c5] at H
  have c5b0 : decide (t611 < t612) = true := decide_eq_true c5
  clear c5
  obtain rfl := Option.some.inj H
  go_enter Try.func24, Try.ntmps24
  try go_wp2_with (first | ((with_reducible refine gate_dst (N := 2) rfl ?_); refine bx (N := 2) #[.bool a0_0, .slice A0_1 l0_1.length c0_1] 24 ?_; intro gb609 hg w6 hbox hb; have BK609 := Aside0.mk (hbox); have GW609 := bz hg HB; have GE609 := bz hg HB; replace HB := bs HB hb; clear hb hbox hg) | ((with_reducible refine gate_dst (N := 3) rfl ?_); refine bx (N := 3) #[.bool a1_0, .slice A1_1 l1_1.length c1_1] 24 ?_; intro gb610 hg w7 hbox hb; have BK610 := Aside0.mk (hbox); have GW610 := bz hg HB; have GE610 := bz hg HB; replace HB := bs HB hb; have NB609_610 := nl hg BK609; have NB610_609 := ng hg BK609; replace BK609 := kb BK609 hb; clear hb hbox hg))
  replace BK609 := Aside0.mk (blk_drew BK609.out)
  replace BK610 := Aside0.mk (blk_drew BK610.out)
  replace HB := Aside0.mk (below_drew1 HB.out)
  refine start_ (n := 6) (S := fun w' => w'.cell? ⟨gb609, 0, none⟩ = some (.bool a0_0) ∧ w'.cell? ⟨gb609, 1, none⟩ = some (.slice A0_1 l0_1.length c0_1) ∧ w'.cell? ⟨gb610, 0, none⟩ = some (.bool a1_0) ∧ w'.cell? ⟨gb610, 1, none⟩ = some (.slice A1_1 l1_1.length c1_1)) (ds := []) #[false, false, false, false, false, false] (by kernel_rfl) rfl rfl ⟨(blk_cell BK609.out 0).trans rfl, (blk_cell BK609.out 1).trans rfl, (blk_cell BK610.out 0).trans rfl, (blk_cell BK610.out 1).trans rfl⟩ (fun hHeld => ?_)
  generalize w7.drew = w8 at BK609 BK610 HB hHeld ⊢
  refine t0 (i := 0) (N := some 7) (bb 6 1) hHeld ?_
  refine t0 (i := 2) (N := some 9) (bb 6 5) hHeld ?_
  refine o0 (i := 1) (N := some 8) (bb 6 7) fun K hK => ?_
  refine gS Try.func26 #[.agg #[.bool a0_0, .slice A0_1 l0_1.length c0_1]] ?_
  with_reducible refine (big_Sign.calls k a0_0 _ _ l0_1 t611 _ ?side1 ?side2 A3.out).mono ?_
  (case side1 => exact tc (Kd.C_below HR0_1.out HB.out))
  (case side2 => exact HC0_1.out)
  rintro e w9 ⟨rfl, hb⟩
  refine ⟨_, rfl, ?_⟩
  replace BK609 := kb BK609 hb
  replace BK610 := kb BK610 hb
  replace HB := bs HB hb
  (try clear hb); (try clear hb2); (try clear hk); (try clear hi)
  refine hK.out _ _ ⟨(blk_cell BK609.out 0).trans rfl, (blk_cell BK609.out 1).trans rfl, (blk_cell BK610.out 0).trans rfl, (blk_cell BK610.out 1).trans rfl⟩ fun hHeld => nT (N := some 8) ?_
  clear hK K
  refine o0 (i := 3) (N := some 10) (bb 6 15) fun K hK => ?_
  refine gS Try.func26 #[.agg #[.bool a1_0, .slice A1_1 l1_1.length c1_1]] ?_
  with_reducible refine (big_Sign.calls k a1_0 _ _ l1_1 t612 _ ?side1 ?side2 A4.out).mono ?_
  (case side1 => exact tc (Kd.C_below HR1_1.out HB.out))
  (case side2 => exact HC1_1.out)
  rintro e w10 ⟨rfl, hb⟩
  refine ⟨_, rfl, ?_⟩
  replace BK609 := kb BK609 hb
  replace BK610 := kb BK610 hb
  replace HB := bs HB hb
  (try clear hb); (try clear hb2); (try clear hk); (try clear hi)
  refine hK.out _ _ ⟨(blk_cell BK609.out 0).trans rfl, (blk_cell BK609.out 1).trans rfl, (blk_cell BK610.out 0).trans rfl, (blk_cell BK610.out 1).trans rfl⟩ fun hHeld => nT (N := some 10) ?_
  clear hK K
  refine p0 (i := 4) (N := some 5) (bb 6 31) ?_
  refine p0 (i := 5) (N := some 6) (bb 6 63) ?_
  refine done_ (by kernel_rfl) ?_
  try go_wp2
  go_ret
  exact ⟨by first | rfl | (simp [errW_none, errW_some] <;> rfl) | (simp [*, errW_none, errW_some] <;> rfl), tb HB⟩
 ·rw [if_neg c5] at H
  have c5b0 : decide (t611 < t612) = false := decide_eq_false c5
  clear c5
  by_cases c11 : t611 > t612
  ·rw [if_pos c11] at H
   have c11b0 : decide (t612 < t611) = true := decide_eq_true c11
   clear c11
   obtain rfl := Option.some.inj H
   go_enter Try.func24, Try.ntmps24
   try go_wp2_with (first | ((with_reducible refine gate_dst (N := 2) rfl ?_); refine bx (N := 2) #[.bool a0_0, .slice A0_1 l0_1.length c0_1] 24 ?_; intro gb609 hg w12 hbox hb; have BK609 := Aside0.mk (hbox); have GW609 := bz hg HB; have GE609 := bz hg HB; replace HB := bs HB hb; clear hb hbox hg) | ((with_reducible refine gate_dst (N := 3) rfl ?_); refine bx (N := 3) #[.bool a1_0, .slice A1_1 l1_1.length c1_1] 24 ?_; intro gb610 hg w13 hbox hb; have BK610 := Aside0.mk (hbox); have GW610 := bz hg HB; have GE610 := bz hg HB; replace HB := bs HB hb; have NB609_610 := nl hg BK609; have NB610_609 := ng hg BK609; replace BK609 := kb BK609 hb; clear hb hbox hg))
   replace BK609 := Aside0.mk (blk_drew BK609.out)
   replace BK610 := Aside0.mk (blk_drew BK610.out)
   replace HB := Aside0.mk (below_drew1 HB.out)
   refine start_ (n := 6) (S := fun w' => w'.cell? ⟨gb609, 0, none⟩ = some (.bool a0_0) ∧ w'.cell? ⟨gb609, 1, none⟩ = some (.slice A0_1 l0_1.length c0_1) ∧ w'.cell? ⟨gb610, 0, none⟩ = some (.bool a1_0) ∧ w'.cell? ⟨gb610, 1, none⟩ = some (.slice A1_1 l1_1.length c1_1)) (ds := []) #[false, false, false, false, false, false] (by kernel_rfl) rfl rfl ⟨(blk_cell BK609.out 0).trans rfl, (blk_cell BK609.out 1).trans rfl, (blk_cell BK610.out 0).trans rfl, (blk_cell BK610.out 1).trans rfl⟩ (fun hHeld => ?_)
   generalize w13.drew = w14 at BK609 BK610 HB hHeld ⊢
   refine t0 (i := 0) (N := some 7) (bb 6 1) hHeld ?_
   refine t0 (i := 2) (N := some 9) (bb 6 5) hHeld ?_
   refine o0 (i := 1) (N := some 8) (bb 6 7) fun K hK => ?_
   refine gS Try.func26 #[.agg #[.bool a0_0, .slice A0_1 l0_1.length c0_1]] ?_
   with_reducible refine (big_Sign.calls k a0_0 _ _ l0_1 t611 _ ?side1 ?side2 A3.out).mono ?_
   (case side1 => exact tc (Kd.C_below HR0_1.out HB.out))
   (case side2 => exact HC0_1.out)
   rintro e w15 ⟨rfl, hb⟩
   refine ⟨_, rfl, ?_⟩
   replace BK609 := kb BK609 hb
   replace BK610 := kb BK610 hb
   replace HB := bs HB hb
   (try clear hb); (try clear hb2); (try clear hk); (try clear hi)
   refine hK.out _ _ ⟨(blk_cell BK609.out 0).trans rfl, (blk_cell BK609.out 1).trans rfl, (blk_cell BK610.out 0).trans rfl, (blk_cell BK610.out 1).trans rfl⟩ fun hHeld => nT (N := some 8) ?_
   clear hK K
   refine o0 (i := 3) (N := some 10) (bb 6 15) fun K hK => ?_
   refine gS Try.func26 #[.agg #[.bool a1_0, .slice A1_1 l1_1.length c1_1]] ?_
   with_reducible refine (big_Sign.calls k a1_0 _ _ l1_1 t612 _ ?side1 ?side2 A4.out).mono ?_
   (case side1 => exact tc (Kd.C_below HR1_1.out HB.out))
   (case side2 => exact HC1_1.out)
   rintro e w16 ⟨rfl, hb⟩
   refine ⟨_, rfl, ?_⟩
   replace BK609 := kb BK609 hb
   replace BK610 := kb BK610 hb
   replace HB := bs HB hb
   (try clear hb); (try clear hb2); (try clear hk); (try clear hi)
   refine hK.out _ _ ⟨(blk_cell BK609.out 0).trans rfl, (blk_cell BK609.out 1).trans rfl, (blk_cell BK610.out 0).trans rfl, (blk_cell BK610.out 1).trans rfl⟩ fun hHeld => nT (N := some 10) ?_
   clear hK K
   refine p0 (i := 4) (N := some 5) (bb 6 31) ?_
   refine p0 (i := 5) (N := some 6) (bb 6 63) ?_
   refine done_ (by kernel_rfl) ?_
   try go_wp2
   go_ret
   exact ⟨by first | rfl | (simp [errW_none, errW_some] <;> rfl) | (simp [*, errW_none, errW_some] <;> rfl), tb HB⟩
  ·rw [if_neg c11] at H
   have c11b0 : decide (t612 < t611) = false := decide_eq_false c11
   clear c11
   replace H := Option.bind_eq_some_iff.mp H
   obtain ⟨t613, A170, H⟩ := H
   have A17 := Aside0.mk A170
   clear A170
   obtain rfl := Option.some.inj H
   go_enter Try.func24, Try.ntmps24
   try go_wp2_with (first | ((with_reducible refine gate_dst (N := 2) rfl ?_); refine bx (N := 2) #[.bool a0_0, .slice A0_1 l0_1.length c0_1] 24 ?_; intro gb609 hg w18 hbox hb; have BK609 := Aside0.mk (hbox); have GW609 := bz hg HB; have GE609 := bz hg HB; replace HB := bs HB hb; clear hb hbox hg) | ((with_reducible refine gate_dst (N := 3) rfl ?_); refine bx (N := 3) #[.bool a1_0, .slice A1_1 l1_1.length c1_1] 24 ?_; intro gb610 hg w19 hbox hb; have BK610 := Aside0.mk (hbox); have GW610 := bz hg HB; have GE610 := bz hg HB; replace HB := bs HB hb; have NB609_610 := nl hg BK609; have NB610_609 := ng hg BK609; replace BK609 := kb BK609 hb; clear hb hbox hg))
   replace BK609 := Aside0.mk (blk_drew BK609.out)
   replace BK610 := Aside0.mk (blk_drew BK610.out)
   replace HB := Aside0.mk (below_drew1 HB.out)
   refine start_ (n := 6) (S := fun w' => w'.cell? ⟨gb609, 0, none⟩ = some (.bool a0_0) ∧ w'.cell? ⟨gb609, 1, none⟩ = some (.slice A0_1 l0_1.length c0_1) ∧ w'.cell? ⟨gb610, 0, none⟩ = some (.bool a1_0) ∧ w'.cell? ⟨gb610, 1, none⟩ = some (.slice A1_1 l1_1.length c1_1)) (ds := []) #[false, false, false, false, false, false] (by kernel_rfl) rfl rfl ⟨(blk_cell BK609.out 0).trans rfl, (blk_cell BK609.out 1).trans rfl, (blk_cell BK610.out 0).trans rfl, (blk_cell BK610.out 1).trans rfl⟩ (fun hHeld => ?_)
   generalize w19.drew = w20 at BK609 BK610 HB hHeld ⊢
   refine t0 (i := 0) (N := some 7) (bb 6 1) hHeld ?_
   refine t0 (i := 2) (N := some 9) (bb 6 5) hHeld ?_
   refine o0 (i := 1) (N := some 8) (bb 6 7) fun K hK => ?_
   refine gS Try.func26 #[.agg #[.bool a0_0, .slice A0_1 l0_1.length c0_1]] ?_
   with_reducible refine (big_Sign.calls k a0_0 _ _ l0_1 t611 _ ?side1 ?side2 A3.out).mono ?_
   (case side1 => exact tc (Kd.C_below HR0_1.out HB.out))
   (case side2 => exact HC0_1.out)
   rintro e w21 ⟨rfl, hb⟩
   refine ⟨_, rfl, ?_⟩
   replace BK609 := kb BK609 hb
   replace BK610 := kb BK610 hb
   replace HB := bs HB hb
   (try clear hb); (try clear hb2); (try clear hk); (try clear hi)
   refine hK.out _ _ ⟨(blk_cell BK609.out 0).trans rfl, (blk_cell BK609.out 1).trans rfl, (blk_cell BK610.out 0).trans rfl, (blk_cell BK610.out 1).trans rfl⟩ fun hHeld => nT (N := some 8) ?_
   clear hK K
   refine o0 (i := 3) (N := some 10) (bb 6 15) fun K hK => ?_
   refine gS Try.func26 #[.agg #[.bool a1_0, .slice A1_1 l1_1.length c1_1]] ?_
   with_reducible refine (big_Sign.calls k a1_0 _ _ l1_1 t612 _ ?side1 ?side2 A4.out).mono ?_
   (case side1 => exact tc (Kd.C_below HR1_1.out HB.out))
   (case side2 => exact HC1_1.out)
   rintro e w22 ⟨rfl, hb⟩
   refine ⟨_, rfl, ?_⟩
   replace BK609 := kb BK609 hb
   replace BK610 := kb BK610 hb
   replace HB := bs HB hb
   (try clear hb); (try clear hb2); (try clear hk); (try clear hi)
   refine hK.out _ _ ⟨(blk_cell BK609.out 0).trans rfl, (blk_cell BK609.out 1).trans rfl, (blk_cell BK610.out 0).trans rfl, (blk_cell BK610.out 1).trans rfl⟩ fun hHeld => nT (N := some 10) ?_
   clear hK K
   refine p0 (i := 4) (N := some 5) (bb 6 31) ?_
   refine p0 (i := 5) (N := some 6) (bb 6 63) ?_
   refine done_ (by kernel_rfl) ?_
   have hnb23 := NB609_610.out
   have hnc23 := NB610_609.out
   have hcz24_0 := bc BK609 0 (.bool a0_0)
   have hcz24_1 := bc BK609 1 (.slice A0_1 l0_1.length c0_1)
   have hfz24_0 := blk_frozen BK609.out 0
   have hfz24_1 := blk_frozen BK609.out 1
   have hcz25_0 := bc BK610 0 (.bool a1_0)
   have hcz25_1 := bc BK610 1 (.slice A1_1 l1_1.length c1_1)
   have hfz25_0 := blk_frozen BK610.out 0
   have hfz25_1 := blk_frozen BK610.out 1
   try go_wp2_with (first | ((with_reducible refine gate_callee (f := 65) rfl ?_); refine gL (N := some 24) Try.func65 #[.slice A0_1 l0_1.length c0_1, .slice A1_1 l1_1.length c1_1] ?_; (with_reducible refine (nat_Cmp.calls k _ _ l0_1 _ _ l1_1 t613 _ ?side1 ?side2 ?side3 ?side4 A17.out).mono ?_); (case side1 => exact tc (Kd.C_below HR0_1.out HB.out)); (case side2 => exact HC0_1.out); (case side3 => exact tc (Kd.C_below HR1_1.out HB.out)); (case side4 => exact HC1_1.out); rintro e w26 ⟨rfl, hb⟩; refine ⟨_, rfl, ?_⟩; replace HB := bs HB hb; (try clear hb); (try clear hb2); (try clear hk); (try clear hi)))
   go_ret
   exact ⟨by first | rfl | (simp [errW_none, errW_some] <;> rfl) | (simp [*, errW_none, errW_some] <;> rfl), tb HB⟩

/-! ### big_Floor: function 35 -/
def big_Floor.f (k : Nat) (a0_0 : Bool) (l0_1 : List Int) (a1_0 : Bool) (l1_1 : List Int) : Option (Bool × List Int × Int) := (big_Sign.f k a1_0 l1_1).bind fun t617 => (if t617 < 0 then ((big_Neg.f k a0_0 l0_1).bind fun bt618 => ((big_Neg.f k a1_0 l1_1).bind fun bt622 => ((big_DivMod.f k bt618.1 bt618.2 bt622.1 bt622.2).bind fun bt626 => (some (bt626.1, bt626.2.1, bt626.2.2.2.2))))) else ((big_DivMod.f k a0_0 l0_1 a1_0 l1_1).bind fun bt637 => (some (bt637.1, bt637.2.1, bt637.2.2.2.2))))
theorem big_Floor.mono : ∀ a0 a1 a2 a3 k, LeO (big_Floor.f k a0 a1 a2 a3) (big_Floor.f (k + 1) a0 a1 a2 a3) := by
 intro a0 a1 a2 a3 k
 unfold big_Floor.f
 repeat' first
   | (with_reducible exact big_DivMod.mono _ _ _ _ _)
   | (with_reducible exact big_Neg.mono _ _ _)
   | (with_reducible exact big_Sign.mono _ _ _)
   | (with_reducible exact LeO.refl _)
   | (with_reducible exact LeO.none _)
   | (with_reducible refine LeO.ite ?_ ?_)
   | (with_reducible refine LeO.bind ?_ (fun _ => ?_))
   | exact big_DivMod.mono _ _ _ _ _
   | exact big_Neg.mono _ _ _
   | exact big_Sign.mono _ _ _
   | exact LeO.none _
   | refine LeO.ite ?_ ?_
   | refine LeO.bind ?_ (fun _ => ?_)
set_option maxHeartbeats 8000000 in
set_option maxRecDepth 100000 in
theorem big_Floor.calls (k : Nat) (a0_0 : Bool) (A0_1 : Option Addr) (c0_1 : Nat) (l0_1 : List Int) (a1_0 : Bool) (A1_1 : Option Addr) (c1_1 : Nat) (l1_1 : List Int) (r1 : Bool) (r2 : List Int) (r3 : Int) (w : World) (hr0_1 : Kd.C (Kd.int .u32) w A0_1 l0_1.length l0_1) (hc0_1 : l0_1.length ≤ c0_1) (hr1_1 : Kd.C (Kd.int .u32) w A1_1 l1_1.length l1_1) (hc1_1 : l1_1.length ≤ c1_1) (h : big_Floor.f k a0_0 l0_1 a1_0 l1_1 = some (r1, r2, r3)) :
  Calls Try.prog 35 #[.agg #[.bool a0_0, .slice A0_1 l0_1.length c0_1], .agg #[.bool a1_0, .slice A1_1 l1_1.length c1_1]] w fun e w' => ∃ v1_ : Value, e = .returned (.tuple #[.agg #[.bool r1, v1_], .int .i64 r3]) ∧ Kd.R (Kd.int .u32) 87 w' w.heap.size (fun _ => True) v1_ r2 ∧ Below w.heap.size w w' := by
 have hu24 := Try.underlying24
 have HR0_1 := Aside0.mk hr0_1
 have HC0_1 := Aside0.mk hc0_1
 clear hr0_1 hc0_1
 have HR1_1 := Aside0.mk hr1_1
 have HC1_1 := Aside0.mk hc1_1
 clear hr1_1 hc1_1
 have HB := Aside0.mk (Below.refl w.heap.size w)
 have H : ((big_Sign.f k a1_0 l1_1).bind fun t617 => (if t617 < 0 then ((big_Neg.f k a0_0 l0_1).bind fun bt618 => ((big_Neg.f k a1_0 l1_1).bind fun bt622 => ((big_DivMod.f k bt618.1 bt618.2 bt622.1 bt622.2).bind fun bt626 => (some (bt626.1, bt626.2.1, bt626.2.2.2.2))))) else ((big_DivMod.f k a0_0 l0_1 a1_0 l1_1).bind fun bt637 => (some (bt637.1, bt637.2.1, bt637.2.2.2.2))))) = some (r1, r2, r3) := h
 clear h
 replace H := Option.bind_eq_some_iff.mp H
 obtain ⟨t617, A30, H⟩ := H
 have A3 := Aside0.mk A30
 clear A30
 by_cases c4 : t617 < 0
 ·rw [if_pos c4] at H
  have c4b0 : decide (t617 < 0) = true := decide_eq_true c4
  clear c4
  replace H := Option.bind_eq_some_iff.mp H
  obtain ⟨⟨t618, t619⟩, A50, H⟩ := H
  try dsimp only at H
  have A5 := Aside0.mk A50
  clear A50
  replace H := Option.bind_eq_some_iff.mp H
  obtain ⟨⟨t622, t623⟩, A60, H⟩ := H
  try dsimp only at H
  have A6 := Aside0.mk A60
  clear A60
  replace H := Option.bind_eq_some_iff.mp H
  obtain ⟨⟨t626, t627, t630, t631, t634⟩, A70, H⟩ := H
  try dsimp only at H
  have A7 := Aside0.mk A70
  clear A70
  simp only [Option.some.injEq, Prod.mk.injEq] at H
  obtain ⟨rfl, rfl, rfl⟩ := H
  go_enter Try.func35, Try.ntmps35
  try go_wp2_with (first | ((with_reducible refine gate_dst (N := 2) rfl ?_); refine bx (N := 2) #[.bool a0_0, .slice A0_1 l0_1.length c0_1] 24 ?_; intro gb614 hg w8 hbox hb; have BK614 := Aside0.mk (hbox); have GW614 := bz hg HB; have GE614 := bz hg HB; replace HB := bs HB hb; clear hb hbox hg) | ((with_reducible refine gate_dst (N := 3) rfl ?_); refine bx (N := 3) #[.bool a1_0, .slice A1_1 l1_1.length c1_1] 24 ?_; intro gb615 hg w9 hbox hb; have BK615 := Aside0.mk (hbox); have GW615 := bz hg HB; have GE615 := bz hg HB; replace HB := bs HB hb; have NB614_615 := nl hg BK614; have NB615_614 := ng hg BK614; replace BK614 := kb BK614 hb; clear hb hbox hg) | ((with_reducible refine gate_dst (N := 4) rfl ?_); refine bx (N := 4) #[.bool false, .slice none 0 0] 24 ?_; intro gb616 hg w10 hbox hb; have BK616 := Aside0.mk (hbox); have GW616 := bz hg HB; have GE616 := bz hg HB; replace HB := bs HB hb; have NB614_616 := nl hg BK614; have NB616_614 := ng hg BK614; replace BK614 := kb BK614 hb; have NB615_616 := nl hg BK615; have NB616_615 := ng hg BK615; replace BK615 := kb BK615 hb; clear hb hbox hg; have hnb11 := NB615_614.out; have hnc11 := NB614_615.out; have hnb12 := NB615_616.out; have hnc12 := NB616_615.out; have hcz13_0 := bc BK615 0 (.bool a1_0); have hcz13_1 := bc BK615 1 (.slice A1_1 l1_1.length c1_1); have hfz13_0 := blk_frozen BK615.out 0; have hfz13_1 := blk_frozen BK615.out 1) | ((with_reducible refine gate_callee (f := 26) rfl ?_); refine gL (N := some 10) Try.func26 #[.agg #[.bool a1_0, .slice A1_1 l1_1.length c1_1]] ?_; (with_reducible refine (big_Sign.calls k a1_0 _ _ l1_1 t617 _ ?side1 ?side2 A3.out).mono ?_); (case side1 => exact tc (Kd.C_below HR1_1.out HB.out)); (case side2 => exact HC1_1.out); rintro e w14 ⟨rfl, hb⟩; refine ⟨_, rfl, ?_⟩; replace BK614 := kb BK614 hb; replace BK615 := kb BK615 hb; replace BK616 := kb BK616 hb; replace HB := bs HB hb; (try clear hb); (try clear hb2); (try clear hk); (try clear hi)))
  replace BK614 := Aside0.mk (blk_drew BK614.out)
  replace BK615 := Aside0.mk (blk_drew BK615.out)
  replace BK616 := Aside0.mk (blk_drew BK616.out)
  replace HB := Aside0.mk (below_drew1 HB.out)
  refine start_ (n := 6) (S := fun w' => w'.cell? ⟨gb614, 0, none⟩ = some (.bool a0_0) ∧ w'.cell? ⟨gb614, 1, none⟩ = some (.slice A0_1 l0_1.length c0_1) ∧ w'.cell? ⟨gb615, 0, none⟩ = some (.bool a1_0) ∧ w'.cell? ⟨gb615, 1, none⟩ = some (.slice A1_1 l1_1.length c1_1)) (ds := [4, 5]) #[false, false, false, false, false, false] (by kernel_rfl) rfl rfl ⟨(blk_cell BK614.out 0).trans rfl, (blk_cell BK614.out 1).trans rfl, (blk_cell BK615.out 0).trans rfl, (blk_cell BK615.out 1).trans rfl⟩ (fun hHeld => ?_)
  generalize w14.drew = w15 at BK614 BK615 BK616 HB hHeld ⊢
  refine t0 (i := 0) (N := some 12) (bb 6 1) hHeld ?_
  refine t0 (i := 2) (N := some 14) (bb 6 5) hHeld ?_
  refine o0 (i := 1) (N := some 13) (bb 6 7) fun K hK => ?_
  refine gS Try.func28 #[.agg #[.bool a0_0, .slice A0_1 l0_1.length c0_1]] ?_
  with_reducible refine (big_Neg.calls k a0_0 _ _ l0_1 t618 t619 _ ?side1 ?side2 A5.out).mono ?_
  (case side1 => exact tc (Kd.C_below HR0_1.out HB.out))
  (case side2 => exact HC0_1.out)
  rintro e w16 ⟨v620, rfl, ho0, hb⟩
  refine ⟨_, rfl, ?_⟩
  have HO621 := rl ho0 HB
  replace BK614 := kb BK614 hb
  replace BK615 := kb BK615 hb
  replace BK616 := kb BK616 hb
  replace HB := bs HB hb
  (try clear hb); (try clear hb2); (try clear hk); (try clear hi); (try clear ho0)
  refine hK.out _ _ ⟨(blk_cell BK614.out 0).trans rfl, (blk_cell BK614.out 1).trans rfl, (blk_cell BK615.out 0).trans rfl, (blk_cell BK615.out 1).trans rfl⟩ fun hHeld => nT (N := some 13) ?_
  clear hK K
  refine o0 (i := 3) (N := some 15) (bb 6 15) fun K hK => ?_
  refine gS Try.func28 #[.agg #[.bool a1_0, .slice A1_1 l1_1.length c1_1]] ?_
  with_reducible refine (big_Neg.calls k a1_0 _ _ l1_1 t622 t623 _ ?side1 ?side2 A6.out).mono ?_
  (case side1 => exact tc (Kd.C_below HR1_1.out HB.out))
  (case side2 => exact HC1_1.out)
  rintro e w17 ⟨v624, rfl, ho0, hb⟩
  refine ⟨_, rfl, ?_⟩
  have HO625 := Aside0.mk (Kd.R_lower (Kd.R_new' ho0 (Kd.R_lt (tq HO621))) (below_size (tb HB)))
  replace HO621 := re HO621 (Kd.R_base ho0) hb
  replace BK614 := kb BK614 hb
  replace BK615 := kb BK615 hb
  replace BK616 := kb BK616 hb
  replace HB := bs HB hb
  (try clear hb); (try clear hb2); (try clear hk); (try clear hi); (try clear ho0)
  obtain ⟨Ao19, co19, eo19⟩ := Kd.R_slice HO621.out
  (first | subst eo19 | (injection eo19 with f1_ f2_ f3_; have f4_ := f1_.symm; have f5_ := f3_.symm; clear f1_ f2_ f3_; subst f4_; subst f5_))
  obtain ⟨Ao22, co22, eo22⟩ := Kd.R_slice HO625.out
  (first | subst eo22 | (injection eo22 with f1_ f2_ f3_; have f4_ := f1_.symm; have f5_ := f3_.symm; clear f1_ f2_ f3_; subst f4_; subst f5_))
  refine hK.out _ _ ⟨(blk_cell BK614.out 0).trans rfl, (blk_cell BK614.out 1).trans rfl, (blk_cell BK615.out 0).trans rfl, (blk_cell BK615.out 1).trans rfl⟩ fun hHeld => nT (N := some 15) ?_
  clear hK K
  refine last_ (i := 4) (N := none) #[true, true, true, true, true, false] rfl rfl (by kernel_rfl) (by decide) (fun K hK => ?_)
  have hs18 := bc BK614 0 (.bool a0_0)
  have hfs18 := blk_frozen BK614.out 0
  have hns18_1 := NB615_614.out
  have hns18_2 := NB616_614.out
  have hms18_1 := NB614_615.out
  have hms18_2 := NB614_616.out
  have hs20 := bc BK614 1 (.slice A0_1 l0_1.length c0_1)
  have hfs20 := blk_frozen BK614.out 1
  have hns20_1 := NB615_614.out
  have hns20_2 := NB616_614.out
  have hms20_1 := NB614_615.out
  have hms20_2 := NB614_616.out
  refine skip_ (w1 := ?_) (by rfl) rfl ?_ ?_
  rotate_left
  ·go_simp
   rfl
  refine hK.out _ _ ?_
  clear hK K
  refine last_ (i := 5) (N := none) #[true, true, true, true, true, true] rfl rfl (by kernel_rfl) (by decide) (fun K hK => ?_)
  have hs21 := bc BK615 0 (.bool a1_0)
  have hfs21 := blk_frozen BK615.out 0
  have hns21_0 := NB614_615.out
  have hns21_2 := NB616_615.out
  have hms21_0 := NB615_614.out
  have hms21_2 := NB615_616.out
  have hs23 := bc BK615 1 (.slice A1_1 l1_1.length c1_1)
  have hfs23 := blk_frozen BK615.out 1
  have hns23_0 := NB614_615.out
  have hns23_2 := NB616_615.out
  have hms23_0 := NB615_614.out
  have hms23_2 := NB615_616.out
  refine skip_ (w1 := ?_) (by rfl) rfl ?_ ?_
  rotate_left
  ·go_simp
   rfl
  refine hK.out _ _ ?_
  clear hK K
  refine done_ (by kernel_rfl) ?_
  have hnb24 := NB614_616.out
  have hnc24 := NB616_614.out
  have hcz25_0 := bc BK614 0 (.bool a0_0)
  have hcz25_1 := bc BK614 1 (.slice A0_1 l0_1.length c0_1)
  have hfz25_0 := blk_frozen BK614.out 0
  have hfz25_1 := blk_frozen BK614.out 1
  have hcz26_0 := bc BK615 0 (.bool a1_0)
  have hcz26_1 := bc BK615 1 (.slice A1_1 l1_1.length c1_1)
  have hfz26_0 := blk_frozen BK615.out 0
  have hfz26_1 := blk_frozen BK615.out 1
  try go_wp2_with (first | ((with_reducible refine gate_callee (f := 33) rfl ?_); refine gL (N := some 19) Try.func33 #[.agg #[.bool t618, .slice Ao19 t619.length co19], .agg #[.bool t622, .slice Ao22 t623.length co22]] ?_; (with_reducible refine (big_DivMod.calls k t618 _ _ t619 t622 _ _ t623 t626 t627 t630 t631 t634 _ ?side1 ?side2 ?side3 ?side4 A7.out).mono ?_); (case side1 => refine (Kd.R_reads' (e := 87) (base := w.heap.size) (ok := fun k_ => (True ∧ some k_ ≠ (.slice Ao22 t623.length co22 : Value).ownBlock)) (n := t619.length) (c := co19) ?_).2.2; exact (by (with_reducible repeat first | apply qa | apply qn | apply qd); exact (Kd.R_mono (Kd.R_mono (Kd.R_far (p := ⟨gb615, 1, none⟩) (Kd.R_far (p := ⟨gb615, 0, none⟩) (Kd.R_far (p := ⟨gb614, 1, none⟩) (Kd.R_far (p := ⟨gb614, 0, none⟩) (Kd.R_types (Kd.R_types HO621.out BK614.out (by decide)) BK615.out (by decide)) (fun _ hk => hk.1.2) (.bool t618)) (fun _ hk => hk.1.2) (.slice Ao19 t619.length co19)) (fun _ hk => hk.2) (.bool t622)) (fun _ hk => hk.2) (.slice Ao22 t623.length co22)) (fun _ h_ => h_.1)) (fun _ h_ => h_.1)))); (case side2 => exact (Kd.R_reads' HO621.out).2.1); (case side3 => refine (Kd.R_reads' (e := 87) (base := w.heap.size) (ok := fun k_ => (True ∧ some k_ ≠ (.slice Ao19 t619.length co19 : Value).ownBlock)) (n := t623.length) (c := co22) ?_).2.2; exact (by (with_reducible repeat first | apply qa | apply qn | apply qd); exact (Kd.R_mono (Kd.R_mono (Kd.R_far (p := ⟨gb615, 1, none⟩) (Kd.R_far (p := ⟨gb615, 0, none⟩) (Kd.R_far (p := ⟨gb614, 1, none⟩) (Kd.R_far (p := ⟨gb614, 0, none⟩) (Kd.R_types (Kd.R_types HO625.out BK614.out (by decide)) BK615.out (by decide)) (fun _ hk => hk.1.2) (.bool t618)) (fun _ hk => hk.1.2) (.slice Ao19 t619.length co19)) (fun _ hk => hk.2) (.bool t622)) (fun _ hk => hk.2) (.slice Ao22 t623.length co22)) (fun _ h_ => h_.1)) (fun _ h_ => h_.1)))); (case side4 => exact (Kd.R_reads' HO625.out).2.1); rintro e w27 ⟨v628, v632, rfl, ho0, ho1, hb⟩; refine ⟨_, rfl, ?_⟩; have HO629 := Aside0.mk (Kd.R_lower (Kd.R_new' (Kd.R_new' ho0 (Kd.R_lt (by (with_reducible repeat first | apply qa | apply qn | apply qd); exact (Kd.R_mono (Kd.R_mono (Kd.R_far (p := ⟨gb615, 1, none⟩) (Kd.R_far (p := ⟨gb615, 0, none⟩) (Kd.R_far (p := ⟨gb614, 1, none⟩) (Kd.R_far (p := ⟨gb614, 0, none⟩) (Kd.R_types (Kd.R_types HO621.out BK614.out (by decide)) BK615.out (by decide)) (fun _ hk => hk.1.2) (.bool t618)) (fun _ hk => hk.1.2) (.slice Ao19 t619.length co19)) (fun _ hk => hk.2) (.bool t622)) (fun _ hk => hk.2) (.slice Ao22 t623.length co22)) (fun _ h_ => h_.1)) (fun _ h_ => h_.1))))) (Kd.R_lt (by (with_reducible repeat first | apply qa | apply qn | apply qd); exact (Kd.R_mono (Kd.R_mono (Kd.R_far (p := ⟨gb615, 1, none⟩) (Kd.R_far (p := ⟨gb615, 0, none⟩) (Kd.R_far (p := ⟨gb614, 1, none⟩) (Kd.R_far (p := ⟨gb614, 0, none⟩) (Kd.R_types (Kd.R_types HO625.out BK614.out (by decide)) BK615.out (by decide)) (fun _ hk => hk.1.2) (.bool t618)) (fun _ hk => hk.1.2) (.slice Ao19 t619.length co19)) (fun _ hk => hk.2) (.bool t622)) (fun _ hk => hk.2) (.slice Ao22 t623.length co22)) (fun _ h_ => h_.1)) (fun _ h_ => h_.1))))) (below_size (tb HB))); have HO633 := Aside0.mk (Kd.R_lower (Kd.R_new' (Kd.R_new' ho1 (Kd.R_lt (by (with_reducible repeat first | apply qa | apply qn | apply qd); exact (Kd.R_mono (Kd.R_mono (Kd.R_far (p := ⟨gb615, 1, none⟩) (Kd.R_far (p := ⟨gb615, 0, none⟩) (Kd.R_far (p := ⟨gb614, 1, none⟩) (Kd.R_far (p := ⟨gb614, 0, none⟩) (Kd.R_types (Kd.R_types HO621.out BK614.out (by decide)) BK615.out (by decide)) (fun _ hk => hk.1.2) (.bool t618)) (fun _ hk => hk.1.2) (.slice Ao19 t619.length co19)) (fun _ hk => hk.2) (.bool t622)) (fun _ hk => hk.2) (.slice Ao22 t623.length co22)) (fun _ h_ => h_.1)) (fun _ h_ => h_.1))))) (Kd.R_lt (by (with_reducible repeat first | apply qa | apply qn | apply qd); exact (Kd.R_mono (Kd.R_mono (Kd.R_far (p := ⟨gb615, 1, none⟩) (Kd.R_far (p := ⟨gb615, 0, none⟩) (Kd.R_far (p := ⟨gb614, 1, none⟩) (Kd.R_far (p := ⟨gb614, 0, none⟩) (Kd.R_types (Kd.R_types HO625.out BK614.out (by decide)) BK615.out (by decide)) (fun _ hk => hk.1.2) (.bool t618)) (fun _ hk => hk.1.2) (.slice Ao19 t619.length co19)) (fun _ hk => hk.2) (.bool t622)) (fun _ hk => hk.2) (.slice Ao22 t623.length co22)) (fun _ h_ => h_.1)) (fun _ h_ => h_.1))))) (below_size (tb HB))); replace BK614 := kb (o' := .cells #[.bool t618, .slice Ao19 t619.length co19] 24 (0, 0)) BK614 hb; replace BK615 := kb (o' := .cells #[.bool t622, .slice Ao22 t623.length co22] 24 (0, 0)) BK615 hb; replace BK616 := kb BK616 hb; replace HB := bs HB hb; (try clear hb); (try clear hb2); (try clear hk); (try clear hi); (try clear ho0); (try clear ho1)) | ((with_reducible refine gate_dst (N := 6) rfl ?_); refine bx (N := 6) #[.bool false, .slice none 0 0] 24 ?_; intro gb635 hg w28 hbox hb; replace HO629 := rb HO629 hb; replace HO633 := rb HO633 hb; have BK635 := Aside0.mk (hbox); have GW635 := bz hg HB; have GE635 := bz hg HB; replace HB := bs HB hb; have NB614_635 := nl hg BK614; have NB635_614 := ng hg BK614; replace BK614 := kb BK614 hb; have NB615_635 := nl hg BK615; have NB635_615 := ng hg BK615; replace BK615 := kb BK615 hb; have NB616_635 := nl hg BK616; have NB635_616 := ng hg BK616; replace BK616 := kb BK616 hb; clear hb hbox hg) | ((with_reducible refine gate_dst (N := 7) rfl ?_); refine bx (N := 7) #[.bool false, .slice none 0 0] 24 ?_; intro gb636 hg w29 hbox hb; replace HO629 := rb HO629 hb; replace HO633 := rb HO633 hb; have BK636 := Aside0.mk (hbox); have GW636 := bz hg HB; have GE636 := bz hg HB; replace HB := bs HB hb; have NB614_636 := nl hg BK614; have NB636_614 := ng hg BK614; have NB615_636 := nl hg BK615; have NB636_615 := ng hg BK615; have NB616_636 := nl hg BK616; have NB636_616 := ng hg BK616; replace BK616 := kb BK616 hb; have NB635_636 := nl hg BK635; have NB636_635 := ng hg BK635; replace BK635 := kb BK635 hb; clear hb hbox hg; have hnb30 := NB635_614.out; have hnc30 := NB614_635.out; have hnb31 := NB635_615.out; have hnc31 := NB615_635.out; have hnb32 := NB635_616.out; have hnc32 := NB616_635.out; have hnb33 := NB635_636.out; have hnc33 := NB636_635.out; have hcz34_0 := bc BK635 0 (.bool false); have hcz34_1 := bc BK635 1 (.slice none 0 0); have hfz34_0 := blk_frozen BK635.out 0; have hfz34_1 := blk_frozen BK635.out 1; obtain ⟨Ao35, co35, eo35⟩ := Kd.R_slice HO629.out; subst eo35; have hnb36 := NB636_614.out; have hnc36 := NB614_636.out; have hnb37 := NB636_615.out; have hnc37 := NB615_636.out; have hnb38 := NB636_616.out; have hnc38 := NB616_636.out; have hcz39_0 := bc BK636 0 (.bool false); have hcz39_1 := bc BK636 1 (.slice none 0 0); have hfz39_0 := blk_frozen BK636.out 0; have hfz39_1 := blk_frozen BK636.out 1; obtain ⟨Ao40, co40, eo40⟩ := Kd.R_slice HO633.out; subst eo40; have hcz41_0 := bc BK616 0 (.bool false); have hcz41_1 := bc BK616 1 (.slice none 0 0); have hfz41_0 := blk_frozen BK616.out 0; have hfz41_1 := blk_frozen BK616.out 1))
  refine bodyPost_ret (results_ct rfl _ _ gb616 24 #[.bool t626, .slice Ao35 t627.length co35] (0, 0) _ rfl (tk BK616) Try.underlying24 rfl (by kernel_rfl)) rfl ?_
  exact ⟨_, by first | rfl | (simp [errW_none, errW_some] <;> rfl) | (simp [*, errW_none, errW_some] <;> rfl), by (with_reducible repeat first | apply qa | apply qn | apply qd); exact Kd.R_mono (Kd.R_far (p := ⟨gb616, 1, none⟩) (Kd.R_far (p := ⟨gb616, 0, none⟩) (Kd.R_far (p := ⟨gb636, 1, none⟩) (Kd.R_far (p := ⟨gb636, 0, none⟩) (Kd.R_far (p := ⟨gb635, 1, none⟩) (Kd.R_far (p := ⟨gb635, 0, none⟩) (Kd.R_types (Kd.R_types (Kd.R_types HO629.out BK635.out (by decide)) BK636.out (by decide)) BK616.out (by decide)) (fun _ hk => hk.1.1.2) (.bool t626)) (fun _ hk => hk.1.1.2) (.slice Ao35 t627.length co35)) (fun _ hk => hk.1.2) (.bool t630)) (fun _ hk => hk.1.2) (.slice Ao40 t631.length co40)) (fun _ hk => hk.2) (.bool t626)) (fun _ hk => hk.2) (.slice Ao35 t627.length co35)) (fun _ hk => trivial), tb HB⟩
 ·rw [if_neg c4] at H
  have c4b0 : decide (t617 < 0) = false := decide_eq_false c4
  clear c4
  replace H := Option.bind_eq_some_iff.mp H
  obtain ⟨⟨t637, t638, t641, t642, t645⟩, A420, H⟩ := H
  try dsimp only at H
  have A42 := Aside0.mk A420
  clear A420
  simp only [Option.some.injEq, Prod.mk.injEq] at H
  obtain ⟨rfl, rfl, rfl⟩ := H
  go_enter Try.func35, Try.ntmps35
  go_wp2_with (first | ((with_reducible refine gate_dst (N := 2) rfl ?_); refine bx (N := 2) #[.bool a0_0, .slice A0_1 l0_1.length c0_1] 24 ?_; intro gb614 hg w43 hbox hb; have BK614 := Aside0.mk (hbox); have GW614 := bz hg HB; have GE614 := bz hg HB; replace HB := bs HB hb; clear hb hbox hg) | ((with_reducible refine gate_dst (N := 3) rfl ?_); refine bx (N := 3) #[.bool a1_0, .slice A1_1 l1_1.length c1_1] 24 ?_; intro gb615 hg w44 hbox hb; have BK615 := Aside0.mk (hbox); have GW615 := bz hg HB; have GE615 := bz hg HB; replace HB := bs HB hb; have NB614_615 := nl hg BK614; have NB615_614 := ng hg BK614; replace BK614 := kb BK614 hb; clear hb hbox hg) | ((with_reducible refine gate_dst (N := 4) rfl ?_); refine bx (N := 4) #[.bool false, .slice none 0 0] 24 ?_; intro gb616 hg w45 hbox hb; have BK616 := Aside0.mk (hbox); have GW616 := bz hg HB; have GE616 := bz hg HB; replace HB := bs HB hb; have NB614_616 := nl hg BK614; have NB616_614 := ng hg BK614; replace BK614 := kb BK614 hb; have NB615_616 := nl hg BK615; have NB616_615 := ng hg BK615; replace BK615 := kb BK615 hb; clear hb hbox hg; have hnb46 := NB615_614.out; have hnc46 := NB614_615.out; have hnb47 := NB615_616.out; have hnc47 := NB616_615.out; have hcz48_0 := bc BK615 0 (.bool a1_0); have hcz48_1 := bc BK615 1 (.slice A1_1 l1_1.length c1_1); have hfz48_0 := blk_frozen BK615.out 0; have hfz48_1 := blk_frozen BK615.out 1) | ((with_reducible refine gate_callee (f := 26) rfl ?_); refine gL (N := some 10) Try.func26 #[.agg #[.bool a1_0, .slice A1_1 l1_1.length c1_1]] ?_; (with_reducible refine (big_Sign.calls k a1_0 _ _ l1_1 t617 _ ?side1 ?side2 A3.out).mono ?_); (case side1 => exact tc (Kd.C_below HR1_1.out HB.out)); (case side2 => exact HC1_1.out); rintro e w49 ⟨rfl, hb⟩; refine ⟨_, rfl, ?_⟩; replace BK614 := kb BK614 hb; replace BK615 := kb BK615 hb; replace BK616 := kb BK616 hb; replace HB := bs HB hb; (try clear hb); (try clear hb2); (try clear hk); (try clear hi); have hnb50 := NB614_616.out; have hnc50 := NB616_614.out; have hcz51_0 := bc BK614 0 (.bool a0_0); have hcz51_1 := bc BK614 1 (.slice A0_1 l0_1.length c0_1); have hfz51_0 := blk_frozen BK614.out 0; have hfz51_1 := blk_frozen BK614.out 1; have hcz52_0 := bc BK615 0 (.bool a1_0); have hcz52_1 := bc BK615 1 (.slice A1_1 l1_1.length c1_1); have hfz52_0 := blk_frozen BK615.out 0; have hfz52_1 := blk_frozen BK615.out 1) | ((with_reducible refine gate_callee (f := 33) rfl ?_); refine gL (N := some 19) Try.func33 #[.agg #[.bool a0_0, .slice A0_1 l0_1.length c0_1], .agg #[.bool a1_0, .slice A1_1 l1_1.length c1_1]] ?_; (with_reducible refine (big_DivMod.calls k a0_0 _ _ l0_1 a1_0 _ _ l1_1 t637 t638 t641 t642 t645 _ ?side1 ?side2 ?side3 ?side4 A42.out).mono ?_); (case side1 => exact tc (Kd.C_below HR0_1.out HB.out)); (case side2 => exact HC0_1.out); (case side3 => exact tc (Kd.C_below HR1_1.out HB.out)); (case side4 => exact HC1_1.out); rintro e w53 ⟨v639, v643, rfl, ho0, ho1, hb⟩; refine ⟨_, rfl, ?_⟩; have HO640 := rl ho0 HB; have HO644 := rl ho1 HB; replace BK614 := kb BK614 hb; replace BK615 := kb BK615 hb; replace BK616 := kb BK616 hb; replace HB := bs HB hb; (try clear hb); (try clear hb2); (try clear hk); (try clear hi); (try clear ho0); (try clear ho1)) | ((with_reducible refine gate_dst (N := 6) rfl ?_); refine bx (N := 6) #[.bool false, .slice none 0 0] 24 ?_; intro gb646 hg w54 hbox hb; replace HO640 := rb HO640 hb; replace HO644 := rb HO644 hb; have BK646 := Aside0.mk (hbox); have GW646 := bz hg HB; have GE646 := bz hg HB; replace HB := bs HB hb; have NB614_646 := nl hg BK614; have NB646_614 := ng hg BK614; replace BK614 := kb BK614 hb; have NB615_646 := nl hg BK615; have NB646_615 := ng hg BK615; replace BK615 := kb BK615 hb; have NB616_646 := nl hg BK616; have NB646_616 := ng hg BK616; replace BK616 := kb BK616 hb; clear hb hbox hg) | ((with_reducible refine gate_dst (N := 7) rfl ?_); refine bx (N := 7) #[.bool false, .slice none 0 0] 24 ?_; intro gb647 hg w55 hbox hb; replace HO640 := rb HO640 hb; replace HO644 := rb HO644 hb; have BK647 := Aside0.mk (hbox); have GW647 := bz hg HB; have GE647 := bz hg HB; replace HB := bs HB hb; have NB614_647 := nl hg BK614; have NB647_614 := ng hg BK614; have NB615_647 := nl hg BK615; have NB647_615 := ng hg BK615; have NB616_647 := nl hg BK616; have NB647_616 := ng hg BK616; replace BK616 := kb BK616 hb; have NB646_647 := nl hg BK646; have NB647_646 := ng hg BK646; replace BK646 := kb BK646 hb; clear hb hbox hg; have hnb56 := NB646_614.out; have hnc56 := NB614_646.out; have hnb57 := NB646_615.out; have hnc57 := NB615_646.out; have hnb58 := NB646_616.out; have hnc58 := NB616_646.out; have hnb59 := NB646_647.out; have hnc59 := NB647_646.out; have hcz60_0 := bc BK646 0 (.bool false); have hcz60_1 := bc BK646 1 (.slice none 0 0); have hfz60_0 := blk_frozen BK646.out 0; have hfz60_1 := blk_frozen BK646.out 1; obtain ⟨Ao61, co61, eo61⟩ := Kd.R_slice HO640.out; subst eo61; have hnb62 := NB647_614.out; have hnc62 := NB614_647.out; have hnb63 := NB647_615.out; have hnc63 := NB615_647.out; have hnb64 := NB647_616.out; have hnc64 := NB616_647.out; have hcz65_0 := bc BK647 0 (.bool false); have hcz65_1 := bc BK647 1 (.slice none 0 0); have hfz65_0 := blk_frozen BK647.out 0; have hfz65_1 := blk_frozen BK647.out 1; obtain ⟨Ao66, co66, eo66⟩ := Kd.R_slice HO644.out; subst eo66; have hcz67_0 := bc BK616 0 (.bool false); have hcz67_1 := bc BK616 1 (.slice none 0 0); have hfz67_0 := blk_frozen BK616.out 0; have hfz67_1 := blk_frozen BK616.out 1))
  refine bodyPost_ret (results_ct rfl _ _ gb616 24 #[.bool t637, .slice Ao61 t638.length co61] (0, 0) _ rfl (tk BK616) Try.underlying24 rfl (by kernel_rfl)) rfl ?_
  exact ⟨_, by first | rfl | (simp [errW_none, errW_some] <;> rfl) | (simp [*, errW_none, errW_some] <;> rfl), by (with_reducible repeat first | apply qa | apply qn | apply qd); exact Kd.R_mono (Kd.R_far (p := ⟨gb616, 1, none⟩) (Kd.R_far (p := ⟨gb616, 0, none⟩) (Kd.R_far (p := ⟨gb647, 1, none⟩) (Kd.R_far (p := ⟨gb647, 0, none⟩) (Kd.R_far (p := ⟨gb646, 1, none⟩) (Kd.R_far (p := ⟨gb646, 0, none⟩) (Kd.R_types (Kd.R_types (Kd.R_types HO640.out BK646.out (by decide)) BK647.out (by decide)) BK616.out (by decide)) (fun _ hk => hk.1.1.2) (.bool t637)) (fun _ hk => hk.1.1.2) (.slice Ao61 t638.length co61)) (fun _ hk => hk.1.2) (.bool t641)) (fun _ hk => hk.1.2) (.slice Ao66 t642.length co66)) (fun _ hk => hk.2) (.bool t637)) (fun _ hk => hk.2) (.slice Ao61 t638.length co61)) (fun _ hk => trivial), tb HB⟩

end Go.Proofs.Ytjpnaapimnoamaa.QBigRests
