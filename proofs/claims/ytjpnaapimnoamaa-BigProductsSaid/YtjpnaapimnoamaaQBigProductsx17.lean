-- written by wip/wprint, a program of this session
import Derived.Test.YtjpnaapimnoamaaQBigProductsx0
import Derived.Test.YtjpnaapimnoamaaQBigProductsx6
import Derived.Test.YtjpnaapimnoamaaQBigProductsx7
namespace Go.Proofs.Ytjpnaapimnoamaa.QBigProducts
open Go.RowKit Go.Proofs.YtjpnaapimnoamaaW.PrintWords Go.Proofs.YtjpnaapimnoamaaW.PrintLast Go.Proofs.YtjpnaapimnoamaaW.PrintMore
open Go.Proofs.YtjpnaapimnoamaaW.PrintWords.Kd renaming R_alloc → qa, R_drewN → qn, R_drew → qd
open Go.Proofs.YtjpnaapimnoamaaW.PrintWords renaming below_alloc → ba, pw_below_drewN → bn, below_drew1 → bd
attribute [local go_sem] max2_int min2_int max_two min_two max_three min_three max_four min_four   -- for this text's walks alone
set_option linter.unusedVariables false
set_option linter.unusedSimpArgs false

/-! ### whetstoneref02_Sign: function 27 -/
def whetstoneref02_Sign.f (k : Nat) (a0_0 : Bool) (l0_1 : List Int) : Option (Int) := (whetstoneref02_Norm.f k a0_0 l0_1).bind fun bt715 => (if (bt715.2.length : Int) = 0 then (some 0) else (if bt715.1 = true then (some (-1)) else (some 1)))
theorem whetstoneref02_Sign.mono : ∀ a0 a1 k, LeO (whetstoneref02_Sign.f k a0 a1) (whetstoneref02_Sign.f (k + 1) a0 a1) := by
 intro a0 a1 k
 unfold whetstoneref02_Sign.f
 repeat' with_reducible first | exact whetstoneref02_Norm.mono _ _ _ | exact LeO.refl _ | exact LeO.none _ | refine LeO.ite ?_ ?_ | refine LeO.bind ?_ (fun _ => ?_)
set_option maxHeartbeats 8000000 in
set_option maxRecDepth 100000 in
theorem whetstoneref02_Sign.calls (k : Nat) (a0_0 : Bool) (A0_1 : Option Addr) (c0_1 : Nat) (l0_1 : List Int) (r : Int) (w : World) (hr0_1 : Kd.C (Kd.int .i64) w A0_1 l0_1.length l0_1) (hc0_1 : l0_1.length ≤ c0_1) (h : whetstoneref02_Sign.f k a0_0 l0_1 = some r) :
  Calls Try.prog 27 #[.agg #[.bool a0_0, .slice A0_1 l0_1.length c0_1]] w fun e w' => e = .returned (.int .i64 r) ∧ Below w.heap.size w w' := by
 have hu32 := Try.underlying32
 have HR0_1 := Aside0.mk hr0_1
 have HC0_1 := Aside0.mk hc0_1
 clear hr0_1 hc0_1
 have HB := Aside0.mk (Below.refl w.heap.size w)
 have H : ((whetstoneref02_Norm.f k a0_0 l0_1).bind fun bt715 => (if (bt715.2.length : Int) = 0 then (some 0) else (if bt715.1 = true then (some (-1)) else (some 1)))) = some r := h
 clear h
 replace H := bi H
 obtain ⟨⟨t715, t716⟩, A20, H⟩ := H
 try dsimp only at H
 have A2 := Aside0.mk A20
 clear A20
 by_cases c3 : (t716.length : Int) = 0
 ·rw [if_pos c3] at H
  have c3b0 : ((t716.length : Int) == 0) = true := beq_iff_eq.mpr c3
  have c3b1 : ((t716.length : Int) != 0) = false := bne_eq_false_iff_eq.mpr c3
  clear c3
  obtain rfl := Option.some.inj H
  go_enter Try.func27, Try.ntmps27
  go_wp2_with (first | ((with_reducible refine gate_dst (N := 1) rfl ?_); refine bx (N := 1) #[.bool a0_0, .slice A0_1 l0_1.length c0_1] 32 ?_; intro gb714 hg w4 hbox hb; have BK714 := Aside0.mk (hbox); have GW714 := bz hg HB; have GE714 := bz hg HB; replace HB := bs HB hb; clear hb hbox hg; have hcz5_0 := bc BK714 0 (.bool a0_0); have hcz5_1 := bc BK714 1 (.slice A0_1 l0_1.length c0_1); have hfz5_0 := blk_frozen BK714.out 0; have hfz5_1 := blk_frozen BK714.out 1) | ((with_reducible refine gate_callee (f := 54) rfl ?_); refine gL (N := some 5) Try.func54 #[.agg #[.bool a0_0, .slice A0_1 l0_1.length c0_1]] ?_; (with_reducible refine (whetstoneref02_Norm.calls k a0_0 _ _ l0_1 t715 t716 _ ?side1 ?side2 A2.out).mono ?_); (case side1 => exact tc (Kd.C_below HR0_1.out HB.out)); (case side2 => exact HC0_1.out); rintro e w6 ⟨v717, rfl, ho0, hb⟩; refine ⟨_, rfl, ?_⟩; have HO718 := rl ho0 HB; replace BK714 := kb BK714 hb; replace HB := bs HB hb; (try clear hb); (try clear hb2); (try clear hk); (try clear hi); (try clear ho0)) | ((with_reducible refine gate_dst (N := 3) rfl ?_); refine bx (N := 3) #[.bool false, .slice none 0 0] 32 ?_; intro gb719 hg w7 hbox hb; replace HO718 := rb HO718 hb; have BK719 := Aside0.mk (hbox); have GW719 := bz hg HB; have GE719 := bz hg HB; replace HB := bs HB hb; have NB714_719 := nl hg BK714; have NB719_714 := ng hg BK714; clear hb hbox hg; have hnb8 := NB719_714.out; have hnc8 := NB714_719.out; have hcz9_0 := bc BK719 0 (.bool false); have hcz9_1 := bc BK719 1 (.slice none 0 0); have hfz9_0 := blk_frozen BK719.out 0; have hfz9_1 := blk_frozen BK719.out 1; obtain ⟨Ao10, co10, eo10⟩ := Kd.R_slice HO718.out; subst eo10))
  go_ret
  exact ⟨by first | rfl | (simp [errW_none, errW_some] <;> rfl) | (simp [*, errW_none, errW_some] <;> rfl), tb HB⟩
 ·rw [if_neg c3] at H
  have c3b0 : ((t716.length : Int) == 0) = false := beq_eq_false_iff_ne.mpr c3
  have c3b1 : ((t716.length : Int) != 0) = true := bne_iff_ne.mpr c3
  have c3b2 : ¬ (t716 = []) := fun h_ => c3 (by rw [h_]; rfl)
  by_cases c11 : t715 = true
  ·subst c11
   have H1 : (some (-1)) = some r := by rw [if_pos rfl] at H; exact H
   clear H
   have H := H1
   clear H1
   obtain rfl := Option.some.inj H
   go_enter Try.func27, Try.ntmps27
   go_wp2_with (first | ((with_reducible refine gate_dst (N := 1) rfl ?_); refine bx (N := 1) #[.bool a0_0, .slice A0_1 l0_1.length c0_1] 32 ?_; intro gb714 hg w12 hbox hb; have BK714 := Aside0.mk (hbox); have GW714 := bz hg HB; have GE714 := bz hg HB; replace HB := bs HB hb; clear hb hbox hg; have hcz13_0 := bc BK714 0 (.bool a0_0); have hcz13_1 := bc BK714 1 (.slice A0_1 l0_1.length c0_1); have hfz13_0 := blk_frozen BK714.out 0; have hfz13_1 := blk_frozen BK714.out 1) | ((with_reducible refine gate_callee (f := 54) rfl ?_); refine gL (N := some 5) Try.func54 #[.agg #[.bool a0_0, .slice A0_1 l0_1.length c0_1]] ?_; (with_reducible refine (whetstoneref02_Norm.calls k a0_0 _ _ l0_1 true t716 _ ?side1 ?side2 A2.out).mono ?_); (case side1 => exact tc (Kd.C_below HR0_1.out HB.out)); (case side2 => exact HC0_1.out); rintro e w14 ⟨v717, rfl, ho0, hb⟩; refine ⟨_, rfl, ?_⟩; have HO718 := rl ho0 HB; replace BK714 := kb BK714 hb; replace HB := bs HB hb; (try clear hb); (try clear hb2); (try clear hk); (try clear hi); (try clear ho0)) | ((with_reducible refine gate_dst (N := 3) rfl ?_); refine bx (N := 3) #[.bool false, .slice none 0 0] 32 ?_; intro gb719 hg w15 hbox hb; replace HO718 := rb HO718 hb; have BK719 := Aside0.mk (hbox); have GW719 := bz hg HB; have GE719 := bz hg HB; replace HB := bs HB hb; have NB714_719 := nl hg BK714; have NB719_714 := ng hg BK714; clear hb hbox hg; have hnb16 := NB719_714.out; have hnc16 := NB714_719.out; have hcz17_0 := bc BK719 0 (.bool false); have hcz17_1 := bc BK719 1 (.slice none 0 0); have hfz17_0 := blk_frozen BK719.out 0; have hfz17_1 := blk_frozen BK719.out 1; obtain ⟨Ao18, co18, eo18⟩ := Kd.R_slice HO718.out; subst eo18))
   go_ret
   exact ⟨by first | rfl | (simp [errW_none, errW_some] <;> rfl) | (simp [*, errW_none, errW_some] <;> rfl), tb HB⟩
  ·replace c11 := Bool.eq_false_iff.mpr c11
   subst c11
   have H1 : (some 1) = some r := by rw [if_neg (show ¬ (false = true) by decide)] at H; exact H
   clear H
   have H := H1
   clear H1
   obtain rfl := Option.some.inj H
   go_enter Try.func27, Try.ntmps27
   go_wp2_with (first | ((with_reducible refine gate_dst (N := 1) rfl ?_); refine bx (N := 1) #[.bool a0_0, .slice A0_1 l0_1.length c0_1] 32 ?_; intro gb714 hg w19 hbox hb; have BK714 := Aside0.mk (hbox); have GW714 := bz hg HB; have GE714 := bz hg HB; replace HB := bs HB hb; clear hb hbox hg; have hcz20_0 := bc BK714 0 (.bool a0_0); have hcz20_1 := bc BK714 1 (.slice A0_1 l0_1.length c0_1); have hfz20_0 := blk_frozen BK714.out 0; have hfz20_1 := blk_frozen BK714.out 1) | ((with_reducible refine gate_callee (f := 54) rfl ?_); refine gL (N := some 5) Try.func54 #[.agg #[.bool a0_0, .slice A0_1 l0_1.length c0_1]] ?_; (with_reducible refine (whetstoneref02_Norm.calls k a0_0 _ _ l0_1 false t716 _ ?side1 ?side2 A2.out).mono ?_); (case side1 => exact tc (Kd.C_below HR0_1.out HB.out)); (case side2 => exact HC0_1.out); rintro e w21 ⟨v717, rfl, ho0, hb⟩; refine ⟨_, rfl, ?_⟩; have HO718 := rl ho0 HB; replace BK714 := kb BK714 hb; replace HB := bs HB hb; (try clear hb); (try clear hb2); (try clear hk); (try clear hi); (try clear ho0)) | ((with_reducible refine gate_dst (N := 3) rfl ?_); refine bx (N := 3) #[.bool false, .slice none 0 0] 32 ?_; intro gb719 hg w22 hbox hb; replace HO718 := rb HO718 hb; have BK719 := Aside0.mk (hbox); have GW719 := bz hg HB; have GE719 := bz hg HB; replace HB := bs HB hb; have NB714_719 := nl hg BK714; have NB719_714 := ng hg BK714; clear hb hbox hg; have hnb23 := NB719_714.out; have hnc23 := NB714_719.out; have hcz24_0 := bc BK719 0 (.bool false); have hcz24_1 := bc BK719 1 (.slice none 0 0); have hfz24_0 := blk_frozen BK719.out 0; have hfz24_1 := blk_frozen BK719.out 1; obtain ⟨Ao25, co25, eo25⟩ := Kd.R_slice HO718.out; subst eo25))
   go_ret
   exact ⟨by first | rfl | (simp [errW_none, errW_some] <;> rfl) | (simp [*, errW_none, errW_some] <;> rfl), tb HB⟩

/-! ### whetstoneref02_Add: function 21 -/
def whetstoneref02_Add.f (k : Nat) (a0_0 : Bool) (l0_1 : List Int) (a1_0 : Bool) (l1_1 : List Int) : Option (Bool × List Int) := if (a0_0 == a1_0) = true then ((whetstoneref01_Add.f k l0_1 l1_1).bind fun t723 => ((whetstoneref02_Norm.f k a0_0 t723).bind fun bt726 => (some (bt726.1, bt726.2)))) else ((whetstoneref01_Cmp.f k l0_1 l1_1).bind fun t730 => (if t730 ≥ 0 then ((whetstoneref01_Sub.f k l0_1 l1_1).bind fun t731 => ((whetstoneref02_Norm.f k a0_0 t731).bind fun bt734 => (some (bt734.1, bt734.2)))) else ((whetstoneref01_Sub.f k l1_1 l0_1).bind fun t738 => ((whetstoneref02_Norm.f k a1_0 t738).bind fun bt741 => (some (bt741.1, bt741.2))))))
theorem whetstoneref02_Add.mono : ∀ a0 a1 a2 a3 k, LeO (whetstoneref02_Add.f k a0 a1 a2 a3) (whetstoneref02_Add.f (k + 1) a0 a1 a2 a3) := by
 intro a0 a1 a2 a3 k
 unfold whetstoneref02_Add.f
 repeat' with_reducible first | exact whetstoneref01_Add.mono _ _ _ | exact whetstoneref01_Cmp.mono _ _ _ | exact whetstoneref01_Sub.mono _ _ _ | exact whetstoneref02_Norm.mono _ _ _ | exact LeO.refl _ | exact LeO.none _ | refine LeO.ite ?_ ?_ | refine LeO.bind ?_ (fun _ => ?_)
def whetstoneref02_Add.T2 : Bool × List (List Nat × List Nat) := (true, [([], []), ([0], [0]), ([], []), ([2], [2]), ([], []), ([4], [4]), ([3, 5], [3, 5]), ([1, 6], [1, 6]), ([7, 6], [7]), ([8, 8, 0, 1, 2, 3, 4, 5, 6, 7, 8], [8])])
def whetstoneref02_Add.B2 : List Nat := [0, 1, 0, 4, 0, 16, 60, 127, 255, 511]
theorem whetstoneref02_Add.tab2 : rtab .any (opsOf Try.f21 2) = whetstoneref02_Add.T2 := by kernel_rfl
theorem whetstoneref02_Add.bits2 : waitsOk whetstoneref02_Add.T2.2 whetstoneref02_Add.B2 = true := by kernel_rfl
def whetstoneref02_Add.T4 : Bool × List (List Nat × List Nat) := (true, [([], []), ([0], [0]), ([], []), ([2], [2]), ([], []), ([4], [4]), ([3, 5], [3, 5]), ([1, 6], [1, 6]), ([7, 6], [7]), ([8, 8, 0, 1, 2, 3, 4, 5, 6, 7, 8], [8])])
def whetstoneref02_Add.B4 : List Nat := [0, 1, 0, 4, 0, 16, 60, 127, 255, 511]
theorem whetstoneref02_Add.tab4 : rtab .any (opsOf Try.f21 4) = whetstoneref02_Add.T4 := by kernel_rfl
theorem whetstoneref02_Add.bits4 : waitsOk whetstoneref02_Add.T4.2 whetstoneref02_Add.B4 = true := by kernel_rfl
def whetstoneref02_Add.T5 : Bool × List (List Nat × List Nat) := (true, [([], []), ([0], [0]), ([], []), ([2], [2]), ([], []), ([4], [4]), ([3, 5], [3, 5]), ([1, 6], [1, 6]), ([7, 6], [7]), ([8, 8, 0, 1, 2, 3, 4, 5, 6, 7, 8], [8])])
def whetstoneref02_Add.B5 : List Nat := [0, 1, 0, 4, 0, 16, 60, 127, 255, 511]
theorem whetstoneref02_Add.tab5 : rtab .any (opsOf Try.f21 5) = whetstoneref02_Add.T5 := by kernel_rfl
theorem whetstoneref02_Add.bits5 : waitsOk whetstoneref02_Add.T5.2 whetstoneref02_Add.B5 = true := by kernel_rfl
set_option maxHeartbeats 8000000 in
set_option maxRecDepth 100000 in
theorem whetstoneref02_Add.calls (k : Nat) (a0_0 : Bool) (A0_1 : Option Addr) (c0_1 : Nat) (l0_1 : List Int) (a1_0 : Bool) (A1_1 : Option Addr) (c1_1 : Nat) (l1_1 : List Int) (r1 : Bool) (r2 : List Int) (w : World) (hr0_1 : Kd.C (Kd.int .i64) w A0_1 l0_1.length l0_1) (hc0_1 : l0_1.length ≤ c0_1) (hr1_1 : Kd.C (Kd.int .i64) w A1_1 l1_1.length l1_1) (hc1_1 : l1_1.length ≤ c1_1) (h : whetstoneref02_Add.f k a0_0 l0_1 a1_0 l1_1 = some (r1, r2)) :
  Calls Try.prog 21 #[.agg #[.bool a0_0, .slice A0_1 l0_1.length c0_1], .agg #[.bool a1_0, .slice A1_1 l1_1.length c1_1]] w fun e w' => ∃ v1_ : Value, e = .returned (.agg #[.bool r1, v1_]) ∧ Kd.R (Kd.int .i64) 3 w' w.heap.size (fun _ => True) v1_ r2 ∧ Below w.heap.size w w' := by
 have hu32 := Try.underlying32
 have HR0_1 := Aside0.mk hr0_1
 have HC0_1 := Aside0.mk hc0_1
 clear hr0_1 hc0_1
 have HR1_1 := Aside0.mk hr1_1
 have HC1_1 := Aside0.mk hc1_1
 clear hr1_1 hc1_1
 have HB := Aside0.mk (Below.refl w.heap.size w)
 have H : (if (a0_0 == a1_0) = true then ((whetstoneref01_Add.f k l0_1 l1_1).bind fun t723 => ((whetstoneref02_Norm.f k a0_0 t723).bind fun bt726 => (some (bt726.1, bt726.2)))) else ((whetstoneref01_Cmp.f k l0_1 l1_1).bind fun t730 => (if t730 ≥ 0 then ((whetstoneref01_Sub.f k l0_1 l1_1).bind fun t731 => ((whetstoneref02_Norm.f k a0_0 t731).bind fun bt734 => (some (bt734.1, bt734.2)))) else ((whetstoneref01_Sub.f k l1_1 l0_1).bind fun t738 => ((whetstoneref02_Norm.f k a1_0 t738).bind fun bt741 => (some (bt741.1, bt741.2))))))) = some (r1, r2) := h
 clear h
 by_cases c3 : (a0_0 == a1_0) = true
 ·rw [if_pos c3] at H
  have c3b0 : (a0_0 == a1_0) = true := c3
  (try (have c3b1 : decide (a0_0 = a1_0) = true := by simpa using c3))
  (try (have c3b2 : (a0_0 == a1_0) = true := by simpa using c3))
  clear c3
  replace H := bi H
  obtain ⟨t723, A40, H⟩ := H
  have A4 := Aside0.mk A40
  clear A40
  replace H := bi H
  obtain ⟨⟨t726, t727⟩, A50, H⟩ := H
  try dsimp only at H
  have A5 := Aside0.mk A50
  clear A50
  simp only [Option.some.injEq, Prod.mk.injEq] at H
  obtain ⟨rfl, rfl⟩ := H
  go_enter Try.func21, Try.ntmps21
  try go_wp2_with (first | ((with_reducible refine gate_dst (N := 2) rfl ?_); refine bx (N := 2) #[.bool a0_0, .slice A0_1 l0_1.length c0_1] 32 ?_; intro gb720 hg w6 hbox hb; have BK720 := Aside0.mk (hbox); have GW720 := bz hg HB; have GE720 := bz hg HB; replace HB := bs HB hb; clear hb hbox hg) | ((with_reducible refine gate_dst (N := 3) rfl ?_); refine bx (N := 3) #[.bool a1_0, .slice A1_1 l1_1.length c1_1] 32 ?_; intro gb721 hg w7 hbox hb; have BK721 := Aside0.mk (hbox); have GW721 := bz hg HB; have GE721 := bz hg HB; replace HB := bs HB hb; have NB720_721 := nl hg BK720; have NB721_720 := ng hg BK720; replace BK720 := kb BK720 hb; clear hb hbox hg) | ((with_reducible refine gate_dst (N := 4) rfl ?_); refine bx (N := 4) #[.bool false, .slice none 0 0] 32 ?_; intro gb722 hg w8 hbox hb; have BK722 := Aside0.mk (hbox); have GW722 := bz hg HB; have GE722 := bz hg HB; replace HB := bs HB hb; have NB720_722 := nl hg BK720; have NB722_720 := ng hg BK720; replace BK720 := kb BK720 hb; have NB721_722 := nl hg BK721; have NB722_721 := ng hg BK721; replace BK721 := kb BK721 hb; clear hb hbox hg; have hnb9 := NB720_721.out; have hnc9 := NB721_720.out; have hnb10 := NB720_722.out; have hnc10 := NB722_720.out; have hcz11_0 := bc BK720 0 (.bool a0_0); have hcz11_1 := bc BK720 1 (.slice A0_1 l0_1.length c0_1); have hfz11_0 := blk_frozen BK720.out 0; have hfz11_1 := blk_frozen BK720.out 1; have hnb12 := NB721_722.out; have hnc12 := NB722_721.out; have hcz13_0 := bc BK721 0 (.bool a1_0); have hcz13_1 := bc BK721 1 (.slice A1_1 l1_1.length c1_1); have hfz13_0 := blk_frozen BK721.out 0; have hfz13_1 := blk_frozen BK721.out 1))
  replace BK720 := Aside0.mk (blk_drew BK720.out)
  replace BK721 := Aside0.mk (blk_drew BK721.out)
  replace BK722 := Aside0.mk (blk_drew BK722.out)
  replace HB := Aside0.mk (below_drew1 HB.out)
  refine start_ (n := 10) (S := fun w' => w'.cell? ⟨gb720, 0, none⟩ = some (.bool a0_0) ∧ w'.cell? ⟨gb720, 1, none⟩ = some (.slice A0_1 l0_1.length c0_1) ∧ w'.cell? ⟨gb721, 0, none⟩ = some (.bool a1_0) ∧ w'.cell? ⟨gb721, 1, none⟩ = some (.slice A1_1 l1_1.length c1_1)) (ds := []) #[false, false, false, false, false, false, false, false, false, false] (by kernel_rfl) rfl rfl ⟨(blk_cell BK720.out 0).trans rfl, (blk_cell BK720.out 1).trans rfl, (blk_cell BK721.out 0).trans rfl, (blk_cell BK721.out 1).trans rfl⟩ (fun hHeld => ?_); refine with_tabW whetstoneref02_Add.tab2 whetstoneref02_Add.bits2 (fun HT_ HW_ => ?_)
  generalize w8.drew = w14 at BK720 BK721 BK722 HB hHeld ⊢
  refine pT (i := 0) (N := some 10) (bb 10 1) HT_ ?_
  refine pT (i := 2) (N := some 12) (bb 10 5) HT_ ?_
  refine pT (i := 4) (N := some 14) (bb 10 21) HT_ ?_
  refine tW (i := 1) (N := some 11) (bb 10 23) HT_ HW_ hHeld ?_
  refine tW (i := 3) (N := some 13) (bb 10 31) HT_ HW_ hHeld ?_
  refine tW (i := 5) (N := some 15) (bb 10 63) HT_ HW_ hHeld ?_
  refine oT (i := 6) (N := some 16) (bb 10 127) HT_ fun K hK => ?_
  refine gS Try.func62 #[.slice A0_1 l0_1.length c0_1, .slice A1_1 l1_1.length c1_1] ?_
  with_reducible refine (whetstoneref01_Add.calls k _ _ l0_1 _ _ l1_1 t723 _ ?side1 ?side2 ?side3 ?side4 A4.out).mono ?_
  (case side1 => exact tc (Kd.C_below HR0_1.out HB.out))
  (case side2 => exact HC0_1.out)
  (case side3 => exact tc (Kd.C_below HR1_1.out HB.out))
  (case side4 => exact HC1_1.out)
  rintro e w15 ⟨v724, rfl, ho0, hb⟩
  refine ⟨_, rfl, ?_⟩
  have HO725 := rl ho0 HB
  replace BK720 := kb BK720 hb
  replace BK721 := kb BK721 hb
  replace BK722 := kb BK722 hb
  replace HB := bs HB hb
  (try clear hb); (try clear hb2); (try clear hk); (try clear hi); (try clear ho0)
  obtain ⟨Ao16, co16, eo16⟩ := Kd.R_slice HO725.out
  (first | subst eo16 | (injection eo16 with f1_ f2_ f3_; have f4_ := f1_.symm; have f5_ := f3_.symm; clear f1_ f2_ f3_; subst f4_; subst f5_))
  refine hK.out _ _ ⟨(blk_cell BK720.out 0).trans rfl, (blk_cell BK720.out 1).trans rfl, (blk_cell BK721.out 0).trans rfl, (blk_cell BK721.out 1).trans rfl⟩ fun hHeld => nT (N := some 16) ?_
  clear hK K
  refine pT (i := 7) (N := some 17) (bb 10 255) HT_ ?_
  refine oT (i := 8) (N := some 18) (bb 10 511) HT_ fun K hK => ?_
  refine gS Try.func54 #[.agg #[.bool a0_0, .slice Ao16 t723.length co16]] ?_
  with_reducible refine (whetstoneref02_Norm.calls k a0_0 _ _ t723 t726 t727 _ ?side1 ?side2 A5.out).mono ?_
  (case side1 => exact tc (Kd.R_reads' HO725.out).2.2)
  (case side2 => exact (Kd.R_reads' HO725.out).2.1)
  rintro e w17 ⟨v728, rfl, ho0, hb⟩
  refine ⟨_, rfl, ?_⟩
  have HO729 := Aside0.mk (Kd.R_lower (Kd.R_new' ho0 (Kd.R_lt (tq HO725))) (below_size (tb HB)))
  replace BK720 := kb BK720 hb
  replace BK721 := kb BK721 hb
  replace BK722 := kb BK722 hb
  replace HB := bs HB hb
  (try clear hb); (try clear hb2); (try clear hk); (try clear hi); (try clear ho0)
  obtain ⟨Ao19, co19, eo19⟩ := Kd.R_slice HO729.out
  (first | subst eo19 | (injection eo19 with f1_ f2_ f3_; have f4_ := f1_.symm; have f5_ := f3_.symm; clear f1_ f2_ f3_; subst f4_; subst f5_))
  refine hK.out _ _ ⟨(blk_cell BK720.out 0).trans rfl, (blk_cell BK720.out 1).trans rfl, (blk_cell BK721.out 0).trans rfl, (blk_cell BK721.out 1).trans rfl⟩ fun hHeld => nT (N := some 18) ?_
  clear hK K
  refine oT (i := 9) (N := none) (bb 10 1023) HT_ fun K hK => ?_
  have hs18 := bc BK722 0 (.bool false)
  have hfs18 := blk_frozen BK722.out 0
  have hns18_0 := NB720_722.out
  have hns18_1 := NB721_722.out
  have hms18_0 := NB722_720.out
  have hms18_1 := NB722_721.out
  have hs20 := bc BK722 1 (.slice none 0 0)
  have hfs20 := blk_frozen BK722.out 1
  have hns20_0 := NB720_722.out
  have hns20_1 := NB721_722.out
  have hms20_0 := NB722_720.out
  have hms20_1 := NB722_721.out
  refine skip_ (w1 := ?_) (by rfl) rfl ?_ ?_
  rotate_left
  ·go_simp
   rfl
  refine hK.out _ _ ⟨((cell_far (p := ⟨gb722, _, none⟩) NB720_722.out _).trans (((cell_far (p := ⟨gb722, _, none⟩) NB720_722.out _).trans (hHeld.1)))), ((cell_far (p := ⟨gb722, _, none⟩) NB720_722.out _).trans (((cell_far (p := ⟨gb722, _, none⟩) NB720_722.out _).trans (hHeld.2.1)))), ((cell_far (p := ⟨gb722, _, none⟩) NB721_722.out _).trans (((cell_far (p := ⟨gb722, _, none⟩) NB721_722.out _).trans (hHeld.2.2.1)))), ((cell_far (p := ⟨gb722, _, none⟩) NB721_722.out _).trans (((cell_far (p := ⟨gb722, _, none⟩) NB721_722.out _).trans (hHeld.2.2.2))))⟩ (fun hHeld => ?_)
  clear hK K
  refine done_ (done_of HT_.out (by kernel_rfl)) ?_
  try go_wp2
  refine bodyPost_ret (results_cell_row rfl _ _ gb722 32 #[.bool t726, .slice Ao19 t727.length co19] (0, 0) _ rfl (tk BK722) Try.underlying32 rfl (by kernel_rfl)) rfl ?_
  exact ⟨_, by first | rfl | (simp [errW_none, errW_some] <;> rfl) | (simp [*, errW_none, errW_some] <;> rfl), by (with_reducible repeat first | apply qa | apply qn | apply qd); exact Kd.R_mono (Kd.R_far (p := ⟨gb722, 1, none⟩) (Kd.R_far (p := ⟨gb722, 0, none⟩) (Kd.R_types HO729.out BK722.out (by decide)) (fun _ hk => hk.2) (.bool t726)) (fun _ hk => hk.2) (.slice Ao19 t727.length co19)) (fun _ hk => trivial), tb HB⟩
 ·rw [if_neg c3] at H
  have c3b0 : (a0_0 == a1_0) = false := by simpa using c3
  (try (have c3b1 : decide (a0_0 = a1_0) = false := by simpa using c3))
  (try (have c3b2 : (a0_0 == a1_0) = false := by simpa using c3))
  (try (have c3b3 : ¬ (a0_0 = a1_0) := by simpa using c3))
  clear c3
  replace H := bi H
  obtain ⟨t730, A210, H⟩ := H
  have A21 := Aside0.mk A210
  clear A210
  by_cases c22 : t730 ≥ 0
  ·rw [if_pos c22] at H
   have c22b0 : decide (0 ≤ t730) = true := decide_eq_true c22
   clear c22
   replace H := bi H
   obtain ⟨t731, A230, H⟩ := H
   have A23 := Aside0.mk A230
   clear A230
   replace H := bi H
   obtain ⟨⟨t734, t735⟩, A240, H⟩ := H
   try dsimp only at H
   have A24 := Aside0.mk A240
   clear A240
   simp only [Option.some.injEq, Prod.mk.injEq] at H
   obtain ⟨rfl, rfl⟩ := H
   go_enter Try.func21, Try.ntmps21
   try go_wp2_with (first | ((with_reducible refine gate_dst (N := 2) rfl ?_); refine bx (N := 2) #[.bool a0_0, .slice A0_1 l0_1.length c0_1] 32 ?_; intro gb720 hg w25 hbox hb; have BK720 := Aside0.mk (hbox); have GW720 := bz hg HB; have GE720 := bz hg HB; replace HB := bs HB hb; clear hb hbox hg) | ((with_reducible refine gate_dst (N := 3) rfl ?_); refine bx (N := 3) #[.bool a1_0, .slice A1_1 l1_1.length c1_1] 32 ?_; intro gb721 hg w26 hbox hb; have BK721 := Aside0.mk (hbox); have GW721 := bz hg HB; have GE721 := bz hg HB; replace HB := bs HB hb; have NB720_721 := nl hg BK720; have NB721_720 := ng hg BK720; replace BK720 := kb BK720 hb; clear hb hbox hg) | ((with_reducible refine gate_dst (N := 4) rfl ?_); refine bx (N := 4) #[.bool false, .slice none 0 0] 32 ?_; intro gb722 hg w27 hbox hb; have BK722 := Aside0.mk (hbox); have GW722 := bz hg HB; have GE722 := bz hg HB; replace HB := bs HB hb; have NB720_722 := nl hg BK720; have NB722_720 := ng hg BK720; replace BK720 := kb BK720 hb; have NB721_722 := nl hg BK721; have NB722_721 := ng hg BK721; replace BK721 := kb BK721 hb; clear hb hbox hg; have hnb28 := NB720_721.out; have hnc28 := NB721_720.out; have hnb29 := NB720_722.out; have hnc29 := NB722_720.out; have hcz30_0 := bc BK720 0 (.bool a0_0); have hcz30_1 := bc BK720 1 (.slice A0_1 l0_1.length c0_1); have hfz30_0 := blk_frozen BK720.out 0; have hfz30_1 := blk_frozen BK720.out 1; have hnb31 := NB721_722.out; have hnc31 := NB722_721.out; have hcz32_0 := bc BK721 0 (.bool a1_0); have hcz32_1 := bc BK721 1 (.slice A1_1 l1_1.length c1_1); have hfz32_0 := blk_frozen BK721.out 0; have hfz32_1 := blk_frozen BK721.out 1) | ((with_reducible refine gate_callee (f := 63) rfl ?_); refine gL (N := some 23) Try.func63 #[.slice A0_1 l0_1.length c0_1, .slice A1_1 l1_1.length c1_1] ?_; (with_reducible refine (whetstoneref01_Cmp.calls k _ _ l0_1 _ _ l1_1 t730 _ ?side1 ?side2 ?side3 ?side4 A21.out).mono ?_); (case side1 => exact tc (Kd.C_below HR0_1.out HB.out)); (case side2 => exact HC0_1.out); (case side3 => exact tc (Kd.C_below HR1_1.out HB.out)); (case side4 => exact HC1_1.out); rintro e w33 ⟨rfl, hb⟩; refine ⟨_, rfl, ?_⟩; replace BK720 := kb BK720 hb; replace BK721 := kb BK721 hb; replace BK722 := kb BK722 hb; replace HB := bs HB hb; (try clear hb); (try clear hb2); (try clear hk); (try clear hi)))
   replace BK720 := Aside0.mk (blk_drew BK720.out)
   replace BK721 := Aside0.mk (blk_drew BK721.out)
   replace BK722 := Aside0.mk (blk_drew BK722.out)
   replace HB := Aside0.mk (below_drew1 HB.out)
   refine start_ (n := 10) (S := fun w' => w'.cell? ⟨gb720, 0, none⟩ = some (.bool a0_0) ∧ w'.cell? ⟨gb720, 1, none⟩ = some (.slice A0_1 l0_1.length c0_1) ∧ w'.cell? ⟨gb721, 0, none⟩ = some (.bool a1_0) ∧ w'.cell? ⟨gb721, 1, none⟩ = some (.slice A1_1 l1_1.length c1_1)) (ds := []) #[false, false, false, false, false, false, false, false, false, false] (by kernel_rfl) rfl rfl ⟨(blk_cell BK720.out 0).trans rfl, (blk_cell BK720.out 1).trans rfl, (blk_cell BK721.out 0).trans rfl, (blk_cell BK721.out 1).trans rfl⟩ (fun hHeld => ?_); refine with_tabW whetstoneref02_Add.tab4 whetstoneref02_Add.bits4 (fun HT_ HW_ => ?_)
   generalize w33.drew = w34 at BK720 BK721 BK722 HB hHeld ⊢
   refine pT (i := 0) (N := some 25) (bb 10 1) HT_ ?_
   refine pT (i := 2) (N := some 27) (bb 10 5) HT_ ?_
   refine pT (i := 4) (N := some 29) (bb 10 21) HT_ ?_
   refine tW (i := 1) (N := some 26) (bb 10 23) HT_ HW_ hHeld ?_
   refine tW (i := 3) (N := some 28) (bb 10 31) HT_ HW_ hHeld ?_
   refine tW (i := 5) (N := some 30) (bb 10 63) HT_ HW_ hHeld ?_
   refine oT (i := 6) (N := some 31) (bb 10 127) HT_ fun K hK => ?_
   refine gS Try.func64 #[.slice A0_1 l0_1.length c0_1, .slice A1_1 l1_1.length c1_1] ?_
   with_reducible refine (whetstoneref01_Sub.calls k _ _ l0_1 _ _ l1_1 t731 _ ?side1 ?side2 ?side3 ?side4 A23.out).mono ?_
   (case side1 => exact tc (Kd.C_below HR0_1.out HB.out))
   (case side2 => exact HC0_1.out)
   (case side3 => exact tc (Kd.C_below HR1_1.out HB.out))
   (case side4 => exact HC1_1.out)
   rintro e w35 ⟨v732, rfl, ho0, hb⟩
   refine ⟨_, rfl, ?_⟩
   have HO733 := rl ho0 HB
   replace BK720 := kb BK720 hb
   replace BK721 := kb BK721 hb
   replace BK722 := kb BK722 hb
   replace HB := bs HB hb
   (try clear hb); (try clear hb2); (try clear hk); (try clear hi); (try clear ho0)
   obtain ⟨Ao36, co36, eo36⟩ := Kd.R_slice HO733.out
   (first | subst eo36 | (injection eo36 with f1_ f2_ f3_; have f4_ := f1_.symm; have f5_ := f3_.symm; clear f1_ f2_ f3_; subst f4_; subst f5_))
   refine hK.out _ _ ⟨(blk_cell BK720.out 0).trans rfl, (blk_cell BK720.out 1).trans rfl, (blk_cell BK721.out 0).trans rfl, (blk_cell BK721.out 1).trans rfl⟩ fun hHeld => nT (N := some 31) ?_
   clear hK K
   refine pT (i := 7) (N := some 32) (bb 10 255) HT_ ?_
   refine oT (i := 8) (N := some 33) (bb 10 511) HT_ fun K hK => ?_
   refine gS Try.func54 #[.agg #[.bool a0_0, .slice Ao36 t731.length co36]] ?_
   with_reducible refine (whetstoneref02_Norm.calls k a0_0 _ _ t731 t734 t735 _ ?side1 ?side2 A24.out).mono ?_
   (case side1 => exact tc (Kd.R_reads' HO733.out).2.2)
   (case side2 => exact (Kd.R_reads' HO733.out).2.1)
   rintro e w37 ⟨v736, rfl, ho0, hb⟩
   refine ⟨_, rfl, ?_⟩
   have HO737 := Aside0.mk (Kd.R_lower (Kd.R_new' ho0 (Kd.R_lt (tq HO733))) (below_size (tb HB)))
   replace BK720 := kb BK720 hb
   replace BK721 := kb BK721 hb
   replace BK722 := kb BK722 hb
   replace HB := bs HB hb
   (try clear hb); (try clear hb2); (try clear hk); (try clear hi); (try clear ho0)
   obtain ⟨Ao39, co39, eo39⟩ := Kd.R_slice HO737.out
   (first | subst eo39 | (injection eo39 with f1_ f2_ f3_; have f4_ := f1_.symm; have f5_ := f3_.symm; clear f1_ f2_ f3_; subst f4_; subst f5_))
   refine hK.out _ _ ⟨(blk_cell BK720.out 0).trans rfl, (blk_cell BK720.out 1).trans rfl, (blk_cell BK721.out 0).trans rfl, (blk_cell BK721.out 1).trans rfl⟩ fun hHeld => nT (N := some 33) ?_
   clear hK K
   refine oT (i := 9) (N := none) (bb 10 1023) HT_ fun K hK => ?_
   have hs38 := bc BK722 0 (.bool false)
   have hfs38 := blk_frozen BK722.out 0
   have hns38_0 := NB720_722.out
   have hns38_1 := NB721_722.out
   have hms38_0 := NB722_720.out
   have hms38_1 := NB722_721.out
   have hs40 := bc BK722 1 (.slice none 0 0)
   have hfs40 := blk_frozen BK722.out 1
   have hns40_0 := NB720_722.out
   have hns40_1 := NB721_722.out
   have hms40_0 := NB722_720.out
   have hms40_1 := NB722_721.out
   refine skip_ (w1 := ?_) (by rfl) rfl ?_ ?_
   rotate_left
   ·go_simp
    rfl
   refine hK.out _ _ ⟨((cell_far (p := ⟨gb722, _, none⟩) NB720_722.out _).trans (((cell_far (p := ⟨gb722, _, none⟩) NB720_722.out _).trans (hHeld.1)))), ((cell_far (p := ⟨gb722, _, none⟩) NB720_722.out _).trans (((cell_far (p := ⟨gb722, _, none⟩) NB720_722.out _).trans (hHeld.2.1)))), ((cell_far (p := ⟨gb722, _, none⟩) NB721_722.out _).trans (((cell_far (p := ⟨gb722, _, none⟩) NB721_722.out _).trans (hHeld.2.2.1)))), ((cell_far (p := ⟨gb722, _, none⟩) NB721_722.out _).trans (((cell_far (p := ⟨gb722, _, none⟩) NB721_722.out _).trans (hHeld.2.2.2))))⟩ (fun hHeld => ?_)
   clear hK K
   refine done_ (done_of HT_.out (by kernel_rfl)) ?_
   try go_wp2
   refine bodyPost_ret (results_cell_row rfl _ _ gb722 32 #[.bool t734, .slice Ao39 t735.length co39] (0, 0) _ rfl (tk BK722) Try.underlying32 rfl (by kernel_rfl)) rfl ?_
   exact ⟨_, by first | rfl | (simp [errW_none, errW_some] <;> rfl) | (simp [*, errW_none, errW_some] <;> rfl), by (with_reducible repeat first | apply qa | apply qn | apply qd); exact Kd.R_mono (Kd.R_far (p := ⟨gb722, 1, none⟩) (Kd.R_far (p := ⟨gb722, 0, none⟩) (Kd.R_types HO737.out BK722.out (by decide)) (fun _ hk => hk.2) (.bool t734)) (fun _ hk => hk.2) (.slice Ao39 t735.length co39)) (fun _ hk => trivial), tb HB⟩
  ·rw [if_neg c22] at H
   have c22b0 : decide (0 ≤ t730) = false := decide_eq_false c22
   clear c22
   replace H := bi H
   obtain ⟨t738, A410, H⟩ := H
   have A41 := Aside0.mk A410
   clear A410
   replace H := bi H
   obtain ⟨⟨t741, t742⟩, A420, H⟩ := H
   try dsimp only at H
   have A42 := Aside0.mk A420
   clear A420
   simp only [Option.some.injEq, Prod.mk.injEq] at H
   obtain ⟨rfl, rfl⟩ := H
   go_enter Try.func21, Try.ntmps21
   try go_wp2_with (first | ((with_reducible refine gate_dst (N := 2) rfl ?_); refine bx (N := 2) #[.bool a0_0, .slice A0_1 l0_1.length c0_1] 32 ?_; intro gb720 hg w43 hbox hb; have BK720 := Aside0.mk (hbox); have GW720 := bz hg HB; have GE720 := bz hg HB; replace HB := bs HB hb; clear hb hbox hg) | ((with_reducible refine gate_dst (N := 3) rfl ?_); refine bx (N := 3) #[.bool a1_0, .slice A1_1 l1_1.length c1_1] 32 ?_; intro gb721 hg w44 hbox hb; have BK721 := Aside0.mk (hbox); have GW721 := bz hg HB; have GE721 := bz hg HB; replace HB := bs HB hb; have NB720_721 := nl hg BK720; have NB721_720 := ng hg BK720; replace BK720 := kb BK720 hb; clear hb hbox hg) | ((with_reducible refine gate_dst (N := 4) rfl ?_); refine bx (N := 4) #[.bool false, .slice none 0 0] 32 ?_; intro gb722 hg w45 hbox hb; have BK722 := Aside0.mk (hbox); have GW722 := bz hg HB; have GE722 := bz hg HB; replace HB := bs HB hb; have NB720_722 := nl hg BK720; have NB722_720 := ng hg BK720; replace BK720 := kb BK720 hb; have NB721_722 := nl hg BK721; have NB722_721 := ng hg BK721; replace BK721 := kb BK721 hb; clear hb hbox hg; have hnb46 := NB720_721.out; have hnc46 := NB721_720.out; have hnb47 := NB720_722.out; have hnc47 := NB722_720.out; have hcz48_0 := bc BK720 0 (.bool a0_0); have hcz48_1 := bc BK720 1 (.slice A0_1 l0_1.length c0_1); have hfz48_0 := blk_frozen BK720.out 0; have hfz48_1 := blk_frozen BK720.out 1; have hnb49 := NB721_722.out; have hnc49 := NB722_721.out; have hcz50_0 := bc BK721 0 (.bool a1_0); have hcz50_1 := bc BK721 1 (.slice A1_1 l1_1.length c1_1); have hfz50_0 := blk_frozen BK721.out 0; have hfz50_1 := blk_frozen BK721.out 1) | ((with_reducible refine gate_callee (f := 63) rfl ?_); refine gL (N := some 23) Try.func63 #[.slice A0_1 l0_1.length c0_1, .slice A1_1 l1_1.length c1_1] ?_; (with_reducible refine (whetstoneref01_Cmp.calls k _ _ l0_1 _ _ l1_1 t730 _ ?side1 ?side2 ?side3 ?side4 A21.out).mono ?_); (case side1 => exact tc (Kd.C_below HR0_1.out HB.out)); (case side2 => exact HC0_1.out); (case side3 => exact tc (Kd.C_below HR1_1.out HB.out)); (case side4 => exact HC1_1.out); rintro e w51 ⟨rfl, hb⟩; refine ⟨_, rfl, ?_⟩; replace BK720 := kb BK720 hb; replace BK721 := kb BK721 hb; replace BK722 := kb BK722 hb; replace HB := bs HB hb; (try clear hb); (try clear hb2); (try clear hk); (try clear hi)))
   replace BK720 := Aside0.mk (blk_drew BK720.out)
   replace BK721 := Aside0.mk (blk_drew BK721.out)
   replace BK722 := Aside0.mk (blk_drew BK722.out)
   replace HB := Aside0.mk (below_drew1 HB.out)
   refine start_ (n := 10) (S := fun w' => w'.cell? ⟨gb721, 0, none⟩ = some (.bool a1_0) ∧ w'.cell? ⟨gb721, 1, none⟩ = some (.slice A1_1 l1_1.length c1_1) ∧ w'.cell? ⟨gb720, 0, none⟩ = some (.bool a0_0) ∧ w'.cell? ⟨gb720, 1, none⟩ = some (.slice A0_1 l0_1.length c0_1)) (ds := []) #[false, false, false, false, false, false, false, false, false, false] (by kernel_rfl) rfl rfl ⟨(blk_cell BK721.out 0).trans rfl, (blk_cell BK721.out 1).trans rfl, (blk_cell BK720.out 0).trans rfl, (blk_cell BK720.out 1).trans rfl⟩ (fun hHeld => ?_); refine with_tabW whetstoneref02_Add.tab5 whetstoneref02_Add.bits5 (fun HT_ HW_ => ?_)
   generalize w51.drew = w52 at BK720 BK721 BK722 HB hHeld ⊢
   refine pT (i := 0) (N := some 34) (bb 10 1) HT_ ?_
   refine pT (i := 2) (N := some 36) (bb 10 5) HT_ ?_
   refine pT (i := 4) (N := some 38) (bb 10 21) HT_ ?_
   refine tW (i := 1) (N := some 35) (bb 10 23) HT_ HW_ hHeld ?_
   refine tW (i := 3) (N := some 37) (bb 10 31) HT_ HW_ hHeld ?_
   refine tW (i := 5) (N := some 39) (bb 10 63) HT_ HW_ hHeld ?_
   refine oT (i := 6) (N := some 40) (bb 10 127) HT_ fun K hK => ?_
   refine gS Try.func64 #[.slice A1_1 l1_1.length c1_1, .slice A0_1 l0_1.length c0_1] ?_
   with_reducible refine (whetstoneref01_Sub.calls k _ _ l1_1 _ _ l0_1 t738 _ ?side1 ?side2 ?side3 ?side4 A41.out).mono ?_
   (case side1 => exact tc (Kd.C_below HR1_1.out HB.out))
   (case side2 => exact HC1_1.out)
   (case side3 => exact tc (Kd.C_below HR0_1.out HB.out))
   (case side4 => exact HC0_1.out)
   rintro e w53 ⟨v739, rfl, ho0, hb⟩
   refine ⟨_, rfl, ?_⟩
   have HO740 := rl ho0 HB
   replace BK720 := kb BK720 hb
   replace BK721 := kb BK721 hb
   replace BK722 := kb BK722 hb
   replace HB := bs HB hb
   (try clear hb); (try clear hb2); (try clear hk); (try clear hi); (try clear ho0)
   obtain ⟨Ao54, co54, eo54⟩ := Kd.R_slice HO740.out
   (first | subst eo54 | (injection eo54 with f1_ f2_ f3_; have f4_ := f1_.symm; have f5_ := f3_.symm; clear f1_ f2_ f3_; subst f4_; subst f5_))
   refine hK.out _ _ ⟨(blk_cell BK721.out 0).trans rfl, (blk_cell BK721.out 1).trans rfl, (blk_cell BK720.out 0).trans rfl, (blk_cell BK720.out 1).trans rfl⟩ fun hHeld => nT (N := some 40) ?_
   clear hK K
   refine pT (i := 7) (N := some 41) (bb 10 255) HT_ ?_
   refine oT (i := 8) (N := some 42) (bb 10 511) HT_ fun K hK => ?_
   refine gS Try.func54 #[.agg #[.bool a1_0, .slice Ao54 t738.length co54]] ?_
   with_reducible refine (whetstoneref02_Norm.calls k a1_0 _ _ t738 t741 t742 _ ?side1 ?side2 A42.out).mono ?_
   (case side1 => exact tc (Kd.R_reads' HO740.out).2.2)
   (case side2 => exact (Kd.R_reads' HO740.out).2.1)
   rintro e w55 ⟨v743, rfl, ho0, hb⟩
   refine ⟨_, rfl, ?_⟩
   have HO744 := Aside0.mk (Kd.R_lower (Kd.R_new' ho0 (Kd.R_lt (tq HO740))) (below_size (tb HB)))
   replace BK720 := kb BK720 hb
   replace BK721 := kb BK721 hb
   replace BK722 := kb BK722 hb
   replace HB := bs HB hb
   (try clear hb); (try clear hb2); (try clear hk); (try clear hi); (try clear ho0)
   obtain ⟨Ao57, co57, eo57⟩ := Kd.R_slice HO744.out
   (first | subst eo57 | (injection eo57 with f1_ f2_ f3_; have f4_ := f1_.symm; have f5_ := f3_.symm; clear f1_ f2_ f3_; subst f4_; subst f5_))
   refine hK.out _ _ ⟨(blk_cell BK721.out 0).trans rfl, (blk_cell BK721.out 1).trans rfl, (blk_cell BK720.out 0).trans rfl, (blk_cell BK720.out 1).trans rfl⟩ fun hHeld => nT (N := some 42) ?_
   clear hK K
   refine oT (i := 9) (N := none) (bb 10 1023) HT_ fun K hK => ?_
   have hs56 := bc BK722 0 (.bool false)
   have hfs56 := blk_frozen BK722.out 0
   have hns56_0 := NB720_722.out
   have hns56_1 := NB721_722.out
   have hms56_0 := NB722_720.out
   have hms56_1 := NB722_721.out
   have hs58 := bc BK722 1 (.slice none 0 0)
   have hfs58 := blk_frozen BK722.out 1
   have hns58_0 := NB720_722.out
   have hns58_1 := NB721_722.out
   have hms58_0 := NB722_720.out
   have hms58_1 := NB722_721.out
   refine skip_ (w1 := ?_) (by rfl) rfl ?_ ?_
   rotate_left
   ·go_simp
    rfl
   refine hK.out _ _ ⟨((cell_far (p := ⟨gb722, _, none⟩) NB721_722.out _).trans (((cell_far (p := ⟨gb722, _, none⟩) NB721_722.out _).trans (hHeld.1)))), ((cell_far (p := ⟨gb722, _, none⟩) NB721_722.out _).trans (((cell_far (p := ⟨gb722, _, none⟩) NB721_722.out _).trans (hHeld.2.1)))), ((cell_far (p := ⟨gb722, _, none⟩) NB720_722.out _).trans (((cell_far (p := ⟨gb722, _, none⟩) NB720_722.out _).trans (hHeld.2.2.1)))), ((cell_far (p := ⟨gb722, _, none⟩) NB720_722.out _).trans (((cell_far (p := ⟨gb722, _, none⟩) NB720_722.out _).trans (hHeld.2.2.2))))⟩ (fun hHeld => ?_)
   clear hK K
   refine done_ (done_of HT_.out (by kernel_rfl)) ?_
   try go_wp2
   refine bodyPost_ret (results_cell_row rfl _ _ gb722 32 #[.bool t741, .slice Ao57 t742.length co57] (0, 0) _ rfl (tk BK722) Try.underlying32 rfl (by kernel_rfl)) rfl ?_
   exact ⟨_, by first | rfl | (simp [errW_none, errW_some] <;> rfl) | (simp [*, errW_none, errW_some] <;> rfl), by (with_reducible repeat first | apply qa | apply qn | apply qd); exact Kd.R_mono (Kd.R_far (p := ⟨gb722, 1, none⟩) (Kd.R_far (p := ⟨gb722, 0, none⟩) (Kd.R_types HO744.out BK722.out (by decide)) (fun _ hk => hk.2) (.bool t741)) (fun _ hk => hk.2) (.slice Ao57 t742.length co57)) (fun _ hk => trivial), tb HB⟩

/-! ### whetstoneref02_Neg: function 29 -/
def whetstoneref02_Neg.f (k : Nat) (a0_0 : Bool) (l0_1 : List Int) : Option (Bool × List Int) := (whetstoneref02_Norm.f k (!a0_0) l0_1).bind fun bt747 => (some (bt747.1, bt747.2))
theorem whetstoneref02_Neg.mono : ∀ a0 a1 k, LeO (whetstoneref02_Neg.f k a0 a1) (whetstoneref02_Neg.f (k + 1) a0 a1) := by
 intro a0 a1 k
 unfold whetstoneref02_Neg.f
 repeat' with_reducible first | exact whetstoneref02_Norm.mono _ _ _ | exact LeO.refl _ | exact LeO.none _ | refine LeO.ite ?_ ?_ | refine LeO.bind ?_ (fun _ => ?_)
set_option maxHeartbeats 8000000 in
set_option maxRecDepth 100000 in
theorem whetstoneref02_Neg.calls (k : Nat) (a0_0 : Bool) (A0_1 : Option Addr) (c0_1 : Nat) (l0_1 : List Int) (r1 : Bool) (r2 : List Int) (w : World) (hr0_1 : Kd.C (Kd.int .i64) w A0_1 l0_1.length l0_1) (hc0_1 : l0_1.length ≤ c0_1) (h : whetstoneref02_Neg.f k a0_0 l0_1 = some (r1, r2)) :
  Calls Try.prog 29 #[.agg #[.bool a0_0, .slice A0_1 l0_1.length c0_1]] w fun e w' => ∃ v1_ : Value, e = .returned (.agg #[.bool r1, v1_]) ∧ Kd.R (Kd.int .i64) 3 w' w.heap.size (fun _ => True) v1_ r2 ∧ Below w.heap.size w w' := by
 have hu32 := Try.underlying32
 have HR0_1 := Aside0.mk hr0_1
 have HC0_1 := Aside0.mk hc0_1
 clear hr0_1 hc0_1
 have HB := Aside0.mk (Below.refl w.heap.size w)
 have H : ((whetstoneref02_Norm.f k (!a0_0) l0_1).bind fun bt747 => (some (bt747.1, bt747.2))) = some (r1, r2) := h
 clear h
 replace H := bi H
 obtain ⟨⟨t747, t748⟩, A20, H⟩ := H
 try dsimp only at H
 have A2 := Aside0.mk A20
 clear A20
 simp only [Option.some.injEq, Prod.mk.injEq] at H
 obtain ⟨rfl, rfl⟩ := H
 go_enter Try.func29, Try.ntmps29
 go_wp2_with (first | ((with_reducible refine gate_dst (N := 1) rfl ?_); refine bx (N := 1) #[.bool a0_0, .slice A0_1 l0_1.length c0_1] 32 ?_; intro gb745 hg w3 hbox hb; have BK745 := Aside0.mk (hbox); have GW745 := bz hg HB; have GE745 := bz hg HB; replace HB := bs HB hb; clear hb hbox hg) | ((with_reducible refine gate_dst (N := 2) rfl ?_); refine bx (N := 2) #[.bool false, .slice none 0 0] 32 ?_; intro gb746 hg w4 hbox hb; have BK746 := Aside0.mk (hbox); have GW746 := bz hg HB; have GE746 := bz hg HB; replace HB := bs HB hb; have NB745_746 := nl hg BK745; have NB746_745 := ng hg BK745; replace BK745 := kb BK745 hb; clear hb hbox hg; have hnb5 := NB745_746.out; have hnc5 := NB746_745.out; have hcz6_0 := bc BK745 0 (.bool a0_0); have hcz6_1 := bc BK745 1 (.slice A0_1 l0_1.length c0_1); have hfz6_0 := blk_frozen BK745.out 0; have hfz6_1 := blk_frozen BK745.out 1) | ((with_reducible refine gate_callee (f := 54) rfl ?_); refine gL (N := some 9) Try.func54 #[.agg #[.bool (!a0_0), .slice A0_1 l0_1.length c0_1]] ?_; (with_reducible refine (whetstoneref02_Norm.calls k (!a0_0) _ _ l0_1 t747 t748 _ ?side1 ?side2 A2.out).mono ?_); (case side1 => exact tc (Kd.C_below HR0_1.out HB.out)); (case side2 => exact HC0_1.out); rintro e w7 ⟨v749, rfl, ho0, hb⟩; refine ⟨_, rfl, ?_⟩; have HO750 := rl ho0 HB; replace BK746 := kb BK746 hb; replace HB := bs HB hb; (try clear hb); (try clear hb2); (try clear hk); (try clear hi); (try clear ho0); have hcz8_0 := bc BK746 0 (.bool false); have hcz8_1 := bc BK746 1 (.slice none 0 0); have hfz8_0 := blk_frozen BK746.out 0; have hfz8_1 := blk_frozen BK746.out 1; obtain ⟨Ao9, co9, eo9⟩ := Kd.R_slice HO750.out; subst eo9))
 refine bodyPost_ret (results_cell_row rfl _ _ gb746 32 #[.bool t747, .slice Ao9 t748.length co9] (0, 0) _ rfl (tk BK746) Try.underlying32 rfl (by kernel_rfl)) rfl ?_
 exact ⟨_, by first | rfl | (simp [errW_none, errW_some] <;> rfl) | (simp [*, errW_none, errW_some] <;> rfl), by (with_reducible repeat first | apply qa | apply qn | apply qd); exact Kd.R_mono (Kd.R_far (p := ⟨gb746, 1, none⟩) (Kd.R_far (p := ⟨gb746, 0, none⟩) (Kd.R_types HO750.out BK746.out (by decide)) (fun _ hk => hk.2) (.bool t747)) (fun _ hk => hk.2) (.slice Ao9 t748.length co9)) (fun _ hk => trivial), tb HB⟩

end Go.Proofs.Ytjpnaapimnoamaa.QBigProducts
