-- written by wip/wprint, a program of this session
import Derived.Test.YtjpnaapimnoamaaQBigProductsx0
import Derived.Test.YtjpnaapimnoamaaQBigProductsx6
import Derived.Test.YtjpnaapimnoamaaQBigProductsx8
import Derived.Test.YtjpnaapimnoamaaQBigProductsx17
import Derived.Test.YtjpnaapimnoamaaQBigProductsx18
namespace Go.Proofs.Ytjpnaapimnoamaa.QBigProducts
open Go.RowKit Go.Proofs.YtjpnaapimnoamaaW.PrintWords Go.Proofs.YtjpnaapimnoamaaW.PrintLast Go.Proofs.YtjpnaapimnoamaaW.PrintMore
open Go.Proofs.YtjpnaapimnoamaaW.PrintWords.Kd renaming R_alloc → qa, R_drewN → qn, R_drew → qd
open Go.Proofs.YtjpnaapimnoamaaW.PrintWords renaming below_alloc → ba, pw_below_drewN → bn, below_drew1 → bd
attribute [local go_sem] max2_int min2_int max_two min_two max_three min_three max_four min_four   -- for this text's walks alone
set_option linter.unusedVariables false
set_option linter.unusedSimpArgs false

/-! ### whetstoneref02_DivMod: function 34 -/
mutual
def whetstoneref02_DivMod.j0 : Nat → Bool → Bool → List Int → Bool → List Int → Bool → List Int → Option (Bool × List Int × Bool × List Int × Int)
 | 0, _, _, _, _, _, _, _ => none
 | k + 1, x38, x769000, x769001, x770000, x770001, x790000, x790001 => if x38 = true then ((whetstoneref02_Abs.f k x770000 x770001).bind fun bt792 => ((whetstoneref02_Sub.f k bt792.1 bt792.2 x790000 x790001).bind fun bt796 => (whetstoneref02_DivMod.j1 k x769000 x769001 x770000 x770001 bt796.1 bt796.2))) else (whetstoneref02_DivMod.j1 k x769000 x769001 x770000 x770001 x790000 x790001)
def whetstoneref02_DivMod.j1 : Nat → Bool → List Int → Bool → List Int → Bool → List Int → Option (Bool × List Int × Bool × List Int × Int)
 | 0, _, _, _, _, _, _ => none
 | k + 1, x769000, x769001, x770000, x770001, x790000, x790001 => (whetstoneref02_Sub.f k x769000 x769001 x790000 x790001).bind fun bt800 => ((whetstoneref01_Trim.f k bt800.2).bind fun t805 => ((whetstoneref01_Trim.f k x770001).bind fun t808 => ((whetstoneref01_DivMod.f k t805 t808).bind fun bt811 => ((whetstoneref02_Norm.f k (bt800.1 != x770000) bt811.1).bind fun bt817 => (some (bt817.1, bt817.2, x790000, x790001, 0))))))
end
def whetstoneref02_DivMod.f (k : Nat) (a0_0 : Bool) (l0_1 : List Int) (a1_0 : Bool) (l1_1 : List Int) : Option (Bool × List Int × Bool × List Int × Int) := (whetstoneref02_Sign.f k a1_0 l1_1).bind fun t772 => (if t772 = 0 then (some (false, ([] : List Int), false, ([] : List Int), 4)) else ((whetstoneref01_Trim.f k l0_1).bind fun t773 => ((whetstoneref01_Trim.f k l1_1).bind fun t776 => ((whetstoneref01_DivMod.f k t773 t776).bind fun bt779 => ((whetstoneref02_Norm.f k false bt779.2).bind fun bt785 => ((whetstoneref02_Sign.f k a0_0 l0_1).bind fun t790 => (if t790 < 0 then ((whetstoneref02_Sign.f k bt785.1 bt785.2).bind fun t791 => (whetstoneref02_DivMod.j0 k (decide (t791 > 0)) a0_0 l0_1 a1_0 l1_1 bt785.1 bt785.2)) else (whetstoneref02_DivMod.j0 k false a0_0 l0_1 a1_0 l1_1 bt785.1 bt785.2))))))))
theorem whetstoneref02_DivMod.mono_l : ∀ k, (∀ y0 y1 y2 y3 y4 y5 y6, LeO (whetstoneref02_DivMod.j0 k y0 y1 y2 y3 y4 y5 y6) (whetstoneref02_DivMod.j0 (k + 1) y0 y1 y2 y3 y4 y5 y6)) ∧ (∀ y0 y1 y2 y3 y4 y5, LeO (whetstoneref02_DivMod.j1 k y0 y1 y2 y3 y4 y5) (whetstoneref02_DivMod.j1 (k + 1) y0 y1 y2 y3 y4 y5))
 | 0 => ⟨fun _ _ _ _ _ _ _ r h => by simp [whetstoneref02_DivMod.j0] at h, fun _ _ _ _ _ _ r h => by simp [whetstoneref02_DivMod.j1] at h⟩
 | k + 1 => by
  obtain ⟨ih0, ih1⟩ := whetstoneref02_DivMod.mono_l k
  refine ⟨?_, ?_⟩
  ·intro y0 y1 y2 y3 y4 y5 y6
   unfold whetstoneref02_DivMod.j0
   repeat' with_reducible first | exact ih0 _ _ _ _ _ _ _ | exact ih1 _ _ _ _ _ _ | exact whetstoneref01_DivMod.mono _ _ _ | exact whetstoneref01_Trim.mono _ _ | exact whetstoneref02_Abs.mono _ _ _ | exact whetstoneref02_Norm.mono _ _ _ | exact whetstoneref02_Sign.mono _ _ _ | exact whetstoneref02_Sub.mono _ _ _ _ _ | exact LeO.refl _ | exact LeO.none _ | refine LeO.ite ?_ ?_ | refine LeO.bind ?_ (fun _ => ?_)
  ·intro y0 y1 y2 y3 y4 y5
   unfold whetstoneref02_DivMod.j1
   repeat' with_reducible first | exact ih0 _ _ _ _ _ _ _ | exact ih1 _ _ _ _ _ _ | exact whetstoneref01_DivMod.mono _ _ _ | exact whetstoneref01_Trim.mono _ _ | exact whetstoneref02_Abs.mono _ _ _ | exact whetstoneref02_Norm.mono _ _ _ | exact whetstoneref02_Sign.mono _ _ _ | exact whetstoneref02_Sub.mono _ _ _ _ _ | exact LeO.refl _ | exact LeO.none _ | refine LeO.ite ?_ ?_ | refine LeO.bind ?_ (fun _ => ?_)
theorem whetstoneref02_DivMod.mono : ∀ a0 a1 a2 a3 k, LeO (whetstoneref02_DivMod.f k a0 a1 a2 a3) (whetstoneref02_DivMod.f (k + 1) a0 a1 a2 a3) := by
 intro a0 a1 a2 a3 k
 obtain ⟨ih0, ih1⟩ := whetstoneref02_DivMod.mono_l k
 unfold whetstoneref02_DivMod.f
 repeat' with_reducible first | exact ih0 _ _ _ _ _ _ _ | exact ih1 _ _ _ _ _ _ | exact whetstoneref01_DivMod.mono _ _ _ | exact whetstoneref01_Trim.mono _ _ | exact whetstoneref02_Abs.mono _ _ _ | exact whetstoneref02_Norm.mono _ _ _ | exact whetstoneref02_Sign.mono _ _ _ | exact whetstoneref02_Sub.mono _ _ _ _ _ | exact LeO.refl _ | exact LeO.none _ | refine LeO.ite ?_ ?_ | refine LeO.bind ?_ (fun _ => ?_)
def whetstoneref02_DivMod.T3 : Bool × List (List Nat × List Nat) := (true, [([], []), ([0], [0]), ([1], [1]), ([], []), ([3], [3]), ([4, 2], [4]), ([2, 5, 5], [2, 5]), ([6], [6]), ([7], [7]), ([7], [7]), ([8, 6, 0, 1, 2, 3, 4, 5, 6, 7, 8], [8]), ([9, 10, 0, 1, 2, 3, 4, 5, 6, 7, 8, 9, 10], [9])])
def whetstoneref02_DivMod.B3 : List Nat := [0, 1, 3, 0, 8, 31, 63, 127, 255, 255, 511, 2047]
theorem whetstoneref02_DivMod.tab3 : rtab .any (opsOf Try.f34 3) = whetstoneref02_DivMod.T3 := by kernel_rfl
theorem whetstoneref02_DivMod.bits3 : waitsOk whetstoneref02_DivMod.T3.2 whetstoneref02_DivMod.B3 = true := by kernel_rfl
def whetstoneref02_DivMod.T8 : Bool × List (List Nat × List Nat) := (true, [([], []), ([0], [0]), ([1], [1]), ([], []), ([3], [3]), ([4, 2], [4]), ([2, 5, 5], [2, 5]), ([6], [6]), ([7], [7]), ([7], [7]), ([8, 6, 0, 1, 2, 3, 4, 5, 6, 7, 8], [8]), ([9, 10, 0, 1, 2, 3, 4, 5, 6, 7, 8, 9, 10], [9])])
def whetstoneref02_DivMod.B8 : List Nat := [0, 1, 3, 0, 8, 31, 63, 127, 255, 255, 511, 2047]
theorem whetstoneref02_DivMod.tab8 : rtab .any (opsOf Try.f34 8) = whetstoneref02_DivMod.T8 := by kernel_rfl
theorem whetstoneref02_DivMod.bits8 : waitsOk whetstoneref02_DivMod.T8.2 whetstoneref02_DivMod.B8 = true := by kernel_rfl
def whetstoneref02_DivMod.T9 : Bool × List (List Nat × List Nat) := (true, [([], []), ([0], [0]), ([], []), ([2], [2]), ([1, 3], [1, 3]), ([], []), ([4, 5], [4, 5]), ([6], [6]), ([], []), ([7, 7, 0, 1, 2, 3, 4, 5, 6, 7], [7]), ([8, 9, 0, 1, 2, 3, 4, 5, 6, 7, 8, 9], [8]), ([10, 0, 1, 2, 3, 4, 5, 6, 7, 8, 9, 10], [])])
def whetstoneref02_DivMod.B9 : List Nat := [0, 1, 0, 4, 15, 0, 63, 127, 0, 255, 1023, 2047]
theorem whetstoneref02_DivMod.tab9 : rtab .any (opsOf Try.f34 9) = whetstoneref02_DivMod.T9 := by kernel_rfl
theorem whetstoneref02_DivMod.bits9 : waitsOk whetstoneref02_DivMod.T9.2 whetstoneref02_DivMod.B9 = true := by kernel_rfl
set_option maxHeartbeats 8000000 in
set_option maxRecDepth 100000 in
theorem whetstoneref02_DivMod.calls (k : Nat) (a0_0 : Bool) (A0_1 : Option Addr) (c0_1 : Nat) (l0_1 : List Int) (a1_0 : Bool) (A1_1 : Option Addr) (c1_1 : Nat) (l1_1 : List Int) (r1 : Bool) (r2 : List Int) (r3 : Bool) (r4 : List Int) (r5 : Int) (w : World) (hr0_1 : Kd.C (Kd.int .i64) w A0_1 l0_1.length l0_1) (hc0_1 : l0_1.length ≤ c0_1) (hr1_1 : Kd.C (Kd.int .i64) w A1_1 l1_1.length l1_1) (hc1_1 : l1_1.length ≤ c1_1) (h : whetstoneref02_DivMod.f k a0_0 l0_1 a1_0 l1_1 = some (r1, r2, r3, r4, r5)) :
  Calls Try.prog 34 #[.agg #[.bool a0_0, .slice A0_1 l0_1.length c0_1], .agg #[.bool a1_0, .slice A1_1 l1_1.length c1_1]] w fun e w' => ∃ v1_ v3_ : Value, e = .returned (.tuple #[.agg #[.bool r1, v1_], .agg #[.bool r3, v3_], .int .i64 r5]) ∧ Kd.R (Kd.int .i64) 3 w' w.heap.size (fun k_ => some k_ ≠ (v3_ : Value).ownBlock) v1_ r2 ∧ Kd.R (Kd.int .i64) 3 w' w.heap.size (fun k_ => some k_ ≠ (v1_ : Value).ownBlock) v3_ r4 ∧ Below w.heap.size w w' := by
 have hu32 := Try.underlying32
 have HR0_1 := Aside0.mk hr0_1
 have HC0_1 := Aside0.mk hc0_1
 clear hr0_1 hc0_1
 have HR1_1 := Aside0.mk hr1_1
 have HC1_1 := Aside0.mk hc1_1
 clear hr1_1 hc1_1
 have HB := Aside0.mk (Below.refl w.heap.size w)
 have H : ((whetstoneref02_Sign.f k a1_0 l1_1).bind fun t772 => (if t772 = 0 then (some (false, ([] : List Int), false, ([] : List Int), 4)) else ((whetstoneref01_Trim.f k l0_1).bind fun t773 => ((whetstoneref01_Trim.f k l1_1).bind fun t776 => ((whetstoneref01_DivMod.f k t773 t776).bind fun bt779 => ((whetstoneref02_Norm.f k false bt779.2).bind fun bt785 => ((whetstoneref02_Sign.f k a0_0 l0_1).bind fun t790 => (if t790 < 0 then ((whetstoneref02_Sign.f k bt785.1 bt785.2).bind fun t791 => (whetstoneref02_DivMod.j0 k (decide (t791 > 0)) a0_0 l0_1 a1_0 l1_1 bt785.1 bt785.2)) else (whetstoneref02_DivMod.j0 k false a0_0 l0_1 a1_0 l1_1 bt785.1 bt785.2))))))))) = some (r1, r2, r3, r4, r5) := h
 clear h
 replace H := bi H
 obtain ⟨t772, A30, H⟩ := H
 have A3 := Aside0.mk A30
 clear A30
 by_cases c4 : t772 = 0
 ·rw [if_pos c4] at H
  have c4b0 : (t772 == 0) = true := beq_iff_eq.mpr c4
  have c4b1 : (t772 != 0) = false := bne_eq_false_iff_eq.mpr c4
  clear c4
  simp only [Option.some.injEq, Prod.mk.injEq] at H
  obtain ⟨rfl, rfl, rfl, rfl, rfl⟩ := H
  go_enter Try.func34, Try.ntmps34
  go_wp2_with (first | ((with_reducible refine gate_dst (N := 2) rfl ?_); refine bx (N := 2) #[.bool a0_0, .slice A0_1 l0_1.length c0_1] 32 ?_; intro gb768 hg w5 hbox hb; have BK768 := Aside0.mk (hbox); have GW768 := bz hg HB; have GE768 := bz hg HB; replace HB := bs HB hb; clear hb hbox hg) | ((with_reducible refine gate_dst (N := 3) rfl ?_); refine bx (N := 3) #[.bool a1_0, .slice A1_1 l1_1.length c1_1] 32 ?_; intro gb769 hg w6 hbox hb; have BK769 := Aside0.mk (hbox); have GW769 := bz hg HB; have GE769 := bz hg HB; replace HB := bs HB hb; have NB768_769 := nl hg BK768; have NB769_768 := ng hg BK768; replace BK768 := kb BK768 hb; clear hb hbox hg) | ((with_reducible refine gate_dst (N := 4) rfl ?_); refine bx (N := 4) #[.bool false, .slice none 0 0] 32 ?_; intro gb770 hg w7 hbox hb; have BK770 := Aside0.mk (hbox); have GW770 := bz hg HB; have GE770 := bz hg HB; replace HB := bs HB hb; have NB768_770 := nl hg BK768; have NB770_768 := ng hg BK768; replace BK768 := kb BK768 hb; have NB769_770 := nl hg BK769; have NB770_769 := ng hg BK769; replace BK769 := kb BK769 hb; clear hb hbox hg) | ((with_reducible refine gate_dst (N := 5) rfl ?_); refine bx (N := 5) #[.bool false, .slice none 0 0] 32 ?_; intro gb771 hg w8 hbox hb; have BK771 := Aside0.mk (hbox); have GW771 := bz hg HB; have GE771 := bz hg HB; replace HB := bs HB hb; have NB768_771 := nl hg BK768; have NB771_768 := ng hg BK768; have NB769_771 := nl hg BK769; have NB771_769 := ng hg BK769; replace BK769 := kb BK769 hb; have NB770_771 := nl hg BK770; have NB771_770 := ng hg BK770; replace BK770 := kb BK770 hb; clear hb hbox hg; have hnb9 := NB769_768.out; have hnc9 := NB768_769.out; have hnb10 := NB769_770.out; have hnc10 := NB770_769.out; have hnb11 := NB769_771.out; have hnc11 := NB771_769.out; have hcz12_0 := bc BK769 0 (.bool a1_0); have hcz12_1 := bc BK769 1 (.slice A1_1 l1_1.length c1_1); have hfz12_0 := blk_frozen BK769.out 0; have hfz12_1 := blk_frozen BK769.out 1) | ((with_reducible refine gate_callee (f := 27) rfl ?_); refine gL (N := some 14) Try.func27 #[.agg #[.bool a1_0, .slice A1_1 l1_1.length c1_1]] ?_; (with_reducible refine (whetstoneref02_Sign.calls k a1_0 _ _ l1_1 t772 _ ?side1 ?side2 A3.out).mono ?_); (case side1 => exact tc (Kd.C_below HR1_1.out HB.out)); (case side2 => exact HC1_1.out); rintro e w13 ⟨rfl, hb⟩; refine ⟨_, rfl, ?_⟩; replace BK770 := kb BK770 hb; replace BK771 := kb BK771 hb; replace HB := bs HB hb; (try clear hb); (try clear hb2); (try clear hk); (try clear hi); have hnb14 := NB770_768.out; have hnc14 := NB768_770.out; have hnb15 := NB770_771.out; have hnc15 := NB771_770.out; have hcz16_0 := bc BK770 0 (.bool false); have hcz16_1 := bc BK770 1 (.slice none 0 0); have hfz16_0 := blk_frozen BK770.out 0; have hfz16_1 := blk_frozen BK770.out 1; have hnb17 := NB771_768.out; have hnc17 := NB768_771.out; have hcz18_0 := bc BK771 0 (.bool false); have hcz18_1 := bc BK771 1 (.slice none 0 0); have hfz18_0 := blk_frozen BK771.out 0; have hfz18_1 := blk_frozen BK771.out 1))
  refine bodyPost_ret (results_list (rs := [.cell 4 32, .cell 5 32, .tmp 6]) rfl (by simp) (.cell gb770 32 #[.bool false, .slice none 0 0] (0, 0) _ rfl (tk BK770) Try.underlying32 rfl (by kernel_rfl) (.cell gb771 32 #[.bool false, .slice none 0 0] (0, 0) _ rfl (tk BK771) Try.underlying32 rfl (by kernel_rfl) (.tmp .nil)))) rfl ?_
  exact ⟨_, _, by first | rfl | (simp [errW_none, errW_some] <;> rfl) | (simp [*, errW_none, errW_some] <;> rfl), by first | exact Kd.R_nil _ _ _ _ _ | exact Kd.N_nil _ _ _ _ _ | exact Kd.V_nil _ _ _ _ _ | exact Kd.Q_nil _ _ _ _ _ | exact Kd.S_nil _ _ _ _ _, by first | exact Kd.R_nil _ _ _ _ _ | exact Kd.N_nil _ _ _ _ _ | exact Kd.V_nil _ _ _ _ _ | exact Kd.Q_nil _ _ _ _ _ | exact Kd.S_nil _ _ _ _ _, tb HB⟩
 ·rw [if_neg c4] at H
  have c4b0 : (t772 == 0) = false := beq_eq_false_iff_ne.mpr c4
  have c4b1 : (t772 != 0) = true := bne_iff_ne.mpr c4
  replace H := bi H
  obtain ⟨t773, A190, H⟩ := H
  have A19 := Aside0.mk A190
  clear A190
  replace H := bi H
  obtain ⟨t776, A200, H⟩ := H
  have A20 := Aside0.mk A200
  clear A200
  replace H := bi H
  obtain ⟨⟨t779, t780⟩, A210, H⟩ := H
  try dsimp only at H
  have A21 := Aside0.mk A210
  clear A210
  replace H := bi H
  obtain ⟨⟨t785, t786⟩, A220, H⟩ := H
  try dsimp only at H
  have A22 := Aside0.mk A220
  clear A220
  have HC23 := Aside0.mk H
  clear H
  go_enter Try.func34, Try.ntmps34
  try go_wp2_with (first | ((with_reducible refine gate_dst (N := 2) rfl ?_); refine bx (N := 2) #[.bool a0_0, .slice A0_1 l0_1.length c0_1] 32 ?_; intro gb768 hg w24 hbox hb; have BK768 := Aside0.mk (hbox); have GW768 := bz hg HB; have GE768 := bz hg HB; replace HB := bs HB hb; clear hb hbox hg) | ((with_reducible refine gate_dst (N := 3) rfl ?_); refine bx (N := 3) #[.bool a1_0, .slice A1_1 l1_1.length c1_1] 32 ?_; intro gb769 hg w25 hbox hb; have BK769 := Aside0.mk (hbox); have GW769 := bz hg HB; have GE769 := bz hg HB; replace HB := bs HB hb; have NB768_769 := nl hg BK768; have NB769_768 := ng hg BK768; replace BK768 := kb BK768 hb; clear hb hbox hg) | ((with_reducible refine gate_dst (N := 4) rfl ?_); refine bx (N := 4) #[.bool false, .slice none 0 0] 32 ?_; intro gb770 hg w26 hbox hb; have BK770 := Aside0.mk (hbox); have GW770 := bz hg HB; have GE770 := bz hg HB; replace HB := bs HB hb; have NB768_770 := nl hg BK768; have NB770_768 := ng hg BK768; replace BK768 := kb BK768 hb; have NB769_770 := nl hg BK769; have NB770_769 := ng hg BK769; replace BK769 := kb BK769 hb; clear hb hbox hg) | ((with_reducible refine gate_dst (N := 5) rfl ?_); refine bx (N := 5) #[.bool false, .slice none 0 0] 32 ?_; intro gb771 hg w27 hbox hb; have BK771 := Aside0.mk (hbox); have GW771 := bz hg HB; have GE771 := bz hg HB; replace HB := bs HB hb; have NB768_771 := nl hg BK768; have NB771_768 := ng hg BK768; replace BK768 := kb BK768 hb; have NB769_771 := nl hg BK769; have NB771_769 := ng hg BK769; replace BK769 := kb BK769 hb; have NB770_771 := nl hg BK770; have NB771_770 := ng hg BK770; replace BK770 := kb BK770 hb; clear hb hbox hg; have hnb28 := NB769_768.out; have hnc28 := NB768_769.out; have hnb29 := NB769_770.out; have hnc29 := NB770_769.out; have hnb30 := NB769_771.out; have hnc30 := NB771_769.out; have hcz31_0 := bc BK769 0 (.bool a1_0); have hcz31_1 := bc BK769 1 (.slice A1_1 l1_1.length c1_1); have hfz31_0 := blk_frozen BK769.out 0; have hfz31_1 := blk_frozen BK769.out 1) | ((with_reducible refine gate_callee (f := 27) rfl ?_); refine gL (N := some 14) Try.func27 #[.agg #[.bool a1_0, .slice A1_1 l1_1.length c1_1]] ?_; (with_reducible refine (whetstoneref02_Sign.calls k a1_0 _ _ l1_1 t772 _ ?side1 ?side2 A3.out).mono ?_); (case side1 => exact tc (Kd.C_below HR1_1.out HB.out)); (case side2 => exact HC1_1.out); rintro e w32 ⟨rfl, hb⟩; refine ⟨_, rfl, ?_⟩; replace BK768 := kb BK768 hb; replace BK769 := kb BK769 hb; replace BK770 := kb BK770 hb; replace BK771 := kb BK771 hb; replace HB := bs HB hb; (try clear hb); (try clear hb2); (try clear hk); (try clear hi)))
  replace BK768 := Aside0.mk (blk_drew BK768.out)
  replace BK769 := Aside0.mk (blk_drew BK769.out)
  replace BK770 := Aside0.mk (blk_drew BK770.out)
  replace BK771 := Aside0.mk (blk_drew BK771.out)
  replace HB := Aside0.mk (below_drew1 HB.out)
  refine start_ (n := 12) (S := fun w' => w'.cell? ⟨gb768, 0, none⟩ = some (.bool a0_0) ∧ w'.cell? ⟨gb768, 1, none⟩ = some (.slice A0_1 l0_1.length c0_1) ∧ w'.cell? ⟨gb769, 0, none⟩ = some (.bool a1_0) ∧ w'.cell? ⟨gb769, 1, none⟩ = some (.slice A1_1 l1_1.length c1_1)) (ds := []) #[false, false, false, false, false, false, false, false, false, false, false, false] (by kernel_rfl) rfl rfl ⟨(blk_cell BK768.out 0).trans rfl, (blk_cell BK768.out 1).trans rfl, (blk_cell BK769.out 0).trans rfl, (blk_cell BK769.out 1).trans rfl⟩ (fun hHeld => ?_); refine with_tabW whetstoneref02_DivMod.tab3 whetstoneref02_DivMod.bits3 (fun HT_ HW_ => ?_)
  generalize w32.drew = w33 at BK768 BK769 BK770 BK771 HB hHeld ⊢
  refine pT (i := 0) (N := some 19) (bb 12 1) HT_ ?_
  refine pT (i := 3) (N := some 22) (bb 12 9) HT_ ?_
  refine tW (i := 1) (N := some 20) (bb 12 11) HT_ HW_ hHeld ?_
  refine tW (i := 4) (N := some 23) (bb 12 27) HT_ HW_ hHeld ?_
  refine oT (i := 2) (N := some 21) (bb 12 31) HT_ fun K hK => ?_
  refine gS Try.func69 #[.slice A0_1 l0_1.length c0_1] ?_
  with_reducible refine (whetstoneref01_Trim.calls k _ _ l0_1 t773 _ ?side1 ?side2 A19.out).mono ?_
  (case side1 => exact tc (Kd.C_below HR0_1.out HB.out))
  (case side2 => exact HC0_1.out)
  rintro e w34 ⟨v774, rfl, ho0, hb⟩
  refine ⟨_, rfl, ?_⟩
  have HO775 := rl ho0 HB
  replace BK768 := kb BK768 hb
  replace BK769 := kb BK769 hb
  replace BK770 := kb BK770 hb
  replace BK771 := kb BK771 hb
  replace HB := bs HB hb
  (try clear hb); (try clear hb2); (try clear hk); (try clear hi); (try clear ho0)
  refine hK.out _ _ ⟨(blk_cell BK768.out 0).trans rfl, (blk_cell BK768.out 1).trans rfl, (blk_cell BK769.out 0).trans rfl, (blk_cell BK769.out 1).trans rfl⟩ fun hHeld => nT (N := some 21) ?_
  clear hK K
  refine oT (i := 5) (N := some 24) (bb 12 63) HT_ fun K hK => ?_
  refine gS Try.func69 #[.slice A1_1 l1_1.length c1_1] ?_
  with_reducible refine (whetstoneref01_Trim.calls k _ _ l1_1 t776 _ ?side1 ?side2 A20.out).mono ?_
  (case side1 => exact tc (Kd.C_below HR1_1.out HB.out))
  (case side2 => exact HC1_1.out)
  rintro e w35 ⟨v777, rfl, ho0, hb⟩
  refine ⟨_, rfl, ?_⟩
  have HO778 := Aside0.mk (Kd.R_lower (Kd.R_new' ho0 (Kd.R_lt (tq HO775))) (below_size (tb HB)))
  replace HO775 := re HO775 (Kd.R_base ho0) hb
  replace BK768 := kb BK768 hb
  replace BK769 := kb BK769 hb
  replace BK770 := kb BK770 hb
  replace BK771 := kb BK771 hb
  replace HB := bs HB hb
  (try clear hb); (try clear hb2); (try clear hk); (try clear hi); (try clear ho0)
  obtain ⟨Ao36, co36, eo36⟩ := Kd.R_slice HO775.out
  (first | subst eo36 | (injection eo36 with f1_ f2_ f3_; have f4_ := f1_.symm; have f5_ := f3_.symm; clear f1_ f2_ f3_; subst f4_; subst f5_))
  obtain ⟨Ao37, co37, eo37⟩ := Kd.R_slice HO778.out
  (first | subst eo37 | (injection eo37 with f1_ f2_ f3_; have f4_ := f1_.symm; have f5_ := f3_.symm; clear f1_ f2_ f3_; subst f4_; subst f5_))
  refine hK.out _ _ ⟨(blk_cell BK768.out 0).trans rfl, (blk_cell BK768.out 1).trans rfl, (blk_cell BK769.out 0).trans rfl, (blk_cell BK769.out 1).trans rfl⟩ fun hHeld => nT (N := some 24) ?_
  clear hK K
  refine oT (i := 6) (N := some 25) (bb 12 127) HT_ fun K hK => ?_
  refine gS Try.func68 #[.slice Ao36 t773.length co36, .slice Ao37 t776.length co37] ?_
  with_reducible refine (whetstoneref01_DivMod.calls k _ _ t773 _ _ t776 t779 t780 _ ?side1 ?side2 ?side3 ?side4 A21.out).mono ?_
  (case side1 => exact tc (Kd.R_reads' HO775.out).2.2)
  (case side2 => exact (Kd.R_reads' HO775.out).2.1)
  (case side3 => exact tc (Kd.R_reads' HO778.out).2.2)
  (case side4 => exact (Kd.R_reads' HO778.out).2.1)
  rintro e w38 ⟨v781, v783, rfl, ho0, ho1, hb⟩
  refine ⟨_, rfl, ?_⟩
  have HO782 := Aside0.mk (Kd.R_lower (Kd.R_new' (Kd.R_new' ho0 (Kd.R_lt (tq HO775))) (Kd.R_lt (tq HO778))) (below_size (tb HB)))
  have HO784 := Aside0.mk (Kd.R_lower (Kd.R_new' (Kd.R_new' ho1 (Kd.R_lt (tq HO775))) (Kd.R_lt (tq HO778))) (below_size (tb HB)))
  replace HO775 := Aside0.mk (Kd.R_mono (Kd.R_told (Kd.R_told (Kd.R_old (tq HO775) hb) (Kd.R_base ho0)) (Kd.R_base ho1)) (fun _ h_ => h_.1))
  replace HO778 := Aside0.mk (Kd.R_mono (Kd.R_told (Kd.R_told (Kd.R_old (tq HO778) hb) (Kd.R_base ho0)) (Kd.R_base ho1)) (fun _ h_ => h_.1))
  replace BK768 := kb BK768 hb
  replace BK769 := kb BK769 hb
  replace BK770 := kb BK770 hb
  replace BK771 := kb BK771 hb
  replace HB := bs HB hb
  (try clear hb); (try clear hb2); (try clear hk); (try clear hi); (try clear ho0); (try clear ho1)
  refine hK.out _ _ ⟨(blk_cell BK768.out 0).trans rfl, (blk_cell BK768.out 1).trans rfl, (blk_cell BK769.out 0).trans rfl, (blk_cell BK769.out 1).trans rfl⟩ fun hHeld => nT (N := some 25) ?_
  clear hK K
  refine pT (i := 7) (N := some 18) (bb 12 255) HT_ ?_
  refine pT (i := 8) (N := some 26) (bb 12 511) HT_ ?_
  refine pT (i := 9) (N := some 27) (bb 12 1023) HT_ ?_
  refine pT (i := 10) (N := some 7) (bb 12 2047) HT_ ?_
  refine pT (i := 11) (N := some 8) (bb 12 4095) HT_ ?_
  refine done_ (done_of HT_.out (by kernel_rfl)) ?_
  obtain ⟨Ao39, co39, eo39⟩ := Kd.R_slice HO784.out
  subst eo39
  go_upto_region 5 with (first | ((with_reducible refine gate_callee (f := 54) rfl ?_); refine gL (N := some 30) Try.func54 #[.agg #[.bool false, .slice Ao39 t780.length co39]] ?_; (with_reducible refine (whetstoneref02_Norm.calls k false _ _ t780 t785 t786 _ ?side1 ?side2 A22.out).mono ?_); (case side1 => exact tc (Kd.R_reads' HO784.out).2.2); (case side2 => exact (Kd.R_reads' HO784.out).2.1); rintro e w40 ⟨v787, rfl, ho0, hb⟩; refine ⟨_, rfl, ?_⟩; have HO788 := Aside0.mk (Kd.R_lower (Kd.R_new' (Kd.R_new' (Kd.R_new' (Kd.R_new' ho0 (Kd.R_lt (tq HO775))) (Kd.R_lt (tq HO778))) (Kd.R_lt (tq HO782))) (Kd.R_lt (tq HO784))) (below_size (tb HB))); replace BK768 := kb BK768 hb; replace BK769 := kb BK769 hb; replace BK770 := kb BK770 hb; replace BK771 := kb BK771 hb; replace HB := bs HB hb; (try clear hb); (try clear hb2); (try clear hk); (try clear hi); (try clear ho0)) | ((with_reducible refine gate_dst (N := 9) rfl ?_); refine bx (N := 9) #[.bool false, .slice none 0 0] 32 ?_; intro gb789 hg w41 hbox hb; replace HO788 := rb HO788 hb; have BK789 := Aside0.mk (hbox); have GW789 := bz hg HB; have GE789 := bz hg HB; replace HB := bs HB hb; have NB768_789 := nl hg BK768; have NB789_768 := ng hg BK768; replace BK768 := kb BK768 hb; have NB769_789 := nl hg BK769; have NB789_769 := ng hg BK769; replace BK769 := kb BK769 hb; have NB770_789 := nl hg BK770; have NB789_770 := ng hg BK770; replace BK770 := kb BK770 hb; have NB771_789 := nl hg BK771; have NB789_771 := ng hg BK771; replace BK771 := kb BK771 hb; clear hb hbox hg; have hnb42 := NB789_768.out; have hnc42 := NB768_789.out; have hnb43 := NB789_769.out; have hnc43 := NB769_789.out; have hnb44 := NB789_770.out; have hnc44 := NB770_789.out; have hnb45 := NB789_771.out; have hnc45 := NB771_789.out; have hcz46_0 := bc BK789 0 (.bool false); have hcz46_1 := bc BK789 1 (.slice none 0 0); have hfz46_0 := blk_frozen BK789.out 0; have hfz46_1 := blk_frozen BK789.out 1; obtain ⟨Ao47, co47, eo47⟩ := Kd.R_slice HO788.out; subst eo47))
  (try simp only [Act.put, List.setIfInBounds_toArray, List.set_cons_zero, List.set_cons_succ])
  go_cut [38] from 1 to 0 (fun v38 wc => ∃ (kq : Nat) (x38_22 : Bool), v38 = .bool x38_22 ∧ Aside0 (whetstoneref02_DivMod.j0 kq x38_22 a0_0 l0_1 a1_0 l1_1 t785 t786 = some (r1, r2, r3, r4, r5)) ∧ Aside0 (kq ≤ k) ∧ Aside0 (Kd.R (Kd.int .i64) 3 wc w.heap.size (fun _ => True) (.slice Ao47 t786.length co47) t786) ∧ Aside0 (wc.heap[gb768]? = some (.cells #[.bool a0_0, (.slice A0_1 l0_1.length c0_1)] 32 (0, 0))) ∧ Aside0 (wc.heap[gb769]? = some (.cells #[.bool a1_0, (.slice A1_1 l1_1.length c1_1)] 32 (0, 0))) ∧ Aside0 (wc.heap[gb770]? = some (.cells #[.bool false, (.slice none 0 0)] 32 (0, 0))) ∧ Aside0 (wc.heap[gb771]? = some (.cells #[.bool false, (.slice none 0 0)] 32 (0, 0))) ∧ Aside0 (wc.heap[gb789]? = some (.cells #[.bool t785, (.slice Ao47 t786.length co47)] 32 (0, 0))) ∧ Aside0 (Below w.heap.size w wc))
  case first =>
   have H := HC23.out
   clear HC23
   replace H := bi H
   obtain ⟨t790, A480, H⟩ := H
   have A48 := Aside0.mk A480
   clear A480
   by_cases c49 : t790 < 0
   ·rw [if_pos c49] at H
    have c49b0 : decide (t790 < 0) = true := decide_eq_true c49
    clear c49
    (first | rw [c49b0] | rw [c49b1] | (simp only [i64_w, i32_w]; rw [c49b0]) | skip)
    replace H := bi H
    obtain ⟨t791, A500, H⟩ := H
    have A50 := Aside0.mk A500
    clear A500
    have H' := Aside0.mk H
    clear H
    have hnb51 := NB768_769.out
    have hnc51 := NB769_768.out
    have hnb52 := NB768_770.out
    have hnc52 := NB770_768.out
    have hnb53 := NB768_771.out
    have hnc53 := NB771_768.out
    have hnb54 := NB768_789.out
    have hnc54 := NB789_768.out
    have hcz55_0 := bc BK768 0 (.bool a0_0)
    have hcz55_1 := bc BK768 1 (.slice A0_1 l0_1.length c0_1)
    have hfz55_0 := blk_frozen BK768.out 0
    have hfz55_1 := blk_frozen BK768.out 1
    go_wp2_with (first | ((with_reducible refine gate_callee (f := 27) rfl ?_); refine gL (N := some 32) Try.func27 #[.agg #[.bool a0_0, .slice A0_1 l0_1.length c0_1]] ?_; (with_reducible refine (whetstoneref02_Sign.calls k a0_0 _ _ l0_1 t790 _ ?side1 ?side2 A48.out).mono ?_); (case side1 => exact Kd.C_below HR0_1.out (tb HB)); (case side2 => exact HC0_1.out); rintro e w56 ⟨rfl, hb⟩; refine ⟨_, rfl, ?_⟩; replace HO788 := rt HO788 hb; replace BK768 := kb BK768 hb; replace BK769 := kb BK769 hb; replace BK770 := kb BK770 hb; replace BK771 := kb BK771 hb; replace BK789 := kb (o' := .cells #[.bool t785, .slice Ao47 t786.length co47] 32 (0, 0)) BK789 hb; replace HB := bs HB hb; (try clear hb); (try clear hb2); (try clear hk); (try clear hi); have hnb57 := NB789_769.out; have hnc57 := NB769_789.out; have hnb58 := NB789_770.out; have hnc58 := NB770_789.out; have hnb59 := NB789_771.out; have hnc59 := NB771_789.out; have hcz60_0 := bc BK789 0 (.bool t785); have hcz60_1 := bc BK789 1 (.slice Ao47 t786.length co47); have hfz60_0 := blk_frozen BK789.out 0; have hfz60_1 := blk_frozen BK789.out 1) | (go_at_call 27; (with_reducible refine (whetstoneref02_Sign.calls k t785 _ _ t786 t791 _ ?side1 ?side2 A50.out).mono ?_); (case side1 => exact tc (Kd.R_reads' HO788.out).2.2); (case side2 => exact (Kd.R_reads' HO788.out).2.1); rintro e w61 ⟨rfl, hb⟩; replace HO788 := rb HO788 hb; replace BK768 := kb BK768 hb; replace BK769 := kb BK769 hb; replace BK770 := kb BK770 hb; replace BK771 := kb BK771 hb; replace BK789 := kb BK789 hb; replace HB := bs HB hb; (try clear hb); (try clear hb2); (try clear hk); (try clear hi)))
    go_meet
    case rel => exact ⟨_, (decide (t791 > 0)), (by first | rfl | (simp; done) | (simp [*]; done)), H', ⟨by first | omega | exact Nat.le_refl _⟩, ⟨by (with_reducible repeat first | apply qa | apply qn | apply qd); exact Kd.R_mono HO788.out (fun _ hk => trivial)⟩, ⟨tk BK768⟩, ⟨tk BK769⟩, ⟨tk BK770⟩, ⟨tk BK771⟩, ⟨tk BK789⟩, ⟨tb HB⟩⟩
   ·rw [if_neg c49] at H
    have c49b0 : decide (t790 < 0) = false := decide_eq_false c49
    clear c49
    (first | rw [c49b0] | rw [c49b1] | (simp only [i64_w, i32_w]; rw [c49b0]) | skip)
    have H' := Aside0.mk H
    clear H
    have hnb62 := NB768_769.out
    have hnc62 := NB769_768.out
    have hnb63 := NB768_770.out
    have hnc63 := NB770_768.out
    have hnb64 := NB768_771.out
    have hnc64 := NB771_768.out
    have hnb65 := NB768_789.out
    have hnc65 := NB789_768.out
    have hcz66_0 := bc BK768 0 (.bool a0_0)
    have hcz66_1 := bc BK768 1 (.slice A0_1 l0_1.length c0_1)
    have hfz66_0 := blk_frozen BK768.out 0
    have hfz66_1 := blk_frozen BK768.out 1
    go_wp2_with (first | ((with_reducible refine gate_callee (f := 27) rfl ?_); refine gL (N := some 32) Try.func27 #[.agg #[.bool a0_0, .slice A0_1 l0_1.length c0_1]] ?_; (with_reducible refine (whetstoneref02_Sign.calls k a0_0 _ _ l0_1 t790 _ ?side1 ?side2 A48.out).mono ?_); (case side1 => exact Kd.C_below HR0_1.out (tb HB)); (case side2 => exact HC0_1.out); rintro e w67 ⟨rfl, hb⟩; refine ⟨_, rfl, ?_⟩; replace HO788 := rt HO788 hb; replace BK768 := kb BK768 hb; replace BK769 := kb BK769 hb; replace BK770 := kb BK770 hb; replace BK771 := kb BK771 hb; replace BK789 := kb (o' := .cells #[.bool t785, .slice Ao47 t786.length co47] 32 (0, 0)) BK789 hb; replace HB := bs HB hb; (try clear hb); (try clear hb2); (try clear hk); (try clear hi)))
    go_meet
    case rel => exact ⟨_, (false), (by first | rfl | (simp; done) | (simp [*]; done)), H', ⟨by first | omega | exact Nat.le_refl _⟩, ⟨by (with_reducible repeat first | apply qa | apply qn | apply qd); exact Kd.R_mono HO788.out (fun _ hk => trivial)⟩, ⟨tk BK768⟩, ⟨tk BK769⟩, ⟨tk BK770⟩, ⟨tk BK771⟩, ⟨tk BK789⟩, ⟨tb HB⟩⟩
  case rest =>
   clear HC23
   (try clear c1); (try clear c2); (try clear p2); (try clear c3); (try clear c4); (try clear c4b0); (try clear c4b1); (try clear c5); (try clear c6); (try clear c9); (try clear c10); (try clear c11); (try clear c14); (try clear c15); (try clear c17); (try clear c27); (try clear c28); (try clear c29); (try clear c30); (try clear c34); (try clear c42); (try clear c43); (try clear c44); (try clear c45); (try clear c49); (try clear c49b0); (try clear c51); (try clear c52); (try clear c53); (try clear c54); (try clear c57); (try clear c58); (try clear c59); (try clear c62); (try clear c63); (try clear c64); (try clear c65); (try clear hcz12_0); (try clear hcz12_1); (try clear hcz16_0); (try clear hcz16_1); (try clear hcz18_0); (try clear hcz18_1); (try clear hcz31_0); (try clear hcz31_1); (try clear hcz46_0); (try clear hcz46_1); (try clear hcz55_0); (try clear hcz55_1); (try clear hcz60_0); (try clear hcz60_1); (try clear hcz66_0); (try clear hcz66_1); (try clear hfz12_0); (try clear hfz12_1); (try clear hfz16_0); (try clear hfz16_1); (try clear hfz18_0); (try clear hfz18_1); (try clear hfz31_0); (try clear hfz31_1); (try clear hfz46_0); (try clear hfz46_1); (try clear hfz55_0); (try clear hfz55_1); (try clear hfz60_0); (try clear hfz60_1); (try clear hfz66_0); (try clear hfz66_1)
   obtain ⟨kq, x38_22, rfl, HA, HJ22, HO_790001, BK768, BK769, BK770, BK771, BK789, HB⟩ := hcut
   cases kq with
   | zero => exact absurd HA.out (by simp [whetstoneref02_DivMod.j0])
   | succ kj22 =>
    have H := HA.out
    clear HA
    simp only [whetstoneref02_DivMod.j0] at H
    have HC68 := Aside0.mk H
    clear H
    go_upto_if 38 with (fail)
    go_cut [] from 38 to 38 (fun wc => ∃ (kq : Nat) (x790000_67 : Bool) (x790001_67 : List Int) (u790001 : Value), Aside0 (whetstoneref02_DivMod.j1 kq a0_0 l0_1 a1_0 l1_1 x790000_67 x790001_67 = some (r1, r2, r3, r4, r5)) ∧ Aside0 (kq ≤ kj22) ∧ Aside0 (Kd.R (Kd.int .i64) 3 wc w.heap.size (fun _ => True) u790001 x790001_67) ∧ Aside0 (wc.heap[gb768]? = some (.cells #[.bool a0_0, (.slice A0_1 l0_1.length c0_1)] 32 (0, 0))) ∧ Aside0 (wc.heap[gb769]? = some (.cells #[.bool a1_0, (.slice A1_1 l1_1.length c1_1)] 32 (0, 0))) ∧ Aside0 (wc.heap[gb770]? = some (.cells #[.bool false, (.slice none 0 0)] 32 (0, 0))) ∧ Aside0 (wc.heap[gb771]? = some (.cells #[.bool false, (.slice none 0 0)] 32 (0, 0))) ∧ Aside0 (wc.heap[gb789]? = some (.cells #[.bool x790000_67, u790001] 32 (0, 0))) ∧ Aside0 (Below w.heap.size w wc))
    case first =>
     have H := HC68.out
     clear HC68
     by_cases c69 : x38_22 = true
     ·subst c69
      have H1 : ((whetstoneref02_Abs.f kj22 a1_0 l1_1).bind fun bt792 => ((whetstoneref02_Sub.f kj22 bt792.1 bt792.2 t785 t786).bind fun bt796 => (whetstoneref02_DivMod.j1 kj22 a0_0 l0_1 a1_0 l1_1 bt796.1 bt796.2))) = some (r1, r2, r3, r4, r5) := by rw [if_pos rfl] at H; exact H
      clear H
      have H := H1
      clear H1
      replace H := bi H
      obtain ⟨⟨t792, t793⟩, A700, H⟩ := H
      try dsimp only at H
      have A70 := Aside0.mk A700
      clear A700
      replace H := bi H
      obtain ⟨⟨t796, t797⟩, A710, H⟩ := H
      try dsimp only at H
      have A71 := Aside0.mk A710
      clear A710
      have H' := Aside0.mk H
      clear H
      try go_wp2
      replace HO_790001 := Aside0.mk (Kd.R_drew HO_790001.out)
      replace BK768 := Aside0.mk (blk_drew BK768.out)
      replace BK769 := Aside0.mk (blk_drew BK769.out)
      replace BK770 := Aside0.mk (blk_drew BK770.out)
      replace BK771 := Aside0.mk (blk_drew BK771.out)
      replace BK789 := Aside0.mk (blk_drew BK789.out)
      replace HB := Aside0.mk (below_drew1 HB.out)
      refine start_ (n := 5) (S := fun w' => w'.cell? ⟨gb769, 0, none⟩ = some (.bool a1_0) ∧ w'.cell? ⟨gb769, 1, none⟩ = some (.slice A1_1 l1_1.length c1_1) ∧ w'.cell? ⟨gb789, 0, none⟩ = some (.bool t785) ∧ w'.cell? ⟨gb789, 1, none⟩ = some (.slice Ao47 t786.length co47)) (ds := [4]) #[false, false, false, false, false] (by kernel_rfl) rfl rfl ⟨(blk_cell BK769.out 0).trans rfl, (blk_cell BK769.out 1).trans rfl, (blk_cell BK789.out 0).trans rfl, (blk_cell BK789.out 1).trans rfl⟩ (fun hHeld => ?_)
      generalize wc.drew = w72 at HO_790001 BK768 BK769 BK770 BK771 BK789 HB hHeld ⊢
      refine t0 (i := 0) (N := some 39) (bb 5 1) hHeld ?_
      refine t0 (i := 2) (N := some 41) (bb 5 5) hHeld ?_
      refine o0 (i := 1) (N := some 40) (bb 5 7) fun K hK => ?_
      refine gS Try.func31 #[.agg #[.bool a1_0, .slice A1_1 l1_1.length c1_1]] ?_
      with_reducible refine (whetstoneref02_Abs.calls kj22 a1_0 _ _ l1_1 t792 t793 _ ?side1 ?side2 A70.out).mono ?_
      (case side1 => exact tc (Kd.C_below HR1_1.out HB.out))
      (case side2 => exact HC1_1.out)
      rintro e w73 ⟨v794, rfl, ho0, hb⟩
      refine ⟨_, rfl, ?_⟩
      have HO795 := Aside0.mk (Kd.R_lower (Kd.R_new' ho0 (Kd.R_lt (tq HO_790001))) (below_size (tb HB)))
      replace HO_790001 := re HO_790001 (Kd.R_base ho0) hb
      replace BK768 := kb BK768 hb
      replace BK769 := kb BK769 hb
      replace BK770 := kb BK770 hb
      replace BK771 := kb BK771 hb
      replace BK789 := kb BK789 hb
      replace HB := bs HB hb
      (try clear hb); (try clear hb2); (try clear hk); (try clear hi); (try clear ho0)
      obtain ⟨Ao74, co74, eo74⟩ := Kd.R_slice HO795.out
      (first | subst eo74 | (injection eo74 with f1_ f2_ f3_; have f4_ := f1_.symm; have f5_ := f3_.symm; clear f1_ f2_ f3_; subst f4_; subst f5_))
      refine hK.out _ _ ⟨(blk_cell BK769.out 0).trans rfl, (blk_cell BK769.out 1).trans rfl, (blk_cell BK789.out 0).trans rfl, (blk_cell BK789.out 1).trans rfl⟩ fun hHeld => nT (N := some 40) ?_
      clear hK K
      refine o0 (i := 3) (N := some 42) (bb 5 15) fun K hK => ?_
      refine gS Try.func23 #[.agg #[.bool t792, .slice Ao74 t793.length co74], .agg #[.bool t785, .slice Ao47 t786.length co47]] ?_
      with_reducible refine (whetstoneref02_Sub.calls kj22 t792 _ _ t793 t785 _ _ t786 t796 t797 _ ?side1 ?side2 ?side3 ?side4 A71.out).mono ?_
      (case side1 => exact tc (Kd.R_reads' HO795.out).2.2)
      (case side2 => exact (Kd.R_reads' HO795.out).2.1)
      (case side3 => exact tc (Kd.R_reads' HO_790001.out).2.2)
      (case side4 => exact (Kd.R_reads' HO_790001.out).2.1)
      rintro e w75 ⟨v798, rfl, ho0, hb⟩
      refine ⟨_, rfl, ?_⟩
      have HO799 := Aside0.mk (Kd.R_lower (Kd.R_new' (Kd.R_new' ho0 (Kd.R_lt (tq HO_790001))) (Kd.R_lt (tq HO795))) (below_size (tb HB)))
      replace BK768 := kb BK768 hb
      replace BK769 := kb BK769 hb
      replace BK770 := kb BK770 hb
      replace BK771 := kb BK771 hb
      replace BK789 := kb BK789 hb
      replace HB := bs HB hb
      (try clear hb); (try clear hb2); (try clear hk); (try clear hi); (try clear ho0)
      obtain ⟨Ao77, co77, eo77⟩ := Kd.R_slice HO799.out
      (first | subst eo77 | (injection eo77 with f1_ f2_ f3_; have f4_ := f1_.symm; have f5_ := f3_.symm; clear f1_ f2_ f3_; subst f4_; subst f5_))
      refine hK.out _ _ ⟨(blk_cell BK769.out 0).trans rfl, (blk_cell BK769.out 1).trans rfl, (blk_cell BK789.out 0).trans rfl, (blk_cell BK789.out 1).trans rfl⟩ fun hHeld => nT (N := some 42) ?_
      clear hK K
      refine last_ (i := 4) (N := none) #[true, true, true, true, true] rfl rfl (by kernel_rfl) (by decide) (fun K hK => ?_)
      have hs76 := bc BK789 0 (.bool t785)
      have hfs76 := blk_frozen BK789.out 0
      have hns76_0 := NB768_789.out
      have hns76_1 := NB769_789.out
      have hns76_2 := NB770_789.out
      have hns76_3 := NB771_789.out
      have hms76_0 := NB789_768.out
      have hms76_1 := NB789_769.out
      have hms76_2 := NB789_770.out
      have hms76_3 := NB789_771.out
      have hs78 := bc BK789 1 (.slice Ao47 t786.length co47)
      have hfs78 := blk_frozen BK789.out 1
      have hns78_0 := NB768_789.out
      have hns78_1 := NB769_789.out
      have hns78_2 := NB770_789.out
      have hns78_3 := NB771_789.out
      have hms78_0 := NB789_768.out
      have hms78_1 := NB789_769.out
      have hms78_2 := NB789_770.out
      have hms78_3 := NB789_771.out
      refine skip_ (w1 := ?_) (by rfl) rfl ?_ ?_
      rotate_left
      ·go_simp
       rfl
      refine hK.out _ _ ?_
      clear hK K
      refine done_ (by kernel_rfl) ?_
      try go_wp2
      go_meet
      case rel => exact ⟨_, (t796), (t797), (.slice Ao77 t797.length co77), H', ⟨by have := HJ22.out; first | omega | exact Nat.le_refl _⟩, ⟨by (with_reducible repeat first | apply qa | apply qn | apply qd); exact Kd.R_mono (Kd.R_far (p := ⟨gb789, 1, none⟩) (Kd.R_far (p := ⟨gb789, 0, none⟩) (Kd.R_types HO799.out BK789.out (by decide)) (fun _ hk => hk.2) (.bool t796)) (fun _ hk => hk.2) (.slice Ao77 t797.length co77)) (fun _ hk => trivial)⟩, ⟨tk BK768⟩, ⟨tk BK769⟩, ⟨tk BK770⟩, ⟨tk BK771⟩, ⟨tk BK789⟩, ⟨tb HB⟩⟩
     ·replace c69 := Bool.eq_false_iff.mpr c69
      subst c69
      have H1 : (whetstoneref02_DivMod.j1 kj22 a0_0 l0_1 a1_0 l1_1 t785 t786) = some (r1, r2, r3, r4, r5) := by rw [if_neg (show ¬ (false = true) by decide)] at H; exact H
      clear H
      have H := H1
      clear H1
      have H' := Aside0.mk H
      clear H
      go_wp2
      go_meet
      case rel => exact ⟨_, (t785), (t786), (.slice Ao47 t786.length co47), H', ⟨by have := HJ22.out; first | omega | exact Nat.le_refl _⟩, ⟨tq HO_790001⟩, ⟨tk BK768⟩, ⟨tk BK769⟩, ⟨tk BK770⟩, ⟨tk BK771⟩, ⟨tk BK789⟩, ⟨tb HB⟩⟩
    case rest =>
     clear HC68
     (try clear c1); (try clear c2); (try clear p2); (try clear c3); (try clear c4); (try clear c4b0); (try clear c4b1); (try clear c5); (try clear c6); (try clear c9); (try clear c10); (try clear c11); (try clear c14); (try clear c15); (try clear c17); (try clear c23); (try clear c27); (try clear c28); (try clear c29); (try clear c30); (try clear c31); (try clear c34); (try clear c42); (try clear c43); (try clear c44); (try clear c45); (try clear c49); (try clear c49b0); (try clear c51); (try clear c52); (try clear c53); (try clear c54); (try clear c57); (try clear c58); (try clear c59); (try clear c62); (try clear c63); (try clear c64); (try clear c65); (try clear c68); (try clear c69); (try clear hcz12_0); (try clear hcz12_1); (try clear hcz16_0); (try clear hcz16_1); (try clear hcz18_0); (try clear hcz18_1); (try clear hcz31_0); (try clear hcz31_1); (try clear hcz46_0); (try clear hcz46_1); (try clear hcz55_0); (try clear hcz55_1); (try clear hcz60_0); (try clear hcz60_1); (try clear hcz66_0); (try clear hcz66_1); (try clear hfz12_0); (try clear hfz12_1); (try clear hfz16_0); (try clear hfz16_1); (try clear hfz18_0); (try clear hfz18_1); (try clear hfz31_0); (try clear hfz31_1); (try clear hfz46_0); (try clear hfz46_1); (try clear hfz55_0); (try clear hfz55_1); (try clear hfz60_0); (try clear hfz60_1); (try clear hfz66_0); (try clear hfz66_1); (try clear p2)
     obtain ⟨kq, x790000_67, x790001_67, u790001, HA, HJ67, HO_790001, BK768, BK769, BK770, BK771, BK789, HB⟩ := hcut
     cases kq with
     | zero => exact absurd HA.out (by simp [whetstoneref02_DivMod.j1])
     | succ kj67 =>
      have H := HA.out
      clear HA
      simp only [whetstoneref02_DivMod.j1] at H
      replace H := bi H
      obtain ⟨⟨t800, t801⟩, A790, H⟩ := H
      try dsimp only at H
      have A79 := Aside0.mk A790
      clear A790
      replace H := bi H
      obtain ⟨t805, A800, H⟩ := H
      have A80 := Aside0.mk A800
      clear A800
      replace H := bi H
      obtain ⟨t808, A810, H⟩ := H
      have A81 := Aside0.mk A810
      clear A810
      replace H := bi H
      obtain ⟨⟨t811, t812⟩, A820, H⟩ := H
      try dsimp only at H
      have A82 := Aside0.mk A820
      clear A820
      replace H := bi H
      obtain ⟨⟨t817, t818⟩, A830, H⟩ := H
      try dsimp only at H
      have A83 := Aside0.mk A830
      clear A830
      simp only [Option.some.injEq, Prod.mk.injEq] at H
      obtain ⟨rfl, rfl, rfl, rfl, rfl⟩ := H
      have hnb84 := NB768_769.out
      have hnc84 := NB769_768.out
      have hnb85 := NB768_770.out
      have hnc85 := NB770_768.out
      have hnb86 := NB768_771.out
      have hnc86 := NB771_768.out
      have hnb87 := NB768_789.out
      have hnc87 := NB789_768.out
      have hcz88_0 := bc BK768 0 (.bool a0_0)
      have hcz88_1 := bc BK768 1 (.slice A0_1 l0_1.length c0_1)
      have hfz88_0 := blk_frozen BK768.out 0
      have hfz88_1 := blk_frozen BK768.out 1
      have hnb89 := NB789_769.out
      have hnc89 := NB769_789.out
      have hnb90 := NB789_770.out
      have hnc90 := NB770_789.out
      have hnb91 := NB789_771.out
      have hnc91 := NB771_789.out
      have hcz92_0 := bc BK789 0 (.bool x790000_67)
      have hcz92_1 := bc BK789 1 (u790001)
      have hfz92_0 := blk_frozen BK789.out 0
      have hfz92_1 := blk_frozen BK789.out 1
      obtain ⟨Ao93, co93, eo93⟩ := Kd.R_slice HO_790001.out
      subst eo93
      try go_wp2_with (first | ((with_reducible refine gate_callee (f := 23) rfl ?_); refine gL (N := some 45) Try.func23 #[.agg #[.bool a0_0, .slice A0_1 l0_1.length c0_1], .agg #[.bool x790000_67, .slice Ao93 x790001_67.length co93]] ?_; (with_reducible refine (whetstoneref02_Sub.calls kj67 a0_0 _ _ l0_1 x790000_67 _ _ x790001_67 t800 t801 _ ?side1 ?side2 ?side3 ?side4 A79.out).mono ?_); (case side1 => exact tc (Kd.C_below HR0_1.out HB.out)); (case side2 => exact HC0_1.out); (case side3 => exact tc (Kd.R_reads' HO_790001.out).2.2); (case side4 => exact (Kd.R_reads' HO_790001.out).2.1); rintro e w94 ⟨v802, rfl, ho0, hb⟩; refine ⟨_, rfl, ?_⟩; have HO803 := Aside0.mk (Kd.R_lower (Kd.R_new' ho0 (Kd.R_lt (tq HO_790001))) (below_size (tb HB))); replace HO_790001 := re HO_790001 (Kd.R_base ho0) hb; replace BK768 := kb BK768 hb; replace BK769 := kb BK769 hb; replace BK770 := kb BK770 hb; replace BK771 := kb BK771 hb; replace BK789 := kb BK789 hb; replace HB := bs HB hb; (try clear hb); (try clear hb2); (try clear hk); (try clear hi); (try clear ho0)) | ((with_reducible refine gate_dst (N := 10) rfl ?_); refine bx (N := 10) #[.bool false, .slice none 0 0] 32 ?_; intro gb804 hg w95 hbox hb; replace HO_790001 := rb HO_790001 hb; replace HO803 := rb HO803 hb; have BK804 := Aside0.mk (hbox); have GW804 := bz hg HB; have GE804 := bz hg HB; replace HB := bs HB hb; have NB768_804 := nl hg BK768; have NB804_768 := ng hg BK768; have NB769_804 := nl hg BK769; have NB804_769 := ng hg BK769; replace BK769 := kb BK769 hb; have NB770_804 := nl hg BK770; have NB804_770 := ng hg BK770; replace BK770 := kb BK770 hb; have NB771_804 := nl hg BK771; have NB804_771 := ng hg BK771; replace BK771 := kb BK771 hb; have NB789_804 := nl hg BK789; have NB804_789 := ng hg BK789; replace BK789 := kb BK789 hb; clear hb hbox hg; have hnb96 := NB804_768.out; have hnc96 := NB768_804.out; have hnb97 := NB804_769.out; have hnc97 := NB769_804.out; have hnb98 := NB804_770.out; have hnc98 := NB770_804.out; have hnb99 := NB804_771.out; have hnc99 := NB771_804.out; have hnb100 := NB804_789.out; have hnc100 := NB789_804.out; have hcz101_0 := bc BK804 0 (.bool false); have hcz101_1 := bc BK804 1 (.slice none 0 0); have hfz101_0 := blk_frozen BK804.out 0; have hfz101_1 := blk_frozen BK804.out 1; obtain ⟨Ao102, co102, eo102⟩ := Kd.R_slice HO803.out; subst eo102))
      have n0_ : Aside0 (Kd.R (Kd.int .i64) 3 ((w95.setCell ⟨gb804, 0, none⟩ (.bool t800)).setCell ⟨gb804, 1, none⟩ (.slice Ao102 t801.length co102)) w.heap.size (fun k_ => some k_ ≠ (.slice Ao102 t801.length co102 : Value).ownBlock) (.slice Ao93 x790001_67.length co93) x790001_67) := ⟨by (with_reducible repeat first | apply qa | apply qn | apply qd); exact Kd.R_mono (Kd.R_far (p := ⟨gb804, 1, none⟩) (Kd.R_far (p := ⟨gb804, 0, none⟩) (Kd.R_types HO_790001.out BK804.out (by decide)) (fun _ hk => hk.2) (.bool t800)) (fun _ hk => hk.2) (.slice Ao102 t801.length co102)) (fun _ hk => hk.1.2)⟩
      have n1_ : Aside0 (Kd.R (Kd.int .i64) 3 ((w95.setCell ⟨gb804, 0, none⟩ (.bool t800)).setCell ⟨gb804, 1, none⟩ (.slice Ao102 t801.length co102)) w.heap.size (fun k_ => some k_ ≠ (.slice Ao93 x790001_67.length co93 : Value).ownBlock) (.slice Ao102 t801.length co102) t801) := ⟨by (with_reducible repeat first | apply qa | apply qn | apply qd); exact Kd.R_mono (Kd.R_far (p := ⟨gb804, 1, none⟩) (Kd.R_far (p := ⟨gb804, 0, none⟩) (Kd.R_types HO803.out BK804.out (by decide)) (fun _ hk => hk.2) (.bool t800)) (fun _ hk => hk.2) (.slice Ao102 t801.length co102)) (fun _ hk => hk.1.2)⟩
      have n3_ : Aside0 (((w95.setCell ⟨gb804, 0, none⟩ (.bool t800)).setCell ⟨gb804, 1, none⟩ (.slice Ao102 t801.length co102)).heap[gb769]? = some (.cells #[.bool a1_0, .slice A1_1 l1_1.length c1_1] 32 (0, 0))) := ⟨tk BK769⟩
      have n4_ : Aside0 (((w95.setCell ⟨gb804, 0, none⟩ (.bool t800)).setCell ⟨gb804, 1, none⟩ (.slice Ao102 t801.length co102)).heap[gb770]? = some (.cells #[.bool false, .slice none 0 0] 32 (0, 0))) := ⟨tk BK770⟩
      have n5_ : Aside0 (((w95.setCell ⟨gb804, 0, none⟩ (.bool t800)).setCell ⟨gb804, 1, none⟩ (.slice Ao102 t801.length co102)).heap[gb771]? = some (.cells #[.bool false, .slice none 0 0] 32 (0, 0))) := ⟨tk BK771⟩
      have n6_ : Aside0 (((w95.setCell ⟨gb804, 0, none⟩ (.bool t800)).setCell ⟨gb804, 1, none⟩ (.slice Ao102 t801.length co102)).heap[gb789]? = some (.cells #[.bool x790000_67, .slice Ao93 x790001_67.length co93] 32 (0, 0))) := ⟨tk BK789⟩
      have n7_ : Aside0 (((w95.setCell ⟨gb804, 0, none⟩ (.bool t800)).setCell ⟨gb804, 1, none⟩ (.slice Ao102 t801.length co102)).heap[gb804]? = some (.cells #[.bool t800, .slice Ao102 t801.length co102] 32 (0, 0))) := ⟨tk BK804⟩
      have n8_ : Aside0 (Below w.heap.size w ((w95.setCell ⟨gb804, 0, none⟩ (.bool t800)).setCell ⟨gb804, 1, none⟩ (.slice Ao102 t801.length co102))) := ⟨tb HB⟩
      (try clear HO_790001); (try clear HO803); (try clear BK768); (try clear BK769); (try clear BK770); (try clear BK771); (try clear BK789); (try clear BK804); (try clear HB)
      generalize ((w95.setCell ⟨gb804, 0, none⟩ (.bool t800)).setCell ⟨gb804, 1, none⟩ (.slice Ao102 t801.length co102)) = w103 at n0_ n1_ n3_ n4_ n5_ n6_ n7_ n8_ ⊢
      have HO_790001 := n0_
      have HO803 := n1_
      have BK769 := n3_
      have BK770 := n4_
      have BK771 := n5_
      have BK789 := n6_
      have BK804 := n7_
      have HB := n8_
      clear n0_ n1_ n3_ n4_ n5_ n6_ n7_ n8_
      replace HO_790001 := Aside0.mk (Kd.R_drew HO_790001.out)
      replace HO803 := Aside0.mk (Kd.R_drew HO803.out)
      replace BK769 := Aside0.mk (blk_drew BK769.out)
      replace BK770 := Aside0.mk (blk_drew BK770.out)
      replace BK771 := Aside0.mk (blk_drew BK771.out)
      replace BK789 := Aside0.mk (blk_drew BK789.out)
      replace BK804 := Aside0.mk (blk_drew BK804.out)
      replace HB := Aside0.mk (below_drew1 HB.out)
      refine start_ (n := 12) (S := fun w' => w'.cell? ⟨gb804, 0, none⟩ = some (.bool t800) ∧ w'.cell? ⟨gb804, 1, none⟩ = some (.slice Ao102 t801.length co102) ∧ w'.cell? ⟨gb769, 0, none⟩ = some (.bool a1_0) ∧ w'.cell? ⟨gb769, 1, none⟩ = some (.slice A1_1 l1_1.length c1_1)) (ds := []) #[false, false, false, false, false, false, false, false, false, false, false, false] (by kernel_rfl) rfl rfl ⟨(blk_cell BK804.out 0).trans rfl, (blk_cell BK804.out 1).trans rfl, (blk_cell BK769.out 0).trans rfl, (blk_cell BK769.out 1).trans rfl⟩ (fun hHeld => ?_); refine with_tabW whetstoneref02_DivMod.tab8 whetstoneref02_DivMod.bits8 (fun HT_ HW_ => ?_)
      generalize w103.drew = w104 at HO_790001 HO803 BK769 BK770 BK771 BK789 BK804 HB hHeld ⊢
      refine pT (i := 0) (N := some 47) (bb 12 1) HT_ ?_
      refine pT (i := 3) (N := some 50) (bb 12 9) HT_ ?_
      refine tW (i := 1) (N := some 48) (bb 12 11) HT_ HW_ hHeld ?_
      refine tW (i := 4) (N := some 51) (bb 12 27) HT_ HW_ hHeld ?_
      refine oT (i := 2) (N := some 49) (bb 12 31) HT_ fun K hK => ?_
      refine gS Try.func69 #[.slice Ao102 t801.length co102] ?_
      with_reducible refine (whetstoneref01_Trim.calls kj67 _ _ t801 t805 _ ?side1 ?side2 A80.out).mono ?_
      (case side1 => exact tc (Kd.R_reads' HO803.out).2.2)
      (case side2 => exact (Kd.R_reads' HO803.out).2.1)
      rintro e w105 ⟨v806, rfl, ho0, hb⟩
      refine ⟨_, rfl, ?_⟩
      have HO807 := Aside0.mk (Kd.R_lower (Kd.R_new' (Kd.R_new' ho0 (Kd.R_lt (tq HO_790001))) (Kd.R_lt (tq HO803))) (below_size (tb HB)))
      replace HO_790001 := re HO_790001 (Kd.R_base ho0) hb
      replace HO803 := re HO803 (Kd.R_base ho0) hb
      replace BK769 := kb BK769 hb
      replace BK770 := kb BK770 hb
      replace BK771 := kb BK771 hb
      replace BK789 := kb BK789 hb
      replace BK804 := kb BK804 hb
      replace HB := bs HB hb
      (try clear hb); (try clear hb2); (try clear hk); (try clear hi); (try clear ho0)
      refine hK.out _ _ ⟨(blk_cell BK804.out 0).trans rfl, (blk_cell BK804.out 1).trans rfl, (blk_cell BK769.out 0).trans rfl, (blk_cell BK769.out 1).trans rfl⟩ fun hHeld => nT (N := some 49) ?_
      clear hK K
      refine oT (i := 5) (N := some 52) (bb 12 63) HT_ fun K hK => ?_
      refine gS Try.func69 #[.slice A1_1 l1_1.length c1_1] ?_
      with_reducible refine (whetstoneref01_Trim.calls kj67 _ _ l1_1 t808 _ ?side1 ?side2 A81.out).mono ?_
      (case side1 => exact tc (Kd.C_below HR1_1.out HB.out))
      (case side2 => exact HC1_1.out)
      rintro e w106 ⟨v809, rfl, ho0, hb⟩
      refine ⟨_, rfl, ?_⟩
      have HO810 := Aside0.mk (Kd.R_lower (Kd.R_new' (Kd.R_new' (Kd.R_new' ho0 (Kd.R_lt (tq HO_790001))) (Kd.R_lt (tq HO803))) (Kd.R_lt (tq HO807))) (below_size (tb HB)))
      replace HO_790001 := re HO_790001 (Kd.R_base ho0) hb
      replace HO803 := re HO803 (Kd.R_base ho0) hb
      replace HO807 := re HO807 (Kd.R_base ho0) hb
      replace BK769 := kb BK769 hb
      replace BK770 := kb BK770 hb
      replace BK771 := kb BK771 hb
      replace BK789 := kb BK789 hb
      replace BK804 := kb BK804 hb
      replace HB := bs HB hb
      (try clear hb); (try clear hb2); (try clear hk); (try clear hi); (try clear ho0)
      obtain ⟨Ao107, co107, eo107⟩ := Kd.R_slice HO807.out
      (first | subst eo107 | (injection eo107 with f1_ f2_ f3_; have f4_ := f1_.symm; have f5_ := f3_.symm; clear f1_ f2_ f3_; subst f4_; subst f5_))
      obtain ⟨Ao108, co108, eo108⟩ := Kd.R_slice HO810.out
      (first | subst eo108 | (injection eo108 with f1_ f2_ f3_; have f4_ := f1_.symm; have f5_ := f3_.symm; clear f1_ f2_ f3_; subst f4_; subst f5_))
      refine hK.out _ _ ⟨(blk_cell BK804.out 0).trans rfl, (blk_cell BK804.out 1).trans rfl, (blk_cell BK769.out 0).trans rfl, (blk_cell BK769.out 1).trans rfl⟩ fun hHeld => nT (N := some 52) ?_
      clear hK K
      refine oT (i := 6) (N := some 53) (bb 12 127) HT_ fun K hK => ?_
      refine gS Try.func68 #[.slice Ao107 t805.length co107, .slice Ao108 t808.length co108] ?_
      with_reducible refine (whetstoneref01_DivMod.calls kj67 _ _ t805 _ _ t808 t811 t812 _ ?side1 ?side2 ?side3 ?side4 A82.out).mono ?_
      (case side1 => exact tc (Kd.R_reads' HO807.out).2.2)
      (case side2 => exact (Kd.R_reads' HO807.out).2.1)
      (case side3 => exact tc (Kd.R_reads' HO810.out).2.2)
      (case side4 => exact (Kd.R_reads' HO810.out).2.1)
      rintro e w109 ⟨v813, v815, rfl, ho0, ho1, hb⟩
      refine ⟨_, rfl, ?_⟩
      have HO814 := Aside0.mk (Kd.R_lower (Kd.R_new' (Kd.R_new' (Kd.R_new' (Kd.R_new' ho0 (Kd.R_lt (tq HO_790001))) (Kd.R_lt (tq HO803))) (Kd.R_lt (tq HO807))) (Kd.R_lt (tq HO810))) (below_size (tb HB)))
      have HO816 := Aside0.mk (Kd.R_lower (Kd.R_new' (Kd.R_new' (Kd.R_new' (Kd.R_new' ho1 (Kd.R_lt (tq HO_790001))) (Kd.R_lt (tq HO803))) (Kd.R_lt (tq HO807))) (Kd.R_lt (tq HO810))) (below_size (tb HB)))
      replace HO_790001 := Aside0.mk (Kd.R_mono (Kd.R_told (Kd.R_told (Kd.R_old (tq HO_790001) hb) (Kd.R_base ho0)) (Kd.R_base ho1)) (fun _ h_ => h_.1))
      replace HO803 := Aside0.mk (Kd.R_mono (Kd.R_told (Kd.R_told (Kd.R_old (tq HO803) hb) (Kd.R_base ho0)) (Kd.R_base ho1)) (fun _ h_ => h_.1))
      replace HO807 := Aside0.mk (Kd.R_mono (Kd.R_told (Kd.R_told (Kd.R_old (tq HO807) hb) (Kd.R_base ho0)) (Kd.R_base ho1)) (fun _ h_ => h_.1))
      replace HO810 := Aside0.mk (Kd.R_mono (Kd.R_told (Kd.R_told (Kd.R_old (tq HO810) hb) (Kd.R_base ho0)) (Kd.R_base ho1)) (fun _ h_ => h_.1))
      replace BK769 := kb BK769 hb
      replace BK770 := kb BK770 hb
      replace BK771 := kb BK771 hb
      replace BK789 := kb BK789 hb
      replace BK804 := kb BK804 hb
      replace HB := bs HB hb
      (try clear hb); (try clear hb2); (try clear hk); (try clear hi); (try clear ho0); (try clear ho1)
      refine hK.out _ _ ⟨(blk_cell BK804.out 0).trans rfl, (blk_cell BK804.out 1).trans rfl, (blk_cell BK769.out 0).trans rfl, (blk_cell BK769.out 1).trans rfl⟩ fun hHeld => nT (N := some 53) ?_
      clear hK K
      refine pT (i := 7) (N := some 46) (bb 12 255) HT_ ?_
      refine pT (i := 8) (N := some 54) (bb 12 511) HT_ ?_
      refine pT (i := 9) (N := some 55) (bb 12 1023) HT_ ?_
      refine pT (i := 10) (N := some 11) (bb 12 2047) HT_ ?_
      refine pT (i := 11) (N := some 12) (bb 12 4095) HT_ ?_
      refine done_ (done_of HT_.out (by kernel_rfl)) ?_
      try go_wp2
      replace HO_790001 := Aside0.mk (Kd.R_drew HO_790001.out)
      replace HO803 := Aside0.mk (Kd.R_drew HO803.out)
      replace HO807 := Aside0.mk (Kd.R_drew HO807.out)
      replace HO810 := Aside0.mk (Kd.R_drew HO810.out)
      replace HO814 := Aside0.mk (Kd.R_drew HO814.out)
      replace HO816 := Aside0.mk (Kd.R_drew HO816.out)
      replace BK769 := Aside0.mk (blk_drew BK769.out)
      replace BK770 := Aside0.mk (blk_drew BK770.out)
      replace BK771 := Aside0.mk (blk_drew BK771.out)
      replace BK789 := Aside0.mk (blk_drew BK789.out)
      replace BK804 := Aside0.mk (blk_drew BK804.out)
      replace HB := Aside0.mk (below_drew1 HB.out)
      obtain ⟨Ao111, co111, eo111⟩ := Kd.R_slice HO814.out
      (first | subst eo111 | (injection eo111 with f1_ f2_ f3_; have f4_ := f1_.symm; have f5_ := f3_.symm; clear f1_ f2_ f3_; subst f4_; subst f5_))
      refine start_ (n := 12) (S := fun w' => w'.cell? ⟨gb804, 0, none⟩ = some (.bool t800) ∧ w'.cell? ⟨gb804, 1, none⟩ = some (.slice Ao102 t801.length co102) ∧ w'.cell? ⟨gb769, 0, none⟩ = some (.bool a1_0) ∧ w'.cell? ⟨gb769, 1, none⟩ = some (.slice A1_1 l1_1.length c1_1) ∧ w'.cell? ⟨gb789, 0, none⟩ = some (.bool x790000_67) ∧ w'.cell? ⟨gb789, 1, none⟩ = some (.slice Ao93 x790001_67.length co93)) (ds := []) #[false, false, false, false, false, false, false, false, false, false, false, false] (by kernel_rfl) rfl rfl ⟨(blk_cell BK804.out 0).trans rfl, (blk_cell BK804.out 1).trans rfl, (blk_cell BK769.out 0).trans rfl, (blk_cell BK769.out 1).trans rfl, (blk_cell BK789.out 0).trans rfl, (blk_cell BK789.out 1).trans rfl⟩ (fun hHeld => ?_); refine with_tabW whetstoneref02_DivMod.tab9 whetstoneref02_DivMod.bits9 (fun HT_ HW_ => ?_)
      generalize w109.drew = w110 at HO_790001 HO803 HO807 HO810 HO814 HO816 BK769 BK770 BK771 BK789 BK804 HB hHeld ⊢
      refine pT (i := 0) (N := some 56) (bb 12 1) HT_ ?_
      refine pT (i := 2) (N := some 58) (bb 12 5) HT_ ?_
      refine pT (i := 5) (N := some 61) (bb 12 37) HT_ ?_
      refine tW (i := 1) (N := some 57) (bb 12 39) HT_ HW_ hHeld ?_
      refine tW (i := 3) (N := some 59) (bb 12 47) HT_ HW_ hHeld ?_
      refine pT (i := 4) (N := some 60) (bb 12 63) HT_ ?_
      refine pT (i := 6) (N := some 62) (bb 12 127) HT_ ?_
      refine tW (i := 8) (N := some 64) (bb 12 383) HT_ HW_ hHeld ?_
      refine oT (i := 7) (N := some 63) (bb 12 511) HT_ fun K hK => ?_
      refine gS Try.func54 #[.agg #[.bool (t800 != a1_0), .slice Ao111 t811.length co111]] ?_
      with_reducible refine (whetstoneref02_Norm.calls kj67 (t800 != a1_0) _ _ t811 t817 t818 _ ?side1 ?side2 A83.out).mono ?_
      (case side1 => exact tc (Kd.R_reads' HO814.out).2.2)
      (case side2 => exact (Kd.R_reads' HO814.out).2.1)
      rintro e w112 ⟨v819, rfl, ho0, hb⟩
      refine ⟨_, rfl, ?_⟩
      have HO820 := Aside0.mk (Kd.R_lower (Kd.R_new' (Kd.R_new' (Kd.R_new' (Kd.R_new' (Kd.R_new' (Kd.R_new' ho0 (Kd.R_lt (tq HO_790001))) (Kd.R_lt (tq HO803))) (Kd.R_lt (tq HO807))) (Kd.R_lt (tq HO810))) (Kd.R_lt (tq HO814))) (Kd.R_lt (tq HO816))) (below_size (tb HB)))
      replace HO_790001 := re HO_790001 (Kd.R_base ho0) hb
      replace BK769 := kb BK769 hb
      replace BK770 := kb BK770 hb
      replace BK771 := kb BK771 hb
      replace BK789 := kb BK789 hb
      replace BK804 := kb BK804 hb
      replace HB := bs HB hb
      (try clear hb); (try clear hb2); (try clear hk); (try clear hi); (try clear ho0)
      obtain ⟨Ao114, co114, eo114⟩ := Kd.R_slice HO820.out
      (first | subst eo114 | (injection eo114 with f1_ f2_ f3_; have f4_ := f1_.symm; have f5_ := f3_.symm; clear f1_ f2_ f3_; subst f4_; subst f5_))
      refine hK.out _ _ ⟨(blk_cell BK804.out 0).trans rfl, (blk_cell BK804.out 1).trans rfl, (blk_cell BK769.out 0).trans rfl, (blk_cell BK769.out 1).trans rfl, (blk_cell BK789.out 0).trans rfl, (blk_cell BK789.out 1).trans rfl⟩ fun hHeld => nT (N := some 63) ?_
      clear hK K
      refine oT (i := 9) (N := none) (bb 12 1023) HT_ fun K hK => ?_
      have hs113 := bc BK770 0 (.bool false)
      have hfs113 := blk_frozen BK770.out 0
      have hns113_0 := NB768_770.out
      have hns113_1 := NB769_770.out
      have hns113_3 := NB771_770.out
      have hns113_4 := NB789_770.out
      have hns113_5 := NB804_770.out
      have hms113_0 := NB770_768.out
      have hms113_1 := NB770_769.out
      have hms113_3 := NB770_771.out
      have hms113_4 := NB770_789.out
      have hms113_5 := NB770_804.out
      have hs115 := bc BK770 1 (.slice none 0 0)
      have hfs115 := blk_frozen BK770.out 1
      have hns115_0 := NB768_770.out
      have hns115_1 := NB769_770.out
      have hns115_3 := NB771_770.out
      have hns115_4 := NB789_770.out
      have hns115_5 := NB804_770.out
      have hms115_0 := NB770_768.out
      have hms115_1 := NB770_769.out
      have hms115_3 := NB770_771.out
      have hms115_4 := NB770_789.out
      have hms115_5 := NB770_804.out
      refine skip_ (w1 := ?_) (by rfl) rfl ?_ ?_
      rotate_left
      ·go_simp
       rfl
      refine hK.out _ _ ⟨((cell_far (p := ⟨gb770, _, none⟩) NB804_770.out _).trans (((cell_far (p := ⟨gb770, _, none⟩) NB804_770.out _).trans (hHeld.1)))), ((cell_far (p := ⟨gb770, _, none⟩) NB804_770.out _).trans (((cell_far (p := ⟨gb770, _, none⟩) NB804_770.out _).trans (hHeld.2.1)))), ((cell_far (p := ⟨gb770, _, none⟩) NB769_770.out _).trans (((cell_far (p := ⟨gb770, _, none⟩) NB769_770.out _).trans (hHeld.2.2.1)))), ((cell_far (p := ⟨gb770, _, none⟩) NB769_770.out _).trans (((cell_far (p := ⟨gb770, _, none⟩) NB769_770.out _).trans (hHeld.2.2.2.1)))), ((cell_far (p := ⟨gb770, _, none⟩) NB789_770.out _).trans (((cell_far (p := ⟨gb770, _, none⟩) NB789_770.out _).trans (hHeld.2.2.2.2.1)))), ((cell_far (p := ⟨gb770, _, none⟩) NB789_770.out _).trans (((cell_far (p := ⟨gb770, _, none⟩) NB789_770.out _).trans (hHeld.2.2.2.2.2))))⟩ (fun hHeld => ?_)
      clear hK K
      refine oT (i := 10) (N := none) (bb 12 2047) HT_ fun K hK => ?_
      have hs116 := bc BK771 0 (.bool false)
      have hfs116 := blk_frozen BK771.out 0
      have hns116_0 := NB768_771.out
      have hns116_1 := NB769_771.out
      have hns116_2 := NB770_771.out
      have hns116_4 := NB789_771.out
      have hns116_5 := NB804_771.out
      have hms116_0 := NB771_768.out
      have hms116_1 := NB771_769.out
      have hms116_2 := NB771_770.out
      have hms116_4 := NB771_789.out
      have hms116_5 := NB771_804.out
      have hs117 := bc BK771 1 (.slice none 0 0)
      have hfs117 := blk_frozen BK771.out 1
      have hns117_0 := NB768_771.out
      have hns117_1 := NB769_771.out
      have hns117_2 := NB770_771.out
      have hns117_4 := NB789_771.out
      have hns117_5 := NB804_771.out
      have hms117_0 := NB771_768.out
      have hms117_1 := NB771_769.out
      have hms117_2 := NB771_770.out
      have hms117_4 := NB771_789.out
      have hms117_5 := NB771_804.out
      refine skip_ (w1 := ?_) (by rfl) rfl ?_ ?_
      rotate_left
      ·go_simp
       rfl
      refine hK.out _ _ ⟨((cell_far (p := ⟨gb771, _, none⟩) NB804_771.out _).trans (((cell_far (p := ⟨gb771, _, none⟩) NB804_771.out _).trans (hHeld.1)))), ((cell_far (p := ⟨gb771, _, none⟩) NB804_771.out _).trans (((cell_far (p := ⟨gb771, _, none⟩) NB804_771.out _).trans (hHeld.2.1)))), ((cell_far (p := ⟨gb771, _, none⟩) NB769_771.out _).trans (((cell_far (p := ⟨gb771, _, none⟩) NB769_771.out _).trans (hHeld.2.2.1)))), ((cell_far (p := ⟨gb771, _, none⟩) NB769_771.out _).trans (((cell_far (p := ⟨gb771, _, none⟩) NB769_771.out _).trans (hHeld.2.2.2.1)))), ((cell_far (p := ⟨gb771, _, none⟩) NB789_771.out _).trans (((cell_far (p := ⟨gb771, _, none⟩) NB789_771.out _).trans (hHeld.2.2.2.2.1)))), ((cell_far (p := ⟨gb771, _, none⟩) NB789_771.out _).trans (((cell_far (p := ⟨gb771, _, none⟩) NB789_771.out _).trans (hHeld.2.2.2.2.2))))⟩ (fun hHeld => ?_)
      clear hK K
      refine pT (i := 11) (N := some 6) (bb 12 4095) HT_ ?_
      refine done_ (done_of HT_.out (by kernel_rfl)) ?_
      try go_wp2
      refine bodyPost_ret (results_list (rs := [.cell 4 32, .cell 5 32, .tmp 6]) rfl (by simp) (.cell gb770 32 #[.bool t817, .slice Ao114 t818.length co114] (0, 0) _ rfl (tk BK770) Try.underlying32 rfl (by kernel_rfl) (.cell gb771 32 #[.bool x790000_67, .slice Ao93 x790001_67.length co93] (0, 0) _ rfl (tk BK771) Try.underlying32 rfl (by kernel_rfl) (.tmp .nil)))) rfl ?_
      exact ⟨_, _, by first | rfl | (simp [errW_none, errW_some] <;> rfl) | (simp [*, errW_none, errW_some] <;> rfl), by (with_reducible repeat first | apply qa | apply qn | apply qd); exact Kd.R_mono (Kd.R_far (p := ⟨gb771, 1, none⟩) (Kd.R_far (p := ⟨gb771, 0, none⟩) (Kd.R_far (p := ⟨gb770, 1, none⟩) (Kd.R_far (p := ⟨gb770, 0, none⟩) (Kd.R_types (Kd.R_types HO820.out BK770.out (by decide)) BK771.out (by decide)) (fun _ hk => hk.1.2) (.bool t817)) (fun _ hk => hk.1.2) (.slice Ao114 t818.length co114)) (fun _ hk => hk.2) (.bool x790000_67)) (fun _ hk => hk.2) (.slice Ao93 x790001_67.length co93)) (fun _ hk => hk.1.1.1.1.1.1.1.2), by (with_reducible repeat first | apply qa | apply qn | apply qd); exact Kd.R_mono (Kd.R_far (p := ⟨gb771, 1, none⟩) (Kd.R_far (p := ⟨gb771, 0, none⟩) (Kd.R_far (p := ⟨gb770, 1, none⟩) (Kd.R_far (p := ⟨gb770, 0, none⟩) (Kd.R_types (Kd.R_types HO_790001.out BK770.out (by decide)) BK771.out (by decide)) (fun _ hk => hk.1.2) (.bool t817)) (fun _ hk => hk.1.2) (.slice Ao114 t818.length co114)) (fun _ hk => hk.2) (.bool x790000_67)) (fun _ hk => hk.2) (.slice Ao93 x790001_67.length co93)) (fun _ hk => hk.1.1.2), tb HB⟩

end Go.Proofs.Ytjpnaapimnoamaa.QBigProducts
