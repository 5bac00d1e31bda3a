-- written by wip/wprint, a program of this session
import Derived.Test.YtjpnaapimnoamaaQBigProductsx0
import Derived.Test.YtjpnaapimnoamaaQBigProductsx6
import Derived.Test.YtjpnaapimnoamaaQBigProductsx17
namespace Go.Proofs.Ytjpnaapimnoamaa.QBigProducts
open Go.RowKit Go.Proofs.YtjpnaapimnoamaaW.PrintWords Go.Proofs.YtjpnaapimnoamaaW.PrintLast Go.Proofs.YtjpnaapimnoamaaW.PrintMore
open Go.Proofs.YtjpnaapimnoamaaW.PrintWords.Kd renaming R_alloc → qa, R_drewN → qn, R_drew → qd
open Go.Proofs.YtjpnaapimnoamaaW.PrintWords renaming below_alloc → ba, pw_below_drewN → bn, below_drew1 → bd
attribute [local go_sem] max2_int min2_int max_two min_two max_three min_three max_four min_four   -- for this text's walks alone
set_option linter.unusedVariables false
set_option linter.unusedSimpArgs false

/-! ### whetstoneref02_Sub: function 23 -/
def whetstoneref02_Sub.f (k : Nat) (a0_0 : Bool) (l0_1 : List Int) (a1_0 : Bool) (l1_1 : List Int) : Option (Bool × List Int) := (whetstoneref02_Neg.f k a1_0 l1_1).bind fun bt754 => ((whetstoneref02_Add.f k a0_0 l0_1 bt754.1 bt754.2).bind fun bt758 => (some (bt758.1, bt758.2)))
theorem whetstoneref02_Sub.mono : ∀ a0 a1 a2 a3 k, LeO (whetstoneref02_Sub.f k a0 a1 a2 a3) (whetstoneref02_Sub.f (k + 1) a0 a1 a2 a3) := by
 intro a0 a1 a2 a3 k
 unfold whetstoneref02_Sub.f
 repeat' with_reducible first | exact whetstoneref02_Add.mono _ _ _ _ _ | exact whetstoneref02_Neg.mono _ _ _ | exact LeO.refl _ | exact LeO.none _ | refine LeO.ite ?_ ?_ | refine LeO.bind ?_ (fun _ => ?_)
set_option maxHeartbeats 8000000 in
set_option maxRecDepth 100000 in
theorem whetstoneref02_Sub.calls (k : Nat) (a0_0 : Bool) (A0_1 : Option Addr) (c0_1 : Nat) (l0_1 : List Int) (a1_0 : Bool) (A1_1 : Option Addr) (c1_1 : Nat) (l1_1 : List Int) (r1 : Bool) (r2 : List Int) (w : World) (hr0_1 : Kd.C (Kd.int .i64) w A0_1 l0_1.length l0_1) (hc0_1 : l0_1.length ≤ c0_1) (hr1_1 : Kd.C (Kd.int .i64) w A1_1 l1_1.length l1_1) (hc1_1 : l1_1.length ≤ c1_1) (h : whetstoneref02_Sub.f k a0_0 l0_1 a1_0 l1_1 = some (r1, r2)) :
  Calls Try.prog 23 #[.agg #[.bool a0_0, .slice A0_1 l0_1.length c0_1], .agg #[.bool a1_0, .slice A1_1 l1_1.length c1_1]] w fun e w' => ∃ v1_ : Value, e = .returned (.agg #[.bool r1, v1_]) ∧ Kd.R (Kd.int .i64) 3 w' w.heap.size (fun _ => True) v1_ r2 ∧ Below w.heap.size w w' := by
 have hu32 := Try.underlying32
 have HR0_1 := Aside0.mk hr0_1
 have HC0_1 := Aside0.mk hc0_1
 clear hr0_1 hc0_1
 have HR1_1 := Aside0.mk hr1_1
 have HC1_1 := Aside0.mk hc1_1
 clear hr1_1 hc1_1
 have HB := Aside0.mk (Below.refl w.heap.size w)
 have H : ((whetstoneref02_Neg.f k a1_0 l1_1).bind fun bt754 => ((whetstoneref02_Add.f k a0_0 l0_1 bt754.1 bt754.2).bind fun bt758 => (some (bt758.1, bt758.2)))) = some (r1, r2) := h
 clear h
 replace H := bi H
 obtain ⟨⟨t754, t755⟩, A30, H⟩ := H
 try dsimp only at H
 have A3 := Aside0.mk A30
 clear A30
 replace H := bi H
 obtain ⟨⟨t758, t759⟩, A40, H⟩ := H
 try dsimp only at H
 have A4 := Aside0.mk A40
 clear A40
 simp only [Option.some.injEq, Prod.mk.injEq] at H
 obtain ⟨rfl, rfl⟩ := H
 go_enter Try.func23, Try.ntmps23
 try go_wp2_with (first | ((with_reducible refine gate_dst (N := 2) rfl ?_); refine bx (N := 2) #[.bool a0_0, .slice A0_1 l0_1.length c0_1] 32 ?_; intro gb751 hg w5 hbox hb; have BK751 := Aside0.mk (hbox); have GW751 := bz hg HB; have GE751 := bz hg HB; replace HB := bs HB hb; clear hb hbox hg) | ((with_reducible refine gate_dst (N := 3) rfl ?_); refine bx (N := 3) #[.bool a1_0, .slice A1_1 l1_1.length c1_1] 32 ?_; intro gb752 hg w6 hbox hb; have BK752 := Aside0.mk (hbox); have GW752 := bz hg HB; have GE752 := bz hg HB; replace HB := bs HB hb; have NB751_752 := nl hg BK751; have NB752_751 := ng hg BK751; replace BK751 := kb BK751 hb; clear hb hbox hg) | ((with_reducible refine gate_dst (N := 4) rfl ?_); refine bx (N := 4) #[.bool false, .slice none 0 0] 32 ?_; intro gb753 hg w7 hbox hb; have BK753 := Aside0.mk (hbox); have GW753 := bz hg HB; have GE753 := bz hg HB; replace HB := bs HB hb; have NB751_753 := nl hg BK751; have NB753_751 := ng hg BK751; replace BK751 := kb BK751 hb; have NB752_753 := nl hg BK752; have NB753_752 := ng hg BK752; replace BK752 := kb BK752 hb; clear hb hbox hg))
 replace BK751 := Aside0.mk (blk_drew BK751.out)
 replace BK752 := Aside0.mk (blk_drew BK752.out)
 replace BK753 := Aside0.mk (blk_drew BK753.out)
 replace HB := Aside0.mk (below_drew1 HB.out)
 refine start_ (n := 5) (S := fun w' => w'.cell? ⟨gb751, 0, none⟩ = some (.bool a0_0) ∧ w'.cell? ⟨gb751, 1, none⟩ = some (.slice A0_1 l0_1.length c0_1) ∧ w'.cell? ⟨gb752, 0, none⟩ = some (.bool a1_0) ∧ w'.cell? ⟨gb752, 1, none⟩ = some (.slice A1_1 l1_1.length c1_1)) (ds := []) #[false, false, false, false, false] (by kernel_rfl) rfl rfl ⟨(blk_cell BK751.out 0).trans rfl, (blk_cell BK751.out 1).trans rfl, (blk_cell BK752.out 0).trans rfl, (blk_cell BK752.out 1).trans rfl⟩ (fun hHeld => ?_)
 generalize w7.drew = w8 at BK751 BK752 BK753 HB hHeld ⊢
 refine t0 (i := 0) (N := some 5) (bb 5 1) hHeld ?_
 refine t0 (i := 1) (N := some 6) (bb 5 3) hHeld ?_
 refine o0 (i := 2) (N := some 7) (bb 5 7) fun K hK => ?_
 refine gS Try.func29 #[.agg #[.bool a1_0, .slice A1_1 l1_1.length c1_1]] ?_
 with_reducible refine (whetstoneref02_Neg.calls k a1_0 _ _ l1_1 t754 t755 _ ?side1 ?side2 A3.out).mono ?_
 (case side1 => exact tc (Kd.C_below HR1_1.out HB.out))
 (case side2 => exact HC1_1.out)
 rintro e w9 ⟨v756, rfl, ho0, hb⟩
 refine ⟨_, rfl, ?_⟩
 have HO757 := rl ho0 HB
 replace BK751 := kb BK751 hb
 replace BK752 := kb BK752 hb
 replace BK753 := kb BK753 hb
 replace HB := bs HB hb
 (try clear hb); (try clear hb2); (try clear hk); (try clear hi); (try clear ho0)
 obtain ⟨Ao10, co10, eo10⟩ := Kd.R_slice HO757.out
 (first | subst eo10 | (injection eo10 with f1_ f2_ f3_; have f4_ := f1_.symm; have f5_ := f3_.symm; clear f1_ f2_ f3_; subst f4_; subst f5_))
 refine hK.out _ _ ⟨(blk_cell BK751.out 0).trans rfl, (blk_cell BK751.out 1).trans rfl, (blk_cell BK752.out 0).trans rfl, (blk_cell BK752.out 1).trans rfl⟩ fun hHeld => nT (N := some 7) ?_
 clear hK K
 refine o0 (i := 3) (N := some 8) (bb 5 15) fun K hK => ?_
 refine gS Try.func21 #[.agg #[.bool a0_0, .slice A0_1 l0_1.length c0_1], .agg #[.bool t754, .slice Ao10 t755.length co10]] ?_
 with_reducible refine (whetstoneref02_Add.calls k a0_0 _ _ l0_1 t754 _ _ t755 t758 t759 _ ?side1 ?side2 ?side3 ?side4 A4.out).mono ?_
 (case side1 => exact tc (Kd.C_below HR0_1.out HB.out))
 (case side2 => exact HC0_1.out)
 (case side3 => exact tc (Kd.R_reads' HO757.out).2.2)
 (case side4 => exact (Kd.R_reads' HO757.out).2.1)
 rintro e w11 ⟨v760, rfl, ho0, hb⟩
 refine ⟨_, rfl, ?_⟩
 have HO761 := Aside0.mk (Kd.R_lower (Kd.R_new' ho0 (Kd.R_lt (tq HO757))) (below_size (tb HB)))
 replace BK751 := kb BK751 hb
 replace BK752 := kb BK752 hb
 replace BK753 := kb BK753 hb
 replace HB := bs HB hb
 (try clear hb); (try clear hb2); (try clear hk); (try clear hi); (try clear ho0)
 obtain ⟨Ao13, co13, eo13⟩ := Kd.R_slice HO761.out
 (first | subst eo13 | (injection eo13 with f1_ f2_ f3_; have f4_ := f1_.symm; have f5_ := f3_.symm; clear f1_ f2_ f3_; subst f4_; subst f5_))
 refine hK.out _ _ ⟨(blk_cell BK751.out 0).trans rfl, (blk_cell BK751.out 1).trans rfl, (blk_cell BK752.out 0).trans rfl, (blk_cell BK752.out 1).trans rfl⟩ fun hHeld => nT (N := some 8) ?_
 clear hK K
 refine o0 (i := 4) (N := none) (bb 5 31) fun K hK => ?_
 have hs12 := bc BK753 0 (.bool false)
 have hfs12 := blk_frozen BK753.out 0
 have hns12_0 := NB751_753.out
 have hns12_1 := NB752_753.out
 have hms12_0 := NB753_751.out
 have hms12_1 := NB753_752.out
 have hs14 := bc BK753 1 (.slice none 0 0)
 have hfs14 := blk_frozen BK753.out 1
 have hns14_0 := NB751_753.out
 have hns14_1 := NB752_753.out
 have hms14_0 := NB753_751.out
 have hms14_1 := NB753_752.out
 refine skip_ (w1 := ?_) (by rfl) rfl ?_ ?_
 rotate_left
 ·go_simp
  rfl
 refine hK.out _ _ ⟨((cell_far (p := ⟨gb753, _, none⟩) NB751_753.out _).trans (((cell_far (p := ⟨gb753, _, none⟩) NB751_753.out _).trans (hHeld.1)))), ((cell_far (p := ⟨gb753, _, none⟩) NB751_753.out _).trans (((cell_far (p := ⟨gb753, _, none⟩) NB751_753.out _).trans (hHeld.2.1)))), ((cell_far (p := ⟨gb753, _, none⟩) NB752_753.out _).trans (((cell_far (p := ⟨gb753, _, none⟩) NB752_753.out _).trans (hHeld.2.2.1)))), ((cell_far (p := ⟨gb753, _, none⟩) NB752_753.out _).trans (((cell_far (p := ⟨gb753, _, none⟩) NB752_753.out _).trans (hHeld.2.2.2))))⟩ (fun hHeld => ?_)
 clear hK K
 refine done_ (by kernel_rfl) ?_
 try go_wp2
 refine bodyPost_ret (results_cell_row rfl _ _ gb753 32 #[.bool t758, .slice Ao13 t759.length co13] (0, 0) _ rfl (tk BK753) Try.underlying32 rfl (by kernel_rfl)) rfl ?_
 exact ⟨_, by first | rfl | (simp [errW_none, errW_some] <;> rfl) | (simp [*, errW_none, errW_some] <;> rfl), by (with_reducible repeat first | apply qa | apply qn | apply qd); exact Kd.R_mono (Kd.R_far (p := ⟨gb753, 1, none⟩) (Kd.R_far (p := ⟨gb753, 0, none⟩) (Kd.R_types HO761.out BK753.out (by decide)) (fun _ hk => hk.2) (.bool t758)) (fun _ hk => hk.2) (.slice Ao13 t759.length co13)) (fun _ hk => trivial), tb HB⟩

/-! ### whetstoneref02_Abs: function 31 -/
def whetstoneref02_Abs.f (k : Nat) (a0_0 : Bool) (l0_1 : List Int) : Option (Bool × List Int) := (whetstoneref02_Norm.f k false l0_1).bind fun bt764 => (some (bt764.1, bt764.2))
theorem whetstoneref02_Abs.mono : ∀ a0 a1 k, LeO (whetstoneref02_Abs.f k a0 a1) (whetstoneref02_Abs.f (k + 1) a0 a1) := by
 intro a0 a1 k
 unfold whetstoneref02_Abs.f
 repeat' with_reducible first | exact whetstoneref02_Norm.mono _ _ _ | exact LeO.refl _ | exact LeO.none _ | refine LeO.ite ?_ ?_ | refine LeO.bind ?_ (fun _ => ?_)
set_option maxHeartbeats 8000000 in
set_option maxRecDepth 100000 in
theorem whetstoneref02_Abs.calls (k : Nat) (a0_0 : Bool) (A0_1 : Option Addr) (c0_1 : Nat) (l0_1 : List Int) (r1 : Bool) (r2 : List Int) (w : World) (hr0_1 : Kd.C (Kd.int .i64) w A0_1 l0_1.length l0_1) (hc0_1 : l0_1.length ≤ c0_1) (h : whetstoneref02_Abs.f k a0_0 l0_1 = some (r1, r2)) :
  Calls Try.prog 31 #[.agg #[.bool a0_0, .slice A0_1 l0_1.length c0_1]] w fun e w' => ∃ v1_ : Value, e = .returned (.agg #[.bool r1, v1_]) ∧ Kd.R (Kd.int .i64) 3 w' w.heap.size (fun _ => True) v1_ r2 ∧ Below w.heap.size w w' := by
 have hu32 := Try.underlying32
 have HR0_1 := Aside0.mk hr0_1
 have HC0_1 := Aside0.mk hc0_1
 clear hr0_1 hc0_1
 have HB := Aside0.mk (Below.refl w.heap.size w)
 have H : ((whetstoneref02_Norm.f k false l0_1).bind fun bt764 => (some (bt764.1, bt764.2))) = some (r1, r2) := h
 clear h
 replace H := bi H
 obtain ⟨⟨t764, t765⟩, A20, H⟩ := H
 try dsimp only at H
 have A2 := Aside0.mk A20
 clear A20
 simp only [Option.some.injEq, Prod.mk.injEq] at H
 obtain ⟨rfl, rfl⟩ := H
 go_enter Try.func31, Try.ntmps31
 go_wp2_with (first | ((with_reducible refine gate_dst (N := 1) rfl ?_); refine bx (N := 1) #[.bool a0_0, .slice A0_1 l0_1.length c0_1] 32 ?_; intro gb762 hg w3 hbox hb; have BK762 := Aside0.mk (hbox); have GW762 := bz hg HB; have GE762 := bz hg HB; replace HB := bs HB hb; clear hb hbox hg) | ((with_reducible refine gate_dst (N := 2) rfl ?_); refine bx (N := 2) #[.bool false, .slice none 0 0] 32 ?_; intro gb763 hg w4 hbox hb; have BK763 := Aside0.mk (hbox); have GW763 := bz hg HB; have GE763 := bz hg HB; replace HB := bs HB hb; have NB762_763 := nl hg BK762; have NB763_762 := ng hg BK762; replace BK762 := kb BK762 hb; clear hb hbox hg; have hnb5 := NB762_763.out; have hnc5 := NB763_762.out; have hcz6_0 := bc BK762 0 (.bool a0_0); have hcz6_1 := bc BK762 1 (.slice A0_1 l0_1.length c0_1); have hfz6_0 := blk_frozen BK762.out 0; have hfz6_1 := blk_frozen BK762.out 1) | ((with_reducible refine gate_callee (f := 54) rfl ?_); refine gL (N := some 6) Try.func54 #[.agg #[.bool false, .slice A0_1 l0_1.length c0_1]] ?_; (with_reducible refine (whetstoneref02_Norm.calls k false _ _ l0_1 t764 t765 _ ?side1 ?side2 A2.out).mono ?_); (case side1 => exact tc (Kd.C_below HR0_1.out HB.out)); (case side2 => exact HC0_1.out); rintro e w7 ⟨v766, rfl, ho0, hb⟩; refine ⟨_, rfl, ?_⟩; have HO767 := rl ho0 HB; replace BK763 := kb BK763 hb; replace HB := bs HB hb; (try clear hb); (try clear hb2); (try clear hk); (try clear hi); (try clear ho0); have hcz8_0 := bc BK763 0 (.bool false); have hcz8_1 := bc BK763 1 (.slice none 0 0); have hfz8_0 := blk_frozen BK763.out 0; have hfz8_1 := blk_frozen BK763.out 1; obtain ⟨Ao9, co9, eo9⟩ := Kd.R_slice HO767.out; subst eo9))
 refine bodyPost_ret (results_cell_row rfl _ _ gb763 32 #[.bool t764, .slice Ao9 t765.length co9] (0, 0) _ rfl (tk BK763) Try.underlying32 rfl (by kernel_rfl)) rfl ?_
 exact ⟨_, by first | rfl | (simp [errW_none, errW_some] <;> rfl) | (simp [*, errW_none, errW_some] <;> rfl), by (with_reducible repeat first | apply qa | apply qn | apply qd); exact Kd.R_mono (Kd.R_far (p := ⟨gb763, 1, none⟩) (Kd.R_far (p := ⟨gb763, 0, none⟩) (Kd.R_types HO767.out BK763.out (by decide)) (fun _ hk => hk.2) (.bool t764)) (fun _ hk => hk.2) (.slice Ao9 t765.length co9)) (fun _ hk => trivial), tb HB⟩

end Go.Proofs.Ytjpnaapimnoamaa.QBigProducts
