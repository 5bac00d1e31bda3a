-- written by wip/wprint, a program of this session
import Derived.Test.YtjpnaapimnoamaaQBigProductsx0
import Derived.Test.YtjpnaapimnoamaaQBigProductsx17
import Derived.Test.YtjpnaapimnoamaaQBigProductsx19
namespace Go.Proofs.Ytjpnaapimnoamaa.QBigProducts
open Go.RowKit Go.Proofs.YtjpnaapimnoamaaW.PrintWords Go.Proofs.YtjpnaapimnoamaaW.PrintLast Go.Proofs.YtjpnaapimnoamaaW.PrintMore
open Go.Proofs.YtjpnaapimnoamaaW.PrintWords.Kd renaming R_alloc → qa, R_drewN → qn, R_drew → qd
open Go.Proofs.YtjpnaapimnoamaaW.PrintWords renaming below_alloc → ba, pw_below_drewN → bn, below_drew1 → bd
attribute [local go_sem] max2_int min2_int max_two min_two max_three min_three max_four min_four   -- for this text's walks alone
set_option linter.unusedVariables false
set_option linter.unusedSimpArgs false

/-! ### whetstoneref02_Divides: function 45 -/
def whetstoneref02_Divides.f (k : Nat) (a0_0 : Bool) (l0_1 : List Int) (a1_0 : Bool) (l1_1 : List Int) : Option (Bool) := (whetstoneref02_Sign.f k a0_0 l0_1).bind fun t823 => (if t823 = 0 then ((whetstoneref02_Sign.f k a1_0 l1_1).bind fun t824 => (some (t824 == 0))) else ((whetstoneref02_DivMod.f k a1_0 l1_1 a0_0 l0_1).bind fun bt825 => ((whetstoneref02_Sign.f k bt825.2.2.1 bt825.2.2.2.1).bind fun t836 => (some (t836 == 0)))))
theorem whetstoneref02_Divides.mono : ∀ a0 a1 a2 a3 k, LeO (whetstoneref02_Divides.f k a0 a1 a2 a3) (whetstoneref02_Divides.f (k + 1) a0 a1 a2 a3) := by
 intro a0 a1 a2 a3 k
 unfold whetstoneref02_Divides.f
 repeat' with_reducible first | exact whetstoneref02_DivMod.mono _ _ _ _ _ | exact whetstoneref02_Sign.mono _ _ _ | exact LeO.refl _ | exact LeO.none _ | refine LeO.ite ?_ ?_ | refine LeO.bind ?_ (fun _ => ?_)
set_option maxHeartbeats 8000000 in
set_option maxRecDepth 100000 in
theorem whetstoneref02_Divides.calls (k : Nat) (a0_0 : Bool) (A0_1 : Option Addr) (c0_1 : Nat) (l0_1 : List Int) (a1_0 : Bool) (A1_1 : Option Addr) (c1_1 : Nat) (l1_1 : List Int) (r : Bool) (w : World) (hr0_1 : Kd.C (Kd.int .i64) w A0_1 l0_1.length l0_1) (hc0_1 : l0_1.length ≤ c0_1) (hr1_1 : Kd.C (Kd.int .i64) w A1_1 l1_1.length l1_1) (hc1_1 : l1_1.length ≤ c1_1) (h : whetstoneref02_Divides.f k a0_0 l0_1 a1_0 l1_1 = some r) :
  Calls Try.prog 45 #[.agg #[.bool a0_0, .slice A0_1 l0_1.length c0_1], .agg #[.bool a1_0, .slice A1_1 l1_1.length c1_1]] w fun e w' => e = .returned (.bool r) ∧ Below w.heap.size w w' := by
 have hu32 := Try.underlying32
 have HR0_1 := Aside0.mk hr0_1
 have HC0_1 := Aside0.mk hc0_1
 clear hr0_1 hc0_1
 have HR1_1 := Aside0.mk hr1_1
 have HC1_1 := Aside0.mk hc1_1
 clear hr1_1 hc1_1
 have HB := Aside0.mk (Below.refl w.heap.size w)
 have H : ((whetstoneref02_Sign.f k a0_0 l0_1).bind fun t823 => (if t823 = 0 then ((whetstoneref02_Sign.f k a1_0 l1_1).bind fun t824 => (some (t824 == 0))) else ((whetstoneref02_DivMod.f k a1_0 l1_1 a0_0 l0_1).bind fun bt825 => ((whetstoneref02_Sign.f k bt825.2.2.1 bt825.2.2.2.1).bind fun t836 => (some (t836 == 0)))))) = some r := h
 clear h
 replace H := bi H
 obtain ⟨t823, A30, H⟩ := H
 have A3 := Aside0.mk A30
 clear A30
 by_cases c4 : t823 = 0
 ·rw [if_pos c4] at H
  have c4b0 : (t823 == 0) = true := beq_iff_eq.mpr c4
  have c4b1 : (t823 != 0) = false := bne_eq_false_iff_eq.mpr c4
  clear c4
  replace H := bi H
  obtain ⟨t824, A50, H⟩ := H
  have A5 := Aside0.mk A50
  clear A50
  obtain rfl := Option.some.inj H
  go_enter Try.func45, Try.ntmps45
  go_wp2_with (first | ((with_reducible refine gate_dst (N := 2) rfl ?_); refine bx (N := 2) #[.bool a0_0, .slice A0_1 l0_1.length c0_1] 32 ?_; intro gb821 hg w6 hbox hb; have BK821 := Aside0.mk (hbox); have GW821 := bz hg HB; have GE821 := bz hg HB; replace HB := bs HB hb; clear hb hbox hg) | ((with_reducible refine gate_dst (N := 3) rfl ?_); refine bx (N := 3) #[.bool a1_0, .slice A1_1 l1_1.length c1_1] 32 ?_; intro gb822 hg w7 hbox hb; have BK822 := Aside0.mk (hbox); have GW822 := bz hg HB; have GE822 := bz hg HB; replace HB := bs HB hb; have NB821_822 := nl hg BK821; have NB822_821 := ng hg BK821; replace BK821 := kb BK821 hb; clear hb hbox hg; have hnb8 := NB821_822.out; have hnc8 := NB822_821.out; have hcz9_0 := bc BK821 0 (.bool a0_0); have hcz9_1 := bc BK821 1 (.slice A0_1 l0_1.length c0_1); have hfz9_0 := blk_frozen BK821.out 0; have hfz9_1 := blk_frozen BK821.out 1) | ((with_reducible refine gate_callee (f := 27) rfl ?_); refine gL (N := some 9) Try.func27 #[.agg #[.bool a0_0, .slice A0_1 l0_1.length c0_1]] ?_; (with_reducible refine (whetstoneref02_Sign.calls k a0_0 _ _ l0_1 t823 _ ?side1 ?side2 A3.out).mono ?_); (case side1 => exact tc (Kd.C_below HR0_1.out HB.out)); (case side2 => exact HC0_1.out); rintro e w10 ⟨rfl, hb⟩; refine ⟨_, rfl, ?_⟩; replace BK822 := kb BK822 hb; replace HB := bs HB hb; (try clear hb); (try clear hb2); (try clear hk); (try clear hi); have hcz11_0 := bc BK822 0 (.bool a1_0); have hcz11_1 := bc BK822 1 (.slice A1_1 l1_1.length c1_1); have hfz11_0 := blk_frozen BK822.out 0; have hfz11_1 := blk_frozen BK822.out 1) | ((with_reducible refine gate_callee (f := 27) rfl ?_); refine gL (N := some 12) Try.func27 #[.agg #[.bool a1_0, .slice A1_1 l1_1.length c1_1]] ?_; (with_reducible refine (whetstoneref02_Sign.calls k a1_0 _ _ l1_1 t824 _ ?side1 ?side2 A5.out).mono ?_); (case side1 => exact tc (Kd.C_below HR1_1.out HB.out)); (case side2 => exact HC1_1.out); rintro e w12 ⟨rfl, hb⟩; refine ⟨_, rfl, ?_⟩; replace HB := bs HB hb; (try clear hb); (try clear hb2); (try clear hk); (try clear hi)))
  go_ret
  exact ⟨by first | rfl | (simp [errW_none, errW_some] <;> rfl) | (simp [*, errW_none, errW_some] <;> rfl), tb HB⟩
 ·rw [if_neg c4] at H
  have c4b0 : (t823 == 0) = false := beq_eq_false_iff_ne.mpr c4
  have c4b1 : (t823 != 0) = true := bne_iff_ne.mpr c4
  replace H := bi H
  obtain ⟨⟨t825, t826, t829, t830, t833⟩, A130, H⟩ := H
  try dsimp only at H
  have A13 := Aside0.mk A130
  clear A130
  replace H := bi H
  obtain ⟨t836, A140, H⟩ := H
  have A14 := Aside0.mk A140
  clear A140
  obtain rfl := Option.some.inj H
  go_enter Try.func45, Try.ntmps45
  go_wp2_with (first | ((with_reducible refine gate_dst (N := 2) rfl ?_); refine bx (N := 2) #[.bool a0_0, .slice A0_1 l0_1.length c0_1] 32 ?_; intro gb821 hg w15 hbox hb; have BK821 := Aside0.mk (hbox); have GW821 := bz hg HB; have GE821 := bz hg HB; replace HB := bs HB hb; clear hb hbox hg) | ((with_reducible refine gate_dst (N := 3) rfl ?_); refine bx (N := 3) #[.bool a1_0, .slice A1_1 l1_1.length c1_1] 32 ?_; intro gb822 hg w16 hbox hb; have BK822 := Aside0.mk (hbox); have GW822 := bz hg HB; have GE822 := bz hg HB; replace HB := bs HB hb; have NB821_822 := nl hg BK821; have NB822_821 := ng hg BK821; replace BK821 := kb BK821 hb; clear hb hbox hg; have hnb17 := NB821_822.out; have hnc17 := NB822_821.out; have hcz18_0 := bc BK821 0 (.bool a0_0); have hcz18_1 := bc BK821 1 (.slice A0_1 l0_1.length c0_1); have hfz18_0 := blk_frozen BK821.out 0; have hfz18_1 := blk_frozen BK821.out 1) | ((with_reducible refine gate_callee (f := 27) rfl ?_); refine gL (N := some 9) Try.func27 #[.agg #[.bool a0_0, .slice A0_1 l0_1.length c0_1]] ?_; (with_reducible refine (whetstoneref02_Sign.calls k a0_0 _ _ l0_1 t823 _ ?side1 ?side2 A3.out).mono ?_); (case side1 => exact tc (Kd.C_below HR0_1.out HB.out)); (case side2 => exact HC0_1.out); rintro e w19 ⟨rfl, hb⟩; refine ⟨_, rfl, ?_⟩; replace BK821 := kb BK821 hb; replace BK822 := kb BK822 hb; replace HB := bs HB hb; (try clear hb); (try clear hb2); (try clear hk); (try clear hi); have hcz20_0 := bc BK822 0 (.bool a1_0); have hcz20_1 := bc BK822 1 (.slice A1_1 l1_1.length c1_1); have hfz20_0 := blk_frozen BK822.out 0; have hfz20_1 := blk_frozen BK822.out 1; have hcz21_0 := bc BK821 0 (.bool a0_0); have hcz21_1 := bc BK821 1 (.slice A0_1 l0_1.length c0_1); have hfz21_0 := blk_frozen BK821.out 0; have hfz21_1 := blk_frozen BK821.out 1) | ((with_reducible refine gate_callee (f := 34) rfl ?_); refine gL (N := some 17) Try.func34 #[.agg #[.bool a1_0, .slice A1_1 l1_1.length c1_1], .agg #[.bool a0_0, .slice A0_1 l0_1.length c0_1]] ?_; (with_reducible refine (whetstoneref02_DivMod.calls k a1_0 _ _ l1_1 a0_0 _ _ l0_1 t825 t826 t829 t830 t833 _ ?side1 ?side2 ?side3 ?side4 A13.out).mono ?_); (case side1 => exact tc (Kd.C_below HR1_1.out HB.out)); (case side2 => exact HC1_1.out); (case side3 => exact tc (Kd.C_below HR0_1.out HB.out)); (case side4 => exact HC0_1.out); rintro e w22 ⟨v827, v831, rfl, ho0, ho1, hb⟩; refine ⟨_, rfl, ?_⟩; have HO828 := rl ho0 HB; have HO832 := rl ho1 HB; replace BK821 := kb BK821 hb; replace BK822 := kb BK822 hb; replace HB := bs HB hb; (try clear hb); (try clear hb2); (try clear hk); (try clear hi); (try clear ho0); (try clear ho1)) | ((with_reducible refine gate_dst (N := 5) rfl ?_); refine bx (N := 5) #[.bool false, .slice none 0 0] 32 ?_; intro gb834 hg w23 hbox hb; replace HO828 := rb HO828 hb; replace HO832 := rb HO832 hb; have BK834 := Aside0.mk (hbox); have GW834 := bz hg HB; have GE834 := bz hg HB; replace HB := bs HB hb; have NB821_834 := nl hg BK821; have NB834_821 := ng hg BK821; replace BK821 := kb BK821 hb; have NB822_834 := nl hg BK822; have NB834_822 := ng hg BK822; replace BK822 := kb BK822 hb; clear hb hbox hg) | ((with_reducible refine gate_dst (N := 6) rfl ?_); refine bx (N := 6) #[.bool false, .slice none 0 0] 32 ?_; intro gb835 hg w24 hbox hb; replace HO828 := rb HO828 hb; replace HO832 := rb HO832 hb; have BK835 := Aside0.mk (hbox); have GW835 := bz hg HB; have GE835 := bz hg HB; replace HB := bs HB hb; have NB821_835 := nl hg BK821; have NB835_821 := ng hg BK821; have NB822_835 := nl hg BK822; have NB835_822 := ng hg BK822; have NB834_835 := nl hg BK834; have NB835_834 := ng hg BK834; replace BK834 := kb BK834 hb; clear hb hbox hg; have hnb25 := NB834_821.out; have hnc25 := NB821_834.out; have hnb26 := NB834_822.out; have hnc26 := NB822_834.out; have hnb27 := NB834_835.out; have hnc27 := NB835_834.out; have hcz28_0 := bc BK834 0 (.bool false); have hcz28_1 := bc BK834 1 (.slice none 0 0); have hfz28_0 := blk_frozen BK834.out 0; have hfz28_1 := blk_frozen BK834.out 1; obtain ⟨Ao29, co29, eo29⟩ := Kd.R_slice HO828.out; subst eo29; have hnb30 := NB835_821.out; have hnc30 := NB821_835.out; have hnb31 := NB835_822.out; have hnc31 := NB822_835.out; have hcz32_0 := bc BK835 0 (.bool false); have hcz32_1 := bc BK835 1 (.slice none 0 0); have hfz32_0 := blk_frozen BK835.out 0; have hfz32_1 := blk_frozen BK835.out 1; obtain ⟨Ao33, co33, eo33⟩ := Kd.R_slice HO832.out; subst eo33) | ((with_reducible refine gate_callee (f := 27) rfl ?_); refine gL (N := some 22) Try.func27 #[.agg #[.bool t829, .slice Ao33 t830.length co33]] ?_; (with_reducible refine (whetstoneref02_Sign.calls k t829 _ _ t830 t836 _ ?side1 ?side2 A14.out).mono ?_); (case side1 => refine (Kd.R_reads' (e := 3) (base := w.heap.size) (ok := fun k_ => some k_ ≠ (.slice Ao29 t826.length co29 : Value).ownBlock) (n := t830.length) (c := co33) ?_).2.2; exact (by (with_reducible repeat first | apply qa | apply qn | apply qd); exact (Kd.R_mono (Kd.R_mono (Kd.R_far (p := ⟨gb835, 1, none⟩) (Kd.R_far (p := ⟨gb835, 0, none⟩) (Kd.R_far (p := ⟨gb834, 1, none⟩) (Kd.R_far (p := ⟨gb834, 0, none⟩) (Kd.R_types (Kd.R_types HO832.out BK834.out (by decide)) BK835.out (by decide)) (fun _ hk => hk.1.2) (.bool t825)) (fun _ hk => hk.1.2) (.slice Ao29 t826.length co29)) (fun _ hk => hk.2) (.bool t829)) (fun _ hk => hk.2) (.slice Ao33 t830.length co33)) (fun _ h_ => h_.1)) (fun _ h_ => h_.1)))); (case side2 => exact (Kd.R_reads' HO832.out).2.1); rintro e w34 ⟨rfl, hb⟩; refine ⟨_, rfl, ?_⟩; replace HB := bs HB hb; (try clear hb); (try clear hb2); (try clear hk); (try clear hi)))
  go_ret
  exact ⟨by first | rfl | (simp [errW_none, errW_some] <;> rfl) | (simp [*, errW_none, errW_some] <;> rfl), tb HB⟩

end Go.Proofs.Ytjpnaapimnoamaa.QBigProducts
