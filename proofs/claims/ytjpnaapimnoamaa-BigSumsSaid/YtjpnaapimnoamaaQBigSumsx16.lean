-- written by wip/wprint, a program of this session
import Derived.Test.YtjpnaapimnoamaaQBigSumsx0
import Derived.Test.YtjpnaapimnoamaaQBigSumsx6
import Derived.Test.YtjpnaapimnoamaaQBigSumsx7
namespace Go.Proofs.Ytjpnaapimnoamaa.QBigSums
open Go.RowKit Go.Proofs.YtjpnaapimnoamaaW.PrintWords Go.Proofs.YtjpnaapimnoamaaW.PrintLast Go.Proofs.YtjpnaapimnoamaaW.PrintMore
open Go.Proofs.YtjpnaapimnoamaaW.PrintWords.Kd renaming R_alloc → qa, R_drewN → qn, R_drew → qd
open Go.Proofs.YtjpnaapimnoamaaW.PrintWords renaming below_alloc → ba, pw_below_drewN → bn, below_drew1 → bd
attribute [local go_sem] max2_int min2_int max_two min_two max_three min_three max_four min_four   -- for this text's walks alone
set_option linter.unusedVariables false
set_option linter.unusedSimpArgs false

/-! ### whetstoneref02_Add: function 21 -/
def whetstoneref02_Add.f (k : Nat) (a0_0 : Bool) (l0_1 : List Int) (a1_0 : Bool) (l1_1 : List Int) : Option (Bool × List Int) := if (a0_0 == a1_0) = true then ((whetstoneref01_Add.f k l0_1 l1_1).bind fun t649 => ((whetstoneref02_Norm.f k a0_0 t649).bind fun bt652 => (some (bt652.1, bt652.2)))) else ((whetstoneref01_Cmp.f k l0_1 l1_1).bind fun t656 => (if t656 ≥ 0 then ((whetstoneref01_Sub.f k l0_1 l1_1).bind fun t657 => ((whetstoneref02_Norm.f k a0_0 t657).bind fun bt660 => (some (bt660.1, bt660.2)))) else ((whetstoneref01_Sub.f k l1_1 l0_1).bind fun t664 => ((whetstoneref02_Norm.f k a1_0 t664).bind fun bt667 => (some (bt667.1, bt667.2))))))
theorem whetstoneref02_Add.mono : ∀ a0 a1 a2 a3 k, LeO (whetstoneref02_Add.f k a0 a1 a2 a3) (whetstoneref02_Add.f (k + 1) a0 a1 a2 a3) := by
 intro a0 a1 a2 a3 k
 unfold whetstoneref02_Add.f
 repeat' first
   | (with_reducible exact whetstoneref01_Add.mono _ _ _)
   | (with_reducible exact whetstoneref01_Cmp.mono _ _ _)
   | (with_reducible exact whetstoneref01_Sub.mono _ _ _)
   | (with_reducible exact whetstoneref02_Norm.mono _ _ _)
   | (with_reducible exact LeO.refl _)
   | (with_reducible exact LeO.none _)
   | (with_reducible refine LeO.ite ?_ ?_)
   | (with_reducible refine LeO.bind ?_ (fun _ => ?_))
   | exact whetstoneref01_Add.mono _ _ _
   | exact whetstoneref01_Cmp.mono _ _ _
   | exact whetstoneref01_Sub.mono _ _ _
   | exact whetstoneref02_Norm.mono _ _ _
   | exact LeO.none _
   | refine LeO.ite ?_ ?_
   | refine LeO.bind ?_ (fun _ => ?_)
def whetstoneref02_Add.T2 : Bool × List (List Nat × List Nat) := (true, [([], []), ([0], [0]), ([], []), ([2], [2]), ([], []), ([4], [4]), ([3, 5], [3, 5]), ([1, 6], [1, 6]), ([7, 6], [7]), ([8, 8, 0, 1, 2, 3, 4, 5, 6, 7, 8], [8])])
def whetstoneref02_Add.B2 : List Nat := [0, 1, 0, 4, 0, 16, 60, 127, 255, 511]
theorem whetstoneref02_Add.tab2 : rtab .any (opsOf Try.f21 2) = whetstoneref02_Add.T2 := by kernel_rfl
theorem whetstoneref02_Add.bits2 : waitsOk whetstoneref02_Add.T2.2 whetstoneref02_Add.B2 = true := by kernel_rfl
def whetstoneref02_Add.T4 : Bool × List (List Nat × List Nat) := (true, [([], []), ([0], [0]), ([], []), ([2], [2]), ([], []), ([4], [4]), ([3, 5], [3, 5]), ([1, 6], [1, 6]), ([7, 6], [7]), ([8, 8, 0, 1, 2, 3, 4, 5, 6, 7, 8], [8])])
def whetstoneref02_Add.B4 : List Nat := [0, 1, 0, 4, 0, 16, 60, 127, 255, 511]
theorem whetstoneref02_Add.tab4 : rtab .any (opsOf Try.f21 4) = whetstoneref02_Add.T4 := by kernel_rfl
theorem whetstoneref02_Add.bits4 : waitsOk whetstoneref02_Add.T4.2 whetstoneref02_Add.B4 = true := by kernel_rfl
def whetstoneref02_Add.T5 : Bool × List (List Nat × List Nat) := (true, [([], []), ([0], [0]), ([], []), ([2], [2]), ([], []), ([4], [4]), ([3, 5], [3, 5]), ([1, 6], [1, 6]), ([7, 6], [7]), ([8, 8, 0, 1, 2, 3, 4, 5, 6, 7, 8], [8])])
def whetstoneref02_Add.B5 : List Nat := [0, 1, 0, 4, 0, 16, 60, 127, 255, 511]
theorem whetstoneref02_Add.tab5 : rtab .any (opsOf Try.f21 5) = whetstoneref02_Add.T5 := by kernel_rfl
theorem whetstoneref02_Add.bits5 : waitsOk whetstoneref02_Add.T5.2 whetstoneref02_Add.B5 = true := by kernel_rfl
set_option maxHeartbeats 8000000 in
set_option maxRecDepth 100000 in
theorem whetstoneref02_Add.calls (k : Nat) (a0_0 : Bool) (A0_1 : Option Addr) (c0_1 : Nat) (l0_1 : List Int) (a1_0 : Bool) (A1_1 : Option Addr) (c1_1 : Nat) (l1_1 : List Int) (r1 : Bool) (r2 : List Int) (w : World) (hr0_1 : Kd.C (Kd.int .i64) w A0_1 l0_1.length l0_1) (hc0_1 : l0_1.length ≤ c0_1) (hr1_1 : Kd.C (Kd.int .i64) w A1_1 l1_1.length l1_1) (hc1_1 : l1_1.length ≤ c1_1) (h : whetstoneref02_Add.f k a0_0 l0_1 a1_0 l1_1 = some (r1, r2)) :
  Calls Try.prog 21 #[.agg #[.bool a0_0, .slice A0_1 l0_1.length c0_1], .agg #[.bool a1_0, .slice A1_1 l1_1.length c1_1]] w fun e w' => ∃ v1_ : Value, e = .returned (.agg #[.bool r1, v1_]) ∧ Kd.R (Kd.int .i64) 3 w' w.heap.size (fun _ => True) v1_ r2 ∧ Below w.heap.size w w' := by
 have hu32 := Try.underlying32
 have HR0_1 := Aside0.mk hr0_1
 have HC0_1 := Aside0.mk hc0_1
 clear hr0_1 hc0_1
 have HR1_1 := Aside0.mk hr1_1
 have HC1_1 := Aside0.mk hc1_1
 clear hr1_1 hc1_1
 have HB := Aside0.mk (Below.refl w.heap.size w)
 have H : (if (a0_0 == a1_0) = true then ((whetstoneref01_Add.f k l0_1 l1_1).bind fun t649 => ((whetstoneref02_Norm.f k a0_0 t649).bind fun bt652 => (some (bt652.1, bt652.2)))) else ((whetstoneref01_Cmp.f k l0_1 l1_1).bind fun t656 => (if t656 ≥ 0 then ((whetstoneref01_Sub.f k l0_1 l1_1).bind fun t657 => ((whetstoneref02_Norm.f k a0_0 t657).bind fun bt660 => (some (bt660.1, bt660.2)))) else ((whetstoneref01_Sub.f k l1_1 l0_1).bind fun t664 => ((whetstoneref02_Norm.f k a1_0 t664).bind fun bt667 => (some (bt667.1, bt667.2))))))) = some (r1, r2) := h
 clear h
 by_cases c3 : (a0_0 == a1_0) = true
 ·rw [if_pos c3] at H
  have c3b0 : (a0_0 == a1_0) = true := c3
  (try (have c3b1 : decide (a0_0 = a1_0) = true := by simpa using c3))
  (try (have c3b2 : (a0_0 == a1_0) = true := by simpa using c3))
  clear c3
  replace H := Option.bind_eq_some_iff.mp H
  obtain ⟨t649, A40, H⟩ := H
  have A4 := Aside0.mk A40
  clear A40
  replace H := Option.bind_eq_some_iff.mp H
  obtain ⟨⟨t652, t653⟩, A50, H⟩ := H
  try dsimp only at H
  have A5 := Aside0.mk A50
  clear A50
  simp only [Option.some.injEq, Prod.mk.injEq] at H
  obtain ⟨rfl, rfl⟩ := H
  go_enter Try.func21, Try.ntmps21
  try go_wp2_with (first | ((with_reducible refine gate_dst (N := 2) rfl ?_); refine bx (N := 2) #[.bool a0_0, .slice A0_1 l0_1.length c0_1] 32 ?_; intro gb646 hg w6 hbox hb; have BK646 := Aside0.mk (hbox); have GW646 := bz hg HB; have GE646 := bz hg HB; replace HB := bs HB hb; clear hb hbox hg) | ((with_reducible refine gate_dst (N := 3) rfl ?_); refine bx (N := 3) #[.bool a1_0, .slice A1_1 l1_1.length c1_1] 32 ?_; intro gb647 hg w7 hbox hb; have BK647 := Aside0.mk (hbox); have GW647 := bz hg HB; have GE647 := bz hg HB; replace HB := bs HB hb; have NB646_647 := nl hg BK646; have NB647_646 := ng hg BK646; replace BK646 := kb BK646 hb; clear hb hbox hg) | ((with_reducible refine gate_dst (N := 4) rfl ?_); refine bx (N := 4) #[.bool false, .slice none 0 0] 32 ?_; intro gb648 hg w8 hbox hb; have BK648 := Aside0.mk (hbox); have GW648 := bz hg HB; have GE648 := bz hg HB; replace HB := bs HB hb; have NB646_648 := nl hg BK646; have NB648_646 := ng hg BK646; replace BK646 := kb BK646 hb; have NB647_648 := nl hg BK647; have NB648_647 := ng hg BK647; replace BK647 := kb BK647 hb; clear hb hbox hg; have hnb9 := NB646_647.out; have hnc9 := NB647_646.out; have hnb10 := NB646_648.out; have hnc10 := NB648_646.out; have hcz11_0 := bc BK646 0 (.bool a0_0); have hcz11_1 := bc BK646 1 (.slice A0_1 l0_1.length c0_1); have hfz11_0 := blk_frozen BK646.out 0; have hfz11_1 := blk_frozen BK646.out 1; have hnb12 := NB647_648.out; have hnc12 := NB648_647.out; have hcz13_0 := bc BK647 0 (.bool a1_0); have hcz13_1 := bc BK647 1 (.slice A1_1 l1_1.length c1_1); have hfz13_0 := blk_frozen BK647.out 0; have hfz13_1 := blk_frozen BK647.out 1))
  replace BK646 := Aside0.mk (blk_drew BK646.out)
  replace BK647 := Aside0.mk (blk_drew BK647.out)
  replace BK648 := Aside0.mk (blk_drew BK648.out)
  replace HB := Aside0.mk (below_drew1 HB.out)
  refine start_ (n := 10) (S := fun w' => w'.cell? ⟨gb646, 0, none⟩ = some (.bool a0_0) ∧ w'.cell? ⟨gb646, 1, none⟩ = some (.slice A0_1 l0_1.length c0_1) ∧ w'.cell? ⟨gb647, 0, none⟩ = some (.bool a1_0) ∧ w'.cell? ⟨gb647, 1, none⟩ = some (.slice A1_1 l1_1.length c1_1)) (ds := []) #[false, false, false, false, false, false, false, false, false, false] (by kernel_rfl) rfl rfl ⟨(blk_cell BK646.out 0).trans rfl, (blk_cell BK646.out 1).trans rfl, (blk_cell BK647.out 0).trans rfl, (blk_cell BK647.out 1).trans rfl⟩ (fun hHeld => ?_); refine with_tabW whetstoneref02_Add.tab2 whetstoneref02_Add.bits2 (fun HT_ HW_ => ?_)
  generalize w8.drew = w14 at BK646 BK647 BK648 HB hHeld ⊢
  refine pT (i := 0) (N := some 10) (bb 10 1) HT_ ?_
  refine pT (i := 2) (N := some 12) (bb 10 5) HT_ ?_
  refine pT (i := 4) (N := some 14) (bb 10 21) HT_ ?_
  refine tW (i := 1) (N := some 11) (bb 10 23) HT_ HW_ hHeld ?_
  refine tW (i := 3) (N := some 13) (bb 10 31) HT_ HW_ hHeld ?_
  refine tW (i := 5) (N := some 15) (bb 10 63) HT_ HW_ hHeld ?_
  refine oT (i := 6) (N := some 16) (bb 10 127) HT_ fun K hK => ?_
  refine gS Try.func62 #[.slice A0_1 l0_1.length c0_1, .slice A1_1 l1_1.length c1_1] ?_
  with_reducible refine (whetstoneref01_Add.calls k _ _ l0_1 _ _ l1_1 t649 _ ?side1 ?side2 ?side3 ?side4 A4.out).mono ?_
  (case side1 => exact tc (Kd.C_below HR0_1.out HB.out))
  (case side2 => exact HC0_1.out)
  (case side3 => exact tc (Kd.C_below HR1_1.out HB.out))
  (case side4 => exact HC1_1.out)
  rintro e w15 ⟨v650, rfl, ho0, hb⟩
  refine ⟨_, rfl, ?_⟩
  have HO651 := rl ho0 HB
  replace BK646 := kb BK646 hb
  replace BK647 := kb BK647 hb
  replace BK648 := kb BK648 hb
  replace HB := bs HB hb
  (try clear hb); (try clear hb2); (try clear hk); (try clear hi); (try clear ho0)
  obtain ⟨Ao16, co16, eo16⟩ := Kd.R_slice HO651.out
  (first | subst eo16 | (injection eo16 with f1_ f2_ f3_; have f4_ := f1_.symm; have f5_ := f3_.symm; clear f1_ f2_ f3_; subst f4_; subst f5_))
  refine hK.out _ _ ⟨(blk_cell BK646.out 0).trans rfl, (blk_cell BK646.out 1).trans rfl, (blk_cell BK647.out 0).trans rfl, (blk_cell BK647.out 1).trans rfl⟩ fun hHeld => nT (N := some 16) ?_
  clear hK K
  refine pT (i := 7) (N := some 17) (bb 10 255) HT_ ?_
  refine oT (i := 8) (N := some 18) (bb 10 511) HT_ fun K hK => ?_
  refine gS Try.func54 #[.agg #[.bool a0_0, .slice Ao16 t649.length co16]] ?_
  with_reducible refine (whetstoneref02_Norm.calls k a0_0 _ _ t649 t652 t653 _ ?side1 ?side2 A5.out).mono ?_
  (case side1 => exact tc (Kd.R_reads' HO651.out).2.2)
  (case side2 => exact (Kd.R_reads' HO651.out).2.1)
  rintro e w17 ⟨v654, rfl, ho0, hb⟩
  refine ⟨_, rfl, ?_⟩
  have HO655 := Aside0.mk (Kd.R_lower (Kd.R_new' ho0 (Kd.R_lt (tq HO651))) (below_size (tb HB)))
  replace BK646 := kb BK646 hb
  replace BK647 := kb BK647 hb
  replace BK648 := kb BK648 hb
  replace HB := bs HB hb
  (try clear hb); (try clear hb2); (try clear hk); (try clear hi); (try clear ho0)
  obtain ⟨Ao19, co19, eo19⟩ := Kd.R_slice HO655.out
  (first | subst eo19 | (injection eo19 with f1_ f2_ f3_; have f4_ := f1_.symm; have f5_ := f3_.symm; clear f1_ f2_ f3_; subst f4_; subst f5_))
  refine hK.out _ _ ⟨(blk_cell BK646.out 0).trans rfl, (blk_cell BK646.out 1).trans rfl, (blk_cell BK647.out 0).trans rfl, (blk_cell BK647.out 1).trans rfl⟩ fun hHeld => nT (N := some 18) ?_
  clear hK K
  refine oT (i := 9) (N := none) (bb 10 1023) HT_ fun K hK => ?_
  have hs18 := bc BK648 0 (.bool false)
  have hfs18 := blk_frozen BK648.out 0
  have hns18_0 := NB646_648.out
  have hns18_1 := NB647_648.out
  have hms18_0 := NB648_646.out
  have hms18_1 := NB648_647.out
  have hs20 := bc BK648 1 (.slice none 0 0)
  have hfs20 := blk_frozen BK648.out 1
  have hns20_0 := NB646_648.out
  have hns20_1 := NB647_648.out
  have hms20_0 := NB648_646.out
  have hms20_1 := NB648_647.out
  refine skip_ (w1 := ?_) (by rfl) rfl ?_ ?_
  rotate_left
  ·go_simp
   rfl
  refine hK.out _ _ ⟨((cell_far (p := ⟨gb648, _, none⟩) NB646_648.out _).trans (((cell_far (p := ⟨gb648, _, none⟩) NB646_648.out _).trans (hHeld.1)))), ((cell_far (p := ⟨gb648, _, none⟩) NB646_648.out _).trans (((cell_far (p := ⟨gb648, _, none⟩) NB646_648.out _).trans (hHeld.2.1)))), ((cell_far (p := ⟨gb648, _, none⟩) NB647_648.out _).trans (((cell_far (p := ⟨gb648, _, none⟩) NB647_648.out _).trans (hHeld.2.2.1)))), ((cell_far (p := ⟨gb648, _, none⟩) NB647_648.out _).trans (((cell_far (p := ⟨gb648, _, none⟩) NB647_648.out _).trans (hHeld.2.2.2))))⟩ (fun hHeld => ?_)
  clear hK K
  refine done_ (done_of HT_.out (by kernel_rfl)) ?_
  try go_wp2
  refine bodyPost_ret (results_cell_row rfl _ _ gb648 32 #[.bool t652, .slice Ao19 t653.length co19] (0, 0) _ rfl (tk BK648) Try.underlying32 rfl (by kernel_rfl)) rfl ?_
  exact ⟨_, by first | rfl | (simp [errW_none, errW_some] <;> rfl) | (simp [*, errW_none, errW_some] <;> rfl), by (with_reducible repeat first | apply qa | apply qn | apply qd); exact Kd.R_mono (Kd.R_far (p := ⟨gb648, 1, none⟩) (Kd.R_far (p := ⟨gb648, 0, none⟩) (Kd.R_types HO655.out BK648.out (by decide)) (fun _ hk => hk.2) (.bool t652)) (fun _ hk => hk.2) (.slice Ao19 t653.length co19)) (fun _ hk => trivial), tb HB⟩
 ·rw [if_neg c3] at H
  have c3b0 : (a0_0 == a1_0) = false := by simpa using c3
  (try (have c3b1 : decide (a0_0 = a1_0) = false := by simpa using c3))
  (try (have c3b2 : (a0_0 == a1_0) = false := by simpa using c3))
  (try (have c3b3 : ¬ (a0_0 = a1_0) := by simpa using c3))
  clear c3
  replace H := Option.bind_eq_some_iff.mp H
  obtain ⟨t656, A210, H⟩ := H
  have A21 := Aside0.mk A210
  clear A210
  by_cases c22 : t656 ≥ 0
  ·rw [if_pos c22] at H
   have c22b0 : decide (0 ≤ t656) = true := decide_eq_true c22
   clear c22
   replace H := Option.bind_eq_some_iff.mp H
   obtain ⟨t657, A230, H⟩ := H
   have A23 := Aside0.mk A230
   clear A230
   replace H := Option.bind_eq_some_iff.mp H
   obtain ⟨⟨t660, t661⟩, A240, H⟩ := H
   try dsimp only at H
   have A24 := Aside0.mk A240
   clear A240
   simp only [Option.some.injEq, Prod.mk.injEq] at H
   obtain ⟨rfl, rfl⟩ := H
   go_enter Try.func21, Try.ntmps21
   try go_wp2_with (first | ((with_reducible refine gate_dst (N := 2) rfl ?_); refine bx (N := 2) #[.bool a0_0, .slice A0_1 l0_1.length c0_1] 32 ?_; intro gb646 hg w25 hbox hb; have BK646 := Aside0.mk (hbox); have GW646 := bz hg HB; have GE646 := bz hg HB; replace HB := bs HB hb; clear hb hbox hg) | ((with_reducible refine gate_dst (N := 3) rfl ?_); refine bx (N := 3) #[.bool a1_0, .slice A1_1 l1_1.length c1_1] 32 ?_; intro gb647 hg w26 hbox hb; have BK647 := Aside0.mk (hbox); have GW647 := bz hg HB; have GE647 := bz hg HB; replace HB := bs HB hb; have NB646_647 := nl hg BK646; have NB647_646 := ng hg BK646; replace BK646 := kb BK646 hb; clear hb hbox hg) | ((with_reducible refine gate_dst (N := 4) rfl ?_); refine bx (N := 4) #[.bool false, .slice none 0 0] 32 ?_; intro gb648 hg w27 hbox hb; have BK648 := Aside0.mk (hbox); have GW648 := bz hg HB; have GE648 := bz hg HB; replace HB := bs HB hb; have NB646_648 := nl hg BK646; have NB648_646 := ng hg BK646; replace BK646 := kb BK646 hb; have NB647_648 := nl hg BK647; have NB648_647 := ng hg BK647; replace BK647 := kb BK647 hb; clear hb hbox hg; have hnb28 := NB646_647.out; have hnc28 := NB647_646.out; have hnb29 := NB646_648.out; have hnc29 := NB648_646.out; have hcz30_0 := bc BK646 0 (.bool a0_0); have hcz30_1 := bc BK646 1 (.slice A0_1 l0_1.length c0_1); have hfz30_0 := blk_frozen BK646.out 0; have hfz30_1 := blk_frozen BK646.out 1; have hnb31 := NB647_648.out; have hnc31 := NB648_647.out; have hcz32_0 := bc BK647 0 (.bool a1_0); have hcz32_1 := bc BK647 1 (.slice A1_1 l1_1.length c1_1); have hfz32_0 := blk_frozen BK647.out 0; have hfz32_1 := blk_frozen BK647.out 1) | ((with_reducible refine gate_callee (f := 63) rfl ?_); refine gL (N := some 23) Try.func63 #[.slice A0_1 l0_1.length c0_1, .slice A1_1 l1_1.length c1_1] ?_; (with_reducible refine (whetstoneref01_Cmp.calls k _ _ l0_1 _ _ l1_1 t656 _ ?side1 ?side2 ?side3 ?side4 A21.out).mono ?_); (case side1 => exact tc (Kd.C_below HR0_1.out HB.out)); (case side2 => exact HC0_1.out); (case side3 => exact tc (Kd.C_below HR1_1.out HB.out)); (case side4 => exact HC1_1.out); rintro e w33 ⟨rfl, hb⟩; refine ⟨_, rfl, ?_⟩; replace BK646 := kb BK646 hb; replace BK647 := kb BK647 hb; replace BK648 := kb BK648 hb; replace HB := bs HB hb; (try clear hb); (try clear hb2); (try clear hk); (try clear hi)))
   replace BK646 := Aside0.mk (blk_drew BK646.out)
   replace BK647 := Aside0.mk (blk_drew BK647.out)
   replace BK648 := Aside0.mk (blk_drew BK648.out)
   replace HB := Aside0.mk (below_drew1 HB.out)
   refine start_ (n := 10) (S := fun w' => w'.cell? ⟨gb646, 0, none⟩ = some (.bool a0_0) ∧ w'.cell? ⟨gb646, 1, none⟩ = some (.slice A0_1 l0_1.length c0_1) ∧ w'.cell? ⟨gb647, 0, none⟩ = some (.bool a1_0) ∧ w'.cell? ⟨gb647, 1, none⟩ = some (.slice A1_1 l1_1.length c1_1)) (ds := []) #[false, false, false, false, false, false, false, false, false, false] (by kernel_rfl) rfl rfl ⟨(blk_cell BK646.out 0).trans rfl, (blk_cell BK646.out 1).trans rfl, (blk_cell BK647.out 0).trans rfl, (blk_cell BK647.out 1).trans rfl⟩ (fun hHeld => ?_); refine with_tabW whetstoneref02_Add.tab4 whetstoneref02_Add.bits4 (fun HT_ HW_ => ?_)
   generalize w33.drew = w34 at BK646 BK647 BK648 HB hHeld ⊢
   refine pT (i := 0) (N := some 25) (bb 10 1) HT_ ?_
   refine pT (i := 2) (N := some 27) (bb 10 5) HT_ ?_
   refine pT (i := 4) (N := some 29) (bb 10 21) HT_ ?_
   refine tW (i := 1) (N := some 26) (bb 10 23) HT_ HW_ hHeld ?_
   refine tW (i := 3) (N := some 28) (bb 10 31) HT_ HW_ hHeld ?_
   refine tW (i := 5) (N := some 30) (bb 10 63) HT_ HW_ hHeld ?_
   refine oT (i := 6) (N := some 31) (bb 10 127) HT_ fun K hK => ?_
   refine gS Try.func64 #[.slice A0_1 l0_1.length c0_1, .slice A1_1 l1_1.length c1_1] ?_
   with_reducible refine (whetstoneref01_Sub.calls k _ _ l0_1 _ _ l1_1 t657 _ ?side1 ?side2 ?side3 ?side4 A23.out).mono ?_
   (case side1 => exact tc (Kd.C_below HR0_1.out HB.out))
   (case side2 => exact HC0_1.out)
   (case side3 => exact tc (Kd.C_below HR1_1.out HB.out))
   (case side4 => exact HC1_1.out)
   rintro e w35 ⟨v658, rfl, ho0, hb⟩
   refine ⟨_, rfl, ?_⟩
   have HO659 := rl ho0 HB
   replace BK646 := kb BK646 hb
   replace BK647 := kb BK647 hb
   replace BK648 := kb BK648 hb
   replace HB := bs HB hb
   (try clear hb); (try clear hb2); (try clear hk); (try clear hi); (try clear ho0)
   obtain ⟨Ao36, co36, eo36⟩ := Kd.R_slice HO659.out
   (first | subst eo36 | (injection eo36 with f1_ f2_ f3_; have f4_ := f1_.symm; have f5_ := f3_.symm; clear f1_ f2_ f3_; subst f4_; subst f5_))
   refine hK.out _ _ ⟨(blk_cell BK646.out 0).trans rfl, (blk_cell BK646.out 1).trans rfl, (blk_cell BK647.out 0).trans rfl, (blk_cell BK647.out 1).trans rfl⟩ fun hHeld => nT (N := some 31) ?_
   clear hK K
   refine pT (i := 7) (N := some 32) (bb 10 255) HT_ ?_
   refine oT (i := 8) (N := some 33) (bb 10 511) HT_ fun K hK => ?_
   refine gS Try.func54 #[.agg #[.bool a0_0, .slice Ao36 t657.length co36]] ?_
   with_reducible refine (whetstoneref02_Norm.calls k a0_0 _ _ t657 t660 t661 _ ?side1 ?side2 A24.out).mono ?_
   (case side1 => exact tc (Kd.R_reads' HO659.out).2.2)
   (case side2 => exact (Kd.R_reads' HO659.out).2.1)
   rintro e w37 ⟨v662, rfl, ho0, hb⟩
   refine ⟨_, rfl, ?_⟩
   have HO663 := Aside0.mk (Kd.R_lower (Kd.R_new' ho0 (Kd.R_lt (tq HO659))) (below_size (tb HB)))
   replace BK646 := kb BK646 hb
   replace BK647 := kb BK647 hb
   replace BK648 := kb BK648 hb
   replace HB := bs HB hb
   (try clear hb); (try clear hb2); (try clear hk); (try clear hi); (try clear ho0)
   obtain ⟨Ao39, co39, eo39⟩ := Kd.R_slice HO663.out
   (first | subst eo39 | (injection eo39 with f1_ f2_ f3_; have f4_ := f1_.symm; have f5_ := f3_.symm; clear f1_ f2_ f3_; subst f4_; subst f5_))
   refine hK.out _ _ ⟨(blk_cell BK646.out 0).trans rfl, (blk_cell BK646.out 1).trans rfl, (blk_cell BK647.out 0).trans rfl, (blk_cell BK647.out 1).trans rfl⟩ fun hHeld => nT (N := some 33) ?_
   clear hK K
   refine oT (i := 9) (N := none) (bb 10 1023) HT_ fun K hK => ?_
   have hs38 := bc BK648 0 (.bool false)
   have hfs38 := blk_frozen BK648.out 0
   have hns38_0 := NB646_648.out
   have hns38_1 := NB647_648.out
   have hms38_0 := NB648_646.out
   have hms38_1 := NB648_647.out
   have hs40 := bc BK648 1 (.slice none 0 0)
   have hfs40 := blk_frozen BK648.out 1
   have hns40_0 := NB646_648.out
   have hns40_1 := NB647_648.out
   have hms40_0 := NB648_646.out
   have hms40_1 := NB648_647.out
   refine skip_ (w1 := ?_) (by rfl) rfl ?_ ?_
   rotate_left
   ·go_simp
    rfl
   refine hK.out _ _ ⟨((cell_far (p := ⟨gb648, _, none⟩) NB646_648.out _).trans (((cell_far (p := ⟨gb648, _, none⟩) NB646_648.out _).trans (hHeld.1)))), ((cell_far (p := ⟨gb648, _, none⟩) NB646_648.out _).trans (((cell_far (p := ⟨gb648, _, none⟩) NB646_648.out _).trans (hHeld.2.1)))), ((cell_far (p := ⟨gb648, _, none⟩) NB647_648.out _).trans (((cell_far (p := ⟨gb648, _, none⟩) NB647_648.out _).trans (hHeld.2.2.1)))), ((cell_far (p := ⟨gb648, _, none⟩) NB647_648.out _).trans (((cell_far (p := ⟨gb648, _, none⟩) NB647_648.out _).trans (hHeld.2.2.2))))⟩ (fun hHeld => ?_)
   clear hK K
   refine done_ (done_of HT_.out (by kernel_rfl)) ?_
   try go_wp2
   refine bodyPost_ret (results_cell_row rfl _ _ gb648 32 #[.bool t660, .slice Ao39 t661.length co39] (0, 0) _ rfl (tk BK648) Try.underlying32 rfl (by kernel_rfl)) rfl ?_
   exact ⟨_, by first | rfl | (simp [errW_none, errW_some] <;> rfl) | (simp [*, errW_none, errW_some] <;> rfl), by (with_reducible repeat first | apply qa | apply qn | apply qd); exact Kd.R_mono (Kd.R_far (p := ⟨gb648, 1, none⟩) (Kd.R_far (p := ⟨gb648, 0, none⟩) (Kd.R_types HO663.out BK648.out (by decide)) (fun _ hk => hk.2) (.bool t660)) (fun _ hk => hk.2) (.slice Ao39 t661.length co39)) (fun _ hk => trivial), tb HB⟩
  ·rw [if_neg c22] at H
   have c22b0 : decide (0 ≤ t656) = false := decide_eq_false c22
   clear c22
   replace H := Option.bind_eq_some_iff.mp H
   obtain ⟨t664, A410, H⟩ := H
   have A41 := Aside0.mk A410
   clear A410
   replace H := Option.bind_eq_some_iff.mp H
   obtain ⟨⟨t667, t668⟩, A420, H⟩ := H
   try dsimp only at H
   have A42 := Aside0.mk A420
   clear A420
   simp only [Option.some.injEq, Prod.mk.injEq] at H
   obtain ⟨rfl, rfl⟩ := H
   go_enter Try.func21, Try.ntmps21
   try go_wp2_with (first | ((with_reducible refine gate_dst (N := 2) rfl ?_); refine bx (N := 2) #[.bool a0_0, .slice A0_1 l0_1.length c0_1] 32 ?_; intro gb646 hg w43 hbox hb; have BK646 := Aside0.mk (hbox); have GW646 := bz hg HB; have GE646 := bz hg HB; replace HB := bs HB hb; clear hb hbox hg) | ((with_reducible refine gate_dst (N := 3) rfl ?_); refine bx (N := 3) #[.bool a1_0, .slice A1_1 l1_1.length c1_1] 32 ?_; intro gb647 hg w44 hbox hb; have BK647 := Aside0.mk (hbox); have GW647 := bz hg HB; have GE647 := bz hg HB; replace HB := bs HB hb; have NB646_647 := nl hg BK646; have NB647_646 := ng hg BK646; replace BK646 := kb BK646 hb; clear hb hbox hg) | ((with_reducible refine gate_dst (N := 4) rfl ?_); refine bx (N := 4) #[.bool false, .slice none 0 0] 32 ?_; intro gb648 hg w45 hbox hb; have BK648 := Aside0.mk (hbox); have GW648 := bz hg HB; have GE648 := bz hg HB; replace HB := bs HB hb; have NB646_648 := nl hg BK646; have NB648_646 := ng hg BK646; replace BK646 := kb BK646 hb; have NB647_648 := nl hg BK647; have NB648_647 := ng hg BK647; replace BK647 := kb BK647 hb; clear hb hbox hg; have hnb46 := NB646_647.out; have hnc46 := NB647_646.out; have hnb47 := NB646_648.out; have hnc47 := NB648_646.out; have hcz48_0 := bc BK646 0 (.bool a0_0); have hcz48_1 := bc BK646 1 (.slice A0_1 l0_1.length c0_1); have hfz48_0 := blk_frozen BK646.out 0; have hfz48_1 := blk_frozen BK646.out 1; have hnb49 := NB647_648.out; have hnc49 := NB648_647.out; have hcz50_0 := bc BK647 0 (.bool a1_0); have hcz50_1 := bc BK647 1 (.slice A1_1 l1_1.length c1_1); have hfz50_0 := blk_frozen BK647.out 0; have hfz50_1 := blk_frozen BK647.out 1) | ((with_reducible refine gate_callee (f := 63) rfl ?_); refine gL (N := some 23) Try.func63 #[.slice A0_1 l0_1.length c0_1, .slice A1_1 l1_1.length c1_1] ?_; (with_reducible refine (whetstoneref01_Cmp.calls k _ _ l0_1 _ _ l1_1 t656 _ ?side1 ?side2 ?side3 ?side4 A21.out).mono ?_); (case side1 => exact tc (Kd.C_below HR0_1.out HB.out)); (case side2 => exact HC0_1.out); (case side3 => exact tc (Kd.C_below HR1_1.out HB.out)); (case side4 => exact HC1_1.out); rintro e w51 ⟨rfl, hb⟩; refine ⟨_, rfl, ?_⟩; replace BK646 := kb BK646 hb; replace BK647 := kb BK647 hb; replace BK648 := kb BK648 hb; replace HB := bs HB hb; (try clear hb); (try clear hb2); (try clear hk); (try clear hi)))
   replace BK646 := Aside0.mk (blk_drew BK646.out)
   replace BK647 := Aside0.mk (blk_drew BK647.out)
   replace BK648 := Aside0.mk (blk_drew BK648.out)
   replace HB := Aside0.mk (below_drew1 HB.out)
   refine start_ (n := 10) (S := fun w' => w'.cell? ⟨gb647, 0, none⟩ = some (.bool a1_0) ∧ w'.cell? ⟨gb647, 1, none⟩ = some (.slice A1_1 l1_1.length c1_1) ∧ w'.cell? ⟨gb646, 0, none⟩ = some (.bool a0_0) ∧ w'.cell? ⟨gb646, 1, none⟩ = some (.slice A0_1 l0_1.length c0_1)) (ds := []) #[false, false, false, false, false, false, false, false, false, false] (by kernel_rfl) rfl rfl ⟨(blk_cell BK647.out 0).trans rfl, (blk_cell BK647.out 1).trans rfl, (blk_cell BK646.out 0).trans rfl, (blk_cell BK646.out 1).trans rfl⟩ (fun hHeld => ?_); refine with_tabW whetstoneref02_Add.tab5 whetstoneref02_Add.bits5 (fun HT_ HW_ => ?_)
   generalize w51.drew = w52 at BK646 BK647 BK648 HB hHeld ⊢
   refine pT (i := 0) (N := some 34) (bb 10 1) HT_ ?_
   refine pT (i := 2) (N := some 36) (bb 10 5) HT_ ?_
   refine pT (i := 4) (N := some 38) (bb 10 21) HT_ ?_
   refine tW (i := 1) (N := some 35) (bb 10 23) HT_ HW_ hHeld ?_
   refine tW (i := 3) (N := some 37) (bb 10 31) HT_ HW_ hHeld ?_
   refine tW (i := 5) (N := some 39) (bb 10 63) HT_ HW_ hHeld ?_
   refine oT (i := 6) (N := some 40) (bb 10 127) HT_ fun K hK => ?_
   refine gS Try.func64 #[.slice A1_1 l1_1.length c1_1, .slice A0_1 l0_1.length c0_1] ?_
   with_reducible refine (whetstoneref01_Sub.calls k _ _ l1_1 _ _ l0_1 t664 _ ?side1 ?side2 ?side3 ?side4 A41.out).mono ?_
   (case side1 => exact tc (Kd.C_below HR1_1.out HB.out))
   (case side2 => exact HC1_1.out)
   (case side3 => exact tc (Kd.C_below HR0_1.out HB.out))
   (case side4 => exact HC0_1.out)
   rintro e w53 ⟨v665, rfl, ho0, hb⟩
   refine ⟨_, rfl, ?_⟩
   have HO666 := rl ho0 HB
   replace BK646 := kb BK646 hb
   replace BK647 := kb BK647 hb
   replace BK648 := kb BK648 hb
   replace HB := bs HB hb
   (try clear hb); (try clear hb2); (try clear hk); (try clear hi); (try clear ho0)
   obtain ⟨Ao54, co54, eo54⟩ := Kd.R_slice HO666.out
   (first | subst eo54 | (injection eo54 with f1_ f2_ f3_; have f4_ := f1_.symm; have f5_ := f3_.symm; clear f1_ f2_ f3_; subst f4_; subst f5_))
   refine hK.out _ _ ⟨(blk_cell BK647.out 0).trans rfl, (blk_cell BK647.out 1).trans rfl, (blk_cell BK646.out 0).trans rfl, (blk_cell BK646.out 1).trans rfl⟩ fun hHeld => nT (N := some 40) ?_
   clear hK K
   refine pT (i := 7) (N := some 41) (bb 10 255) HT_ ?_
   refine oT (i := 8) (N := some 42) (bb 10 511) HT_ fun K hK => ?_
   refine gS Try.func54 #[.agg #[.bool a1_0, .slice Ao54 t664.length co54]] ?_
   with_reducible refine (whetstoneref02_Norm.calls k a1_0 _ _ t664 t667 t668 _ ?side1 ?side2 A42.out).mono ?_
   (case side1 => exact tc (Kd.R_reads' HO666.out).2.2)
   (case side2 => exact (Kd.R_reads' HO666.out).2.1)
   rintro e w55 ⟨v669, rfl, ho0, hb⟩
   refine ⟨_, rfl, ?_⟩
   have HO670 := Aside0.mk (Kd.R_lower (Kd.R_new' ho0 (Kd.R_lt (tq HO666))) (below_size (tb HB)))
   replace BK646 := kb BK646 hb
   replace BK647 := kb BK647 hb
   replace BK648 := kb BK648 hb
   replace HB := bs HB hb
   (try clear hb); (try clear hb2); (try clear hk); (try clear hi); (try clear ho0)
   obtain ⟨Ao57, co57, eo57⟩ := Kd.R_slice HO670.out
   (first | subst eo57 | (injection eo57 with f1_ f2_ f3_; have f4_ := f1_.symm; have f5_ := f3_.symm; clear f1_ f2_ f3_; subst f4_; subst f5_))
   refine hK.out _ _ ⟨(blk_cell BK647.out 0).trans rfl, (blk_cell BK647.out 1).trans rfl, (blk_cell BK646.out 0).trans rfl, (blk_cell BK646.out 1).trans rfl⟩ fun hHeld => nT (N := some 42) ?_
   clear hK K
   refine oT (i := 9) (N := none) (bb 10 1023) HT_ fun K hK => ?_
   have hs56 := bc BK648 0 (.bool false)
   have hfs56 := blk_frozen BK648.out 0
   have hns56_0 := NB646_648.out
   have hns56_1 := NB647_648.out
   have hms56_0 := NB648_646.out
   have hms56_1 := NB648_647.out
   have hs58 := bc BK648 1 (.slice none 0 0)
   have hfs58 := blk_frozen BK648.out 1
   have hns58_0 := NB646_648.out
   have hns58_1 := NB647_648.out
   have hms58_0 := NB648_646.out
   have hms58_1 := NB648_647.out
   refine skip_ (w1 := ?_) (by rfl) rfl ?_ ?_
   rotate_left
   ·go_simp
    rfl
   refine hK.out _ _ ⟨((cell_far (p := ⟨gb648, _, none⟩) NB647_648.out _).trans (((cell_far (p := ⟨gb648, _, none⟩) NB647_648.out _).trans (hHeld.1)))), ((cell_far (p := ⟨gb648, _, none⟩) NB647_648.out _).trans (((cell_far (p := ⟨gb648, _, none⟩) NB647_648.out _).trans (hHeld.2.1)))), ((cell_far (p := ⟨gb648, _, none⟩) NB646_648.out _).trans (((cell_far (p := ⟨gb648, _, none⟩) NB646_648.out _).trans (hHeld.2.2.1)))), ((cell_far (p := ⟨gb648, _, none⟩) NB646_648.out _).trans (((cell_far (p := ⟨gb648, _, none⟩) NB646_648.out _).trans (hHeld.2.2.2))))⟩ (fun hHeld => ?_)
   clear hK K
   refine done_ (done_of HT_.out (by kernel_rfl)) ?_
   try go_wp2
   refine bodyPost_ret (results_cell_row rfl _ _ gb648 32 #[.bool t667, .slice Ao57 t668.length co57] (0, 0) _ rfl (tk BK648) Try.underlying32 rfl (by kernel_rfl)) rfl ?_
   exact ⟨_, by first | rfl | (simp [errW_none, errW_some] <;> rfl) | (simp [*, errW_none, errW_some] <;> rfl), by (with_reducible repeat first | apply qa | apply qn | apply qd); exact Kd.R_mono (Kd.R_far (p := ⟨gb648, 1, none⟩) (Kd.R_far (p := ⟨gb648, 0, none⟩) (Kd.R_types HO670.out BK648.out (by decide)) (fun _ hk => hk.2) (.bool t667)) (fun _ hk => hk.2) (.slice Ao57 t668.length co57)) (fun _ hk => trivial), tb HB⟩

/-! ### whetstoneref02_Neg: function 29 -/
def whetstoneref02_Neg.f (k : Nat) (a0_0 : Bool) (l0_1 : List Int) : Option (Bool × List Int) := (whetstoneref02_Norm.f k (!a0_0) l0_1).bind fun bt673 => (some (bt673.1, bt673.2))
theorem whetstoneref02_Neg.mono : ∀ a0 a1 k, LeO (whetstoneref02_Neg.f k a0 a1) (whetstoneref02_Neg.f (k + 1) a0 a1) := by
 intro a0 a1 k
 unfold whetstoneref02_Neg.f
 repeat' first
   | (with_reducible exact whetstoneref02_Norm.mono _ _ _)
   | (with_reducible exact LeO.refl _)
   | (with_reducible exact LeO.none _)
   | (with_reducible refine LeO.ite ?_ ?_)
   | (with_reducible refine LeO.bind ?_ (fun _ => ?_))
   | exact whetstoneref02_Norm.mono _ _ _
   | exact LeO.none _
   | refine LeO.ite ?_ ?_
   | refine LeO.bind ?_ (fun _ => ?_)
set_option maxHeartbeats 8000000 in
set_option maxRecDepth 100000 in
theorem whetstoneref02_Neg.calls (k : Nat) (a0_0 : Bool) (A0_1 : Option Addr) (c0_1 : Nat) (l0_1 : List Int) (r1 : Bool) (r2 : List Int) (w : World) (hr0_1 : Kd.C (Kd.int .i64) w A0_1 l0_1.length l0_1) (hc0_1 : l0_1.length ≤ c0_1) (h : whetstoneref02_Neg.f k a0_0 l0_1 = some (r1, r2)) :
  Calls Try.prog 29 #[.agg #[.bool a0_0, .slice A0_1 l0_1.length c0_1]] w fun e w' => ∃ v1_ : Value, e = .returned (.agg #[.bool r1, v1_]) ∧ Kd.R (Kd.int .i64) 3 w' w.heap.size (fun _ => True) v1_ r2 ∧ Below w.heap.size w w' := by
 have hu32 := Try.underlying32
 have HR0_1 := Aside0.mk hr0_1
 have HC0_1 := Aside0.mk hc0_1
 clear hr0_1 hc0_1
 have HB := Aside0.mk (Below.refl w.heap.size w)
 have H : ((whetstoneref02_Norm.f k (!a0_0) l0_1).bind fun bt673 => (some (bt673.1, bt673.2))) = some (r1, r2) := h
 clear h
 replace H := Option.bind_eq_some_iff.mp H
 obtain ⟨⟨t673, t674⟩, A20, H⟩ := H
 try dsimp only at H
 have A2 := Aside0.mk A20
 clear A20
 simp only [Option.some.injEq, Prod.mk.injEq] at H
 obtain ⟨rfl, rfl⟩ := H
 go_enter Try.func29, Try.ntmps29
 go_wp2_with (first | ((with_reducible refine gate_dst (N := 1) rfl ?_); refine bx (N := 1) #[.bool a0_0, .slice A0_1 l0_1.length c0_1] 32 ?_; intro gb671 hg w3 hbox hb; have BK671 := Aside0.mk (hbox); have GW671 := bz hg HB; have GE671 := bz hg HB; replace HB := bs HB hb; clear hb hbox hg) | ((with_reducible refine gate_dst (N := 2) rfl ?_); refine bx (N := 2) #[.bool false, .slice none 0 0] 32 ?_; intro gb672 hg w4 hbox hb; have BK672 := Aside0.mk (hbox); have GW672 := bz hg HB; have GE672 := bz hg HB; replace HB := bs HB hb; have NB671_672 := nl hg BK671; have NB672_671 := ng hg BK671; replace BK671 := kb BK671 hb; clear hb hbox hg; have hnb5 := NB671_672.out; have hnc5 := NB672_671.out; have hcz6_0 := bc BK671 0 (.bool a0_0); have hcz6_1 := bc BK671 1 (.slice A0_1 l0_1.length c0_1); have hfz6_0 := blk_frozen BK671.out 0; have hfz6_1 := blk_frozen BK671.out 1) | ((with_reducible refine gate_callee (f := 54) rfl ?_); refine gL (N := some 9) Try.func54 #[.agg #[.bool (!a0_0), .slice A0_1 l0_1.length c0_1]] ?_; (with_reducible refine (whetstoneref02_Norm.calls k (!a0_0) _ _ l0_1 t673 t674 _ ?side1 ?side2 A2.out).mono ?_); (case side1 => exact tc (Kd.C_below HR0_1.out HB.out)); (case side2 => exact HC0_1.out); rintro e w7 ⟨v675, rfl, ho0, hb⟩; refine ⟨_, rfl, ?_⟩; have HO676 := rl ho0 HB; replace BK672 := kb BK672 hb; replace HB := bs HB hb; (try clear hb); (try clear hb2); (try clear hk); (try clear hi); (try clear ho0); have hcz8_0 := bc BK672 0 (.bool false); have hcz8_1 := bc BK672 1 (.slice none 0 0); have hfz8_0 := blk_frozen BK672.out 0; have hfz8_1 := blk_frozen BK672.out 1; obtain ⟨Ao9, co9, eo9⟩ := Kd.R_slice HO676.out; subst eo9))
 refine bodyPost_ret (results_cell_row rfl _ _ gb672 32 #[.bool t673, .slice Ao9 t674.length co9] (0, 0) _ rfl (tk BK672) Try.underlying32 rfl (by kernel_rfl)) rfl ?_
 exact ⟨_, by first | rfl | (simp [errW_none, errW_some] <;> rfl) | (simp [*, errW_none, errW_some] <;> rfl), by (with_reducible repeat first | apply qa | apply qn | apply qd); exact Kd.R_mono (Kd.R_far (p := ⟨gb672, 1, none⟩) (Kd.R_far (p := ⟨gb672, 0, none⟩) (Kd.R_types HO676.out BK672.out (by decide)) (fun _ hk => hk.2) (.bool t673)) (fun _ hk => hk.2) (.slice Ao9 t674.length co9)) (fun _ hk => trivial), tb HB⟩

/-! ### whetstoneref02_Sub: function 23 -/
def whetstoneref02_Sub.f (k : Nat) (a0_0 : Bool) (l0_1 : List Int) (a1_0 : Bool) (l1_1 : List Int) : Option (Bool × List Int) := (whetstoneref02_Neg.f k a1_0 l1_1).bind fun bt680 => ((whetstoneref02_Add.f k a0_0 l0_1 bt680.1 bt680.2).bind fun bt684 => (some (bt684.1, bt684.2)))
theorem whetstoneref02_Sub.mono : ∀ a0 a1 a2 a3 k, LeO (whetstoneref02_Sub.f k a0 a1 a2 a3) (whetstoneref02_Sub.f (k + 1) a0 a1 a2 a3) := by
 intro a0 a1 a2 a3 k
 unfold whetstoneref02_Sub.f
 repeat' first
   | (with_reducible exact whetstoneref02_Add.mono _ _ _ _ _)
   | (with_reducible exact whetstoneref02_Neg.mono _ _ _)
   | (with_reducible exact LeO.refl _)
   | (with_reducible exact LeO.none _)
   | (with_reducible refine LeO.ite ?_ ?_)
   | (with_reducible refine LeO.bind ?_ (fun _ => ?_))
   | exact whetstoneref02_Add.mono _ _ _ _ _
   | exact whetstoneref02_Neg.mono _ _ _
   | exact LeO.none _
   | refine LeO.ite ?_ ?_
   | refine LeO.bind ?_ (fun _ => ?_)
set_option maxHeartbeats 8000000 in
set_option maxRecDepth 100000 in
theorem whetstoneref02_Sub.calls (k : Nat) (a0_0 : Bool) (A0_1 : Option Addr) (c0_1 : Nat) (l0_1 : List Int) (a1_0 : Bool) (A1_1 : Option Addr) (c1_1 : Nat) (l1_1 : List Int) (r1 : Bool) (r2 : List Int) (w : World) (hr0_1 : Kd.C (Kd.int .i64) w A0_1 l0_1.length l0_1) (hc0_1 : l0_1.length ≤ c0_1) (hr1_1 : Kd.C (Kd.int .i64) w A1_1 l1_1.length l1_1) (hc1_1 : l1_1.length ≤ c1_1) (h : whetstoneref02_Sub.f k a0_0 l0_1 a1_0 l1_1 = some (r1, r2)) :
  Calls Try.prog 23 #[.agg #[.bool a0_0, .slice A0_1 l0_1.length c0_1], .agg #[.bool a1_0, .slice A1_1 l1_1.length c1_1]] w fun e w' => ∃ v1_ : Value, e = .returned (.agg #[.bool r1, v1_]) ∧ Kd.R (Kd.int .i64) 3 w' w.heap.size (fun _ => True) v1_ r2 ∧ Below w.heap.size w w' := by
 have hu32 := Try.underlying32
 have HR0_1 := Aside0.mk hr0_1
 have HC0_1 := Aside0.mk hc0_1
 clear hr0_1 hc0_1
 have HR1_1 := Aside0.mk hr1_1
 have HC1_1 := Aside0.mk hc1_1
 clear hr1_1 hc1_1
 have HB := Aside0.mk (Below.refl w.heap.size w)
 have H : ((whetstoneref02_Neg.f k a1_0 l1_1).bind fun bt680 => ((whetstoneref02_Add.f k a0_0 l0_1 bt680.1 bt680.2).bind fun bt684 => (some (bt684.1, bt684.2)))) = some (r1, r2) := h
 clear h
 replace H := Option.bind_eq_some_iff.mp H
 obtain ⟨⟨t680, t681⟩, A30, H⟩ := H
 try dsimp only at H
 have A3 := Aside0.mk A30
 clear A30
 replace H := Option.bind_eq_some_iff.mp H
 obtain ⟨⟨t684, t685⟩, A40, H⟩ := H
 try dsimp only at H
 have A4 := Aside0.mk A40
 clear A40
 simp only [Option.some.injEq, Prod.mk.injEq] at H
 obtain ⟨rfl, rfl⟩ := H
 go_enter Try.func23, Try.ntmps23
 try go_wp2_with (first | ((with_reducible refine gate_dst (N := 2) rfl ?_); refine bx (N := 2) #[.bool a0_0, .slice A0_1 l0_1.length c0_1] 32 ?_; intro gb677 hg w5 hbox hb; have BK677 := Aside0.mk (hbox); have GW677 := bz hg HB; have GE677 := bz hg HB; replace HB := bs HB hb; clear hb hbox hg) | ((with_reducible refine gate_dst (N := 3) rfl ?_); refine bx (N := 3) #[.bool a1_0, .slice A1_1 l1_1.length c1_1] 32 ?_; intro gb678 hg w6 hbox hb; have BK678 := Aside0.mk (hbox); have GW678 := bz hg HB; have GE678 := bz hg HB; replace HB := bs HB hb; have NB677_678 := nl hg BK677; have NB678_677 := ng hg BK677; replace BK677 := kb BK677 hb; clear hb hbox hg) | ((with_reducible refine gate_dst (N := 4) rfl ?_); refine bx (N := 4) #[.bool false, .slice none 0 0] 32 ?_; intro gb679 hg w7 hbox hb; have BK679 := Aside0.mk (hbox); have GW679 := bz hg HB; have GE679 := bz hg HB; replace HB := bs HB hb; have NB677_679 := nl hg BK677; have NB679_677 := ng hg BK677; replace BK677 := kb BK677 hb; have NB678_679 := nl hg BK678; have NB679_678 := ng hg BK678; replace BK678 := kb BK678 hb; clear hb hbox hg))
 replace BK677 := Aside0.mk (blk_drew BK677.out)
 replace BK678 := Aside0.mk (blk_drew BK678.out)
 replace BK679 := Aside0.mk (blk_drew BK679.out)
 replace HB := Aside0.mk (below_drew1 HB.out)
 refine start_ (n := 5) (S := fun w' => w'.cell? ⟨gb677, 0, none⟩ = some (.bool a0_0) ∧ w'.cell? ⟨gb677, 1, none⟩ = some (.slice A0_1 l0_1.length c0_1) ∧ w'.cell? ⟨gb678, 0, none⟩ = some (.bool a1_0) ∧ w'.cell? ⟨gb678, 1, none⟩ = some (.slice A1_1 l1_1.length c1_1)) (ds := []) #[false, false, false, false, false] (by kernel_rfl) rfl rfl ⟨(blk_cell BK677.out 0).trans rfl, (blk_cell BK677.out 1).trans rfl, (blk_cell BK678.out 0).trans rfl, (blk_cell BK678.out 1).trans rfl⟩ (fun hHeld => ?_)
 generalize w7.drew = w8 at BK677 BK678 BK679 HB hHeld ⊢
 refine t0 (i := 0) (N := some 5) (bb 5 1) hHeld ?_
 refine t0 (i := 1) (N := some 6) (bb 5 3) hHeld ?_
 refine o0 (i := 2) (N := some 7) (bb 5 7) fun K hK => ?_
 refine gS Try.func29 #[.agg #[.bool a1_0, .slice A1_1 l1_1.length c1_1]] ?_
 with_reducible refine (whetstoneref02_Neg.calls k a1_0 _ _ l1_1 t680 t681 _ ?side1 ?side2 A3.out).mono ?_
 (case side1 => exact tc (Kd.C_below HR1_1.out HB.out))
 (case side2 => exact HC1_1.out)
 rintro e w9 ⟨v682, rfl, ho0, hb⟩
 refine ⟨_, rfl, ?_⟩
 have HO683 := rl ho0 HB
 replace BK677 := kb BK677 hb
 replace BK678 := kb BK678 hb
 replace BK679 := kb BK679 hb
 replace HB := bs HB hb
 (try clear hb); (try clear hb2); (try clear hk); (try clear hi); (try clear ho0)
 obtain ⟨Ao10, co10, eo10⟩ := Kd.R_slice HO683.out
 (first | subst eo10 | (injection eo10 with f1_ f2_ f3_; have f4_ := f1_.symm; have f5_ := f3_.symm; clear f1_ f2_ f3_; subst f4_; subst f5_))
 refine hK.out _ _ ⟨(blk_cell BK677.out 0).trans rfl, (blk_cell BK677.out 1).trans rfl, (blk_cell BK678.out 0).trans rfl, (blk_cell BK678.out 1).trans rfl⟩ fun hHeld => nT (N := some 7) ?_
 clear hK K
 refine o0 (i := 3) (N := some 8) (bb 5 15) fun K hK => ?_
 refine gS Try.func21 #[.agg #[.bool a0_0, .slice A0_1 l0_1.length c0_1], .agg #[.bool t680, .slice Ao10 t681.length co10]] ?_
 with_reducible refine (whetstoneref02_Add.calls k a0_0 _ _ l0_1 t680 _ _ t681 t684 t685 _ ?side1 ?side2 ?side3 ?side4 A4.out).mono ?_
 (case side1 => exact tc (Kd.C_below HR0_1.out HB.out))
 (case side2 => exact HC0_1.out)
 (case side3 => exact tc (Kd.R_reads' HO683.out).2.2)
 (case side4 => exact (Kd.R_reads' HO683.out).2.1)
 rintro e w11 ⟨v686, rfl, ho0, hb⟩
 refine ⟨_, rfl, ?_⟩
 have HO687 := Aside0.mk (Kd.R_lower (Kd.R_new' ho0 (Kd.R_lt (tq HO683))) (below_size (tb HB)))
 replace BK677 := kb BK677 hb
 replace BK678 := kb BK678 hb
 replace BK679 := kb BK679 hb
 replace HB := bs HB hb
 (try clear hb); (try clear hb2); (try clear hk); (try clear hi); (try clear ho0)
 obtain ⟨Ao13, co13, eo13⟩ := Kd.R_slice HO687.out
 (first | subst eo13 | (injection eo13 with f1_ f2_ f3_; have f4_ := f1_.symm; have f5_ := f3_.symm; clear f1_ f2_ f3_; subst f4_; subst f5_))
 refine hK.out _ _ ⟨(blk_cell BK677.out 0).trans rfl, (blk_cell BK677.out 1).trans rfl, (blk_cell BK678.out 0).trans rfl, (blk_cell BK678.out 1).trans rfl⟩ fun hHeld => nT (N := some 8) ?_
 clear hK K
 refine o0 (i := 4) (N := none) (bb 5 31) fun K hK => ?_
 have hs12 := bc BK679 0 (.bool false)
 have hfs12 := blk_frozen BK679.out 0
 have hns12_0 := NB677_679.out
 have hns12_1 := NB678_679.out
 have hms12_0 := NB679_677.out
 have hms12_1 := NB679_678.out
 have hs14 := bc BK679 1 (.slice none 0 0)
 have hfs14 := blk_frozen BK679.out 1
 have hns14_0 := NB677_679.out
 have hns14_1 := NB678_679.out
 have hms14_0 := NB679_677.out
 have hms14_1 := NB679_678.out
 refine skip_ (w1 := ?_) (by rfl) rfl ?_ ?_
 rotate_left
 ·go_simp
  rfl
 refine hK.out _ _ ⟨((cell_far (p := ⟨gb679, _, none⟩) NB677_679.out _).trans (((cell_far (p := ⟨gb679, _, none⟩) NB677_679.out _).trans (hHeld.1)))), ((cell_far (p := ⟨gb679, _, none⟩) NB677_679.out _).trans (((cell_far (p := ⟨gb679, _, none⟩) NB677_679.out _).trans (hHeld.2.1)))), ((cell_far (p := ⟨gb679, _, none⟩) NB678_679.out _).trans (((cell_far (p := ⟨gb679, _, none⟩) NB678_679.out _).trans (hHeld.2.2.1)))), ((cell_far (p := ⟨gb679, _, none⟩) NB678_679.out _).trans (((cell_far (p := ⟨gb679, _, none⟩) NB678_679.out _).trans (hHeld.2.2.2))))⟩ (fun hHeld => ?_)
 clear hK K
 refine done_ (by kernel_rfl) ?_
 try go_wp2
 refine bodyPost_ret (results_cell_row rfl _ _ gb679 32 #[.bool t684, .slice Ao13 t685.length co13] (0, 0) _ rfl (tk BK679) Try.underlying32 rfl (by kernel_rfl)) rfl ?_
 exact ⟨_, by first | rfl | (simp [errW_none, errW_some] <;> rfl) | (simp [*, errW_none, errW_some] <;> rfl), by (with_reducible repeat first | apply qa | apply qn | apply qd); exact Kd.R_mono (Kd.R_far (p := ⟨gb679, 1, none⟩) (Kd.R_far (p := ⟨gb679, 0, none⟩) (Kd.R_types HO687.out BK679.out (by decide)) (fun _ hk => hk.2) (.bool t684)) (fun _ hk => hk.2) (.slice Ao13 t685.length co13)) (fun _ hk => trivial), tb HB⟩

end Go.Proofs.Ytjpnaapimnoamaa.QBigSums
