-- written by wip/wprint, a program of this session
import Derived.Test.YtjpnaapimnoamaaQBigRestsx0
import Derived.Test.YtjpnaapimnoamaaQBigRestsx2
import Derived.Test.YtjpnaapimnoamaaQBigRestsx4
import Derived.Test.YtjpnaapimnoamaaQBigRestsx10
import Derived.Test.YtjpnaapimnoamaaQBigRestsx15
namespace Go.Proofs.Ytjpnaapimnoamaa.QBigRests
open Go.RowKit Go.Proofs.YtjpnaapimnoamaaW.PrintWords Go.Proofs.YtjpnaapimnoamaaW.PrintLast Go.Proofs.YtjpnaapimnoamaaW.PrintMore
open Go.Proofs.YtjpnaapimnoamaaW.PrintWords.Kd renaming R_alloc → qa, R_drewN → qn, R_drew → qd, V_alloc → va, V_drewN → vn, V_drew → vd
open Go.Proofs.YtjpnaapimnoamaaW.PrintWords renaming below_alloc → ba, pw_below_drewN → bn, below_drew1 → bd
attribute [local go_sem] max2_int min2_int max_two min_two max_three min_three max_four min_four   -- for this text's walks alone
set_option linter.unusedVariables false
set_option linter.unusedSimpArgs false

/-! ### big_Ceil: function 37 -/
def big_Ceil.f (k : Nat) (a0_0 : Bool) (l0_1 : List Int) (a1_0 : Bool) (l1_1 : List Int) : Option (Bool × List Int × Int) := (big_Neg.f k a0_0 l0_1).bind fun bt651 => ((big_Floor.f k bt651.1 bt651.2 a1_0 l1_1).bind fun bt655 => ((big_Neg.f k bt655.1 bt655.2.1).bind fun bt661 => (some (bt661.1, bt661.2, bt655.2.2))))
theorem big_Ceil.mono : ∀ a0 a1 a2 a3 k, LeO (big_Ceil.f k a0 a1 a2 a3) (big_Ceil.f (k + 1) a0 a1 a2 a3) := by
 intro a0 a1 a2 a3 k
 unfold big_Ceil.f
 repeat' first
   | (with_reducible exact big_Floor.mono _ _ _ _ _)
   | (with_reducible exact big_Neg.mono _ _ _)
   | (with_reducible exact LeO.refl _)
   | (with_reducible exact LeO.none _)
   | (with_reducible refine LeO.ite ?_ ?_)
   | (with_reducible refine LeO.bind ?_ (fun _ => ?_))
   | exact big_Floor.mono _ _ _ _ _
   | exact big_Neg.mono _ _ _
   | exact LeO.none _
   | refine LeO.ite ?_ ?_
   | refine LeO.bind ?_ (fun _ => ?_)
def big_Ceil.T1 : Bool × List (List Nat × List Nat) := (true, [([], []), ([0], [0]), ([], []), ([1, 2, 1], [1, 2]), ([3], [3]), ([4], [4]), ([4], [4]), ([], []), ([7, 5, 3, 0, 1, 2, 3, 4, 5, 7], [5, 7]), ([6, 8, 0, 1, 2, 3, 4, 5, 6, 7, 8], [6])])
def big_Ceil.B1 : List Nat := [0, 1, 0, 7, 15, 31, 31, 0, 191, 511]
theorem big_Ceil.tab1 : rtab .any (opsOf Try.f37 1) = big_Ceil.T1 := by kernel_rfl
theorem big_Ceil.bits1 : waitsOk big_Ceil.T1.2 big_Ceil.B1 = true := by kernel_rfl
set_option maxHeartbeats 8000000 in
set_option maxRecDepth 100000 in
theorem big_Ceil.calls (k : Nat) (a0_0 : Bool) (A0_1 : Option Addr) (c0_1 : Nat) (l0_1 : List Int) (a1_0 : Bool) (A1_1 : Option Addr) (c1_1 : Nat) (l1_1 : List Int) (r1 : Bool) (r2 : List Int) (r3 : Int) (w : World) (hr0_1 : Kd.C (Kd.int .u32) w A0_1 l0_1.length l0_1) (hc0_1 : l0_1.length ≤ c0_1) (hr1_1 : Kd.C (Kd.int .u32) w A1_1 l1_1.length l1_1) (hc1_1 : l1_1.length ≤ c1_1) (h : big_Ceil.f k a0_0 l0_1 a1_0 l1_1 = some (r1, r2, r3)) :
  Calls Try.prog 37 #[.agg #[.bool a0_0, .slice A0_1 l0_1.length c0_1], .agg #[.bool a1_0, .slice A1_1 l1_1.length c1_1]] w fun e w' => ∃ v1_ : Value, e = .returned (.tuple #[.agg #[.bool r1, v1_], .int .i64 r3]) ∧ Kd.R (Kd.int .u32) 87 w' w.heap.size (fun _ => True) v1_ r2 ∧ Below w.heap.size w w' := by
 have hu24 := Try.underlying24
 have HR0_1 := Aside0.mk hr0_1
 have HC0_1 := Aside0.mk hc0_1
 clear hr0_1 hc0_1
 have HR1_1 := Aside0.mk hr1_1
 have HC1_1 := Aside0.mk hc1_1
 clear hr1_1 hc1_1
 have HB := Aside0.mk (Below.refl w.heap.size w)
 have H : ((big_Neg.f k a0_0 l0_1).bind fun bt651 => ((big_Floor.f k bt651.1 bt651.2 a1_0 l1_1).bind fun bt655 => ((big_Neg.f k bt655.1 bt655.2.1).bind fun bt661 => (some (bt661.1, bt661.2, bt655.2.2))))) = some (r1, r2, r3) := h
 clear h
 replace H := Option.bind_eq_some_iff.mp H
 obtain ⟨⟨t651, t652⟩, A30, H⟩ := H
 try dsimp only at H
 have A3 := Aside0.mk A30
 clear A30
 replace H := Option.bind_eq_some_iff.mp H
 obtain ⟨⟨t655, t656, t659⟩, A40, H⟩ := H
 try dsimp only at H
 have A4 := Aside0.mk A40
 clear A40
 replace H := Option.bind_eq_some_iff.mp H
 obtain ⟨⟨t661, t662⟩, A50, H⟩ := H
 try dsimp only at H
 have A5 := Aside0.mk A50
 clear A50
 simp only [Option.some.injEq, Prod.mk.injEq] at H
 obtain ⟨rfl, rfl, rfl⟩ := H
 go_enter Try.func37, Try.ntmps37
 try go_wp2_with (first | ((with_reducible refine gate_dst (N := 2) rfl ?_); refine bx (N := 2) #[.bool a0_0, .slice A0_1 l0_1.length c0_1] 24 ?_; intro gb648 hg w6 hbox hb; have BK648 := Aside0.mk (hbox); have GW648 := bz hg HB; have GE648 := bz hg HB; replace HB := bs HB hb; clear hb hbox hg) | ((with_reducible refine gate_dst (N := 3) rfl ?_); refine bx (N := 3) #[.bool a1_0, .slice A1_1 l1_1.length c1_1] 24 ?_; intro gb649 hg w7 hbox hb; have BK649 := Aside0.mk (hbox); have GW649 := bz hg HB; have GE649 := bz hg HB; replace HB := bs HB hb; have NB648_649 := nl hg BK648; have NB649_648 := ng hg BK648; replace BK648 := kb BK648 hb; clear hb hbox hg) | ((with_reducible refine gate_dst (N := 4) rfl ?_); refine bx (N := 4) #[.bool false, .slice none 0 0] 24 ?_; intro gb650 hg w8 hbox hb; have BK650 := Aside0.mk (hbox); have GW650 := bz hg HB; have GE650 := bz hg HB; replace HB := bs HB hb; have NB648_650 := nl hg BK648; have NB650_648 := ng hg BK648; replace BK648 := kb BK648 hb; have NB649_650 := nl hg BK649; have NB650_649 := ng hg BK649; replace BK649 := kb BK649 hb; clear hb hbox hg))
 replace BK648 := Aside0.mk (blk_drew BK648.out)
 replace BK649 := Aside0.mk (blk_drew BK649.out)
 replace BK650 := Aside0.mk (blk_drew BK650.out)
 replace HB := Aside0.mk (below_drew1 HB.out)
 refine start_ (n := 10) (S := fun w' => w'.cell? ⟨gb648, 0, none⟩ = some (.bool a0_0) ∧ w'.cell? ⟨gb648, 1, none⟩ = some (.slice A0_1 l0_1.length c0_1) ∧ w'.cell? ⟨gb649, 0, none⟩ = some (.bool a1_0) ∧ w'.cell? ⟨gb649, 1, none⟩ = some (.slice A1_1 l1_1.length c1_1)) (ds := []) #[false, false, false, false, false, false, false, false, false, false] (by kernel_rfl) rfl rfl ⟨(blk_cell BK648.out 0).trans rfl, (blk_cell BK648.out 1).trans rfl, (blk_cell BK649.out 0).trans rfl, (blk_cell BK649.out 1).trans rfl⟩ (fun hHeld => ?_); refine with_tabW big_Ceil.tab1 big_Ceil.bits1 (fun HT_ HW_ => ?_)
 generalize w8.drew = w9 at BK648 BK649 BK650 HB hHeld ⊢
 refine tW (i := 0) (N := some 9) (bb 10 1) HT_ HW_ hHeld ?_
 refine tW (i := 2) (N := some 11) (bb 10 5) HT_ HW_ hHeld ?_
 refine join_ (σ := Value × Value × Nat) 2 #[true, true, true, true, true, true, true, true, false, false] (fun s_ => [(10, .agg #[.bool t651, s_.1]), (12, .tuple #[.agg #[.bool t655, s_.2.1], .int .i64 t659]), (6, .pointer (some ⟨s_.2.2, 0, none⟩)), (8, .tuple #[.agg #[.bool t655, s_.2.1], .int .i64 t659]), (13, .agg #[.bool t655, s_.2.1]), (14, .int .i64 t659)]) (fun s_ w' => (w'.cell? ⟨gb648, 0, none⟩ = some (.bool a0_0) ∧ w'.cell? ⟨gb648, 1, none⟩ = some (.slice A0_1 l0_1.length c0_1) ∧ w'.cell? ⟨gb649, 0, none⟩ = some (.bool a1_0) ∧ w'.cell? ⟨gb649, 1, none⟩ = some (.slice A1_1 l1_1.length c1_1)) ∧ (Kd.R (Kd.int .u32) 87 w' w.heap.size (fun k_ => some k_ ≠ (s_.2.1 : Value).ownBlock) s_.1 t652) ∧ (Kd.R (Kd.int .u32) 87 w' w.heap.size (fun k_ => some k_ ≠ (s_.1 : Value).ownBlock) s_.2.1 t656) ∧ (w'.heap[gb648]? = some (.cells #[.bool a0_0, .slice A0_1 l0_1.length c0_1] 24 (0, 0))) ∧ (w'.heap[gb649]? = some (.cells #[.bool a1_0, .slice A1_1 l1_1.length c1_1] 24 (0, 0))) ∧ (w'.heap[gb650]? = some (.cells #[.bool false, .slice none 0 0] 24 (0, 0))) ∧ (w'.heap[s_.2.2]? = some (.cells #[.bool false, .slice none 0 0] 24 (0, 0))) ∧ (w.heap.size ≤ s_.2.2) ∧ (w.heap.size ≤ s_.2.2) ∧ (gb648 ≠ s_.2.2) ∧ (s_.2.2 ≠ gb648) ∧ (gb649 ≠ s_.2.2) ∧ (s_.2.2 ≠ gb649) ∧ (gb650 ≠ s_.2.2) ∧ (s_.2.2 ≠ gb650) ∧ (Below w.heap.size w w')) ?_ ?_
 rotate_left
 ·intro hCont
  refine two_ (i := 1) (j := 7) (Ni := some 10) (Nj := some 6) #[true, true, true, false, false, false, false, false, false, false] #[true, false, true, false, false, false, false, true, false, false] rfl rfl rfl rfl (two_of HT_.out (by kernel_rfl)) (by decide) (by decide) (fun K hK => ?_) (fun K hK => ?_)
  ·skip
   refine gS Try.func28 #[.agg #[.bool a0_0, .slice A0_1 l0_1.length c0_1]] ?_
   with_reducible refine (big_Neg.calls k a0_0 _ _ l0_1 t651 t652 _ ?side1 ?side2 A3.out).mono ?_
   (case side1 => exact tc (Kd.C_below HR0_1.out HB.out))
   (case side2 => exact HC0_1.out)
   rintro e w10 ⟨v653, rfl, ho0, hb⟩
   refine ⟨_, rfl, ?_⟩
   have HO654 := rl ho0 HB
   replace BK648 := kb BK648 hb
   replace BK649 := kb BK649 hb
   replace BK650 := kb BK650 hb
   replace HB := bs HB hb
   (try clear hb); (try clear hb2); (try clear hk); (try clear hi); (try clear ho0)
   obtain ⟨Ao11, co11, eo11⟩ := Kd.R_slice HO654.out
   (first | subst eo11 | (injection eo11 with f1_ f2_ f3_; have f4_ := f1_.symm; have f5_ := f3_.symm; clear f1_ f2_ f3_; subst f4_; subst f5_))
   refine hK.out _ _ ⟨(blk_cell BK648.out 0).trans rfl, (blk_cell BK648.out 1).trans rfl, (blk_cell BK649.out 0).trans rfl, (blk_cell BK649.out 1).trans rfl⟩ fun hHeld => nT (N := some 10) ?_
   clear hK K
   refine two_ (i := 3) (j := 7) (Ni := some 12) (Nj := some 6) #[true, true, true, true, false, false, false, false, false, false] #[true, true, true, false, false, false, false, true, false, false] rfl rfl rfl rfl (two_of HT_.out (by kernel_rfl)) (by decide) (by decide) (fun K hK => ?_) (fun K hK => ?_)
   ·skip
    refine gS Try.func35 #[.agg #[.bool t651, .slice Ao11 t652.length co11], .agg #[.bool a1_0, .slice A1_1 l1_1.length c1_1]] ?_
    with_reducible refine (big_Floor.calls k t651 _ _ t652 a1_0 _ _ l1_1 t655 t656 t659 _ ?side1 ?side2 ?side3 ?side4 A4.out).mono ?_
    (case side1 => exact tc (Kd.R_reads' HO654.out).2.2)
    (case side2 => exact (Kd.R_reads' HO654.out).2.1)
    (case side3 => exact tc (Kd.C_below HR1_1.out HB.out))
    (case side4 => exact HC1_1.out)
    rintro e w12 ⟨v657, rfl, ho0, hb⟩
    refine ⟨_, rfl, ?_⟩
    have HO658 := Aside0.mk (Kd.R_lower (Kd.R_new' ho0 (Kd.R_lt (tq HO654))) (below_size (tb HB)))
    replace HO654 := re HO654 (Kd.R_base ho0) hb
    replace BK648 := kb BK648 hb
    replace BK649 := kb BK649 hb
    replace BK650 := kb BK650 hb
    replace HB := bs HB hb
    (try clear hb); (try clear hb2); (try clear hk); (try clear hi); (try clear ho0)
    refine hK.out _ _ ⟨(blk_cell BK648.out 0).trans rfl, (blk_cell BK648.out 1).trans rfl, (blk_cell BK649.out 0).trans rfl, (blk_cell BK649.out 1).trans rfl⟩ fun hHeld => nT (N := some 12) ?_
    clear hK K
    refine pT (i := 4) (N := some 8) (bb 10 31) HT_ ?_
    refine pT (i := 5) (N := some 13) (bb 10 63) HT_ ?_
    refine pT (i := 6) (N := some 14) (bb 10 127) HT_ ?_
    refine oT (i := 7) (N := some 6) (bb 10 255) HT_ fun K hK => ?_
    refine box_step ?hg (N := 6) ?hd (cs := #[.bool false, .slice none 0 0]) (t := 24) ?hr ?_; (case hd => rfl); (case hg => rfl); (case hr => first | (go_simp; done) | (go_simp; rfl))
    intro gb660 hg w13 hbox hb
    have n0_ := rb HO654 hb
    have n1_ := rb HO658 hb
    have n2_ := kb BK648 hb
    have n3_ := kb BK649 hb
    have n4_ := kb BK650 hb
    have n5_ := bs HB hb
    have n6_ := Aside0.mk (hbox)
    have n7_ := bz hg HB
    have n8_ := bz hg HB
    have n9_ := nl hg BK648
    have n10_ := ng hg BK648
    have n11_ := nl hg BK649
    have n12_ := ng hg BK649
    have n13_ := nl hg BK650
    have n14_ := ng hg BK650
    clear HO654 HO658 BK648 BK649 BK650 HB
    have HO654 := n0_
    have HO658 := n1_
    have BK648 := n2_
    have BK649 := n3_
    have BK650 := n4_
    have HB := n5_
    have BK660 := n6_
    have GW660 := n7_
    have GE660 := n8_
    have NB648_660 := n9_
    have NB660_648 := n10_
    have NB649_660 := n11_
    have NB660_649 := n12_
    have NB650_660 := n13_
    have NB660_650 := n14_
    clear n0_ n1_ n2_ n3_ n4_ n5_ n6_ n7_ n8_ n9_ n10_ n11_ n12_ n13_ n14_ hb hbox hg
    refine hK.out _ _ ⟨(blk_cell BK648.out 0).trans rfl, (blk_cell BK648.out 1).trans rfl, (blk_cell BK649.out 0).trans rfl, (blk_cell BK649.out 1).trans rfl⟩ fun hHeld => nT (N := some 6) ?_
    clear hK K
    exact norm_ (by simp only [putAll, Act.put, List.setIfInBounds_toArray, List.set_cons_zero, List.set_cons_succ]) (hCont (.slice Ao11 t652.length co11, v657, gb660) _ ⟨hHeld, (by (with_reducible repeat first | apply qa | apply qn | apply qd); exact Kd.R_mono HO654.out (fun _ hk => hk.2)), (by (with_reducible repeat first | apply qa | apply qn | apply qd); exact Kd.R_mono HO658.out (fun _ hk => hk.2)), (tk BK648), (tk BK649), (tk BK650), (tk BK660), GW660.out, GE660.out, NB648_660.out, NB660_648.out, NB649_660.out, NB660_649.out, NB650_660.out, NB660_650.out, (tb HB)⟩)
   ·skip
    refine box_step ?hg (N := 6) ?hd (cs := #[.bool false, .slice none 0 0]) (t := 24) ?hr ?_; (case hd => rfl); (case hg => rfl); (case hr => first | (go_simp; done) | (go_simp; rfl))
    intro gb660 hg w11 hbox hb
    have n0_ := rb HO654 hb
    have n1_ := kb BK648 hb
    have n2_ := kb BK649 hb
    have n3_ := kb BK650 hb
    have n4_ := bs HB hb
    have n5_ := Aside0.mk (hbox)
    have n6_ := bz hg HB
    have n7_ := bz hg HB
    have n8_ := nl hg BK648
    have n9_ := ng hg BK648
    have n10_ := nl hg BK649
    have n11_ := ng hg BK649
    have n12_ := nl hg BK650
    have n13_ := ng hg BK650
    clear HO654 BK648 BK649 BK650 HB
    have HO654 := n0_
    have BK648 := n1_
    have BK649 := n2_
    have BK650 := n3_
    have HB := n4_
    have BK660 := n5_
    have GW660 := n6_
    have GE660 := n7_
    have NB648_660 := n8_
    have NB660_648 := n9_
    have NB649_660 := n10_
    have NB660_649 := n11_
    have NB650_660 := n12_
    have NB660_650 := n13_
    clear n0_ n1_ n2_ n3_ n4_ n5_ n6_ n7_ n8_ n9_ n10_ n11_ n12_ n13_ hb hbox hg
    obtain ⟨Ao12, co12, eo12⟩ := Kd.R_slice HO654.out
    (first | subst eo12 | (injection eo12 with f1_ f2_ f3_; have f4_ := f1_.symm; have f5_ := f3_.symm; clear f1_ f2_ f3_; subst f4_; subst f5_))
    refine hK.out _ _ ⟨(blk_cell BK648.out 0).trans rfl, (blk_cell BK648.out 1).trans rfl, (blk_cell BK649.out 0).trans rfl, (blk_cell BK649.out 1).trans rfl⟩ fun hHeld => nT (N := some 6) ?_
    clear hK K
    refine oT (i := 3) (N := some 12) (bb 10 143) HT_ fun K hK => ?_
    refine gS Try.func35 #[.agg #[.bool t651, .slice Ao12 t652.length co12], .agg #[.bool a1_0, .slice A1_1 l1_1.length c1_1]] ?_
    with_reducible refine (big_Floor.calls k t651 _ _ t652 a1_0 _ _ l1_1 t655 t656 t659 _ ?side1 ?side2 ?side3 ?side4 A4.out).mono ?_
    (case side1 => exact tc (Kd.R_reads' HO654.out).2.2)
    (case side2 => exact (Kd.R_reads' HO654.out).2.1)
    (case side3 => exact tc (Kd.C_below HR1_1.out HB.out))
    (case side4 => exact HC1_1.out)
    rintro e w13 ⟨v657, rfl, ho0, hb⟩
    refine ⟨_, rfl, ?_⟩
    have HO658 := Aside0.mk (Kd.R_lower (Kd.R_new' ho0 (Kd.R_lt (tq HO654))) (below_size (tb HB)))
    replace HO654 := re HO654 (Kd.R_base ho0) hb
    replace BK648 := kb BK648 hb
    replace BK649 := kb BK649 hb
    replace BK650 := kb BK650 hb
    replace BK660 := kb BK660 hb
    replace HB := bs HB hb
    (try clear hb); (try clear hb2); (try clear hk); (try clear hi); (try clear ho0)
    refine hK.out _ _ ⟨(blk_cell BK648.out 0).trans rfl, (blk_cell BK648.out 1).trans rfl, (blk_cell BK649.out 0).trans rfl, (blk_cell BK649.out 1).trans rfl⟩ fun hHeld => nT (N := some 12) ?_
    clear hK K
    refine pT (i := 4) (N := some 8) (bb 10 159) HT_ ?_
    refine pT (i := 5) (N := some 13) (bb 10 191) HT_ ?_
    refine pT (i := 6) (N := some 14) (bb 10 255) HT_ ?_
    exact norm_ (by simp only [putAll, Act.put, List.setIfInBounds_toArray, List.set_cons_zero, List.set_cons_succ]) (hCont (.slice Ao12 t652.length co12, v657, gb660) _ ⟨hHeld, (by (with_reducible repeat first | apply qa | apply qn | apply qd); exact Kd.R_mono HO654.out (fun _ hk => hk.2)), (by (with_reducible repeat first | apply qa | apply qn | apply qd); exact Kd.R_mono HO658.out (fun _ hk => hk.2)), (tk BK648), (tk BK649), (tk BK650), (tk BK660), GW660.out, GE660.out, NB648_660.out, NB660_648.out, NB649_660.out, NB660_649.out, NB650_660.out, NB660_650.out, (tb HB)⟩)
  ·skip
   refine box_step ?hg (N := 6) ?hd (cs := #[.bool false, .slice none 0 0]) (t := 24) ?hr ?_; (case hd => rfl); (case hg => rfl); (case hr => first | (go_simp; done) | (go_simp; rfl))
   intro gb660 hg w10 hbox hb
   have n0_ := kb BK648 hb
   have n1_ := kb BK649 hb
   have n2_ := kb BK650 hb
   have n3_ := bs HB hb
   have n4_ := Aside0.mk (hbox)
   have n5_ := bz hg HB
   have n6_ := bz hg HB
   have n7_ := nl hg BK648
   have n8_ := ng hg BK648
   have n9_ := nl hg BK649
   have n10_ := ng hg BK649
   have n11_ := nl hg BK650
   have n12_ := ng hg BK650
   clear BK648 BK649 BK650 HB
   have BK648 := n0_
   have BK649 := n1_
   have BK650 := n2_
   have HB := n3_
   have BK660 := n4_
   have GW660 := n5_
   have GE660 := n6_
   have NB648_660 := n7_
   have NB660_648 := n8_
   have NB649_660 := n9_
   have NB660_649 := n10_
   have NB650_660 := n11_
   have NB660_650 := n12_
   clear n0_ n1_ n2_ n3_ n4_ n5_ n6_ n7_ n8_ n9_ n10_ n11_ n12_ hb hbox hg
   refine hK.out _ _ ⟨(blk_cell BK648.out 0).trans rfl, (blk_cell BK648.out 1).trans rfl, (blk_cell BK649.out 0).trans rfl, (blk_cell BK649.out 1).trans rfl⟩ fun hHeld => nT (N := some 6) ?_
   clear hK K
   refine oT (i := 1) (N := some 10) (bb 10 135) HT_ fun K hK => ?_
   refine gS Try.func28 #[.agg #[.bool a0_0, .slice A0_1 l0_1.length c0_1]] ?_
   with_reducible refine (big_Neg.calls k a0_0 _ _ l0_1 t651 t652 _ ?side1 ?side2 A3.out).mono ?_
   (case side1 => exact tc (Kd.C_below HR0_1.out HB.out))
   (case side2 => exact HC0_1.out)
   rintro e w11 ⟨v653, rfl, ho0, hb⟩
   refine ⟨_, rfl, ?_⟩
   have HO654 := rl ho0 HB
   replace BK648 := kb BK648 hb
   replace BK649 := kb BK649 hb
   replace BK650 := kb BK650 hb
   replace BK660 := kb BK660 hb
   replace HB := bs HB hb
   (try clear hb); (try clear hb2); (try clear hk); (try clear hi); (try clear ho0)
   obtain ⟨Ao12, co12, eo12⟩ := Kd.R_slice HO654.out
   (first | subst eo12 | (injection eo12 with f1_ f2_ f3_; have f4_ := f1_.symm; have f5_ := f3_.symm; clear f1_ f2_ f3_; subst f4_; subst f5_))
   refine hK.out _ _ ⟨(blk_cell BK648.out 0).trans rfl, (blk_cell BK648.out 1).trans rfl, (blk_cell BK649.out 0).trans rfl, (blk_cell BK649.out 1).trans rfl⟩ fun hHeld => nT (N := some 10) ?_
   clear hK K
   refine oT (i := 3) (N := some 12) (bb 10 143) HT_ fun K hK => ?_
   refine gS Try.func35 #[.agg #[.bool t651, .slice Ao12 t652.length co12], .agg #[.bool a1_0, .slice A1_1 l1_1.length c1_1]] ?_
   with_reducible refine (big_Floor.calls k t651 _ _ t652 a1_0 _ _ l1_1 t655 t656 t659 _ ?side1 ?side2 ?side3 ?side4 A4.out).mono ?_
   (case side1 => exact tc (Kd.R_reads' HO654.out).2.2)
   (case side2 => exact (Kd.R_reads' HO654.out).2.1)
   (case side3 => exact tc (Kd.C_below HR1_1.out HB.out))
   (case side4 => exact HC1_1.out)
   rintro e w13 ⟨v657, rfl, ho0, hb⟩
   refine ⟨_, rfl, ?_⟩
   have HO658 := Aside0.mk (Kd.R_lower (Kd.R_new' ho0 (Kd.R_lt (tq HO654))) (below_size (tb HB)))
   replace HO654 := re HO654 (Kd.R_base ho0) hb
   replace BK648 := kb BK648 hb
   replace BK649 := kb BK649 hb
   replace BK650 := kb BK650 hb
   replace BK660 := kb BK660 hb
   replace HB := bs HB hb
   (try clear hb); (try clear hb2); (try clear hk); (try clear hi); (try clear ho0)
   refine hK.out _ _ ⟨(blk_cell BK648.out 0).trans rfl, (blk_cell BK648.out 1).trans rfl, (blk_cell BK649.out 0).trans rfl, (blk_cell BK649.out 1).trans rfl⟩ fun hHeld => nT (N := some 12) ?_
   clear hK K
   refine pT (i := 4) (N := some 8) (bb 10 159) HT_ ?_
   refine pT (i := 5) (N := some 13) (bb 10 191) HT_ ?_
   refine pT (i := 6) (N := some 14) (bb 10 255) HT_ ?_
   exact norm_ (by simp only [putAll, Act.put, List.setIfInBounds_toArray, List.set_cons_zero, List.set_cons_succ]) (hCont (.slice Ao12 t652.length co12, v657, gb660) _ ⟨hHeld, (by (with_reducible repeat first | apply qa | apply qn | apply qd); exact Kd.R_mono HO654.out (fun _ hk => hk.2)), (by (with_reducible repeat first | apply qa | apply qn | apply qd); exact Kd.R_mono HO658.out (fun _ hk => hk.2)), (tk BK648), (tk BK649), (tk BK650), (tk BK660), GW660.out, GE660.out, NB648_660.out, NB660_648.out, NB649_660.out, NB660_649.out, NB650_660.out, NB660_650.out, (tb HB)⟩)
 rintro ⟨v653, v657, gb660⟩ w14 ⟨hS_, h0_, h1_, h2_, h3_, h4_, h5_, h6_, h7_, h8_, h9_, h10_, h11_, h12_, h13_, h14_⟩
 have n0_ : Aside0 (Kd.R (Kd.int .u32) 87 w14 w.heap.size (fun k_ => some k_ ≠ (v657 : Value).ownBlock) v653 t652) := ⟨h0_⟩
 have n1_ : Aside0 (Kd.R (Kd.int .u32) 87 w14 w.heap.size (fun k_ => some k_ ≠ (v653 : Value).ownBlock) v657 t656) := ⟨h1_⟩
 have n4_ : Aside0 (w14.heap[gb650]? = some (.cells #[.bool false, .slice none 0 0] 24 (0, 0))) := ⟨h4_⟩
 have n5_ : Aside0 (w14.heap[gb660]? = some (.cells #[.bool false, .slice none 0 0] 24 (0, 0))) := ⟨h5_⟩
 have n6_ : Aside0 (w.heap.size ≤ gb660) := ⟨h6_⟩
 have n7_ : Aside0 (w.heap.size ≤ gb660) := ⟨h7_⟩
 have n8_ : Aside0 (gb648 ≠ gb660) := ⟨h8_⟩
 have n9_ : Aside0 (gb660 ≠ gb648) := ⟨h9_⟩
 have n10_ : Aside0 (gb649 ≠ gb660) := ⟨h10_⟩
 have n11_ : Aside0 (gb660 ≠ gb649) := ⟨h11_⟩
 have n12_ : Aside0 (gb650 ≠ gb660) := ⟨h12_⟩
 have n13_ : Aside0 (gb660 ≠ gb650) := ⟨h13_⟩
 have n14_ : Aside0 (Below w.heap.size w w14) := ⟨h14_⟩
 clear BK648 BK649 BK650 HB
 clear h0_ h1_ h2_ h3_ h4_ h5_ h6_ h7_ h8_ h9_ h10_ h11_ h12_ h13_ h14_
 have HO654 := n0_
 have HO658 := n1_
 have BK650 := n4_
 have BK660 := n5_
 have GW660 := n6_
 have GE660 := n7_
 have NB648_660 := n8_
 have NB660_648 := n9_
 have NB649_660 := n10_
 have NB660_649 := n11_
 have NB650_660 := n12_
 have NB660_650 := n13_
 have HB := n14_
 clear n0_ n1_ n4_ n5_ n6_ n7_ n8_ n9_ n10_ n11_ n12_ n13_ n14_
 have hHeld : w14.cell? ⟨gb648, 0, none⟩ = some (.bool a0_0) ∧ w14.cell? ⟨gb648, 1, none⟩ = some (.slice A0_1 l0_1.length c0_1) ∧ w14.cell? ⟨gb649, 0, none⟩ = some (.bool a1_0) ∧ w14.cell? ⟨gb649, 1, none⟩ = some (.slice A1_1 l1_1.length c1_1) := hS_
 obtain ⟨Ao16, co16, eo16⟩ := Kd.R_slice HO658.out
 (first | subst eo16 | (injection eo16 with f1_ f2_ f3_; have f4_ := f1_.symm; have f5_ := f3_.symm; clear f1_ f2_ f3_; subst f4_; subst f5_))
 refine norm_ (a' := ?_) ?_ ?_
 rotate_left
 ·simp only [putAll, Act.put, List.setIfInBounds_toArray, List.set_cons_zero, List.set_cons_succ]
  rfl
 refine oT (i := 8) (N := none) (bb 10 511) HT_ fun K hK => ?_
 have hs15 := bc BK660 0 (.bool false)
 have hfs15 := blk_frozen BK660.out 0
 have hns15_0 := NB648_660.out
 have hns15_1 := NB649_660.out
 have hns15_2 := NB650_660.out
 have hms15_0 := NB660_648.out
 have hms15_1 := NB660_649.out
 have hms15_2 := NB660_650.out
 have hs17 := bc BK660 1 (.slice none 0 0)
 have hfs17 := blk_frozen BK660.out 1
 have hns17_0 := NB648_660.out
 have hns17_1 := NB649_660.out
 have hns17_2 := NB650_660.out
 have hms17_0 := NB660_648.out
 have hms17_1 := NB660_649.out
 have hms17_2 := NB660_650.out
 refine skip_ (w1 := ?_) (by rfl) rfl ?_ ?_
 rotate_left
 ·go_simp
  rfl
 refine hK.out _ _ ⟨((cell_far (p := ⟨gb660, _, none⟩) NB648_660.out _).trans (((cell_far (p := ⟨gb660, _, none⟩) NB648_660.out _).trans (hHeld.1)))), ((cell_far (p := ⟨gb660, _, none⟩) NB648_660.out _).trans (((cell_far (p := ⟨gb660, _, none⟩) NB648_660.out _).trans (hHeld.2.1)))), ((cell_far (p := ⟨gb660, _, none⟩) NB649_660.out _).trans (((cell_far (p := ⟨gb660, _, none⟩) NB649_660.out _).trans (hHeld.2.2.1)))), ((cell_far (p := ⟨gb660, _, none⟩) NB649_660.out _).trans (((cell_far (p := ⟨gb660, _, none⟩) NB649_660.out _).trans (hHeld.2.2.2))))⟩ (fun hHeld => ?_)
 clear hK K
 refine pT (i := 9) (N := some 7) (bb 10 1023) HT_ ?_
 refine done_ (done_of HT_.out (by kernel_rfl)) ?_
 have hnb18 := NB660_648.out
 have hnc18 := NB648_660.out
 have hnb19 := NB660_649.out
 have hnc19 := NB649_660.out
 have hnb20 := NB660_650.out
 have hnc20 := NB650_660.out
 have hcz21_0 := bc BK660 0 (.bool false)
 have hcz21_1 := bc BK660 1 (.slice none 0 0)
 have hfz21_0 := blk_frozen BK660.out 0
 have hfz21_1 := blk_frozen BK660.out 1
 try go_wp2_with (first | ((with_reducible refine gate_callee (f := 28) rfl ?_); refine gL (N := some 16) Try.func28 #[.agg #[.bool t655, .slice Ao16 t656.length co16]] ?_; (with_reducible refine (big_Neg.calls k t655 _ _ t656 t661 t662 _ ?side1 ?side2 A5.out).mono ?_); (case side1 => refine (Kd.R_reads' (e := 87) (base := w.heap.size) (ok := fun k_ => some k_ ≠ (v653 : Value).ownBlock) (n := t656.length) (c := co16) ?_).2.2; exact (by (with_reducible repeat first | apply qa | apply qn | apply qd); exact (Kd.R_mono (Kd.R_far (p := ⟨gb660, 1, none⟩) (Kd.R_far (p := ⟨gb660, 0, none⟩) (Kd.R_types HO658.out BK660.out (by decide)) (fun _ hk => hk.2) (.bool t655)) (fun _ hk => hk.2) (.slice Ao16 t656.length co16)) (fun _ h_ => h_.1)))); (case side2 => exact (Kd.R_reads' HO658.out).2.1); rintro e w22 ⟨v663, rfl, ho0, hb⟩; refine ⟨_, rfl, ?_⟩; have HO664 := Aside0.mk (Kd.R_lower (Kd.R_new' (Kd.R_new' ho0 (Kd.R_lt (by (with_reducible repeat first | apply qa | apply qn | apply qd); exact (Kd.R_mono (Kd.R_far (p := ⟨gb660, 1, none⟩) (Kd.R_far (p := ⟨gb660, 0, none⟩) (Kd.R_types HO654.out BK660.out (by decide)) (fun _ hk => hk.2) (.bool t655)) (fun _ hk => hk.2) (.slice Ao16 t656.length co16)) (fun _ h_ => h_.1))))) (Kd.R_lt (by (with_reducible repeat first | apply qa | apply qn | apply qd); exact (Kd.R_mono (Kd.R_far (p := ⟨gb660, 1, none⟩) (Kd.R_far (p := ⟨gb660, 0, none⟩) (Kd.R_types HO658.out BK660.out (by decide)) (fun _ hk => hk.2) (.bool t655)) (fun _ hk => hk.2) (.slice Ao16 t656.length co16)) (fun _ h_ => h_.1))))) (below_size (tb HB))); replace BK650 := kb BK650 hb; replace HB := bs HB hb; (try clear hb); (try clear hb2); (try clear hk); (try clear hi); (try clear ho0); have hnb23 := NB650_648.out; have hnc23 := NB648_650.out; have hnb24 := NB650_649.out; have hnc24 := NB649_650.out; have hcz25_0 := bc BK650 0 (.bool false); have hcz25_1 := bc BK650 1 (.slice none 0 0); have hfz25_0 := blk_frozen BK650.out 0; have hfz25_1 := blk_frozen BK650.out 1; obtain ⟨Ao26, co26, eo26⟩ := Kd.R_slice HO664.out; subst eo26))
 refine bodyPost_ret (results_ct rfl _ _ gb650 24 #[.bool t661, .slice Ao26 t662.length co26] (0, 0) _ rfl (tk BK650) Try.underlying24 rfl (by kernel_rfl)) rfl ?_
 exact ⟨_, by first | rfl | (simp [errW_none, errW_some] <;> rfl) | (simp [*, errW_none, errW_some] <;> rfl), by (with_reducible repeat first | apply qa | apply qn | apply qd); exact Kd.R_mono (Kd.R_far (p := ⟨gb650, 1, none⟩) (Kd.R_far (p := ⟨gb650, 0, none⟩) (Kd.R_types HO664.out BK650.out (by decide)) (fun _ hk => hk.2) (.bool t661)) (fun _ hk => hk.2) (.slice Ao26 t662.length co26)) (fun _ hk => trivial), tb HB⟩

/-! ### big_Mul: function 39 -/
def big_Mul.f (k : Nat) (a0_0 : Bool) (l0_1 : List Int) (a1_0 : Bool) (l1_1 : List Int) : Option (Bool × List Int) := (nat_Mul.f k l0_1 l1_1).bind fun t668 => ((big_norm.f k (a0_0 != a1_0) t668).bind fun bt671 => (some (bt671.1, bt671.2)))
theorem big_Mul.mono : ∀ a0 a1 a2 a3 k, LeO (big_Mul.f k a0 a1 a2 a3) (big_Mul.f (k + 1) a0 a1 a2 a3) := by
 intro a0 a1 a2 a3 k
 unfold big_Mul.f
 repeat' first
   | (with_reducible exact big_norm.mono _ _ _)
   | (with_reducible exact nat_Mul.mono _ _ _)
   | (with_reducible exact LeO.refl _)
   | (with_reducible exact LeO.none _)
   | (with_reducible refine LeO.ite ?_ ?_)
   | (with_reducible refine LeO.bind ?_ (fun _ => ?_))
   | exact big_norm.mono _ _ _
   | exact nat_Mul.mono _ _ _
   | exact LeO.none _
   | refine LeO.ite ?_ ?_
   | refine LeO.bind ?_ (fun _ => ?_)
def big_Mul.T1 : Bool × List (List Nat × List Nat) := (true, [([], []), ([0], [0]), ([], []), ([2], [2]), ([1, 3], [1, 3]), ([], []), ([5], [5]), ([], []), ([7], [7]), ([6, 8], [6, 8]), ([4, 9, 9], [4, 9]), ([10, 10, 0, 1, 2, 3, 4, 5, 6, 7, 8, 9, 10], [10])])
def big_Mul.B1 : List Nat := [0, 1, 0, 4, 15, 0, 32, 0, 128, 480, 1023, 2047]
theorem big_Mul.tab1 : rtab .any (opsOf Try.f39 1) = big_Mul.T1 := by kernel_rfl
theorem big_Mul.bits1 : waitsOk big_Mul.T1.2 big_Mul.B1 = true := by kernel_rfl
set_option maxHeartbeats 8000000 in
set_option maxRecDepth 100000 in
theorem big_Mul.calls (k : Nat) (a0_0 : Bool) (A0_1 : Option Addr) (c0_1 : Nat) (l0_1 : List Int) (a1_0 : Bool) (A1_1 : Option Addr) (c1_1 : Nat) (l1_1 : List Int) (r1 : Bool) (r2 : List Int) (w : World) (hr0_1 : Kd.C (Kd.int .u32) w A0_1 l0_1.length l0_1) (hc0_1 : l0_1.length ≤ c0_1) (hr1_1 : Kd.C (Kd.int .u32) w A1_1 l1_1.length l1_1) (hc1_1 : l1_1.length ≤ c1_1) (h : big_Mul.f k a0_0 l0_1 a1_0 l1_1 = some (r1, r2)) :
  Calls Try.prog 39 #[.agg #[.bool a0_0, .slice A0_1 l0_1.length c0_1], .agg #[.bool a1_0, .slice A1_1 l1_1.length c1_1]] w fun e w' => ∃ v1_ : Value, e = .returned (.agg #[.bool r1, v1_]) ∧ Kd.R (Kd.int .u32) 87 w' w.heap.size (fun _ => True) v1_ r2 ∧ Below w.heap.size w w' := by
 have hu24 := Try.underlying24
 have HR0_1 := Aside0.mk hr0_1
 have HC0_1 := Aside0.mk hc0_1
 clear hr0_1 hc0_1
 have HR1_1 := Aside0.mk hr1_1
 have HC1_1 := Aside0.mk hc1_1
 clear hr1_1 hc1_1
 have HB := Aside0.mk (Below.refl w.heap.size w)
 have H : ((nat_Mul.f k l0_1 l1_1).bind fun t668 => ((big_norm.f k (a0_0 != a1_0) t668).bind fun bt671 => (some (bt671.1, bt671.2)))) = some (r1, r2) := h
 clear h
 replace H := Option.bind_eq_some_iff.mp H
 obtain ⟨t668, A30, H⟩ := H
 have A3 := Aside0.mk A30
 clear A30
 replace H := Option.bind_eq_some_iff.mp H
 obtain ⟨⟨t671, t672⟩, A40, H⟩ := H
 try dsimp only at H
 have A4 := Aside0.mk A40
 clear A40
 simp only [Option.some.injEq, Prod.mk.injEq] at H
 obtain ⟨rfl, rfl⟩ := H
 go_enter Try.func39, Try.ntmps39
 try go_wp2_with (first | ((with_reducible refine gate_dst (N := 2) rfl ?_); refine bx (N := 2) #[.bool a0_0, .slice A0_1 l0_1.length c0_1] 24 ?_; intro gb665 hg w5 hbox hb; have BK665 := Aside0.mk (hbox); have GW665 := bz hg HB; have GE665 := bz hg HB; replace HB := bs HB hb; clear hb hbox hg) | ((with_reducible refine gate_dst (N := 3) rfl ?_); refine bx (N := 3) #[.bool a1_0, .slice A1_1 l1_1.length c1_1] 24 ?_; intro gb666 hg w6 hbox hb; have BK666 := Aside0.mk (hbox); have GW666 := bz hg HB; have GE666 := bz hg HB; replace HB := bs HB hb; have NB665_666 := nl hg BK665; have NB666_665 := ng hg BK665; replace BK665 := kb BK665 hb; clear hb hbox hg) | ((with_reducible refine gate_dst (N := 4) rfl ?_); refine bx (N := 4) #[.bool false, .slice none 0 0] 24 ?_; intro gb667 hg w7 hbox hb; have BK667 := Aside0.mk (hbox); have GW667 := bz hg HB; have GE667 := bz hg HB; replace HB := bs HB hb; have NB665_667 := nl hg BK665; have NB667_665 := ng hg BK665; replace BK665 := kb BK665 hb; have NB666_667 := nl hg BK666; have NB667_666 := ng hg BK666; replace BK666 := kb BK666 hb; clear hb hbox hg))
 replace BK665 := Aside0.mk (blk_drew BK665.out)
 replace BK666 := Aside0.mk (blk_drew BK666.out)
 replace BK667 := Aside0.mk (blk_drew BK667.out)
 replace HB := Aside0.mk (below_drew1 HB.out)
 refine start_ (n := 12) (S := fun w' => w'.cell? ⟨gb665, 0, none⟩ = some (.bool a0_0) ∧ w'.cell? ⟨gb665, 1, none⟩ = some (.slice A0_1 l0_1.length c0_1) ∧ w'.cell? ⟨gb666, 0, none⟩ = some (.bool a1_0) ∧ w'.cell? ⟨gb666, 1, none⟩ = some (.slice A1_1 l1_1.length c1_1)) (ds := []) #[false, false, false, false, false, false, false, false, false, false, false, false] (by kernel_rfl) rfl rfl ⟨(blk_cell BK665.out 0).trans rfl, (blk_cell BK665.out 1).trans rfl, (blk_cell BK666.out 0).trans rfl, (blk_cell BK666.out 1).trans rfl⟩ (fun hHeld => ?_); refine with_tabW big_Mul.tab1 big_Mul.bits1 (fun HT_ HW_ => ?_)
 generalize w7.drew = w8 at BK665 BK666 BK667 HB hHeld ⊢
 refine pT (i := 0) (N := some 5) (bb 12 1) HT_ ?_
 refine pT (i := 2) (N := some 7) (bb 12 5) HT_ ?_
 refine pT (i := 5) (N := some 10) (bb 12 37) HT_ ?_
 refine pT (i := 7) (N := some 12) (bb 12 165) HT_ ?_
 refine tW (i := 1) (N := some 6) (bb 12 167) HT_ HW_ hHeld ?_
 refine tW (i := 3) (N := some 8) (bb 12 175) HT_ HW_ hHeld ?_
 refine pT (i := 4) (N := some 9) (bb 12 191) HT_ ?_
 refine tW (i := 6) (N := some 11) (bb 12 255) HT_ HW_ hHeld ?_
 refine tW (i := 8) (N := some 13) (bb 12 511) HT_ HW_ hHeld ?_
 refine oT (i := 9) (N := some 14) (bb 12 1023) HT_ fun K hK => ?_
 refine gS Try.func70 #[.slice A0_1 l0_1.length c0_1, .slice A1_1 l1_1.length c1_1] ?_
 with_reducible refine (nat_Mul.calls k (fun k_ => k_ < w.heap.size) _ _ l0_1 (fun k_ => k_ < w.heap.size) _ _ l1_1 t668 _ ?side1 ?side2 A3.out).mono ?_
 (case side1 => exact Kd.V_mk HC0_1.out (Kd.F_below (Kd.C_F (Kd.heap_int .u32) HR0_1.out) (tb HB)))
 (case side2 => exact Kd.V_mk HC1_1.out (Kd.F_below (Kd.C_F (Kd.heap_int .u32) HR1_1.out) (tb HB)))
 rintro e w9 ⟨v669, rfl, ho0, hb⟩
 refine ⟨_, rfl, ?_⟩
 have HO670 := Aside0.mk (Kd.V_lower (Kd.V_mono (ok' := fun k_ => k_ ≠ gb665 ∧ k_ ≠ gb666 ∧ k_ ≠ gb667) ho0 (fun k_ hk_ => ⟨Or.elim hk_ (fun hs_ => Or.elim hs_ (fun hs_ => fun e_ => Nat.not_le.2 hs_ (by rw [e_]; exact GW665.out)) (fun hs_ => fun e_ => Nat.not_le.2 hs_ (by rw [e_]; exact GW665.out))) (fun hn_ => (Kd.freshB (g := gb665) (o := .cells #[.bool a0_0, .slice A0_1 l0_1.length c0_1] 24 (0, 0)) (tk BK665) k_ hn_)), Or.elim hk_ (fun hs_ => Or.elim hs_ (fun hs_ => fun e_ => Nat.not_le.2 hs_ (by rw [e_]; exact GW666.out)) (fun hs_ => fun e_ => Nat.not_le.2 hs_ (by rw [e_]; exact GW666.out))) (fun hn_ => (Kd.freshB (g := gb666) (o := .cells #[.bool a1_0, .slice A1_1 l1_1.length c1_1] 24 (0, 0)) (tk BK666) k_ hn_)), Or.elim hk_ (fun hs_ => Or.elim hs_ (fun hs_ => fun e_ => Nat.not_le.2 hs_ (by rw [e_]; exact GW667.out)) (fun hs_ => fun e_ => Nat.not_le.2 hs_ (by rw [e_]; exact GW667.out))) (fun hn_ => (Kd.freshB (g := gb667) (o := .cells #[.bool false, .slice none 0 0] 24 (0, 0)) (tk BK667) k_ hn_))⟩)) (below_size (tb HB)))
 replace BK665 := kb BK665 hb
 replace BK666 := kb BK666 hb
 replace BK667 := kb BK667 hb
 replace HB := bs HB hb
 (try clear hb); (try clear hb2); (try clear hk); (try clear hi); (try clear ho0)
 obtain ⟨Ao10, co10, eo10⟩ := Kd.V_slice HO670.out
 (first | subst eo10 | (injection eo10 with f1_ f2_ f3_; have f4_ := f1_.symm; have f5_ := f3_.symm; clear f1_ f2_ f3_; subst f4_; subst f5_))
 refine hK.out _ _ ⟨(blk_cell BK665.out 0).trans rfl, (blk_cell BK665.out 1).trans rfl, (blk_cell BK666.out 0).trans rfl, (blk_cell BK666.out 1).trans rfl⟩ fun hHeld => nT (N := some 14) ?_
 clear hK K
 refine oT (i := 10) (N := some 15) (bb 12 2047) HT_ fun K hK => ?_
 refine gS Try.func52 #[.bool (a0_0 != a1_0), .slice Ao10 t668.length co10] ?_
 with_reducible refine (big_norm.calls k (a0_0 != a1_0) _ _ t668 t671 t672 _ ?side1 ?side2 A4.out).mono ?_
 (case side1 => exact tc (Kd.V_reads' HO670.out).2.2)
 (case side2 => exact (Kd.V_reads' HO670.out).2.1)
 rintro e w11 ⟨v673, rfl, ho0, hb⟩
 refine ⟨_, rfl, ?_⟩
 have HO674 := rl ho0 HB
 replace BK665 := kb BK665 hb
 replace BK666 := kb BK666 hb
 replace BK667 := kb BK667 hb
 replace HB := bs HB hb
 (try clear hb); (try clear hb2); (try clear hk); (try clear hi); (try clear ho0)
 obtain ⟨Ao13, co13, eo13⟩ := Kd.R_slice HO674.out
 (first | subst eo13 | (injection eo13 with f1_ f2_ f3_; have f4_ := f1_.symm; have f5_ := f3_.symm; clear f1_ f2_ f3_; subst f4_; subst f5_))
 refine hK.out _ _ ⟨(blk_cell BK665.out 0).trans rfl, (blk_cell BK665.out 1).trans rfl, (blk_cell BK666.out 0).trans rfl, (blk_cell BK666.out 1).trans rfl⟩ fun hHeld => nT (N := some 15) ?_
 clear hK K
 refine oT (i := 11) (N := none) (bb 12 4095) HT_ fun K hK => ?_
 have hs12 := bc BK667 0 (.bool false)
 have hfs12 := blk_frozen BK667.out 0
 have hns12_0 := NB665_667.out
 have hns12_1 := NB666_667.out
 have hms12_0 := NB667_665.out
 have hms12_1 := NB667_666.out
 have hs14 := bc BK667 1 (.slice none 0 0)
 have hfs14 := blk_frozen BK667.out 1
 have hns14_0 := NB665_667.out
 have hns14_1 := NB666_667.out
 have hms14_0 := NB667_665.out
 have hms14_1 := NB667_666.out
 refine skip_ (w1 := ?_) (by rfl) rfl ?_ ?_
 rotate_left
 ·go_simp
  rfl
 refine hK.out _ _ ⟨((cell_far (p := ⟨gb667, _, none⟩) NB665_667.out _).trans (((cell_far (p := ⟨gb667, _, none⟩) NB665_667.out _).trans (hHeld.1)))), ((cell_far (p := ⟨gb667, _, none⟩) NB665_667.out _).trans (((cell_far (p := ⟨gb667, _, none⟩) NB665_667.out _).trans (hHeld.2.1)))), ((cell_far (p := ⟨gb667, _, none⟩) NB666_667.out _).trans (((cell_far (p := ⟨gb667, _, none⟩) NB666_667.out _).trans (hHeld.2.2.1)))), ((cell_far (p := ⟨gb667, _, none⟩) NB666_667.out _).trans (((cell_far (p := ⟨gb667, _, none⟩) NB666_667.out _).trans (hHeld.2.2.2))))⟩ (fun hHeld => ?_)
 clear hK K
 refine done_ (done_of HT_.out (by kernel_rfl)) ?_
 try go_wp2
 refine bodyPost_ret (results_cell_row rfl _ _ gb667 24 #[.bool t671, .slice Ao13 t672.length co13] (0, 0) _ rfl (tk BK667) Try.underlying24 rfl (by kernel_rfl)) rfl ?_
 exact ⟨_, by first | rfl | (simp [errW_none, errW_some] <;> rfl) | (simp [*, errW_none, errW_some] <;> rfl), by (with_reducible repeat first | apply qa | apply qn | apply qd); exact Kd.R_mono (Kd.R_far (p := ⟨gb667, 1, none⟩) (Kd.R_far (p := ⟨gb667, 0, none⟩) (Kd.R_types HO674.out BK667.out (by decide)) (fun _ hk => hk.2) (.bool t671)) (fun _ hk => hk.2) (.slice Ao13 t672.length co13)) (fun _ hk => trivial), tb HB⟩

end Go.Proofs.Ytjpnaapimnoamaa.QBigRests
