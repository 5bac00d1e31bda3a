-- written by wip/wprint, a program of this session
import Derived.Test.YtjpnaapimnoamaaQBigProductsx0
import Derived.Test.YtjpnaapimnoamaaQBigProductsx2
import Derived.Test.YtjpnaapimnoamaaQBigProductsx4
import Derived.Test.YtjpnaapimnoamaaQBigProductsx6
import Derived.Test.YtjpnaapimnoamaaQBigProductsx8
import Derived.Test.YtjpnaapimnoamaaQBigProductsx12
import Derived.Test.YtjpnaapimnoamaaQBigProductsx13
import Derived.Test.YtjpnaapimnoamaaQBigProductsx15
namespace Go.Proofs.Ytjpnaapimnoamaa.QBigProducts
open Go.RowKit Go.Proofs.YtjpnaapimnoamaaW.PrintWords Go.Proofs.YtjpnaapimnoamaaW.PrintLast Go.Proofs.YtjpnaapimnoamaaW.PrintMore
open Go.Proofs.YtjpnaapimnoamaaW.PrintWords.Kd renaming R_alloc → qa, R_drewN → qn, R_drew → qd, V_alloc → va, V_drewN → vn, V_drew → vd
open Go.Proofs.YtjpnaapimnoamaaW.PrintWords renaming below_alloc → ba, pw_below_drewN → bn, below_drew1 → bd
attribute [local go_sem] max2_int min2_int max_two min_two max_three min_three max_four min_four   -- for this text's walks alone
set_option linter.unusedVariables false
set_option linter.unusedSimpArgs false

/-! ### big_Mul: function 39 -/
def big_Mul.f (k : Nat) (a0_0 : Bool) (l0_1 : List Int) (a1_0 : Bool) (l1_1 : List Int) : Option (Bool × List Int) := (nat_Mul.f k l0_1 l1_1).bind fun t649 => ((big_norm.f k (a0_0 != a1_0) t649).bind fun bt652 => (some (bt652.1, bt652.2)))
theorem big_Mul.mono : ∀ a0 a1 a2 a3 k, LeO (big_Mul.f k a0 a1 a2 a3) (big_Mul.f (k + 1) a0 a1 a2 a3) := by
 intro a0 a1 a2 a3 k
 unfold big_Mul.f
 repeat' with_reducible first | exact big_norm.mono _ _ _ | exact nat_Mul.mono _ _ _ | exact LeO.refl _ | exact LeO.none _ | refine LeO.ite ?_ ?_ | refine LeO.bind ?_ (fun _ => ?_)
def big_Mul.T1 : Bool × List (List Nat × List Nat) := (true, [([], []), ([0], [0]), ([], []), ([2], [2]), ([1, 3], [1, 3]), ([], []), ([5], [5]), ([], []), ([7], [7]), ([6, 8], [6, 8]), ([4, 9, 9], [4, 9]), ([10, 10, 0, 1, 2, 3, 4, 5, 6, 7, 8, 9, 10], [10])])
def big_Mul.B1 : List Nat := [0, 1, 0, 4, 15, 0, 32, 0, 128, 480, 1023, 2047]
theorem big_Mul.tab1 : rtab .any (opsOf Try.f39 1) = big_Mul.T1 := by kernel_rfl
theorem big_Mul.bits1 : waitsOk big_Mul.T1.2 big_Mul.B1 = true := by kernel_rfl
set_option maxHeartbeats 8000000 in
set_option maxRecDepth 100000 in
theorem big_Mul.calls (k : Nat) (a0_0 : Bool) (A0_1 : Option Addr) (c0_1 : Nat) (l0_1 : List Int) (a1_0 : Bool) (A1_1 : Option Addr) (c1_1 : Nat) (l1_1 : List Int) (r1 : Bool) (r2 : List Int) (w : World) (hr0_1 : Kd.C (Kd.int .u32) w A0_1 l0_1.length l0_1) (hc0_1 : l0_1.length ≤ c0_1) (hr1_1 : Kd.C (Kd.int .u32) w A1_1 l1_1.length l1_1) (hc1_1 : l1_1.length ≤ c1_1) (h : big_Mul.f k a0_0 l0_1 a1_0 l1_1 = some (r1, r2)) :
  Calls Try.prog 39 #[.agg #[.bool a0_0, .slice A0_1 l0_1.length c0_1], .agg #[.bool a1_0, .slice A1_1 l1_1.length c1_1]] w fun e w' => ∃ v1_ : Value, e = .returned (.agg #[.bool r1, v1_]) ∧ Kd.R (Kd.int .u32) 87 w' w.heap.size (fun _ => True) v1_ r2 ∧ Below w.heap.size w w' := by
 have hu24 := Try.underlying24
 have HR0_1 := Aside0.mk hr0_1
 have HC0_1 := Aside0.mk hc0_1
 clear hr0_1 hc0_1
 have HR1_1 := Aside0.mk hr1_1
 have HC1_1 := Aside0.mk hc1_1
 clear hr1_1 hc1_1
 have HB := Aside0.mk (Below.refl w.heap.size w)
 have H : ((nat_Mul.f k l0_1 l1_1).bind fun t649 => ((big_norm.f k (a0_0 != a1_0) t649).bind fun bt652 => (some (bt652.1, bt652.2)))) = some (r1, r2) := h
 clear h
 replace H := bi H
 obtain ⟨t649, A30, H⟩ := H
 have A3 := Aside0.mk A30
 clear A30
 replace H := bi H
 obtain ⟨⟨t652, t653⟩, A40, H⟩ := H
 try dsimp only at H
 have A4 := Aside0.mk A40
 clear A40
 simp only [Option.some.injEq, Prod.mk.injEq] at H
 obtain ⟨rfl, rfl⟩ := H
 go_enter Try.func39, Try.ntmps39
 try go_wp2_with (first | ((with_reducible refine gate_dst (N := 2) rfl ?_); refine bx (N := 2) #[.bool a0_0, .slice A0_1 l0_1.length c0_1] 24 ?_; intro gb646 hg w5 hbox hb; have BK646 := Aside0.mk (hbox); have GW646 := bz hg HB; have GE646 := bz hg HB; replace HB := bs HB hb; clear hb hbox hg) | ((with_reducible refine gate_dst (N := 3) rfl ?_); refine bx (N := 3) #[.bool a1_0, .slice A1_1 l1_1.length c1_1] 24 ?_; intro gb647 hg w6 hbox hb; have BK647 := Aside0.mk (hbox); have GW647 := bz hg HB; have GE647 := bz hg HB; replace HB := bs HB hb; have NB646_647 := nl hg BK646; have NB647_646 := ng hg BK646; replace BK646 := kb BK646 hb; clear hb hbox hg) | ((with_reducible refine gate_dst (N := 4) rfl ?_); refine bx (N := 4) #[.bool false, .slice none 0 0] 24 ?_; intro gb648 hg w7 hbox hb; have BK648 := Aside0.mk (hbox); have GW648 := bz hg HB; have GE648 := bz hg HB; replace HB := bs HB hb; have NB646_648 := nl hg BK646; have NB648_646 := ng hg BK646; replace BK646 := kb BK646 hb; have NB647_648 := nl hg BK647; have NB648_647 := ng hg BK647; replace BK647 := kb BK647 hb; clear hb hbox hg))
 replace BK646 := Aside0.mk (blk_drew BK646.out)
 replace BK647 := Aside0.mk (blk_drew BK647.out)
 replace BK648 := Aside0.mk (blk_drew BK648.out)
 replace HB := Aside0.mk (below_drew1 HB.out)
 refine start_ (n := 12) (S := fun w' => w'.cell? ⟨gb646, 0, none⟩ = some (.bool a0_0) ∧ w'.cell? ⟨gb646, 1, none⟩ = some (.slice A0_1 l0_1.length c0_1) ∧ w'.cell? ⟨gb647, 0, none⟩ = some (.bool a1_0) ∧ w'.cell? ⟨gb647, 1, none⟩ = some (.slice A1_1 l1_1.length c1_1)) (ds := []) #[false, false, false, false, false, false, false, false, false, false, false, false] (by kernel_rfl) rfl rfl ⟨(blk_cell BK646.out 0).trans rfl, (blk_cell BK646.out 1).trans rfl, (blk_cell BK647.out 0).trans rfl, (blk_cell BK647.out 1).trans rfl⟩ (fun hHeld => ?_); refine with_tabW big_Mul.tab1 big_Mul.bits1 (fun HT_ HW_ => ?_)
 generalize w7.drew = w8 at BK646 BK647 BK648 HB hHeld ⊢
 refine pT (i := 0) (N := some 5) (bb 12 1) HT_ ?_
 refine pT (i := 2) (N := some 7) (bb 12 5) HT_ ?_
 refine pT (i := 5) (N := some 10) (bb 12 37) HT_ ?_
 refine pT (i := 7) (N := some 12) (bb 12 165) HT_ ?_
 refine tW (i := 1) (N := some 6) (bb 12 167) HT_ HW_ hHeld ?_
 refine tW (i := 3) (N := some 8) (bb 12 175) HT_ HW_ hHeld ?_
 refine pT (i := 4) (N := some 9) (bb 12 191) HT_ ?_
 refine tW (i := 6) (N := some 11) (bb 12 255) HT_ HW_ hHeld ?_
 refine tW (i := 8) (N := some 13) (bb 12 511) HT_ HW_ hHeld ?_
 refine oT (i := 9) (N := some 14) (bb 12 1023) HT_ fun K hK => ?_
 refine gS Try.func70 #[.slice A0_1 l0_1.length c0_1, .slice A1_1 l1_1.length c1_1] ?_
 with_reducible refine (nat_Mul.calls k (fun k_ => k_ < w.heap.size) _ _ l0_1 (fun k_ => k_ < w.heap.size) _ _ l1_1 t649 _ ?side1 ?side2 A3.out).mono ?_
 (case side1 => exact Kd.V_mk HC0_1.out (Kd.F_below (Kd.C_F (Kd.heap_int .u32) HR0_1.out) (tb HB)))
 (case side2 => exact Kd.V_mk HC1_1.out (Kd.F_below (Kd.C_F (Kd.heap_int .u32) HR1_1.out) (tb HB)))
 rintro e w9 ⟨v650, rfl, ho0, hb⟩
 refine ⟨_, rfl, ?_⟩
 have HO651 := Aside0.mk (Kd.V_lower (Kd.V_mono (ok' := fun k_ => k_ ≠ gb646 ∧ k_ ≠ gb647 ∧ k_ ≠ gb648) ho0 (fun k_ hk_ => ⟨Or.elim hk_ (fun hs_ => Or.elim hs_ (fun hs_ => fun e_ => Nat.not_le.2 hs_ (by rw [e_]; exact GW646.out)) (fun hs_ => fun e_ => Nat.not_le.2 hs_ (by rw [e_]; exact GW646.out))) (fun hn_ => (Kd.freshB (g := gb646) (o := .cells #[.bool a0_0, .slice A0_1 l0_1.length c0_1] 24 (0, 0)) (tk BK646) k_ hn_)), Or.elim hk_ (fun hs_ => Or.elim hs_ (fun hs_ => fun e_ => Nat.not_le.2 hs_ (by rw [e_]; exact GW647.out)) (fun hs_ => fun e_ => Nat.not_le.2 hs_ (by rw [e_]; exact GW647.out))) (fun hn_ => (Kd.freshB (g := gb647) (o := .cells #[.bool a1_0, .slice A1_1 l1_1.length c1_1] 24 (0, 0)) (tk BK647) k_ hn_)), Or.elim hk_ (fun hs_ => Or.elim hs_ (fun hs_ => fun e_ => Nat.not_le.2 hs_ (by rw [e_]; exact GW648.out)) (fun hs_ => fun e_ => Nat.not_le.2 hs_ (by rw [e_]; exact GW648.out))) (fun hn_ => (Kd.freshB (g := gb648) (o := .cells #[.bool false, .slice none 0 0] 24 (0, 0)) (tk BK648) k_ hn_))⟩)) (below_size (tb HB)))
 replace BK646 := kb BK646 hb
 replace BK647 := kb BK647 hb
 replace BK648 := kb BK648 hb
 replace HB := bs HB hb
 (try clear hb); (try clear hb2); (try clear hk); (try clear hi); (try clear ho0)
 obtain ⟨Ao10, co10, eo10⟩ := Kd.V_slice HO651.out
 (first | subst eo10 | (injection eo10 with f1_ f2_ f3_; have f4_ := f1_.symm; have f5_ := f3_.symm; clear f1_ f2_ f3_; subst f4_; subst f5_))
 refine hK.out _ _ ⟨(blk_cell BK646.out 0).trans rfl, (blk_cell BK646.out 1).trans rfl, (blk_cell BK647.out 0).trans rfl, (blk_cell BK647.out 1).trans rfl⟩ fun hHeld => nT (N := some 14) ?_
 clear hK K
 refine oT (i := 10) (N := some 15) (bb 12 2047) HT_ fun K hK => ?_
 refine gS Try.func52 #[.bool (a0_0 != a1_0), .slice Ao10 t649.length co10] ?_
 with_reducible refine (big_norm.calls k (a0_0 != a1_0) _ _ t649 t652 t653 _ ?side1 ?side2 A4.out).mono ?_
 (case side1 => exact tc (Kd.V_reads' HO651.out).2.2)
 (case side2 => exact (Kd.V_reads' HO651.out).2.1)
 rintro e w11 ⟨v654, rfl, ho0, hb⟩
 refine ⟨_, rfl, ?_⟩
 have HO655 := rl ho0 HB
 replace BK646 := kb BK646 hb
 replace BK647 := kb BK647 hb
 replace BK648 := kb BK648 hb
 replace HB := bs HB hb
 (try clear hb); (try clear hb2); (try clear hk); (try clear hi); (try clear ho0)
 obtain ⟨Ao13, co13, eo13⟩ := Kd.R_slice HO655.out
 (first | subst eo13 | (injection eo13 with f1_ f2_ f3_; have f4_ := f1_.symm; have f5_ := f3_.symm; clear f1_ f2_ f3_; subst f4_; subst f5_))
 refine hK.out _ _ ⟨(blk_cell BK646.out 0).trans rfl, (blk_cell BK646.out 1).trans rfl, (blk_cell BK647.out 0).trans rfl, (blk_cell BK647.out 1).trans rfl⟩ fun hHeld => nT (N := some 15) ?_
 clear hK K
 refine oT (i := 11) (N := none) (bb 12 4095) HT_ fun K hK => ?_
 have hs12 := bc BK648 0 (.bool false)
 have hfs12 := blk_frozen BK648.out 0
 have hns12_0 := NB646_648.out
 have hns12_1 := NB647_648.out
 have hms12_0 := NB648_646.out
 have hms12_1 := NB648_647.out
 have hs14 := bc BK648 1 (.slice none 0 0)
 have hfs14 := blk_frozen BK648.out 1
 have hns14_0 := NB646_648.out
 have hns14_1 := NB647_648.out
 have hms14_0 := NB648_646.out
 have hms14_1 := NB648_647.out
 refine skip_ (w1 := ?_) (by rfl) rfl ?_ ?_
 rotate_left
 ·go_simp
  rfl
 refine hK.out _ _ ⟨((cell_far (p := ⟨gb648, _, none⟩) NB646_648.out _).trans (((cell_far (p := ⟨gb648, _, none⟩) NB646_648.out _).trans (hHeld.1)))), ((cell_far (p := ⟨gb648, _, none⟩) NB646_648.out _).trans (((cell_far (p := ⟨gb648, _, none⟩) NB646_648.out _).trans (hHeld.2.1)))), ((cell_far (p := ⟨gb648, _, none⟩) NB647_648.out _).trans (((cell_far (p := ⟨gb648, _, none⟩) NB647_648.out _).trans (hHeld.2.2.1)))), ((cell_far (p := ⟨gb648, _, none⟩) NB647_648.out _).trans (((cell_far (p := ⟨gb648, _, none⟩) NB647_648.out _).trans (hHeld.2.2.2))))⟩ (fun hHeld => ?_)
 clear hK K
 refine done_ (done_of HT_.out (by kernel_rfl)) ?_
 try go_wp2
 refine bodyPost_ret (results_cell_row rfl _ _ gb648 24 #[.bool t652, .slice Ao13 t653.length co13] (0, 0) _ rfl (tk BK648) Try.underlying24 rfl (by kernel_rfl)) rfl ?_
 exact ⟨_, by first | rfl | (simp [errW_none, errW_some] <;> rfl) | (simp [*, errW_none, errW_some] <;> rfl), by (with_reducible repeat first | apply qa | apply qn | apply qd); exact Kd.R_mono (Kd.R_far (p := ⟨gb648, 1, none⟩) (Kd.R_far (p := ⟨gb648, 0, none⟩) (Kd.R_types HO655.out BK648.out (by decide)) (fun _ hk => hk.2) (.bool t652)) (fun _ hk => hk.2) (.slice Ao13 t653.length co13)) (fun _ hk => trivial), tb HB⟩

/-! ### whetstoneref02_Mul: function 41 -/
def whetstoneref02_Mul.f (k : Nat) (a0_0 : Bool) (l0_1 : List Int) (a1_0 : Bool) (l1_1 : List Int) : Option (Bool × List Int) := (whetstoneref01_Mul.f k l0_1 l1_1).bind fun t659 => ((whetstoneref02_Norm.f k (a0_0 != a1_0) t659).bind fun bt662 => (some (bt662.1, bt662.2)))
theorem whetstoneref02_Mul.mono : ∀ a0 a1 a2 a3 k, LeO (whetstoneref02_Mul.f k a0 a1 a2 a3) (whetstoneref02_Mul.f (k + 1) a0 a1 a2 a3) := by
 intro a0 a1 a2 a3 k
 unfold whetstoneref02_Mul.f
 repeat' with_reducible first | exact whetstoneref01_Mul.mono _ _ _ | exact whetstoneref02_Norm.mono _ _ _ | exact LeO.refl _ | exact LeO.none _ | refine LeO.ite ?_ ?_ | refine LeO.bind ?_ (fun _ => ?_)
def whetstoneref02_Mul.T1 : Bool × List (List Nat × List Nat) := (true, [([], []), ([0], [0]), ([], []), ([2], [2]), ([1, 3], [1, 3]), ([], []), ([5], [5]), ([], []), ([7], [7]), ([6, 8], [6, 8]), ([4, 9], [4, 9]), ([10, 9], [10]), ([11, 11, 0, 1, 2, 3, 4, 5, 6, 7, 8, 9, 10, 11], [11])])
def whetstoneref02_Mul.B1 : List Nat := [0, 1, 0, 4, 15, 0, 32, 0, 128, 480, 1023, 2047, 4095]
theorem whetstoneref02_Mul.tab1 : rtab .any (opsOf Try.f41 1) = whetstoneref02_Mul.T1 := by kernel_rfl
theorem whetstoneref02_Mul.bits1 : waitsOk whetstoneref02_Mul.T1.2 whetstoneref02_Mul.B1 = true := by kernel_rfl
set_option maxHeartbeats 8000000 in
set_option maxRecDepth 100000 in
theorem whetstoneref02_Mul.calls (k : Nat) (a0_0 : Bool) (A0_1 : Option Addr) (c0_1 : Nat) (l0_1 : List Int) (a1_0 : Bool) (A1_1 : Option Addr) (c1_1 : Nat) (l1_1 : List Int) (r1 : Bool) (r2 : List Int) (w : World) (hr0_1 : Kd.C (Kd.int .i64) w A0_1 l0_1.length l0_1) (hc0_1 : l0_1.length ≤ c0_1) (hr1_1 : Kd.C (Kd.int .i64) w A1_1 l1_1.length l1_1) (hc1_1 : l1_1.length ≤ c1_1) (h : whetstoneref02_Mul.f k a0_0 l0_1 a1_0 l1_1 = some (r1, r2)) :
  Calls Try.prog 41 #[.agg #[.bool a0_0, .slice A0_1 l0_1.length c0_1], .agg #[.bool a1_0, .slice A1_1 l1_1.length c1_1]] w fun e w' => ∃ v1_ : Value, e = .returned (.agg #[.bool r1, v1_]) ∧ Kd.R (Kd.int .i64) 3 w' w.heap.size (fun _ => True) v1_ r2 ∧ Below w.heap.size w w' := by
 have hu32 := Try.underlying32
 have HR0_1 := Aside0.mk hr0_1
 have HC0_1 := Aside0.mk hc0_1
 clear hr0_1 hc0_1
 have HR1_1 := Aside0.mk hr1_1
 have HC1_1 := Aside0.mk hc1_1
 clear hr1_1 hc1_1
 have HB := Aside0.mk (Below.refl w.heap.size w)
 have H : ((whetstoneref01_Mul.f k l0_1 l1_1).bind fun t659 => ((whetstoneref02_Norm.f k (a0_0 != a1_0) t659).bind fun bt662 => (some (bt662.1, bt662.2)))) = some (r1, r2) := h
 clear h
 replace H := bi H
 obtain ⟨t659, A30, H⟩ := H
 have A3 := Aside0.mk A30
 clear A30
 replace H := bi H
 obtain ⟨⟨t662, t663⟩, A40, H⟩ := H
 try dsimp only at H
 have A4 := Aside0.mk A40
 clear A40
 simp only [Option.some.injEq, Prod.mk.injEq] at H
 obtain ⟨rfl, rfl⟩ := H
 go_enter Try.func41, Try.ntmps41
 try go_wp2_with (first | ((with_reducible refine gate_dst (N := 2) rfl ?_); refine bx (N := 2) #[.bool a0_0, .slice A0_1 l0_1.length c0_1] 32 ?_; intro gb656 hg w5 hbox hb; have BK656 := Aside0.mk (hbox); have GW656 := bz hg HB; have GE656 := bz hg HB; replace HB := bs HB hb; clear hb hbox hg) | ((with_reducible refine gate_dst (N := 3) rfl ?_); refine bx (N := 3) #[.bool a1_0, .slice A1_1 l1_1.length c1_1] 32 ?_; intro gb657 hg w6 hbox hb; have BK657 := Aside0.mk (hbox); have GW657 := bz hg HB; have GE657 := bz hg HB; replace HB := bs HB hb; have NB656_657 := nl hg BK656; have NB657_656 := ng hg BK656; replace BK656 := kb BK656 hb; clear hb hbox hg) | ((with_reducible refine gate_dst (N := 4) rfl ?_); refine bx (N := 4) #[.bool false, .slice none 0 0] 32 ?_; intro gb658 hg w7 hbox hb; have BK658 := Aside0.mk (hbox); have GW658 := bz hg HB; have GE658 := bz hg HB; replace HB := bs HB hb; have NB656_658 := nl hg BK656; have NB658_656 := ng hg BK656; replace BK656 := kb BK656 hb; have NB657_658 := nl hg BK657; have NB658_657 := ng hg BK657; replace BK657 := kb BK657 hb; clear hb hbox hg))
 replace BK656 := Aside0.mk (blk_drew BK656.out)
 replace BK657 := Aside0.mk (blk_drew BK657.out)
 replace BK658 := Aside0.mk (blk_drew BK658.out)
 replace HB := Aside0.mk (below_drew1 HB.out)
 refine start_ (n := 13) (S := fun w' => w'.cell? ⟨gb656, 0, none⟩ = some (.bool a0_0) ∧ w'.cell? ⟨gb656, 1, none⟩ = some (.slice A0_1 l0_1.length c0_1) ∧ w'.cell? ⟨gb657, 0, none⟩ = some (.bool a1_0) ∧ w'.cell? ⟨gb657, 1, none⟩ = some (.slice A1_1 l1_1.length c1_1)) (ds := []) #[false, false, false, false, false, false, false, false, false, false, false, false, false] (by kernel_rfl) rfl rfl ⟨(blk_cell BK656.out 0).trans rfl, (blk_cell BK656.out 1).trans rfl, (blk_cell BK657.out 0).trans rfl, (blk_cell BK657.out 1).trans rfl⟩ (fun hHeld => ?_); refine with_tabW whetstoneref02_Mul.tab1 whetstoneref02_Mul.bits1 (fun HT_ HW_ => ?_)
 generalize w7.drew = w8 at BK656 BK657 BK658 HB hHeld ⊢
 refine pT (i := 0) (N := some 5) (bb 13 1) HT_ ?_
 refine pT (i := 2) (N := some 7) (bb 13 5) HT_ ?_
 refine pT (i := 5) (N := some 10) (bb 13 37) HT_ ?_
 refine pT (i := 7) (N := some 12) (bb 13 165) HT_ ?_
 refine tW (i := 1) (N := some 6) (bb 13 167) HT_ HW_ hHeld ?_
 refine tW (i := 3) (N := some 8) (bb 13 175) HT_ HW_ hHeld ?_
 refine pT (i := 4) (N := some 9) (bb 13 191) HT_ ?_
 refine tW (i := 6) (N := some 11) (bb 13 255) HT_ HW_ hHeld ?_
 refine tW (i := 8) (N := some 13) (bb 13 511) HT_ HW_ hHeld ?_
 refine oT (i := 9) (N := some 14) (bb 13 1023) HT_ fun K hK => ?_
 refine gS Try.func72 #[.slice A0_1 l0_1.length c0_1, .slice A1_1 l1_1.length c1_1] ?_
 with_reducible refine (whetstoneref01_Mul.calls k _ _ l0_1 _ _ l1_1 t659 _ ?side1 ?side2 ?side3 ?side4 A3.out).mono ?_
 (case side1 => exact tc (Kd.C_below HR0_1.out HB.out))
 (case side2 => exact HC0_1.out)
 (case side3 => exact tc (Kd.C_below HR1_1.out HB.out))
 (case side4 => exact HC1_1.out)
 rintro e w9 ⟨v660, rfl, ho0, hb⟩
 refine ⟨_, rfl, ?_⟩
 have HO661 := rl ho0 HB
 replace BK656 := kb BK656 hb
 replace BK657 := kb BK657 hb
 replace BK658 := kb BK658 hb
 replace HB := bs HB hb
 (try clear hb); (try clear hb2); (try clear hk); (try clear hi); (try clear ho0)
 obtain ⟨Ao10, co10, eo10⟩ := Kd.R_slice HO661.out
 (first | subst eo10 | (injection eo10 with f1_ f2_ f3_; have f4_ := f1_.symm; have f5_ := f3_.symm; clear f1_ f2_ f3_; subst f4_; subst f5_))
 refine hK.out _ _ ⟨(blk_cell BK656.out 0).trans rfl, (blk_cell BK656.out 1).trans rfl, (blk_cell BK657.out 0).trans rfl, (blk_cell BK657.out 1).trans rfl⟩ fun hHeld => nT (N := some 14) ?_
 clear hK K
 refine pT (i := 10) (N := some 15) (bb 13 2047) HT_ ?_
 refine oT (i := 11) (N := some 16) (bb 13 4095) HT_ fun K hK => ?_
 refine gS Try.func54 #[.agg #[.bool (a0_0 != a1_0), .slice Ao10 t659.length co10]] ?_
 with_reducible refine (whetstoneref02_Norm.calls k (a0_0 != a1_0) _ _ t659 t662 t663 _ ?side1 ?side2 A4.out).mono ?_
 (case side1 => exact tc (Kd.R_reads' HO661.out).2.2)
 (case side2 => exact (Kd.R_reads' HO661.out).2.1)
 rintro e w11 ⟨v664, rfl, ho0, hb⟩
 refine ⟨_, rfl, ?_⟩
 have HO665 := Aside0.mk (Kd.R_lower (Kd.R_new' ho0 (Kd.R_lt (tq HO661))) (below_size (tb HB)))
 replace BK656 := kb BK656 hb
 replace BK657 := kb BK657 hb
 replace BK658 := kb BK658 hb
 replace HB := bs HB hb
 (try clear hb); (try clear hb2); (try clear hk); (try clear hi); (try clear ho0)
 obtain ⟨Ao13, co13, eo13⟩ := Kd.R_slice HO665.out
 (first | subst eo13 | (injection eo13 with f1_ f2_ f3_; have f4_ := f1_.symm; have f5_ := f3_.symm; clear f1_ f2_ f3_; subst f4_; subst f5_))
 refine hK.out _ _ ⟨(blk_cell BK656.out 0).trans rfl, (blk_cell BK656.out 1).trans rfl, (blk_cell BK657.out 0).trans rfl, (blk_cell BK657.out 1).trans rfl⟩ fun hHeld => nT (N := some 16) ?_
 clear hK K
 refine oT (i := 12) (N := none) (bb 13 8191) HT_ fun K hK => ?_
 have hs12 := bc BK658 0 (.bool false)
 have hfs12 := blk_frozen BK658.out 0
 have hns12_0 := NB656_658.out
 have hns12_1 := NB657_658.out
 have hms12_0 := NB658_656.out
 have hms12_1 := NB658_657.out
 have hs14 := bc BK658 1 (.slice none 0 0)
 have hfs14 := blk_frozen BK658.out 1
 have hns14_0 := NB656_658.out
 have hns14_1 := NB657_658.out
 have hms14_0 := NB658_656.out
 have hms14_1 := NB658_657.out
 refine skip_ (w1 := ?_) (by rfl) rfl ?_ ?_
 rotate_left
 ·go_simp
  rfl
 refine hK.out _ _ ⟨((cell_far (p := ⟨gb658, _, none⟩) NB656_658.out _).trans (((cell_far (p := ⟨gb658, _, none⟩) NB656_658.out _).trans (hHeld.1)))), ((cell_far (p := ⟨gb658, _, none⟩) NB656_658.out _).trans (((cell_far (p := ⟨gb658, _, none⟩) NB656_658.out _).trans (hHeld.2.1)))), ((cell_far (p := ⟨gb658, _, none⟩) NB657_658.out _).trans (((cell_far (p := ⟨gb658, _, none⟩) NB657_658.out _).trans (hHeld.2.2.1)))), ((cell_far (p := ⟨gb658, _, none⟩) NB657_658.out _).trans (((cell_far (p := ⟨gb658, _, none⟩) NB657_658.out _).trans (hHeld.2.2.2))))⟩ (fun hHeld => ?_)
 clear hK K
 refine done_ (done_of HT_.out (by kernel_rfl)) ?_
 try go_wp2
 refine bodyPost_ret (results_cell_row rfl _ _ gb658 32 #[.bool t662, .slice Ao13 t663.length co13] (0, 0) _ rfl (tk BK658) Try.underlying32 rfl (by kernel_rfl)) rfl ?_
 exact ⟨_, by first | rfl | (simp [errW_none, errW_some] <;> rfl) | (simp [*, errW_none, errW_some] <;> rfl), by (with_reducible repeat first | apply qa | apply qn | apply qd); exact Kd.R_mono (Kd.R_far (p := ⟨gb658, 1, none⟩) (Kd.R_far (p := ⟨gb658, 0, none⟩) (Kd.R_types HO665.out BK658.out (by decide)) (fun _ hk => hk.2) (.bool t662)) (fun _ hk => hk.2) (.slice Ao13 t663.length co13)) (fun _ hk => trivial), tb HB⟩

/-! ### nat_Gcd: function 73 -/
def nat_Gcd.l0 : Nat → List Int → List Int → Option (List Int)
 | 0, _, _ => none
 | k + 1, x, y => if (y.length : Int) > 0 then ((nat_DivMod.f k x y).bind fun t => (nat_Gcd.l0 k y t.2.1)) else (some x)
def nat_Gcd.f (k : Nat) (l0 : List Int) (l1 : List Int) : Option (List Int) := (nat_Norm.f k l0).bind fun x => ((nat_Norm.f k l1).bind fun y => (nat_Gcd.l0 k x y))
theorem nat_Gcd.mono_l : ∀ k y0 y1, LeO (nat_Gcd.l0 k y0 y1) (nat_Gcd.l0 (k + 1) y0 y1)
 | 0, _, _ => fun r h => by simp [nat_Gcd.l0] at h
 | k + 1, y0, y1 => by
  have ih0 := nat_Gcd.mono_l k
  unfold nat_Gcd.l0
  exact LeO.ite (LeO.bind (nat_DivMod.mono _ _ _) (fun _ => ih0 _ _)) (LeO.refl _)
theorem nat_Gcd.mono : ∀ a0 a1 k, LeO (nat_Gcd.f k a0 a1) (nat_Gcd.f (k + 1) a0 a1) := by
 intro a0 a1 k
 unfold nat_Gcd.f
 exact LeO.bind (nat_Norm.mono _ _) (fun _ => LeO.bind (nat_Norm.mono _ _) (fun _ => nat_Gcd.mono_l _ _ _))
set_option maxHeartbeats 8000000 in
set_option maxRecDepth 100000 in
theorem nat_Gcd.calls (k : Nat) (A0 : Option Addr) (c0 : Nat) (l0 : List Int) (A1 : Option Addr) (c1 : Nat) (l1 : List Int) (r : List Int) (w : World) (hr0 : Kd.C (Kd.int .u32) w A0 l0.length l0) (hc0 : l0.length ≤ c0) (hr1 : Kd.C (Kd.int .u32) w A1 l1.length l1) (hc1 : l1.length ≤ c1) (h : nat_Gcd.f k l0 l1 = some r) :
  Calls Try.prog 73 #[.slice A0 l0.length c0, .slice A1 l1.length c1] w fun e w' => ∃ v0_ : Value, e = .returned (v0_) ∧ Kd.V (Kd.int .u32) 87 w' w.heap.size (fun k_ => w.heap.size ≤ k_) v0_ r ∧ Below w.heap.size w w' := by
 have HR0 := Aside0.mk hr0
 have HC0 := Aside0.mk hc0
 clear hr0 hc0
 have HR1 := Aside0.mk hr1
 have HC1 := Aside0.mk hc1
 clear hr1 hc1
 have HB := Aside0.mk (Below.refl w.heap.size w)
 have H : ((nat_Norm.f k l0).bind fun t423 => ((nat_Norm.f k l1).bind fun t426 => (nat_Gcd.l0 k t423 t426))) = some r := h
 clear h
 replace H := bi H
 obtain ⟨t423, A30, H⟩ := H
 have A3 := Aside0.mk A30
 clear A30
 replace H := bi H
 obtain ⟨t426, A40, H⟩ := H
 have A4 := Aside0.mk A40
 clear A40
 have H' := Aside0.mk H
 clear H
 go_enter Try.func73, Try.ntmps73
 go_wp2_with (first | ((with_reducible refine gate_callee (f := 75) rfl ?_); refine gL (N := some 11) Try.func75 #[.slice A0 l0.length c0] ?_; (with_reducible refine (nat_Norm.calls k _ _ l0 t423 _ ?side1 ?side2 A3.out).mono ?_); (case side1 => repeat (first | exact HR0.out | (with_reducible refine Kd.C_alloc ?_ _) | (with_reducible refine Kd.C_drewN ?_ _) | (with_reducible refine Kd.C_drew ?_))); (case side2 => exact HC0.out); rintro e w5 ⟨v424, rfl, ho0, hb⟩; refine ⟨_, rfl, ?_⟩; have HO425 := Aside0.mk (Kd.V_mono (Kd.R_V (base' := w.heap.size) (Kd.R_newM (M := fun k_ => w.heap.size ≤ k_) ho0 (below_size (tb HB)) (fun k_ h_ => h_))) (fun k_ h_ => h_.1)); replace HB := bs HB hb; clear hb ho0; obtain ⟨Ao5, co5, eo5⟩ := Kd.V_slice HO425.out; subst eo5) | ((with_reducible refine gate_callee (f := 75) rfl ?_); refine gL (N := some 13) Try.func75 #[.slice A1 l1.length c1] ?_; (with_reducible refine (nat_Norm.calls k _ _ l1 t426 _ ?side1 ?side2 A4.out).mono ?_); (case side1 => exact tc (Kd.C_below HR1.out HB.out)); (case side2 => exact HC1.out); rintro e w6 ⟨v427, rfl, ho0, hb⟩; refine ⟨_, rfl, ?_⟩; have HO428 := Aside0.mk (Kd.V_mono (Kd.R_V (base' := w.heap.size) (Kd.R_newM (M := fun k_ => w.heap.size ≤ k_) ho0 (below_size (tb HB)) (fun k_ h_ => h_))) (fun k_ h_ => h_.1)); replace HO425 := vb HO425 hb; replace HB := bs HB hb; clear hb ho0; obtain ⟨Ao6, co6, eo6⟩ := Kd.V_slice HO428.out; subst eo6))
 go_loopg [5, 6] k (fun kq v5 v6 w' => ∃ (x5_1 : List Int) (x6_1 : List Int), Aside0 (nat_Gcd.l0 kq x5_1 x6_1 = some r) ∧ Aside0 (kq ≤ k) ∧ Aside0 (Kd.V (Kd.int .u32) 87 w' w.heap.size (fun k_ => w.heap.size ≤ k_) v5 x5_1) ∧ Aside0 (Kd.V (Kd.int .u32) 87 w' w.heap.size (fun k_ => w.heap.size ≤ k_) v6 x6_1) ∧ Aside0 (Below w.heap.size w w'))
 case atStart => exact ⟨(t423), (t426), H', ⟨Nat.le_refl _⟩, ⟨tv HO425⟩, ⟨tv HO428⟩, ⟨tb HB⟩⟩
 case round =>
  clear H'
  obtain ⟨x5_1, x6_1, HA, HK1, HO_5, HO_6, HB⟩ := hrel
  cases gk with
  | zero => exact absurd HA.out (by simp [nat_Gcd.l0])
  | succ k1 =>
   have H := HA.out
   clear HA
   simp only [nat_Gcd.l0] at H
   by_cases c7 : (x6_1.length : Int) > 0
   ·rw [if_pos c7] at H
    have c7b0 : decide (0 < (x6_1.length : Int)) = true := decide_eq_true c7
    have c7b1 : decide (0 < x6_1.length) = true := decide_eq_true (by omega)
    clear c7
    replace H := bi H
    obtain ⟨⟨t429, t430, t431⟩, A80, H⟩ := H
    try dsimp only at H
    have A8 := Aside0.mk A80
    clear A80
    have H' := Aside0.mk H
    clear H
    obtain ⟨Ao9, co9, eo9⟩ := Kd.V_slice HO_6.out
    subst eo9
    obtain ⟨Ao10, co10, eo10⟩ := Kd.V_slice HO_5.out
    subst eo10
    go_wp2_with (first | ((with_reducible refine gate_callee (f := 67) rfl ?_); refine gL (N := some 20) Try.func67 #[.slice Ao10 x5_1.length co10, .slice Ao9 x6_1.length co9] ?_; (with_reducible refine (nat_DivMod.calls k1 (fun k_ => w.heap.size ≤ k_) _ _ x5_1 (fun k_ => w.heap.size ≤ k_) _ _ x6_1 t429 t430 t431 _ ?side1 ?side2 A8.out).mono ?_); (case side1 => (with_reducible repeat first | apply va | apply vn | apply vd); exact HO_5.out); (case side2 => (with_reducible repeat first | apply va | apply vn | apply vd); exact HO_6.out); rintro e w11 ⟨v431, v433, rfl, ho0, ho1, hb⟩; refine ⟨_, rfl, ?_⟩; have hsz := below_size (show Below w.heap.size w _ from (tb HB)); have n0_ := vb HO_5 hb; have n1_ := vb HO_6 hb; have n2_ := Aside0.mk (Kd.V_lower (Kd.V_mono (ok' := fun k_ => w.heap.size ≤ k_) ho1 (fun k_ h_ => h_.elim (fun h2_ => h2_.elim (fun h3_ => h3_) (fun h3_ => h3_)) (fun h2_ => Nat.le_trans hsz h2_))) hsz); have n3_ := bs HB hb; clear HO_5 HO_6 HB hsz; have HO_5 := n0_; have HO_6 := n1_; have HO434 := n2_; have HB := n3_; clear n0_ n1_ n2_ n3_; clear hb ho0 ho1; obtain ⟨Ao11, co11, eo11⟩ := Kd.V_slice HO434.out; subst eo11))
    go_roundg k1
    case measure => have := HK1.out; omega
    case rel => exact ⟨(x6_1), (t430), H', ⟨by have := HK1.out; omega⟩, ⟨tv HO_6⟩, ⟨tv HO434⟩, ⟨tb HB⟩⟩
   ·rw [if_neg c7] at H
    have c7b0 : decide (0 < (x6_1.length : Int)) = false := decide_eq_false c7
    have c7b1 : decide (0 < x6_1.length) = false := decide_eq_false (by omega)
    clear c7
    obtain rfl := Option.some.inj H
    obtain ⟨Ao12, co12, eo12⟩ := Kd.V_slice HO_6.out
    subst eo12
    obtain ⟨Ao13, co13, eo13⟩ := Kd.V_slice HO_5.out
    subst eo13
    go_wp2
    go_ret
    exact ⟨_, by first | rfl | (simp [errW_none, errW_some] <;> rfl) | (simp [*, errW_none, errW_some] <;> rfl), tv HO_5, tb HB⟩

/-! ### big_Gcd: function 42 -/
def big_Gcd.f (k : Nat) (a0_0 : Bool) (l0_1 : List Int) (a1_0 : Bool) (l1_1 : List Int) : Option (Bool × List Int) := (nat_Gcd.f k l0_1 l1_1).bind fun t669 => ((big_norm.f k false t669).bind fun bt672 => (some (bt672.1, bt672.2)))
theorem big_Gcd.mono : ∀ a0 a1 a2 a3 k, LeO (big_Gcd.f k a0 a1 a2 a3) (big_Gcd.f (k + 1) a0 a1 a2 a3) := by
 intro a0 a1 a2 a3 k
 unfold big_Gcd.f
 repeat' with_reducible first | exact big_norm.mono _ _ _ | exact nat_Gcd.mono _ _ _ | exact LeO.refl _ | exact LeO.none _ | refine LeO.ite ?_ ?_ | refine LeO.bind ?_ (fun _ => ?_)
set_option maxHeartbeats 8000000 in
set_option maxRecDepth 100000 in
theorem big_Gcd.calls (k : Nat) (a0_0 : Bool) (A0_1 : Option Addr) (c0_1 : Nat) (l0_1 : List Int) (a1_0 : Bool) (A1_1 : Option Addr) (c1_1 : Nat) (l1_1 : List Int) (r1 : Bool) (r2 : List Int) (w : World) (hr0_1 : Kd.C (Kd.int .u32) w A0_1 l0_1.length l0_1) (hc0_1 : l0_1.length ≤ c0_1) (hr1_1 : Kd.C (Kd.int .u32) w A1_1 l1_1.length l1_1) (hc1_1 : l1_1.length ≤ c1_1) (h : big_Gcd.f k a0_0 l0_1 a1_0 l1_1 = some (r1, r2)) :
  Calls Try.prog 42 #[.agg #[.bool a0_0, .slice A0_1 l0_1.length c0_1], .agg #[.bool a1_0, .slice A1_1 l1_1.length c1_1]] w fun e w' => ∃ v1_ : Value, e = .returned (.agg #[.bool r1, v1_]) ∧ Kd.R (Kd.int .u32) 87 w' w.heap.size (fun _ => True) v1_ r2 ∧ Below w.heap.size w w' := by
 have hu24 := Try.underlying24
 have HR0_1 := Aside0.mk hr0_1
 have HC0_1 := Aside0.mk hc0_1
 clear hr0_1 hc0_1
 have HR1_1 := Aside0.mk hr1_1
 have HC1_1 := Aside0.mk hc1_1
 clear hr1_1 hc1_1
 have HB := Aside0.mk (Below.refl w.heap.size w)
 have H : ((nat_Gcd.f k l0_1 l1_1).bind fun t669 => ((big_norm.f k false t669).bind fun bt672 => (some (bt672.1, bt672.2)))) = some (r1, r2) := h
 clear h
 replace H := bi H
 obtain ⟨t669, A30, H⟩ := H
 have A3 := Aside0.mk A30
 clear A30
 replace H := bi H
 obtain ⟨⟨t672, t673⟩, A40, H⟩ := H
 try dsimp only at H
 have A4 := Aside0.mk A40
 clear A40
 simp only [Option.some.injEq, Prod.mk.injEq] at H
 obtain ⟨rfl, rfl⟩ := H
 go_enter Try.func42, Try.ntmps42
 go_wp2_with (first | ((with_reducible refine gate_dst (N := 2) rfl ?_); refine bx (N := 2) #[.bool a0_0, .slice A0_1 l0_1.length c0_1] 24 ?_; intro gb666 hg w5 hbox hb; have BK666 := Aside0.mk (hbox); have GW666 := bz hg HB; have GE666 := bz hg HB; replace HB := bs HB hb; clear hb hbox hg) | ((with_reducible refine gate_dst (N := 3) rfl ?_); refine bx (N := 3) #[.bool a1_0, .slice A1_1 l1_1.length c1_1] 24 ?_; intro gb667 hg w6 hbox hb; have BK667 := Aside0.mk (hbox); have GW667 := bz hg HB; have GE667 := bz hg HB; replace HB := bs HB hb; have NB666_667 := nl hg BK666; have NB667_666 := ng hg BK666; replace BK666 := kb BK666 hb; clear hb hbox hg) | ((with_reducible refine gate_dst (N := 4) rfl ?_); refine bx (N := 4) #[.bool false, .slice none 0 0] 24 ?_; intro gb668 hg w7 hbox hb; have BK668 := Aside0.mk (hbox); have GW668 := bz hg HB; have GE668 := bz hg HB; replace HB := bs HB hb; have NB666_668 := nl hg BK666; have NB668_666 := ng hg BK666; replace BK666 := kb BK666 hb; have NB667_668 := nl hg BK667; have NB668_667 := ng hg BK667; replace BK667 := kb BK667 hb; clear hb hbox hg; have hnb8 := NB666_667.out; have hnc8 := NB667_666.out; have hnb9 := NB666_668.out; have hnc9 := NB668_666.out; have hcz10_0 := bc BK666 0 (.bool a0_0); have hcz10_1 := bc BK666 1 (.slice A0_1 l0_1.length c0_1); have hfz10_0 := blk_frozen BK666.out 0; have hfz10_1 := blk_frozen BK666.out 1; have hnb11 := NB667_668.out; have hnc11 := NB668_667.out; have hcz12_0 := bc BK667 0 (.bool a1_0); have hcz12_1 := bc BK667 1 (.slice A1_1 l1_1.length c1_1); have hfz12_0 := blk_frozen BK667.out 0; have hfz12_1 := blk_frozen BK667.out 1) | ((with_reducible refine gate_callee (f := 73) rfl ?_); refine gL (N := some 9) Try.func73 #[.slice A0_1 l0_1.length c0_1, .slice A1_1 l1_1.length c1_1] ?_; (with_reducible refine (nat_Gcd.calls k _ _ l0_1 _ _ l1_1 t669 _ ?side1 ?side2 ?side3 ?side4 A3.out).mono ?_); (case side1 => exact tc (Kd.C_below HR0_1.out HB.out)); (case side2 => exact HC0_1.out); (case side3 => exact tc (Kd.C_below HR1_1.out HB.out)); (case side4 => exact HC1_1.out); rintro e w13 ⟨v670, rfl, ho0, hb⟩; refine ⟨_, rfl, ?_⟩; have HO671 := Aside0.mk (Kd.V_lower (Kd.V_mono (ok' := fun k_ => k_ ≠ gb666 ∧ k_ ≠ gb667 ∧ k_ ≠ gb668) ho0 (fun k_ hk_ => ⟨(Kd.freshB (g := gb666) (o := .cells #[.bool a0_0, .slice A0_1 l0_1.length c0_1] 24 (0, 0)) (tk BK666) k_ hk_), (Kd.freshB (g := gb667) (o := .cells #[.bool a1_0, .slice A1_1 l1_1.length c1_1] 24 (0, 0)) (tk BK667) k_ hk_), (Kd.freshB (g := gb668) (o := .cells #[.bool false, .slice none 0 0] 24 (0, 0)) (tk BK668) k_ hk_)⟩)) (below_size (tb HB))); replace BK668 := kb BK668 hb; replace HB := bs HB hb; (try clear hb); (try clear hb2); (try clear hk); (try clear hi); (try clear ho0); obtain ⟨Ao14, co14, eo14⟩ := Kd.V_slice HO671.out; subst eo14) | ((with_reducible refine gate_callee (f := 52) rfl ?_); refine gL (N := some 10) Try.func52 #[.bool false, .slice Ao14 t669.length co14] ?_; (with_reducible refine (big_norm.calls k false _ _ t669 t672 t673 _ ?side1 ?side2 A4.out).mono ?_); (case side1 => exact tc (Kd.V_reads' HO671.out).2.2); (case side2 => exact (Kd.V_reads' HO671.out).2.1); rintro e w15 ⟨v674, rfl, ho0, hb⟩; refine ⟨_, rfl, ?_⟩; have HO675 := rl ho0 HB; replace BK668 := kb BK668 hb; replace HB := bs HB hb; (try clear hb); (try clear hb2); (try clear hk); (try clear hi); (try clear ho0); have hcz16_0 := bc BK668 0 (.bool false); have hcz16_1 := bc BK668 1 (.slice none 0 0); have hfz16_0 := blk_frozen BK668.out 0; have hfz16_1 := blk_frozen BK668.out 1; obtain ⟨Ao17, co17, eo17⟩ := Kd.R_slice HO675.out; subst eo17))
 refine bodyPost_ret (results_cell_row rfl _ _ gb668 24 #[.bool t672, .slice Ao17 t673.length co17] (0, 0) _ rfl (tk BK668) Try.underlying24 rfl (by kernel_rfl)) rfl ?_
 exact ⟨_, by first | rfl | (simp [errW_none, errW_some] <;> rfl) | (simp [*, errW_none, errW_some] <;> rfl), by (with_reducible repeat first | apply qa | apply qn | apply qd); exact Kd.R_mono (Kd.R_far (p := ⟨gb668, 1, none⟩) (Kd.R_far (p := ⟨gb668, 0, none⟩) (Kd.R_types HO675.out BK668.out (by decide)) (fun _ hk => hk.2) (.bool t672)) (fun _ hk => hk.2) (.slice Ao17 t673.length co17)) (fun _ hk => trivial), tb HB⟩

/-! ### whetstoneref01_Gcd: function 74 -/
def whetstoneref01_Gcd.l0 : Nat → List Int → List Int → Option (List Int)
 | 0, _, _ => none
 | k + 1, x5, x6 => if (x6.length : Int) > 0 then ((whetstoneref01_DivMod.f k x5 x6).bind fun bt682 => (whetstoneref01_Gcd.l0 k x6 bt682.2)) else (some x5)
def whetstoneref01_Gcd.f (k : Nat) (l0 : List Int) (l1 : List Int) : Option (List Int) := (whetstoneref01_Trim.f k l0).bind fun t676 => ((whetstoneref01_Trim.f k l1).bind fun t679 => (whetstoneref01_Gcd.l0 k t676 t679))
theorem whetstoneref01_Gcd.mono_l : ∀ k, (∀ y0 y1, LeO (whetstoneref01_Gcd.l0 k y0 y1) (whetstoneref01_Gcd.l0 (k + 1) y0 y1))
 | 0 => fun _ _ r h => by simp [whetstoneref01_Gcd.l0] at h
 | k + 1 => by
  have ih0 := whetstoneref01_Gcd.mono_l k
  ·intro y0 y1
   unfold whetstoneref01_Gcd.l0
   repeat' with_reducible first | exact ih0 _ _ | exact whetstoneref01_DivMod.mono _ _ _ | exact whetstoneref01_Trim.mono _ _ | exact LeO.refl _ | exact LeO.none _ | refine LeO.ite ?_ ?_ | refine LeO.bind ?_ (fun _ => ?_)
theorem whetstoneref01_Gcd.mono : ∀ a0 a1 k, LeO (whetstoneref01_Gcd.f k a0 a1) (whetstoneref01_Gcd.f (k + 1) a0 a1) := by
 intro a0 a1 k
 have ih0 := whetstoneref01_Gcd.mono_l k
 unfold whetstoneref01_Gcd.f
 repeat' with_reducible first | exact ih0 _ _ | exact whetstoneref01_DivMod.mono _ _ _ | exact whetstoneref01_Trim.mono _ _ | exact LeO.refl _ | exact LeO.none _ | refine LeO.ite ?_ ?_ | refine LeO.bind ?_ (fun _ => ?_)
set_option maxHeartbeats 8000000 in
set_option maxRecDepth 100000 in
theorem whetstoneref01_Gcd.calls (k : Nat) (A0 : Option Addr) (c0 : Nat) (l0 : List Int) (A1 : Option Addr) (c1 : Nat) (l1 : List Int) (r : List Int) (w : World) (hr0 : Kd.C (Kd.int .i64) w A0 l0.length l0) (hc0 : l0.length ≤ c0) (hr1 : Kd.C (Kd.int .i64) w A1 l1.length l1) (hc1 : l1.length ≤ c1) (h : whetstoneref01_Gcd.f k l0 l1 = some r) :
  Calls Try.prog 74 #[.slice A0 l0.length c0, .slice A1 l1.length c1] w fun e w' => ∃ v0_ : Value, e = .returned (v0_) ∧ Kd.R (Kd.int .i64) 3 w' w.heap.size (fun _ => True) v0_ r ∧ Below w.heap.size w w' := by
 have HR0 := Aside0.mk hr0
 have HC0 := Aside0.mk hc0
 clear hr0 hc0
 have HR1 := Aside0.mk hr1
 have HC1 := Aside0.mk hc1
 clear hr1 hc1
 have HB := Aside0.mk (Below.refl w.heap.size w)
 have H : ((whetstoneref01_Trim.f k l0).bind fun t676 => ((whetstoneref01_Trim.f k l1).bind fun t679 => (whetstoneref01_Gcd.l0 k t676 t679))) = some r := h
 clear h
 replace H := bi H
 obtain ⟨t676, A30, H⟩ := H
 have A3 := Aside0.mk A30
 clear A30
 replace H := bi H
 obtain ⟨t679, A40, H⟩ := H
 have A4 := Aside0.mk A40
 clear A40
 have H' := Aside0.mk H
 clear H
 go_enter Try.func74, Try.ntmps74
 go_wp2_with (first | ((with_reducible refine gate_callee (f := 69) rfl ?_); refine gL (N := some 10) Try.func69 #[.slice A0 l0.length c0] ?_; (with_reducible refine (whetstoneref01_Trim.calls k _ _ l0 t676 _ ?side1 ?side2 A3.out).mono ?_); (case side1 => repeat (first | exact HR0.out | (with_reducible refine Kd.C_alloc ?_ _) | (with_reducible refine Kd.C_drewN ?_ _) | (with_reducible refine Kd.C_drew ?_))); (case side2 => exact HC0.out); rintro e w5 ⟨v677, rfl, ho0, hb⟩; refine ⟨_, rfl, ?_⟩; have HO678 := rl ho0 HB; replace HB := bs HB hb; (try clear hb); (try clear hb2); (try clear hk); (try clear hi); (try clear ho0)) | ((with_reducible refine gate_callee (f := 69) rfl ?_); refine gL (N := some 12) Try.func69 #[.slice A1 l1.length c1] ?_; (with_reducible refine (whetstoneref01_Trim.calls k _ _ l1 t679 _ ?side1 ?side2 A4.out).mono ?_); (case side1 => exact tc (Kd.C_below HR1.out HB.out)); (case side2 => exact HC1.out); rintro e w6 ⟨v680, rfl, ho0, hb⟩; refine ⟨_, rfl, ?_⟩; have HO681 := Aside0.mk (Kd.R_lower (Kd.R_new' ho0 (Kd.R_lt (tq HO678))) (below_size (tb HB))); replace HO678 := re HO678 (Kd.R_base ho0) hb; replace HB := bs HB hb; (try clear hb); (try clear hb2); (try clear hk); (try clear hi); (try clear ho0)))
 go_loopg [5, 6] k (fun kq v5 v6 w' => ∃ (x5_1 : List Int) (x6_1 : List Int), Aside0 (whetstoneref01_Gcd.l0 kq x5_1 x6_1 = some r) ∧ Aside0 (kq ≤ k) ∧ Aside0 (Kd.R (Kd.int .i64) 3 w' w.heap.size (fun k_ => some k_ ≠ (v6 : Value).ownBlock) v5 x5_1) ∧ Aside0 (Kd.R (Kd.int .i64) 3 w' w.heap.size (fun k_ => some k_ ≠ (v5 : Value).ownBlock) v6 x6_1) ∧ Aside0 (Below w.heap.size w w'))
 case atStart => exact ⟨(t676), (t679), H', ⟨Nat.le_refl _⟩, ⟨by (with_reducible repeat first | apply qa | apply qn | apply qd); exact Kd.R_mono HO678.out (fun _ hk => hk.2)⟩, ⟨by (with_reducible repeat first | apply qa | apply qn | apply qd); exact Kd.R_mono HO681.out (fun _ hk => hk.2)⟩, ⟨tb HB⟩⟩
 case round =>
  clear H'
  (try clear c1); (try clear p2); (try clear c6)
  obtain ⟨x5_1, x6_1, HA, HK1, HO_5, HO_6, HB⟩ := hrel
  cases gk with
  | zero => exact absurd HA.out (by simp [whetstoneref01_Gcd.l0])
  | succ k1 =>
   have H := HA.out
   clear HA
   simp only [whetstoneref01_Gcd.l0] at H
   by_cases c7 : (x6_1.length : Int) > 0
   ·rw [if_pos c7] at H
    have c7b0 : decide (0 < (x6_1.length : Int)) = true := decide_eq_true c7
    have c7b1 : decide (0 < x6_1.length) = true := decide_eq_true (by omega)
    clear c7
    replace H := bi H
    obtain ⟨⟨t682, t683⟩, A80, H⟩ := H
    try dsimp only at H
    have A8 := Aside0.mk A80
    clear A80
    have H' := Aside0.mk H
    clear H
    obtain ⟨Ao9, co9, eo9⟩ := Kd.R_slice HO_6.out
    subst eo9
    obtain ⟨Ao10, co10, eo10⟩ := Kd.R_slice HO_5.out
    subst eo10
    go_wp2_with (first | ((with_reducible refine gate_callee (f := 68) rfl ?_); refine gL (N := some 19) Try.func68 #[.slice Ao10 x5_1.length co10, .slice Ao9 x6_1.length co9] ?_; (with_reducible refine (whetstoneref01_DivMod.calls k1 _ _ x5_1 _ _ x6_1 t682 t683 _ ?side1 ?side2 ?side3 ?side4 A8.out).mono ?_); (case side1 => exact tc (Kd.R_reads' HO_5.out).2.2); (case side2 => exact (Kd.R_reads' HO_5.out).2.1); (case side3 => exact tc (Kd.R_reads' HO_6.out).2.2); (case side4 => exact (Kd.R_reads' HO_6.out).2.1); rintro e w11 ⟨v684, v686, rfl, ho0, ho1, hb⟩; refine ⟨_, rfl, ?_⟩; have HO687 := Aside0.mk (Kd.R_lower (Kd.R_new' (Kd.R_new' ho1 (Kd.R_lt (tq HO_5))) (Kd.R_lt (tq HO_6))) (below_size (tb HB))); replace HO_6 := Aside0.mk (Kd.R_mono (Kd.R_told (Kd.R_told (Kd.R_old (tq HO_6) hb) (Kd.R_base ho0)) (Kd.R_base ho1)) (fun _ h_ => h_.1)); replace HB := bs HB hb; (try clear hb); (try clear hb2); (try clear hk); (try clear hi); (try clear ho0); (try clear ho1)))
    go_roundg k1
    case measure => have := HK1.out; omega
    case rel => exact ⟨(x6_1), (t683), H', ⟨by have := HK1.out; omega⟩, ⟨by (with_reducible repeat first | apply qa | apply qn | apply qd); exact Kd.R_mono HO_6.out (fun _ hk => hk.2)⟩, ⟨by (with_reducible repeat first | apply qa | apply qn | apply qd); exact Kd.R_mono HO687.out (fun _ hk => hk.2)⟩, ⟨tb HB⟩⟩
   ·rw [if_neg c7] at H
    have c7b0 : decide (0 < (x6_1.length : Int)) = false := decide_eq_false c7
    have c7b1 : decide (0 < x6_1.length) = false := decide_eq_false (by omega)
    clear c7
    obtain rfl := Option.some.inj H
    obtain ⟨Ao12, co12, eo12⟩ := Kd.R_slice HO_6.out
    subst eo12
    go_wp2
    go_ret
    exact ⟨_, by first | rfl | (simp [errW_none, errW_some] <;> rfl) | (simp [*, errW_none, errW_some] <;> rfl), by (with_reducible repeat first | apply qa | apply qn | apply qd); exact Kd.R_mono HO_5.out (fun _ hk => trivial), tb HB⟩

/-! ### whetstoneref02_Gcd: function 43 -/
def whetstoneref02_Gcd.f (k : Nat) (a0_0 : Bool) (l0_1 : List Int) (a1_0 : Bool) (l1_1 : List Int) : Option (Bool × List Int) := (whetstoneref01_Gcd.f k l0_1 l1_1).bind fun t691 => ((whetstoneref02_Norm.f k false t691).bind fun bt694 => (some (bt694.1, bt694.2)))
theorem whetstoneref02_Gcd.mono : ∀ a0 a1 a2 a3 k, LeO (whetstoneref02_Gcd.f k a0 a1 a2 a3) (whetstoneref02_Gcd.f (k + 1) a0 a1 a2 a3) := by
 intro a0 a1 a2 a3 k
 unfold whetstoneref02_Gcd.f
 repeat' with_reducible first | exact whetstoneref01_Gcd.mono _ _ _ | exact whetstoneref02_Norm.mono _ _ _ | exact LeO.refl _ | exact LeO.none _ | refine LeO.ite ?_ ?_ | refine LeO.bind ?_ (fun _ => ?_)
set_option maxHeartbeats 8000000 in
set_option maxRecDepth 100000 in
theorem whetstoneref02_Gcd.calls (k : Nat) (a0_0 : Bool) (A0_1 : Option Addr) (c0_1 : Nat) (l0_1 : List Int) (a1_0 : Bool) (A1_1 : Option Addr) (c1_1 : Nat) (l1_1 : List Int) (r1 : Bool) (r2 : List Int) (w : World) (hr0_1 : Kd.C (Kd.int .i64) w A0_1 l0_1.length l0_1) (hc0_1 : l0_1.length ≤ c0_1) (hr1_1 : Kd.C (Kd.int .i64) w A1_1 l1_1.length l1_1) (hc1_1 : l1_1.length ≤ c1_1) (h : whetstoneref02_Gcd.f k a0_0 l0_1 a1_0 l1_1 = some (r1, r2)) :
  Calls Try.prog 43 #[.agg #[.bool a0_0, .slice A0_1 l0_1.length c0_1], .agg #[.bool a1_0, .slice A1_1 l1_1.length c1_1]] w fun e w' => ∃ v1_ : Value, e = .returned (.agg #[.bool r1, v1_]) ∧ Kd.R (Kd.int .i64) 3 w' w.heap.size (fun _ => True) v1_ r2 ∧ Below w.heap.size w w' := by
 have hu32 := Try.underlying32
 have HR0_1 := Aside0.mk hr0_1
 have HC0_1 := Aside0.mk hc0_1
 clear hr0_1 hc0_1
 have HR1_1 := Aside0.mk hr1_1
 have HC1_1 := Aside0.mk hc1_1
 clear hr1_1 hc1_1
 have HB := Aside0.mk (Below.refl w.heap.size w)
 have H : ((whetstoneref01_Gcd.f k l0_1 l1_1).bind fun t691 => ((whetstoneref02_Norm.f k false t691).bind fun bt694 => (some (bt694.1, bt694.2)))) = some (r1, r2) := h
 clear h
 replace H := bi H
 obtain ⟨t691, A30, H⟩ := H
 have A3 := Aside0.mk A30
 clear A30
 replace H := bi H
 obtain ⟨⟨t694, t695⟩, A40, H⟩ := H
 try dsimp only at H
 have A4 := Aside0.mk A40
 clear A40
 simp only [Option.some.injEq, Prod.mk.injEq] at H
 obtain ⟨rfl, rfl⟩ := H
 go_enter Try.func43, Try.ntmps43
 go_wp2_with (first | ((with_reducible refine gate_dst (N := 2) rfl ?_); refine bx (N := 2) #[.bool a0_0, .slice A0_1 l0_1.length c0_1] 32 ?_; intro gb688 hg w5 hbox hb; have BK688 := Aside0.mk (hbox); have GW688 := bz hg HB; have GE688 := bz hg HB; replace HB := bs HB hb; clear hb hbox hg) | ((with_reducible refine gate_dst (N := 3) rfl ?_); refine bx (N := 3) #[.bool a1_0, .slice A1_1 l1_1.length c1_1] 32 ?_; intro gb689 hg w6 hbox hb; have BK689 := Aside0.mk (hbox); have GW689 := bz hg HB; have GE689 := bz hg HB; replace HB := bs HB hb; have NB688_689 := nl hg BK688; have NB689_688 := ng hg BK688; replace BK688 := kb BK688 hb; clear hb hbox hg) | ((with_reducible refine gate_dst (N := 4) rfl ?_); refine bx (N := 4) #[.bool false, .slice none 0 0] 32 ?_; intro gb690 hg w7 hbox hb; have BK690 := Aside0.mk (hbox); have GW690 := bz hg HB; have GE690 := bz hg HB; replace HB := bs HB hb; have NB688_690 := nl hg BK688; have NB690_688 := ng hg BK688; replace BK688 := kb BK688 hb; have NB689_690 := nl hg BK689; have NB690_689 := ng hg BK689; replace BK689 := kb BK689 hb; clear hb hbox hg; have hnb8 := NB688_689.out; have hnc8 := NB689_688.out; have hnb9 := NB688_690.out; have hnc9 := NB690_688.out; have hcz10_0 := bc BK688 0 (.bool a0_0); have hcz10_1 := bc BK688 1 (.slice A0_1 l0_1.length c0_1); have hfz10_0 := blk_frozen BK688.out 0; have hfz10_1 := blk_frozen BK688.out 1; have hnb11 := NB689_690.out; have hnc11 := NB690_689.out; have hcz12_0 := bc BK689 0 (.bool a1_0); have hcz12_1 := bc BK689 1 (.slice A1_1 l1_1.length c1_1); have hfz12_0 := blk_frozen BK689.out 0; have hfz12_1 := blk_frozen BK689.out 1) | ((with_reducible refine gate_callee (f := 74) rfl ?_); refine gL (N := some 9) Try.func74 #[.slice A0_1 l0_1.length c0_1, .slice A1_1 l1_1.length c1_1] ?_; (with_reducible refine (whetstoneref01_Gcd.calls k _ _ l0_1 _ _ l1_1 t691 _ ?side1 ?side2 ?side3 ?side4 A3.out).mono ?_); (case side1 => exact tc (Kd.C_below HR0_1.out HB.out)); (case side2 => exact HC0_1.out); (case side3 => exact tc (Kd.C_below HR1_1.out HB.out)); (case side4 => exact HC1_1.out); rintro e w13 ⟨v692, rfl, ho0, hb⟩; refine ⟨_, rfl, ?_⟩; have HO693 := rl ho0 HB; replace BK690 := kb BK690 hb; replace HB := bs HB hb; (try clear hb); (try clear hb2); (try clear hk); (try clear hi); (try clear ho0); obtain ⟨Ao14, co14, eo14⟩ := Kd.R_slice HO693.out; subst eo14) | ((with_reducible refine gate_callee (f := 54) rfl ?_); refine gL (N := some 11) Try.func54 #[.agg #[.bool false, .slice Ao14 t691.length co14]] ?_; (with_reducible refine (whetstoneref02_Norm.calls k false _ _ t691 t694 t695 _ ?side1 ?side2 A4.out).mono ?_); (case side1 => exact tc (Kd.R_reads' HO693.out).2.2); (case side2 => exact (Kd.R_reads' HO693.out).2.1); rintro e w15 ⟨v696, rfl, ho0, hb⟩; refine ⟨_, rfl, ?_⟩; have HO697 := Aside0.mk (Kd.R_lower (Kd.R_new' ho0 (Kd.R_lt (tq HO693))) (below_size (tb HB))); replace BK690 := kb BK690 hb; replace HB := bs HB hb; (try clear hb); (try clear hb2); (try clear hk); (try clear hi); (try clear ho0); have hcz16_0 := bc BK690 0 (.bool false); have hcz16_1 := bc BK690 1 (.slice none 0 0); have hfz16_0 := blk_frozen BK690.out 0; have hfz16_1 := blk_frozen BK690.out 1; obtain ⟨Ao17, co17, eo17⟩ := Kd.R_slice HO697.out; subst eo17))
 refine bodyPost_ret (results_cell_row rfl _ _ gb690 32 #[.bool t694, .slice Ao17 t695.length co17] (0, 0) _ rfl (tk BK690) Try.underlying32 rfl (by kernel_rfl)) rfl ?_
 exact ⟨_, by first | rfl | (simp [errW_none, errW_some] <;> rfl) | (simp [*, errW_none, errW_some] <;> rfl), by (with_reducible repeat first | apply qa | apply qn | apply qd); exact Kd.R_mono (Kd.R_far (p := ⟨gb690, 1, none⟩) (Kd.R_far (p := ⟨gb690, 0, none⟩) (Kd.R_types HO697.out BK690.out (by decide)) (fun _ hk => hk.2) (.bool t694)) (fun _ hk => hk.2) (.slice Ao17 t695.length co17)) (fun _ hk => trivial), tb HB⟩

/-! ### big_Divides: function 44 -/
def big_Divides.f (k : Nat) (a0_0 : Bool) (l0_1 : List Int) (a1_0 : Bool) (l1_1 : List Int) : Option (Bool) := (big_Sign.f k a0_0 l0_1).bind fun t700 => (if t700 = 0 then ((big_Sign.f k a1_0 l1_1).bind fun t701 => (some (t701 == 0))) else ((big_DivMod.f k a1_0 l1_1 a0_0 l0_1).bind fun bt702 => ((big_Sign.f k bt702.2.2.1 bt702.2.2.2.1).bind fun t713 => (some (t713 == 0)))))
theorem big_Divides.mono : ∀ a0 a1 a2 a3 k, LeO (big_Divides.f k a0 a1 a2 a3) (big_Divides.f (k + 1) a0 a1 a2 a3) := by
 intro a0 a1 a2 a3 k
 unfold big_Divides.f
 repeat' with_reducible first | exact big_DivMod.mono _ _ _ _ _ | exact big_Sign.mono _ _ _ | exact LeO.refl _ | exact LeO.none _ | refine LeO.ite ?_ ?_ | refine LeO.bind ?_ (fun _ => ?_)
set_option maxHeartbeats 8000000 in
set_option maxRecDepth 100000 in
theorem big_Divides.calls (k : Nat) (a0_0 : Bool) (A0_1 : Option Addr) (c0_1 : Nat) (l0_1 : List Int) (a1_0 : Bool) (A1_1 : Option Addr) (c1_1 : Nat) (l1_1 : List Int) (r : Bool) (w : World) (hr0_1 : Kd.C (Kd.int .u32) w A0_1 l0_1.length l0_1) (hc0_1 : l0_1.length ≤ c0_1) (hr1_1 : Kd.C (Kd.int .u32) w A1_1 l1_1.length l1_1) (hc1_1 : l1_1.length ≤ c1_1) (h : big_Divides.f k a0_0 l0_1 a1_0 l1_1 = some r) :
  Calls Try.prog 44 #[.agg #[.bool a0_0, .slice A0_1 l0_1.length c0_1], .agg #[.bool a1_0, .slice A1_1 l1_1.length c1_1]] w fun e w' => e = .returned (.bool r) ∧ Below w.heap.size w w' := by
 have hu24 := Try.underlying24
 have HR0_1 := Aside0.mk hr0_1
 have HC0_1 := Aside0.mk hc0_1
 clear hr0_1 hc0_1
 have HR1_1 := Aside0.mk hr1_1
 have HC1_1 := Aside0.mk hc1_1
 clear hr1_1 hc1_1
 have HB := Aside0.mk (Below.refl w.heap.size w)
 have H : ((big_Sign.f k a0_0 l0_1).bind fun t700 => (if t700 = 0 then ((big_Sign.f k a1_0 l1_1).bind fun t701 => (some (t701 == 0))) else ((big_DivMod.f k a1_0 l1_1 a0_0 l0_1).bind fun bt702 => ((big_Sign.f k bt702.2.2.1 bt702.2.2.2.1).bind fun t713 => (some (t713 == 0)))))) = some r := h
 clear h
 replace H := bi H
 obtain ⟨t700, A30, H⟩ := H
 have A3 := Aside0.mk A30
 clear A30
 by_cases c4 : t700 = 0
 ·rw [if_pos c4] at H
  have c4b0 : (t700 == 0) = true := beq_iff_eq.mpr c4
  have c4b1 : (t700 != 0) = false := bne_eq_false_iff_eq.mpr c4
  clear c4
  replace H := bi H
  obtain ⟨t701, A50, H⟩ := H
  have A5 := Aside0.mk A50
  clear A50
  obtain rfl := Option.some.inj H
  go_enter Try.func44, Try.ntmps44
  go_wp2_with (first | ((with_reducible refine gate_dst (N := 2) rfl ?_); refine bx (N := 2) #[.bool a0_0, .slice A0_1 l0_1.length c0_1] 24 ?_; intro gb698 hg w6 hbox hb; have BK698 := Aside0.mk (hbox); have GW698 := bz hg HB; have GE698 := bz hg HB; replace HB := bs HB hb; clear hb hbox hg) | ((with_reducible refine gate_dst (N := 3) rfl ?_); refine bx (N := 3) #[.bool a1_0, .slice A1_1 l1_1.length c1_1] 24 ?_; intro gb699 hg w7 hbox hb; have BK699 := Aside0.mk (hbox); have GW699 := bz hg HB; have GE699 := bz hg HB; replace HB := bs HB hb; have NB698_699 := nl hg BK698; have NB699_698 := ng hg BK698; replace BK698 := kb BK698 hb; clear hb hbox hg; have hnb8 := NB698_699.out; have hnc8 := NB699_698.out; have hcz9_0 := bc BK698 0 (.bool a0_0); have hcz9_1 := bc BK698 1 (.slice A0_1 l0_1.length c0_1); have hfz9_0 := blk_frozen BK698.out 0; have hfz9_1 := blk_frozen BK698.out 1) | ((with_reducible refine gate_callee (f := 26) rfl ?_); refine gL (N := some 9) Try.func26 #[.agg #[.bool a0_0, .slice A0_1 l0_1.length c0_1]] ?_; (with_reducible refine (big_Sign.calls k a0_0 _ _ l0_1 t700 _ ?side1 ?side2 A3.out).mono ?_); (case side1 => exact tc (Kd.C_below HR0_1.out HB.out)); (case side2 => exact HC0_1.out); rintro e w10 ⟨rfl, hb⟩; refine ⟨_, rfl, ?_⟩; replace BK699 := kb BK699 hb; replace HB := bs HB hb; (try clear hb); (try clear hb2); (try clear hk); (try clear hi); have hcz11_0 := bc BK699 0 (.bool a1_0); have hcz11_1 := bc BK699 1 (.slice A1_1 l1_1.length c1_1); have hfz11_0 := blk_frozen BK699.out 0; have hfz11_1 := blk_frozen BK699.out 1) | ((with_reducible refine gate_callee (f := 26) rfl ?_); refine gL (N := some 12) Try.func26 #[.agg #[.bool a1_0, .slice A1_1 l1_1.length c1_1]] ?_; (with_reducible refine (big_Sign.calls k a1_0 _ _ l1_1 t701 _ ?side1 ?side2 A5.out).mono ?_); (case side1 => exact tc (Kd.C_below HR1_1.out HB.out)); (case side2 => exact HC1_1.out); rintro e w12 ⟨rfl, hb⟩; refine ⟨_, rfl, ?_⟩; replace HB := bs HB hb; (try clear hb); (try clear hb2); (try clear hk); (try clear hi)))
  go_ret
  exact ⟨by first | rfl | (simp [errW_none, errW_some] <;> rfl) | (simp [*, errW_none, errW_some] <;> rfl), tb HB⟩
 ·rw [if_neg c4] at H
  have c4b0 : (t700 == 0) = false := beq_eq_false_iff_ne.mpr c4
  have c4b1 : (t700 != 0) = true := bne_iff_ne.mpr c4
  replace H := bi H
  obtain ⟨⟨t702, t703, t706, t707, t710⟩, A130, H⟩ := H
  try dsimp only at H
  have A13 := Aside0.mk A130
  clear A130
  replace H := bi H
  obtain ⟨t713, A140, H⟩ := H
  have A14 := Aside0.mk A140
  clear A140
  obtain rfl := Option.some.inj H
  go_enter Try.func44, Try.ntmps44
  go_wp2_with (first | ((with_reducible refine gate_dst (N := 2) rfl ?_); refine bx (N := 2) #[.bool a0_0, .slice A0_1 l0_1.length c0_1] 24 ?_; intro gb698 hg w15 hbox hb; have BK698 := Aside0.mk (hbox); have GW698 := bz hg HB; have GE698 := bz hg HB; replace HB := bs HB hb; clear hb hbox hg) | ((with_reducible refine gate_dst (N := 3) rfl ?_); refine bx (N := 3) #[.bool a1_0, .slice A1_1 l1_1.length c1_1] 24 ?_; intro gb699 hg w16 hbox hb; have BK699 := Aside0.mk (hbox); have GW699 := bz hg HB; have GE699 := bz hg HB; replace HB := bs HB hb; have NB698_699 := nl hg BK698; have NB699_698 := ng hg BK698; replace BK698 := kb BK698 hb; clear hb hbox hg; have hnb17 := NB698_699.out; have hnc17 := NB699_698.out; have hcz18_0 := bc BK698 0 (.bool a0_0); have hcz18_1 := bc BK698 1 (.slice A0_1 l0_1.length c0_1); have hfz18_0 := blk_frozen BK698.out 0; have hfz18_1 := blk_frozen BK698.out 1) | ((with_reducible refine gate_callee (f := 26) rfl ?_); refine gL (N := some 9) Try.func26 #[.agg #[.bool a0_0, .slice A0_1 l0_1.length c0_1]] ?_; (with_reducible refine (big_Sign.calls k a0_0 _ _ l0_1 t700 _ ?side1 ?side2 A3.out).mono ?_); (case side1 => exact tc (Kd.C_below HR0_1.out HB.out)); (case side2 => exact HC0_1.out); rintro e w19 ⟨rfl, hb⟩; refine ⟨_, rfl, ?_⟩; replace BK698 := kb BK698 hb; replace BK699 := kb BK699 hb; replace HB := bs HB hb; (try clear hb); (try clear hb2); (try clear hk); (try clear hi); have hcz20_0 := bc BK699 0 (.bool a1_0); have hcz20_1 := bc BK699 1 (.slice A1_1 l1_1.length c1_1); have hfz20_0 := blk_frozen BK699.out 0; have hfz20_1 := blk_frozen BK699.out 1; have hcz21_0 := bc BK698 0 (.bool a0_0); have hcz21_1 := bc BK698 1 (.slice A0_1 l0_1.length c0_1); have hfz21_0 := blk_frozen BK698.out 0; have hfz21_1 := blk_frozen BK698.out 1) | ((with_reducible refine gate_callee (f := 33) rfl ?_); refine gL (N := some 17) Try.func33 #[.agg #[.bool a1_0, .slice A1_1 l1_1.length c1_1], .agg #[.bool a0_0, .slice A0_1 l0_1.length c0_1]] ?_; (with_reducible refine (big_DivMod.calls k a1_0 _ _ l1_1 a0_0 _ _ l0_1 t702 t703 t706 t707 t710 _ ?side1 ?side2 ?side3 ?side4 A13.out).mono ?_); (case side1 => exact tc (Kd.C_below HR1_1.out HB.out)); (case side2 => exact HC1_1.out); (case side3 => exact tc (Kd.C_below HR0_1.out HB.out)); (case side4 => exact HC0_1.out); rintro e w22 ⟨v704, v708, rfl, ho0, ho1, hb⟩; refine ⟨_, rfl, ?_⟩; have HO705 := rl ho0 HB; have HO709 := rl ho1 HB; replace BK698 := kb BK698 hb; replace BK699 := kb BK699 hb; replace HB := bs HB hb; (try clear hb); (try clear hb2); (try clear hk); (try clear hi); (try clear ho0); (try clear ho1)) | ((with_reducible refine gate_dst (N := 5) rfl ?_); refine bx (N := 5) #[.bool false, .slice none 0 0] 24 ?_; intro gb711 hg w23 hbox hb; replace HO705 := rb HO705 hb; replace HO709 := rb HO709 hb; have BK711 := Aside0.mk (hbox); have GW711 := bz hg HB; have GE711 := bz hg HB; replace HB := bs HB hb; have NB698_711 := nl hg BK698; have NB711_698 := ng hg BK698; replace BK698 := kb BK698 hb; have NB699_711 := nl hg BK699; have NB711_699 := ng hg BK699; replace BK699 := kb BK699 hb; clear hb hbox hg) | ((with_reducible refine gate_dst (N := 6) rfl ?_); refine bx (N := 6) #[.bool false, .slice none 0 0] 24 ?_; intro gb712 hg w24 hbox hb; replace HO705 := rb HO705 hb; replace HO709 := rb HO709 hb; have BK712 := Aside0.mk (hbox); have GW712 := bz hg HB; have GE712 := bz hg HB; replace HB := bs HB hb; have NB698_712 := nl hg BK698; have NB712_698 := ng hg BK698; have NB699_712 := nl hg BK699; have NB712_699 := ng hg BK699; have NB711_712 := nl hg BK711; have NB712_711 := ng hg BK711; replace BK711 := kb BK711 hb; clear hb hbox hg; have hnb25 := NB711_698.out; have hnc25 := NB698_711.out; have hnb26 := NB711_699.out; have hnc26 := NB699_711.out; have hnb27 := NB711_712.out; have hnc27 := NB712_711.out; have hcz28_0 := bc BK711 0 (.bool false); have hcz28_1 := bc BK711 1 (.slice none 0 0); have hfz28_0 := blk_frozen BK711.out 0; have hfz28_1 := blk_frozen BK711.out 1; obtain ⟨Ao29, co29, eo29⟩ := Kd.R_slice HO705.out; subst eo29; have hnb30 := NB712_698.out; have hnc30 := NB698_712.out; have hnb31 := NB712_699.out; have hnc31 := NB699_712.out; have hcz32_0 := bc BK712 0 (.bool false); have hcz32_1 := bc BK712 1 (.slice none 0 0); have hfz32_0 := blk_frozen BK712.out 0; have hfz32_1 := blk_frozen BK712.out 1; obtain ⟨Ao33, co33, eo33⟩ := Kd.R_slice HO709.out; subst eo33) | ((with_reducible refine gate_callee (f := 26) rfl ?_); refine gL (N := some 22) Try.func26 #[.agg #[.bool t706, .slice Ao33 t707.length co33]] ?_; (with_reducible refine (big_Sign.calls k t706 _ _ t707 t713 _ ?side1 ?side2 A14.out).mono ?_); (case side1 => refine (Kd.R_reads' (e := 87) (base := w.heap.size) (ok := fun k_ => some k_ ≠ (.slice Ao29 t703.length co29 : Value).ownBlock) (n := t707.length) (c := co33) ?_).2.2; exact (by (with_reducible repeat first | apply qa | apply qn | apply qd); exact (Kd.R_mono (Kd.R_mono (Kd.R_far (p := ⟨gb712, 1, none⟩) (Kd.R_far (p := ⟨gb712, 0, none⟩) (Kd.R_far (p := ⟨gb711, 1, none⟩) (Kd.R_far (p := ⟨gb711, 0, none⟩) (Kd.R_types (Kd.R_types HO709.out BK711.out (by decide)) BK712.out (by decide)) (fun _ hk => hk.1.2) (.bool t702)) (fun _ hk => hk.1.2) (.slice Ao29 t703.length co29)) (fun _ hk => hk.2) (.bool t706)) (fun _ hk => hk.2) (.slice Ao33 t707.length co33)) (fun _ h_ => h_.1)) (fun _ h_ => h_.1)))); (case side2 => exact (Kd.R_reads' HO709.out).2.1); rintro e w34 ⟨rfl, hb⟩; refine ⟨_, rfl, ?_⟩; replace HB := bs HB hb; (try clear hb); (try clear hb2); (try clear hk); (try clear hi)))
  go_ret
  exact ⟨by first | rfl | (simp [errW_none, errW_some] <;> rfl) | (simp [*, errW_none, errW_some] <;> rfl), tb HB⟩

end Go.Proofs.Ytjpnaapimnoamaa.QBigProducts
