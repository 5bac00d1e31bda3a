-- written by wip/wprint, a program of this session
import Derived.Test.YtjpnaapimnoamaaQBigProductsx0
import Derived.Test.YtjpnaapimnoamaaQBigProductsx1
import Derived.Test.YtjpnaapimnoamaaQBigProductsx9
import Derived.Test.YtjpnaapimnoamaaQBigProductsx14
import Derived.Test.YtjpnaapimnoamaaQBigProductsx15
import Derived.Test.YtjpnaapimnoamaaQBigProductsx16
import Derived.Test.YtjpnaapimnoamaaQBigProductsx20
namespace Go.Proofs.Ytjpnaapimnoamaa.QBigProducts
open Go.RowKit Go.Proofs.YtjpnaapimnoamaaW.PrintWords Go.Proofs.YtjpnaapimnoamaaW.PrintLast Go.Proofs.YtjpnaapimnoamaaW.PrintMore
open Go.Proofs.YtjpnaapimnoamaaW.PrintWords.Kd renaming R_alloc → qa, R_drewN → qn, R_drew → qd
open Go.Proofs.YtjpnaapimnoamaaW.PrintWords renaming below_alloc → ba, pw_below_drewN → bn, below_drew1 → bd
attribute [local go_sem] max2_int min2_int max_two min_two max_three min_three max_four min_four   -- for this text's walks alone
set_option linter.unusedVariables false
set_option linter.unusedSimpArgs false

/-! ### whetstonelaw02_BigProducts: function 7 -/
def whetstonelaw02_BigProducts.j0 : Nat → Bool → Bool → List Int → Bool → List Int → Option (Bool)
 | 0, _, _, _, _, _ => none
 | k + 1, x14, x838000, x838001, x839000, x839001 => if x14 = true then ((whetstonelaw02_signed.f k).bind fun t841 => (some t841)) else ((whetstonelaw02_of.f k x838000 x838001).bind fun bt842 => ((whetstonelaw02_of.f k x839000 x839001).bind fun bt846 => ((whetstonelaw02_signed.f k).bind fun t852 => (if t852 = true then ((big_Mul.f k x838000 x838001 x839000 x839001).bind fun bt853 => ((whetstoneref02_Mul.f k bt842.1 bt842.2 bt846.1 bt846.2).bind fun bt857 => ((whetstonelaw02_same.f k bt853.1 bt853.2 bt857.1 bt857.2).bind fun t861 => (if t861 = true then ((big_Gcd.f k x838000 x838001 x839000 x839001).bind fun bt862 => ((whetstoneref02_Gcd.f k bt842.1 bt842.2 bt846.1 bt846.2).bind fun bt866 => ((whetstonelaw02_same.f k bt862.1 bt862.2 bt866.1 bt866.2).bind fun t870 => (if t870 = true then ((big_Divides.f k x838000 x838001 x839000 x839001).bind fun t871 => ((whetstoneref02_Divides.f k bt842.1 bt842.2 bt846.1 bt846.2).bind fun t872 => (some (t871 == t872)))) else (none))))) else (none))))) else (none)))))
def whetstonelaw02_BigProducts.f (k : Nat) (a0_0 : Bool) (l0_1 : List Int) (a1_0 : Bool) (l1_1 : List Int) : Option (Bool) := (whetstonelaw02_small.f a0_0 l0_1).bind fun t839 => (if t839 = true then ((whetstonelaw02_small.f a1_0 l1_1).bind fun t840 => (whetstonelaw02_BigProducts.j0 k (!t840) a0_0 l0_1 a1_0 l1_1)) else (whetstonelaw02_BigProducts.j0 k true a0_0 l0_1 a1_0 l1_1))
theorem whetstonelaw02_BigProducts.mono_l : ∀ k, (∀ y0 y1 y2 y3 y4, LeO (whetstonelaw02_BigProducts.j0 k y0 y1 y2 y3 y4) (whetstonelaw02_BigProducts.j0 (k + 1) y0 y1 y2 y3 y4))
 | 0 => fun _ _ _ _ _ r h => by simp [whetstonelaw02_BigProducts.j0] at h
 | k + 1 => by
  have ih0 := whetstonelaw02_BigProducts.mono_l k
  ·intro y0 y1 y2 y3 y4
   unfold whetstonelaw02_BigProducts.j0
   repeat' with_reducible first | exact ih0 _ _ _ _ _ | exact big_Divides.mono _ _ _ _ _ | exact big_Gcd.mono _ _ _ _ _ | exact big_Mul.mono _ _ _ _ _ | exact whetstonelaw02_of.mono _ _ _ | exact whetstonelaw02_same.mono _ _ _ _ _ | exact whetstonelaw02_signed.mono _ | exact whetstoneref02_Divides.mono _ _ _ _ _ | exact whetstoneref02_Gcd.mono _ _ _ _ _ | exact whetstoneref02_Mul.mono _ _ _ _ _ | exact LeO.refl _ | exact LeO.none _ | refine LeO.ite ?_ ?_ | refine LeO.bind ?_ (fun _ => ?_)
theorem whetstonelaw02_BigProducts.mono : ∀ a0 a1 a2 a3 k, LeO (whetstonelaw02_BigProducts.f k a0 a1 a2 a3) (whetstonelaw02_BigProducts.f (k + 1) a0 a1 a2 a3) := by
 intro a0 a1 a2 a3 k
 have ih0 := whetstonelaw02_BigProducts.mono_l k
 unfold whetstonelaw02_BigProducts.f
 repeat' with_reducible first | exact ih0 _ _ _ _ _ | exact big_Divides.mono _ _ _ _ _ | exact big_Gcd.mono _ _ _ _ _ | exact big_Mul.mono _ _ _ _ _ | exact whetstonelaw02_of.mono _ _ _ | exact whetstonelaw02_same.mono _ _ _ _ _ | exact whetstonelaw02_signed.mono _ | exact whetstoneref02_Divides.mono _ _ _ _ _ | exact whetstoneref02_Gcd.mono _ _ _ _ _ | exact whetstoneref02_Mul.mono _ _ _ _ _ | exact LeO.refl _ | exact LeO.none _ | refine LeO.ite ?_ ?_ | refine LeO.bind ?_ (fun _ => ?_)
def whetstonelaw02_BigProducts.T3 : Bool × List (List Nat × List Nat) := (true, [([], []), ([0], [0]), ([], []), ([2, 1], [2]), ([], []), ([], []), ([4, 1, 3, 0, 1, 4, 5], [1, 4]), ([5, 3, 6, 0, 1, 2, 3, 4, 5, 6], [3, 5])])
def whetstonelaw02_BigProducts.B3 : List Nat := [0, 1, 0, 7, 0, 0, 63, 127]
theorem whetstonelaw02_BigProducts.tab3 : rtab .any (opsOf Try.f7 3) = whetstonelaw02_BigProducts.T3 := by kernel_rfl
theorem whetstonelaw02_BigProducts.bits3 : waitsOk whetstonelaw02_BigProducts.T3.2 whetstonelaw02_BigProducts.B3 = true := by kernel_rfl
def whetstonelaw02_BigProducts.T4 : Bool × List (List Nat × List Nat) := (true, [([], []), ([0, 0], [0]), ([1], [1]), ([1], [1]), ([2, 3, 1, 1], [1, 2, 3]), ([1], [1]), ([1], [1]), ([5, 6, 4, 1], [1, 5, 6]), ([4, 7, 7, 1], [1, 4, 7]), ([1, 8], [1, 8]), ([9, 8], [9]), ([10], [10]), ([10], [10]), ([11, 12, 10, 10], [10, 11, 12]), ([10], [10]), ([10], [10]), ([14, 15, 13, 10], [10, 14, 15]), ([13, 16, 16, 10], [10, 13, 16]), ([10, 17], [10, 17]), ([18, 17], [18]), ([19], [19]), ([19], [19]), ([20, 21, 19, 19], [19, 20, 21]), ([19], [19]), ([19], [19]), ([23, 24, 22, 19], [19, 23, 24]), ([22, 25, 19], [19, 22, 25]), ([19, 26], [19, 26]), ([27, 25, 0, 1, 2, 3, 4, 5, 6, 7, 8, 9, 10, 11, 12, 13, 14, 15, 16, 17, 18, 19, 20, 21, 22, 23, 24, 25, 26, 27], [27])])
def whetstonelaw02_BigProducts.B4 : List Nat := [0, 1, 3, 3, 15, 3, 3, 127, 255, 511, 1023, 2047, 2047, 8191, 2047, 2047, 65535, 131071, 262143, 524287, 1048575, 1048575, 4194303, 1048575, 1048575, 33554431, 67108863, 134217727, 268435455]
theorem whetstonelaw02_BigProducts.tab4 : rtab .any (opsOf Try.f7 4) = whetstonelaw02_BigProducts.T4 := by kernel_rfl
theorem whetstonelaw02_BigProducts.bits4 : waitsOk whetstonelaw02_BigProducts.T4.2 whetstonelaw02_BigProducts.B4 = true := by kernel_rfl
set_option maxHeartbeats 8000000 in
set_option maxRecDepth 100000 in
theorem whetstonelaw02_BigProducts.calls (k : Nat) (a0_0 : Bool) (A0_1 : Option Addr) (c0_1 : Nat) (l0_1 : List Int) (a1_0 : Bool) (A1_1 : Option Addr) (c1_1 : Nat) (l1_1 : List Int) (r : Bool) (w : World) (hr0_1 : Kd.C (Kd.int .u32) w A0_1 l0_1.length l0_1) (hc0_1 : l0_1.length ≤ c0_1) (hr1_1 : Kd.C (Kd.int .u32) w A1_1 l1_1.length l1_1) (hc1_1 : l1_1.length ≤ c1_1) (h : whetstonelaw02_BigProducts.f k a0_0 l0_1 a1_0 l1_1 = some r) :
  Calls Try.prog 7 #[.agg #[.bool a0_0, .slice A0_1 l0_1.length c0_1], .agg #[.bool a1_0, .slice A1_1 l1_1.length c1_1]] w fun e w' => e = .returned (.bool r) ∧ Below w.heap.size w w' := by
 have hu24 := Try.underlying24
 have hu32 := Try.underlying32
 have HR0_1 := Aside0.mk hr0_1
 have HC0_1 := Aside0.mk hc0_1
 clear hr0_1 hc0_1
 have HR1_1 := Aside0.mk hr1_1
 have HC1_1 := Aside0.mk hc1_1
 clear hr1_1 hc1_1
 have HB := Aside0.mk (Below.refl w.heap.size w)
 have H : ((whetstonelaw02_small.f a0_0 l0_1).bind fun t839 => (if t839 = true then ((whetstonelaw02_small.f a1_0 l1_1).bind fun t840 => (whetstonelaw02_BigProducts.j0 k (!t840) a0_0 l0_1 a1_0 l1_1)) else (whetstonelaw02_BigProducts.j0 k true a0_0 l0_1 a1_0 l1_1))) = some r := h
 clear h
 have HC3 := Aside0.mk H
 clear H
 go_enter Try.func7, Try.ntmps7
 go_upto_region 1 with (first | ((with_reducible refine gate_dst (N := 2) rfl ?_); refine bx (N := 2) #[.bool a0_0, .slice A0_1 l0_1.length c0_1] 24 ?_; intro gb837 hg w4 hbox hb; have BK837 := Aside0.mk (hbox); have GW837 := bz hg HB; have GE837 := bz hg HB; replace HB := bs HB hb; clear hb hbox hg) | ((with_reducible refine gate_dst (N := 3) rfl ?_); refine bx (N := 3) #[.bool a1_0, .slice A1_1 l1_1.length c1_1] 24 ?_; intro gb838 hg w5 hbox hb; have BK838 := Aside0.mk (hbox); have GW838 := bz hg HB; have GE838 := bz hg HB; replace HB := bs HB hb; have NB837_838 := nl hg BK837; have NB838_837 := ng hg BK837; replace BK837 := kb BK837 hb; clear hb hbox hg))
 (try simp only [Act.put, List.setIfInBounds_toArray, List.set_cons_zero, List.set_cons_succ])
 go_cut [14] from 1 to 0 (fun v14 wc => ∃ (kq : Nat) (x14_2 : Bool), v14 = .bool x14_2 ∧ Aside0 (whetstonelaw02_BigProducts.j0 kq x14_2 a0_0 l0_1 a1_0 l1_1 = some r) ∧ Aside0 (kq ≤ k) ∧ Aside0 (wc.heap[gb837]? = some (.cells #[.bool a0_0, (.slice A0_1 l0_1.length c0_1)] 24 (0, 0))) ∧ Aside0 (wc.heap[gb838]? = some (.cells #[.bool a1_0, (.slice A1_1 l1_1.length c1_1)] 24 (0, 0))) ∧ Aside0 (Below w.heap.size w wc))
 case first =>
  have H := HC3.out
  clear HC3
  replace H := bi H
  obtain ⟨t839, A60, H⟩ := H
  have A6 := Aside0.mk A60
  clear A60
  by_cases c7 : t839 = true
  ·subst c7
   have H1 : ((whetstonelaw02_small.f a1_0 l1_1).bind fun t840 => (whetstonelaw02_BigProducts.j0 k (!t840) a0_0 l0_1 a1_0 l1_1)) = some r := by rw [if_pos rfl] at H; exact H
   clear H
   have H := H1
   clear H1
   replace H := bi H
   obtain ⟨t840, A80, H⟩ := H
   have A8 := Aside0.mk A80
   clear A80
   have H' := Aside0.mk H
   clear H
   have hnb9 := NB837_838.out
   have hnc9 := NB838_837.out
   have hcz10_0 := bc BK837 0 (.bool a0_0)
   have hcz10_1 := bc BK837 1 (.slice A0_1 l0_1.length c0_1)
   have hfz10_0 := blk_frozen BK837.out 0
   have hfz10_1 := blk_frozen BK837.out 1
   go_wp2_with (first | ((with_reducible refine gate_callee (f := 12) rfl ?_); refine gL (N := some 8) Try.func12 #[.agg #[.bool a0_0, .slice A0_1 l0_1.length c0_1]] ?_; (with_reducible refine (whetstonelaw02_small.calls a0_0 _ _ l0_1 true _ ?side1 ?side2 A6.out).mono ?_); (case side1 => exact tc (Kd.C_below HR0_1.out HB.out)); (case side2 => exact HC0_1.out); rintro e w11 ⟨rfl, hb⟩; refine ⟨_, rfl, ?_⟩; replace BK837 := kb BK837 hb; replace BK838 := kb BK838 hb; replace HB := bs HB hb; (try clear hb); (try clear hb2); (try clear hk); (try clear hi); have hcz12_0 := bc BK838 0 (.bool a1_0); have hcz12_1 := bc BK838 1 (.slice A1_1 l1_1.length c1_1); have hfz12_0 := blk_frozen BK838.out 0; have hfz12_1 := blk_frozen BK838.out 1) | (go_at_call 12; (with_reducible refine (whetstonelaw02_small.calls a1_0 _ _ l1_1 t840 _ ?side1 ?side2 A8.out).mono ?_); (case side1 => exact tc (Kd.C_below HR1_1.out HB.out)); (case side2 => exact HC1_1.out); rintro e w13 ⟨rfl, hb⟩; replace BK837 := kb BK837 hb; replace BK838 := kb BK838 hb; replace HB := bs HB hb; (try clear hb); (try clear hb2); (try clear hk); (try clear hi)))
   go_meet
   case rel => exact ⟨_, (!t840), (by first | rfl | (simp; done) | (simp [*]; done)), H', ⟨by first | omega | exact Nat.le_refl _⟩, ⟨tk BK837⟩, ⟨tk BK838⟩, ⟨tb HB⟩⟩
  ·replace c7 := Bool.eq_false_iff.mpr c7
   subst c7
   have H1 : (whetstonelaw02_BigProducts.j0 k true a0_0 l0_1 a1_0 l1_1) = some r := by rw [if_neg (show ¬ (false = true) by decide)] at H; exact H
   clear H
   have H := H1
   clear H1
   have H' := Aside0.mk H
   clear H
   have hnb14 := NB837_838.out
   have hnc14 := NB838_837.out
   have hcz15_0 := bc BK837 0 (.bool a0_0)
   have hcz15_1 := bc BK837 1 (.slice A0_1 l0_1.length c0_1)
   have hfz15_0 := blk_frozen BK837.out 0
   have hfz15_1 := blk_frozen BK837.out 1
   go_wp2_with (first | ((with_reducible refine gate_callee (f := 12) rfl ?_); refine gL (N := some 8) Try.func12 #[.agg #[.bool a0_0, .slice A0_1 l0_1.length c0_1]] ?_; (with_reducible refine (whetstonelaw02_small.calls a0_0 _ _ l0_1 false _ ?side1 ?side2 A6.out).mono ?_); (case side1 => exact tc (Kd.C_below HR0_1.out HB.out)); (case side2 => exact HC0_1.out); rintro e w16 ⟨rfl, hb⟩; refine ⟨_, rfl, ?_⟩; replace BK837 := kb BK837 hb; replace BK838 := kb BK838 hb; replace HB := bs HB hb; (try clear hb); (try clear hb2); (try clear hk); (try clear hi)))
   go_meet
   case rel => exact ⟨_, (true), (by first | rfl | (simp; done) | (simp [*]; done)), H', ⟨by first | omega | exact Nat.le_refl _⟩, ⟨tk BK837⟩, ⟨tk BK838⟩, ⟨tb HB⟩⟩
 case rest =>
  clear HC3
  (try clear c1); (try clear p2); (try clear c7); (try clear c9); (try clear c12); (try clear c14); (try clear hcz10_0); (try clear hcz10_1); (try clear hcz12_0); (try clear hcz12_1); (try clear hcz15_0); (try clear hcz15_1); (try clear hfz10_0); (try clear hfz10_1); (try clear hfz12_0); (try clear hfz12_1); (try clear hfz15_0); (try clear hfz15_1)
  obtain ⟨kq, x14_2, rfl, HA, HJ2, BK837, BK838, HB⟩ := hcut
  cases kq with
  | zero => exact absurd HA.out (by simp [whetstonelaw02_BigProducts.j0])
  | succ kj2 =>
   have H := HA.out
   clear HA
   simp only [whetstonelaw02_BigProducts.j0] at H
   by_cases c17 : x14_2 = true
   ·subst c17
    have H1 : ((whetstonelaw02_signed.f kj2).bind fun t841 => (some t841)) = some r := by rw [if_pos rfl] at H; exact H
    clear H
    have H := H1
    clear H1
    replace H := bi H
    obtain ⟨t841, A180, H⟩ := H
    have A18 := Aside0.mk A180
    clear A180
    obtain rfl := Option.some.inj H
    go_wp2_with (first | ((with_reducible refine gate_callee (f := 13) rfl ?_); refine gL (N := some 15) Try.func13 #[] ?_; (with_reducible refine (whetstonelaw02_signed.calls kj2  t841 _ A18.out).mono ?_); rintro e w19 ⟨rfl, hb⟩; refine ⟨_, rfl, ?_⟩; replace HB := bs HB hb; (try clear hb); (try clear hb2); (try clear hk); (try clear hi)))
    go_ret
    exact ⟨by first | rfl | (simp [errW_none, errW_some] <;> rfl) | (simp [*, errW_none, errW_some] <;> rfl), tb HB⟩
   ·replace c17 := Bool.eq_false_iff.mpr c17
    subst c17
    have H1 : ((whetstonelaw02_of.f kj2 a0_0 l0_1).bind fun bt842 => ((whetstonelaw02_of.f kj2 a1_0 l1_1).bind fun bt846 => ((whetstonelaw02_signed.f kj2).bind fun t852 => (if t852 = true then ((big_Mul.f kj2 a0_0 l0_1 a1_0 l1_1).bind fun bt853 => ((whetstoneref02_Mul.f kj2 bt842.1 bt842.2 bt846.1 bt846.2).bind fun bt857 => ((whetstonelaw02_same.f kj2 bt853.1 bt853.2 bt857.1 bt857.2).bind fun t861 => (if t861 = true then ((big_Gcd.f kj2 a0_0 l0_1 a1_0 l1_1).bind fun bt862 => ((whetstoneref02_Gcd.f kj2 bt842.1 bt842.2 bt846.1 bt846.2).bind fun bt866 => ((whetstonelaw02_same.f kj2 bt862.1 bt862.2 bt866.1 bt866.2).bind fun t870 => (if t870 = true then ((big_Divides.f kj2 a0_0 l0_1 a1_0 l1_1).bind fun t871 => ((whetstoneref02_Divides.f kj2 bt842.1 bt842.2 bt846.1 bt846.2).bind fun t872 => (some (t871 == t872)))) else (none))))) else (none))))) else (none))))) = some r := by rw [if_neg (show ¬ (false = true) by decide)] at H; exact H
    clear H
    have H := H1
    clear H1
    replace H := bi H
    obtain ⟨⟨t842, t843⟩, A200, H⟩ := H
    try dsimp only at H
    have A20 := Aside0.mk A200
    clear A200
    replace H := bi H
    obtain ⟨⟨t846, t847⟩, A210, H⟩ := H
    try dsimp only at H
    have A21 := Aside0.mk A210
    clear A210
    replace H := bi H
    obtain ⟨t852, A220, H⟩ := H
    have A22 := Aside0.mk A220
    clear A220
    by_cases c23 : t852 = true
    ·subst c23
     have H1 : ((big_Mul.f kj2 a0_0 l0_1 a1_0 l1_1).bind fun bt853 => ((whetstoneref02_Mul.f kj2 t842 t843 t846 t847).bind fun bt857 => ((whetstonelaw02_same.f kj2 bt853.1 bt853.2 bt857.1 bt857.2).bind fun t861 => (if t861 = true then ((big_Gcd.f kj2 a0_0 l0_1 a1_0 l1_1).bind fun bt862 => ((whetstoneref02_Gcd.f kj2 t842 t843 t846 t847).bind fun bt866 => ((whetstonelaw02_same.f kj2 bt862.1 bt862.2 bt866.1 bt866.2).bind fun t870 => (if t870 = true then ((big_Divides.f kj2 a0_0 l0_1 a1_0 l1_1).bind fun t871 => ((whetstoneref02_Divides.f kj2 t842 t843 t846 t847).bind fun t872 => (some (t871 == t872)))) else (none))))) else (none))))) = some r := by rw [if_pos rfl] at H; exact H
     clear H
     have H := H1
     clear H1
     replace H := bi H
     obtain ⟨⟨t853, t854⟩, A240, H⟩ := H
     try dsimp only at H
     have A24 := Aside0.mk A240
     clear A240
     replace H := bi H
     obtain ⟨⟨t857, t858⟩, A250, H⟩ := H
     try dsimp only at H
     have A25 := Aside0.mk A250
     clear A250
     replace H := bi H
     obtain ⟨t861, A260, H⟩ := H
     have A26 := Aside0.mk A260
     clear A260
     by_cases c27 : t861 = true
     ·subst c27
      have H1 : ((big_Gcd.f kj2 a0_0 l0_1 a1_0 l1_1).bind fun bt862 => ((whetstoneref02_Gcd.f kj2 t842 t843 t846 t847).bind fun bt866 => ((whetstonelaw02_same.f kj2 bt862.1 bt862.2 bt866.1 bt866.2).bind fun t870 => (if t870 = true then ((big_Divides.f kj2 a0_0 l0_1 a1_0 l1_1).bind fun t871 => ((whetstoneref02_Divides.f kj2 t842 t843 t846 t847).bind fun t872 => (some (t871 == t872)))) else (none))))) = some r := by rw [if_pos rfl] at H; exact H
      clear H
      have H := H1
      clear H1
      replace H := bi H
      obtain ⟨⟨t862, t863⟩, A280, H⟩ := H
      try dsimp only at H
      have A28 := Aside0.mk A280
      clear A280
      replace H := bi H
      obtain ⟨⟨t866, t867⟩, A290, H⟩ := H
      try dsimp only at H
      have A29 := Aside0.mk A290
      clear A290
      replace H := bi H
      obtain ⟨t870, A300, H⟩ := H
      have A30 := Aside0.mk A300
      clear A300
      by_cases c31 : t870 = true
      ·subst c31
       have H1 : ((big_Divides.f kj2 a0_0 l0_1 a1_0 l1_1).bind fun t871 => ((whetstoneref02_Divides.f kj2 t842 t843 t846 t847).bind fun t872 => (some (t871 == t872)))) = some r := by rw [if_pos rfl] at H; exact H
       clear H
       have H := H1
       clear H1
       replace H := bi H
       obtain ⟨t871, A320, H⟩ := H
       have A32 := Aside0.mk A320
       clear A320
       replace H := bi H
       obtain ⟨t872, A330, H⟩ := H
       have A33 := Aside0.mk A330
       clear A330
       obtain rfl := Option.some.inj H
       try go_wp2
       replace BK837 := Aside0.mk (blk_drew BK837.out)
       replace BK838 := Aside0.mk (blk_drew BK838.out)
       replace HB := Aside0.mk (below_drew1 HB.out)
       refine start_ (n := 8) (S := fun w' => w'.cell? ⟨gb837, 0, none⟩ = some (.bool a0_0) ∧ w'.cell? ⟨gb837, 1, none⟩ = some (.slice A0_1 l0_1.length c0_1) ∧ w'.cell? ⟨gb838, 0, none⟩ = some (.bool a1_0) ∧ w'.cell? ⟨gb838, 1, none⟩ = some (.slice A1_1 l1_1.length c1_1)) (ds := []) #[false, false, false, false, false, false, false, false] (by kernel_rfl) rfl rfl ⟨(blk_cell BK837.out 0).trans rfl, (blk_cell BK837.out 1).trans rfl, (blk_cell BK838.out 0).trans rfl, (blk_cell BK838.out 1).trans rfl⟩ (fun hHeld => ?_); refine with_tabW whetstonelaw02_BigProducts.tab3 whetstonelaw02_BigProducts.bits3 (fun HT_ HW_ => ?_)
       generalize wc.drew = w34 at BK837 BK838 HB hHeld ⊢
       refine tW (i := 0) (N := some 16) (bb 8 1) HT_ HW_ hHeld ?_
       refine tW (i := 2) (N := some 18) (bb 8 5) HT_ HW_ hHeld ?_
       refine join_ (σ := Value × Value × Nat × Nat) 2 (bb 8 63) (fun s_ => [(17, .agg #[.bool t842, s_.1]), (19, .agg #[.bool t846, s_.2.1]), (5, .pointer (some ⟨s_.2.2.1, 0, none⟩)), (6, .pointer (some ⟨s_.2.2.2, 0, none⟩))]) (fun s_ w' => (w'.cell? ⟨gb837, 0, none⟩ = some (.bool a0_0) ∧ w'.cell? ⟨gb837, 1, none⟩ = some (.slice A0_1 l0_1.length c0_1) ∧ w'.cell? ⟨gb838, 0, none⟩ = some (.bool a1_0) ∧ w'.cell? ⟨gb838, 1, none⟩ = some (.slice A1_1 l1_1.length c1_1)) ∧ Aside0 (Kd.R (Kd.int .i64) 3 w' w.heap.size (fun k_ => some k_ ≠ (s_.2.1 : Value).ownBlock) s_.1 t843) ∧ Aside0 (Kd.R (Kd.int .i64) 3 w' w.heap.size (fun k_ => some k_ ≠ (s_.1 : Value).ownBlock) s_.2.1 t847) ∧ Aside0 (w'.heap[gb837]? = some (.cells #[.bool a0_0, .slice A0_1 l0_1.length c0_1] 24 (0, 0))) ∧ Aside0 (w'.heap[gb838]? = some (.cells #[.bool a1_0, .slice A1_1 l1_1.length c1_1] 24 (0, 0))) ∧ Aside0 (w'.heap[s_.2.2.1]? = some (.cells #[.bool false, .slice none 0 0] 32 (0, 0))) ∧ Aside0 (w'.heap[s_.2.2.2]? = some (.cells #[.bool false, .slice none 0 0] 32 (0, 0))) ∧ Aside0 (w.heap.size ≤ s_.2.2.1) ∧ Aside0 (w.heap.size ≤ s_.2.2.1) ∧ Aside0 (gb837 ≠ s_.2.2.1) ∧ Aside0 (s_.2.2.1 ≠ gb837) ∧ Aside0 (gb838 ≠ s_.2.2.1) ∧ Aside0 (s_.2.2.1 ≠ gb838) ∧ Aside0 (s_.2.2.2 ≠ s_.2.2.1) ∧ Aside0 (s_.2.2.1 ≠ s_.2.2.2) ∧ Aside0 (w.heap.size ≤ s_.2.2.2) ∧ Aside0 (w.heap.size ≤ s_.2.2.2) ∧ Aside0 (gb837 ≠ s_.2.2.2) ∧ Aside0 (s_.2.2.2 ≠ gb837) ∧ Aside0 (gb838 ≠ s_.2.2.2) ∧ Aside0 (s_.2.2.2 ≠ gb838) ∧ Aside0 (Below w.heap.size w w')) ?_ ?_
       ·skip
        clear BK837 BK838 HB
        rintro ⟨v844, v848, gb850, gb851⟩ w39 ⟨hHeld, HO845, HO849, BK837, BK838, BK850, BK851, GW850, GE850, NB837_850, NB850_837, NB838_850, NB850_838, NB851_850, NB850_851, GW851, GE851, NB837_851, NB851_837, NB838_851, NB851_838, HB⟩
        try dsimp only at hHeld HO845 HO849 BK837 BK838 BK850 BK851 GW850 GE850 NB837_850 NB850_837 NB838_850 NB850_838 NB851_850 NB850_851 GW851 GE851 NB837_851 NB851_837 NB838_851 NB851_838 HB
        obtain ⟨Ao41, co41, eo41⟩ := Kd.R_slice HO845.out
        (first | subst eo41 | (injection eo41 with f1_ f2_ f3_; have f4_ := f1_.symm; have f5_ := f3_.symm; clear f1_ f2_ f3_; subst f4_; subst f5_))
        obtain ⟨Ao44, co44, eo44⟩ := Kd.R_slice HO849.out
        (first | subst eo44 | (injection eo44 with f1_ f2_ f3_; have f4_ := f1_.symm; have f5_ := f3_.symm; clear f1_ f2_ f3_; subst f4_; subst f5_))
        refine nP ?_
        refine oT (i := 6) (N := none) (bb 8 127) HT_ fun K hK => ?_
        have hs40 := bc BK850 0 (.bool false)
        have hfs40 := blk_frozen BK850.out 0
        have hns40_0 := NB837_850.out
        have hns40_1 := NB838_850.out
        have hns40_3 := NB851_850.out
        have hms40_0 := NB850_837.out
        have hms40_1 := NB850_838.out
        have hms40_3 := NB850_851.out
        have hs42 := bc BK850 1 (.slice none 0 0)
        have hfs42 := blk_frozen BK850.out 1
        have hns42_0 := NB837_850.out
        have hns42_1 := NB838_850.out
        have hns42_3 := NB851_850.out
        have hms42_0 := NB850_837.out
        have hms42_1 := NB850_838.out
        have hms42_3 := NB850_851.out
        refine skip_ (w1 := ?_) (by rfl) rfl ?_ ?_
        rotate_left
        ·go_simp
         rfl
        refine hK.out _ _ ⟨((cell_far (p := ⟨gb850, _, none⟩) NB837_850.out _).trans (((cell_far (p := ⟨gb850, _, none⟩) NB837_850.out _).trans (hHeld.1)))), ((cell_far (p := ⟨gb850, _, none⟩) NB837_850.out _).trans (((cell_far (p := ⟨gb850, _, none⟩) NB837_850.out _).trans (hHeld.2.1)))), ((cell_far (p := ⟨gb850, _, none⟩) NB838_850.out _).trans (((cell_far (p := ⟨gb850, _, none⟩) NB838_850.out _).trans (hHeld.2.2.1)))), ((cell_far (p := ⟨gb850, _, none⟩) NB838_850.out _).trans (((cell_far (p := ⟨gb850, _, none⟩) NB838_850.out _).trans (hHeld.2.2.2))))⟩ (fun hHeld => ?_)
        clear hK K
        refine oT (i := 7) (N := none) (bb 8 255) HT_ fun K hK => ?_
        have hs43 := bc BK851 0 (.bool false)
        have hfs43 := blk_frozen BK851.out 0
        have hns43_0 := NB837_851.out
        have hns43_1 := NB838_851.out
        have hns43_2 := NB850_851.out
        have hms43_0 := NB851_837.out
        have hms43_1 := NB851_838.out
        have hms43_2 := NB851_850.out
        have hs45 := bc BK851 1 (.slice none 0 0)
        have hfs45 := blk_frozen BK851.out 1
        have hns45_0 := NB837_851.out
        have hns45_1 := NB838_851.out
        have hns45_2 := NB850_851.out
        have hms45_0 := NB851_837.out
        have hms45_1 := NB851_838.out
        have hms45_2 := NB851_850.out
        refine skip_ (w1 := ?_) (by rfl) rfl ?_ ?_
        rotate_left
        ·go_simp
         rfl
        refine hK.out _ _ ⟨((cell_far (p := ⟨gb851, _, none⟩) NB837_851.out _).trans (((cell_far (p := ⟨gb851, _, none⟩) NB837_851.out _).trans (hHeld.1)))), ((cell_far (p := ⟨gb851, _, none⟩) NB837_851.out _).trans (((cell_far (p := ⟨gb851, _, none⟩) NB837_851.out _).trans (hHeld.2.1)))), ((cell_far (p := ⟨gb851, _, none⟩) NB838_851.out _).trans (((cell_far (p := ⟨gb851, _, none⟩) NB838_851.out _).trans (hHeld.2.2.1)))), ((cell_far (p := ⟨gb851, _, none⟩) NB838_851.out _).trans (((cell_far (p := ⟨gb851, _, none⟩) NB838_851.out _).trans (hHeld.2.2.2))))⟩ (fun hHeld => ?_)
        clear hK K
        refine done_ (done_of HT_.out (by kernel_rfl)) ?_
        try go_wp2
        have n0_ : Aside0 (Kd.R (Kd.int .i64) 3 ((((w39.setCell ⟨gb850, 0, none⟩ (.bool t842)).setCell ⟨gb850, 1, none⟩ (.slice Ao41 t843.length co41)).setCell ⟨gb851, 0, none⟩ (.bool t846)).setCell ⟨gb851, 1, none⟩ (.slice Ao44 t847.length co44)) w.heap.size (fun k_ => some k_ ≠ (.slice Ao44 t847.length co44 : Value).ownBlock) (.slice Ao41 t843.length co41) t843) := ⟨by (with_reducible repeat first | apply qa | apply qn | apply qd); exact Kd.R_mono (Kd.R_far (p := ⟨gb851, 1, none⟩) (Kd.R_far (p := ⟨gb851, 0, none⟩) (Kd.R_far (p := ⟨gb850, 1, none⟩) (Kd.R_far (p := ⟨gb850, 0, none⟩) (Kd.R_types (Kd.R_types HO845.out BK850.out (by decide)) BK851.out (by decide)) (fun _ hk => hk.1.2) (.bool t842)) (fun _ hk => hk.1.2) (.slice Ao41 t843.length co41)) (fun _ hk => hk.2) (.bool t846)) (fun _ hk => hk.2) (.slice Ao44 t847.length co44)) (fun _ hk => hk.1.1)⟩
        have n1_ : Aside0 (Kd.R (Kd.int .i64) 3 ((((w39.setCell ⟨gb850, 0, none⟩ (.bool t842)).setCell ⟨gb850, 1, none⟩ (.slice Ao41 t843.length co41)).setCell ⟨gb851, 0, none⟩ (.bool t846)).setCell ⟨gb851, 1, none⟩ (.slice Ao44 t847.length co44)) w.heap.size (fun k_ => some k_ ≠ (.slice Ao41 t843.length co41 : Value).ownBlock) (.slice Ao44 t847.length co44) t847) := ⟨by (with_reducible repeat first | apply qa | apply qn | apply qd); exact Kd.R_mono (Kd.R_far (p := ⟨gb851, 1, none⟩) (Kd.R_far (p := ⟨gb851, 0, none⟩) (Kd.R_far (p := ⟨gb850, 1, none⟩) (Kd.R_far (p := ⟨gb850, 0, none⟩) (Kd.R_types (Kd.R_types HO849.out BK850.out (by decide)) BK851.out (by decide)) (fun _ hk => hk.1.2) (.bool t842)) (fun _ hk => hk.1.2) (.slice Ao41 t843.length co41)) (fun _ hk => hk.2) (.bool t846)) (fun _ hk => hk.2) (.slice Ao44 t847.length co44)) (fun _ hk => hk.1.1)⟩
        have n2_ : Aside0 (((((w39.setCell ⟨gb850, 0, none⟩ (.bool t842)).setCell ⟨gb850, 1, none⟩ (.slice Ao41 t843.length co41)).setCell ⟨gb851, 0, none⟩ (.bool t846)).setCell ⟨gb851, 1, none⟩ (.slice Ao44 t847.length co44)).heap[gb837]? = some (.cells #[.bool a0_0, .slice A0_1 l0_1.length c0_1] 24 (0, 0))) := ⟨tk BK837⟩
        have n3_ : Aside0 (((((w39.setCell ⟨gb850, 0, none⟩ (.bool t842)).setCell ⟨gb850, 1, none⟩ (.slice Ao41 t843.length co41)).setCell ⟨gb851, 0, none⟩ (.bool t846)).setCell ⟨gb851, 1, none⟩ (.slice Ao44 t847.length co44)).heap[gb838]? = some (.cells #[.bool a1_0, .slice A1_1 l1_1.length c1_1] 24 (0, 0))) := ⟨tk BK838⟩
        have n4_ : Aside0 (((((w39.setCell ⟨gb850, 0, none⟩ (.bool t842)).setCell ⟨gb850, 1, none⟩ (.slice Ao41 t843.length co41)).setCell ⟨gb851, 0, none⟩ (.bool t846)).setCell ⟨gb851, 1, none⟩ (.slice Ao44 t847.length co44)).heap[gb850]? = some (.cells #[.bool t842, .slice Ao41 t843.length co41] 32 (0, 0))) := ⟨tk BK850⟩
        have n5_ : Aside0 (((((w39.setCell ⟨gb850, 0, none⟩ (.bool t842)).setCell ⟨gb850, 1, none⟩ (.slice Ao41 t843.length co41)).setCell ⟨gb851, 0, none⟩ (.bool t846)).setCell ⟨gb851, 1, none⟩ (.slice Ao44 t847.length co44)).heap[gb851]? = some (.cells #[.bool t846, .slice Ao44 t847.length co44] 32 (0, 0))) := ⟨tk BK851⟩
        have n6_ : Aside0 (Below w.heap.size w ((((w39.setCell ⟨gb850, 0, none⟩ (.bool t842)).setCell ⟨gb850, 1, none⟩ (.slice Ao41 t843.length co41)).setCell ⟨gb851, 0, none⟩ (.bool t846)).setCell ⟨gb851, 1, none⟩ (.slice Ao44 t847.length co44))) := ⟨tb HB⟩
        (try clear HO845); (try clear HO849); (try clear BK837); (try clear BK838); (try clear BK850); (try clear BK851); (try clear HB)
        generalize ((((w39.setCell ⟨gb850, 0, none⟩ (.bool t842)).setCell ⟨gb850, 1, none⟩ (.slice Ao41 t843.length co41)).setCell ⟨gb851, 0, none⟩ (.bool t846)).setCell ⟨gb851, 1, none⟩ (.slice Ao44 t847.length co44)) = w46 at n0_ n1_ n2_ n3_ n4_ n5_ n6_ ⊢
        have HO845 := n0_
        have HO849 := n1_
        have BK837 := n2_
        have BK838 := n3_
        have BK850 := n4_
        have BK851 := n5_
        have HB := n6_
        clear n0_ n1_ n2_ n3_ n4_ n5_ n6_
        replace HO845 := Aside0.mk (Kd.R_drew HO845.out)
        replace HO849 := Aside0.mk (Kd.R_drew HO849.out)
        replace BK837 := Aside0.mk (blk_drew BK837.out)
        replace BK838 := Aside0.mk (blk_drew BK838.out)
        replace BK850 := Aside0.mk (blk_drew BK850.out)
        replace BK851 := Aside0.mk (blk_drew BK851.out)
        replace HB := Aside0.mk (below_drew1 HB.out)
        refine start_ (n := 29) (S := fun w' => w'.cell? ⟨gb837, 0, none⟩ = some (.bool a0_0) ∧ w'.cell? ⟨gb837, 1, none⟩ = some (.slice A0_1 l0_1.length c0_1) ∧ w'.cell? ⟨gb838, 0, none⟩ = some (.bool a1_0) ∧ w'.cell? ⟨gb838, 1, none⟩ = some (.slice A1_1 l1_1.length c1_1) ∧ w'.cell? ⟨gb850, 0, none⟩ = some (.bool t842) ∧ w'.cell? ⟨gb850, 1, none⟩ = some (.slice Ao41 t843.length co41) ∧ w'.cell? ⟨gb851, 0, none⟩ = some (.bool t846) ∧ w'.cell? ⟨gb851, 1, none⟩ = some (.slice Ao44 t847.length co44)) (ds := []) #[false, false, false, false, false, false, false, false, false, false, false, false, false, false, false, false, false, false, false, false, false, false, false, false, false, false, false, false, false] (by kernel_rfl) rfl rfl ⟨(blk_cell BK837.out 0).trans rfl, (blk_cell BK837.out 1).trans rfl, (blk_cell BK838.out 0).trans rfl, (blk_cell BK838.out 1).trans rfl, (blk_cell BK850.out 0).trans rfl, (blk_cell BK850.out 1).trans rfl, (blk_cell BK851.out 0).trans rfl, (blk_cell BK851.out 1).trans rfl⟩ (fun hHeld => ?_); refine with_tabW whetstonelaw02_BigProducts.tab4 whetstonelaw02_BigProducts.bits4 (fun HT_ HW_ => ?_)
        generalize w46.drew = w47 at HO845 HO849 BK837 BK838 BK850 BK851 HB hHeld ⊢
        refine oT (i := 0) (N := some 20) (bb 29 1) HT_ fun K hK => ?_
        refine gS Try.func13 #[] ?_
        with_reducible refine (whetstonelaw02_signed.calls kj2  true _ A22.out).mono ?_
        rintro e w48 ⟨rfl, hb⟩
        refine ⟨_, rfl, ?_⟩
        replace HO845 := rb HO845 hb
        replace HO849 := rb HO849 hb
        replace BK837 := kb BK837 hb
        replace BK838 := kb BK838 hb
        replace BK850 := kb BK850 hb
        replace BK851 := kb BK851 hb
        replace HB := bs HB hb
        (try clear hb); (try clear hb2); (try clear hk); (try clear hi)
        refine hK.out _ _ held fun hHeld => nT (N := some 20) ?_
        clear hK K
        refine pT (i := 1) (N := some 21) (bb 29 3) HT_ ?_
        refine tW (i := 2) (N := some 22) (bb 29 7) HT_ HW_ hHeld ?_
        refine tW (i := 3) (N := some 23) (bb 29 15) HT_ HW_ hHeld ?_
        refine tW (i := 5) (N := some 25) (bb 29 47) HT_ HW_ hHeld ?_
        refine tW (i := 6) (N := some 26) (bb 29 111) HT_ HW_ hHeld ?_
        refine oT (i := 4) (N := some 24) (bb 29 127) HT_ fun K hK => ?_
        refine gS Try.func39 #[.agg #[.bool a0_0, .slice A0_1 l0_1.length c0_1], .agg #[.bool a1_0, .slice A1_1 l1_1.length c1_1]] ?_
        with_reducible refine (big_Mul.calls kj2 a0_0 _ _ l0_1 a1_0 _ _ l1_1 t853 t854 _ ?side1 ?side2 ?side3 ?side4 A24.out).mono ?_
        (case side1 => exact tc (Kd.C_below HR0_1.out HB.out))
        (case side2 => exact HC0_1.out)
        (case side3 => exact tc (Kd.C_below HR1_1.out HB.out))
        (case side4 => exact HC1_1.out)
        rintro e w49 ⟨v855, rfl, ho0, hb⟩
        refine ⟨_, rfl, ?_⟩
        replace HO845 := rb HO845 hb
        replace HO849 := rb HO849 hb
        have HO856 := rl ho0 HB
        replace BK837 := kb BK837 hb
        replace BK838 := kb BK838 hb
        replace BK850 := kb BK850 hb
        replace BK851 := kb BK851 hb
        replace HB := bs HB hb
        (try clear hb); (try clear hb2); (try clear hk); (try clear hi); (try clear ho0)
        refine hK.out _ _ held fun hHeld => nT (N := some 24) ?_
        clear hK K
        refine oT (i := 7) (N := some 27) (bb 29 255) HT_ fun K hK => ?_
        refine gS Try.func41 #[.agg #[.bool t842, .slice Ao41 t843.length co41], .agg #[.bool t846, .slice Ao44 t847.length co44]] ?_
        with_reducible refine (whetstoneref02_Mul.calls kj2 t842 _ _ t843 t846 _ _ t847 t857 t858 _ ?side1 ?side2 ?side3 ?side4 A25.out).mono ?_
        (case side1 => exact tc (Kd.R_reads' HO845.out).2.2)
        (case side2 => exact (Kd.R_reads' HO845.out).2.1)
        (case side3 => exact tc (Kd.R_reads' HO849.out).2.2)
        (case side4 => exact (Kd.R_reads' HO849.out).2.1)
        rintro e w50 ⟨v859, rfl, ho0, hb⟩
        refine ⟨_, rfl, ?_⟩
        replace HO856 := rb HO856 hb
        have HO860 := Aside0.mk (Kd.R_lower (Kd.R_new' (Kd.R_new' ho0 (Kd.R_lt (tq HO845))) (Kd.R_lt (tq HO849))) (below_size (tb HB)))
        replace HO845 := re HO845 (Kd.R_base ho0) hb
        replace HO849 := re HO849 (Kd.R_base ho0) hb
        replace BK837 := kb BK837 hb
        replace BK838 := kb BK838 hb
        replace BK850 := kb BK850 hb
        replace BK851 := kb BK851 hb
        replace HB := bs HB hb
        (try clear hb); (try clear hb2); (try clear hk); (try clear hi); (try clear ho0)
        obtain ⟨Ao51, co51, eo51⟩ := Kd.R_slice HO856.out
        (first | subst eo51 | (injection eo51 with f1_ f2_ f3_; have f4_ := f1_.symm; have f5_ := f3_.symm; clear f1_ f2_ f3_; subst f4_; subst f5_))
        obtain ⟨Ao52, co52, eo52⟩ := Kd.R_slice HO860.out
        (first | subst eo52 | (injection eo52 with f1_ f2_ f3_; have f4_ := f1_.symm; have f5_ := f3_.symm; clear f1_ f2_ f3_; subst f4_; subst f5_))
        refine hK.out _ _ held fun hHeld => nT (N := some 27) ?_
        clear hK K
        refine oT (i := 8) (N := some 28) (bb 29 511) HT_ fun K hK => ?_
        refine gS Try.func19 #[.agg #[.bool t853, .slice Ao51 t854.length co51], .agg #[.bool t857, .slice Ao52 t858.length co52]] ?_
        with_reducible refine (whetstonelaw02_same.calls kj2 t853 _ _ t854 t857 _ _ t858 true _ ?side1 ?side2 ?side3 ?side4 A26.out).mono ?_
        (case side1 => exact tc (Kd.R_reads' HO856.out).2.2)
        (case side2 => exact (Kd.R_reads' HO856.out).2.1)
        (case side3 => exact tc (Kd.R_reads' HO860.out).2.2)
        (case side4 => exact (Kd.R_reads' HO860.out).2.1)
        rintro e w53 ⟨rfl, hb⟩
        refine ⟨_, rfl, ?_⟩
        replace HO845 := rb HO845 hb
        replace HO849 := rb HO849 hb
        replace HO856 := rb HO856 hb
        replace HO860 := rb HO860 hb
        replace BK837 := kb BK837 hb
        replace BK838 := kb BK838 hb
        replace BK850 := kb BK850 hb
        replace BK851 := kb BK851 hb
        replace HB := bs HB hb
        (try clear hb); (try clear hb2); (try clear hk); (try clear hi)
        refine hK.out _ _ held fun hHeld => nT (N := some 28) ?_
        clear hK K
        refine pT (i := 9) (N := some 29) (bb 29 1023) HT_ ?_
        refine pT (i := 10) (N := some 30) (bb 29 2047) HT_ ?_
        refine tW (i := 11) (N := some 31) (bb 29 4095) HT_ HW_ hHeld ?_
        refine tW (i := 12) (N := some 32) (bb 29 8191) HT_ HW_ hHeld ?_
        refine tW (i := 14) (N := some 34) (bb 29 24575) HT_ HW_ hHeld ?_
        refine tW (i := 15) (N := some 35) (bb 29 57343) HT_ HW_ hHeld ?_
        refine oT (i := 13) (N := some 33) (bb 29 65535) HT_ fun K hK => ?_
        refine gS Try.func42 #[.agg #[.bool a0_0, .slice A0_1 l0_1.length c0_1], .agg #[.bool a1_0, .slice A1_1 l1_1.length c1_1]] ?_
        with_reducible refine (big_Gcd.calls kj2 a0_0 _ _ l0_1 a1_0 _ _ l1_1 t862 t863 _ ?side1 ?side2 ?side3 ?side4 A28.out).mono ?_
        (case side1 => exact tc (Kd.C_below HR0_1.out HB.out))
        (case side2 => exact HC0_1.out)
        (case side3 => exact tc (Kd.C_below HR1_1.out HB.out))
        (case side4 => exact HC1_1.out)
        rintro e w54 ⟨v864, rfl, ho0, hb⟩
        refine ⟨_, rfl, ?_⟩
        replace HO845 := rb HO845 hb
        replace HO849 := rb HO849 hb
        replace HO860 := rb HO860 hb
        have HO865 := Aside0.mk (Kd.R_lower (Kd.R_new' ho0 (Kd.R_lt (tq HO856))) (below_size (tb HB)))
        replace BK837 := kb BK837 hb
        replace BK838 := kb BK838 hb
        replace BK850 := kb BK850 hb
        replace BK851 := kb BK851 hb
        replace HB := bs HB hb
        (try clear hb); (try clear hb2); (try clear hk); (try clear hi); (try clear ho0)
        refine hK.out _ _ held fun hHeld => nT (N := some 33) ?_
        clear hK K
        refine oT (i := 16) (N := some 36) (bb 29 131071) HT_ fun K hK => ?_
        refine gS Try.func43 #[.agg #[.bool t842, .slice Ao41 t843.length co41], .agg #[.bool t846, .slice Ao44 t847.length co44]] ?_
        with_reducible refine (whetstoneref02_Gcd.calls kj2 t842 _ _ t843 t846 _ _ t847 t866 t867 _ ?side1 ?side2 ?side3 ?side4 A29.out).mono ?_
        (case side1 => exact tc (Kd.R_reads' HO845.out).2.2)
        (case side2 => exact (Kd.R_reads' HO845.out).2.1)
        (case side3 => exact tc (Kd.R_reads' HO849.out).2.2)
        (case side4 => exact (Kd.R_reads' HO849.out).2.1)
        rintro e w55 ⟨v868, rfl, ho0, hb⟩
        refine ⟨_, rfl, ?_⟩
        replace HO865 := rb HO865 hb
        have HO869 := Aside0.mk (Kd.R_lower (Kd.R_new' (Kd.R_new' (Kd.R_new' ho0 (Kd.R_lt (tq HO845))) (Kd.R_lt (tq HO849))) (Kd.R_lt (tq HO860))) (below_size (tb HB)))
        replace HO845 := re HO845 (Kd.R_base ho0) hb
        replace HO849 := re HO849 (Kd.R_base ho0) hb
        replace BK837 := kb BK837 hb
        replace BK838 := kb BK838 hb
        replace BK850 := kb BK850 hb
        replace BK851 := kb BK851 hb
        replace HB := bs HB hb
        (try clear hb); (try clear hb2); (try clear hk); (try clear hi); (try clear ho0)
        obtain ⟨Ao56, co56, eo56⟩ := Kd.R_slice HO865.out
        (first | subst eo56 | (injection eo56 with f1_ f2_ f3_; have f4_ := f1_.symm; have f5_ := f3_.symm; clear f1_ f2_ f3_; subst f4_; subst f5_))
        obtain ⟨Ao57, co57, eo57⟩ := Kd.R_slice HO869.out
        (first | subst eo57 | (injection eo57 with f1_ f2_ f3_; have f4_ := f1_.symm; have f5_ := f3_.symm; clear f1_ f2_ f3_; subst f4_; subst f5_))
        refine hK.out _ _ held fun hHeld => nT (N := some 36) ?_
        clear hK K
        refine oT (i := 17) (N := some 37) (bb 29 262143) HT_ fun K hK => ?_
        refine gS Try.func19 #[.agg #[.bool t862, .slice Ao56 t863.length co56], .agg #[.bool t866, .slice Ao57 t867.length co57]] ?_
        with_reducible refine (whetstonelaw02_same.calls kj2 t862 _ _ t863 t866 _ _ t867 true _ ?side1 ?side2 ?side3 ?side4 A30.out).mono ?_
        (case side1 => exact tc (Kd.R_reads' HO865.out).2.2)
        (case side2 => exact (Kd.R_reads' HO865.out).2.1)
        (case side3 => exact tc (Kd.R_reads' HO869.out).2.2)
        (case side4 => exact (Kd.R_reads' HO869.out).2.1)
        rintro e w58 ⟨rfl, hb⟩
        refine ⟨_, rfl, ?_⟩
        replace HO845 := rb HO845 hb
        replace HO849 := rb HO849 hb
        replace BK837 := kb BK837 hb
        replace BK838 := kb BK838 hb
        replace BK850 := kb BK850 hb
        replace BK851 := kb BK851 hb
        replace HB := bs HB hb
        (try clear hb); (try clear hb2); (try clear hk); (try clear hi)
        refine hK.out _ _ held fun hHeld => nT (N := some 37) ?_
        clear hK K
        refine pT (i := 18) (N := some 38) (bb 29 524287) HT_ ?_
        refine pT (i := 19) (N := some 39) (bb 29 1048575) HT_ ?_
        refine tW (i := 20) (N := some 40) (bb 29 2097151) HT_ HW_ hHeld ?_
        refine tW (i := 21) (N := some 41) (bb 29 4194303) HT_ HW_ hHeld ?_
        refine tW (i := 23) (N := some 43) (bb 29 12582911) HT_ HW_ hHeld ?_
        refine tW (i := 24) (N := some 44) (bb 29 29360127) HT_ HW_ hHeld ?_
        refine oT (i := 22) (N := some 42) (bb 29 33554431) HT_ fun K hK => ?_
        refine gS Try.func44 #[.agg #[.bool a0_0, .slice A0_1 l0_1.length c0_1], .agg #[.bool a1_0, .slice A1_1 l1_1.length c1_1]] ?_
        with_reducible refine (big_Divides.calls kj2 a0_0 _ _ l0_1 a1_0 _ _ l1_1 t871 _ ?side1 ?side2 ?side3 ?side4 A32.out).mono ?_
        (case side1 => exact tc (Kd.C_below HR0_1.out HB.out))
        (case side2 => exact HC0_1.out)
        (case side3 => exact tc (Kd.C_below HR1_1.out HB.out))
        (case side4 => exact HC1_1.out)
        rintro e w59 ⟨rfl, hb⟩
        refine ⟨_, rfl, ?_⟩
        replace HO845 := rb HO845 hb
        replace HO849 := rb HO849 hb
        replace BK837 := kb BK837 hb
        replace BK838 := kb BK838 hb
        replace BK850 := kb BK850 hb
        replace BK851 := kb BK851 hb
        replace HB := bs HB hb
        (try clear hb); (try clear hb2); (try clear hk); (try clear hi)
        refine hK.out _ _ held fun hHeld => nT (N := some 42) ?_
        clear hK K
        refine oT (i := 25) (N := some 45) (bb 29 67108863) HT_ fun K hK => ?_
        refine gS Try.func45 #[.agg #[.bool t842, .slice Ao41 t843.length co41], .agg #[.bool t846, .slice Ao44 t847.length co44]] ?_
        with_reducible refine (whetstoneref02_Divides.calls kj2 t842 _ _ t843 t846 _ _ t847 t872 _ ?side1 ?side2 ?side3 ?side4 A33.out).mono ?_
        (case side1 => exact tc (Kd.R_reads' HO845.out).2.2)
        (case side2 => exact (Kd.R_reads' HO845.out).2.1)
        (case side3 => exact tc (Kd.R_reads' HO849.out).2.2)
        (case side4 => exact (Kd.R_reads' HO849.out).2.1)
        rintro e w60 ⟨rfl, hb⟩
        refine ⟨_, rfl, ?_⟩
        replace BK837 := kb BK837 hb
        replace BK838 := kb BK838 hb
        replace BK850 := kb BK850 hb
        replace BK851 := kb BK851 hb
        replace HB := bs HB hb
        (try clear hb); (try clear hb2); (try clear hk); (try clear hi)
        refine hK.out _ _ held fun hHeld => nT (N := some 45) ?_
        clear hK K
        refine pT (i := 26) (N := some 46) (bb 29 134217727) HT_ ?_
        refine pT (i := 27) (N := some 47) (bb 29 268435455) HT_ ?_
        refine pT (i := 28) (N := some 4) (bb 29 536870911) HT_ ?_
        refine done_ (done_of HT_.out (by kernel_rfl)) ?_
        try go_wp2
        go_ret
        exact ⟨by first | rfl | (simp [errW_none, errW_some] <;> rfl) | (simp [*, errW_none, errW_some] <;> rfl), tb HB⟩
       intro hJ1_3_4_5
       refine join_ (σ := Value × Value × Nat) 3 (bb 8 31) (fun s_ => [(17, .agg #[.bool t842, s_.1]), (19, .agg #[.bool t846, s_.2.1]), (5, .pointer (some ⟨s_.2.2, 0, none⟩))]) (fun s_ w' => (w'.cell? ⟨gb837, 0, none⟩ = some (.bool a0_0) ∧ w'.cell? ⟨gb837, 1, none⟩ = some (.slice A0_1 l0_1.length c0_1) ∧ w'.cell? ⟨gb838, 0, none⟩ = some (.bool a1_0) ∧ w'.cell? ⟨gb838, 1, none⟩ = some (.slice A1_1 l1_1.length c1_1)) ∧ Aside0 (Kd.R (Kd.int .i64) 3 w' w.heap.size (fun k_ => some k_ ≠ (s_.2.1 : Value).ownBlock) s_.1 t843) ∧ Aside0 (Kd.R (Kd.int .i64) 3 w' w.heap.size (fun k_ => some k_ ≠ (s_.1 : Value).ownBlock) s_.2.1 t847) ∧ Aside0 (w'.heap[gb837]? = some (.cells #[.bool a0_0, .slice A0_1 l0_1.length c0_1] 24 (0, 0))) ∧ Aside0 (w'.heap[gb838]? = some (.cells #[.bool a1_0, .slice A1_1 l1_1.length c1_1] 24 (0, 0))) ∧ Aside0 (w'.heap[s_.2.2]? = some (.cells #[.bool false, .slice none 0 0] 32 (0, 0))) ∧ Aside0 (w.heap.size ≤ s_.2.2) ∧ Aside0 (w.heap.size ≤ s_.2.2) ∧ Aside0 (gb837 ≠ s_.2.2) ∧ Aside0 (s_.2.2 ≠ gb837) ∧ Aside0 (gb838 ≠ s_.2.2) ∧ Aside0 (s_.2.2 ≠ gb838) ∧ Aside0 (Below w.heap.size w w')) ?_ ?_
       ·skip
        ·skip
         clear BK837 BK838 HB
         rintro ⟨v844, v848, gb850⟩ w38 ⟨hHeld, HO845, HO849, BK837, BK838, BK850, GW850, GE850, NB837_850, NB850_837, NB838_850, NB850_838, HB⟩
         try dsimp only at hHeld HO845 HO849 BK837 BK838 BK850 GW850 GE850 NB837_850 NB850_837 NB838_850 NB850_838 HB
         refine nP ?_
         refine oT (i := 5) (N := some 6) (bb 8 63) HT_ fun K hK => ?_
         refine box_step ?hg (N := 6) ?hd (cs := #[.bool false, .slice none 0 0]) (t := 32) ?hr ?_; (case hd => rfl); (case hg => rfl); (case hr => first | (go_simp; done) | (go_simp; rfl))
         intro gb851 hg w39 hbox hb
         replace HO845 := rb HO845 hb
         replace HO849 := rb HO849 hb
         have BK851 := Aside0.mk (hbox)
         have GW851 := bz hg HB
         have GE851 := bz hg HB
         replace HB := bs HB hb
         have NB837_851 := nl hg BK837
         have NB851_837 := ng hg BK837
         replace BK837 := kb BK837 hb
         have NB838_851 := nl hg BK838
         have NB851_838 := ng hg BK838
         replace BK838 := kb BK838 hb
         have NB850_851 := nl hg BK850
         have NB851_850 := ng hg BK850
         replace BK850 := kb BK850 hb
         clear hb hbox hg
         refine hK.out _ _ held fun hHeld => nT (N := some 6) ?_
         clear hK K
         exact nJ (hJ1_3_4_5 (v844, v848, gb850, gb851) _ ⟨hHeld, ⟨tq HO845⟩, ⟨tq HO849⟩, ⟨tk BK837⟩, ⟨tk BK838⟩, ⟨tk BK850⟩, ⟨tk BK851⟩, GW850, GE850, NB837_850, NB850_837, NB838_850, NB850_838, NB851_850, NB850_851, GW851, GE851, NB837_851, NB851_837, NB838_851, NB851_838, ⟨tb HB⟩⟩)
       intro hJ1_3_4
       refine join_ (σ := Value × Value × Nat) 3 (bb 8 47) (fun s_ => [(17, .agg #[.bool t842, s_.1]), (19, .agg #[.bool t846, s_.2.1]), (6, .pointer (some ⟨s_.2.2, 0, none⟩))]) (fun s_ w' => (w'.cell? ⟨gb837, 0, none⟩ = some (.bool a0_0) ∧ w'.cell? ⟨gb837, 1, none⟩ = some (.slice A0_1 l0_1.length c0_1) ∧ w'.cell? ⟨gb838, 0, none⟩ = some (.bool a1_0) ∧ w'.cell? ⟨gb838, 1, none⟩ = some (.slice A1_1 l1_1.length c1_1)) ∧ Aside0 (Kd.R (Kd.int .i64) 3 w' w.heap.size (fun k_ => some k_ ≠ (s_.2.1 : Value).ownBlock) s_.1 t843) ∧ Aside0 (Kd.R (Kd.int .i64) 3 w' w.heap.size (fun k_ => some k_ ≠ (s_.1 : Value).ownBlock) s_.2.1 t847) ∧ Aside0 (w'.heap[gb837]? = some (.cells #[.bool a0_0, .slice A0_1 l0_1.length c0_1] 24 (0, 0))) ∧ Aside0 (w'.heap[gb838]? = some (.cells #[.bool a1_0, .slice A1_1 l1_1.length c1_1] 24 (0, 0))) ∧ Aside0 (w'.heap[s_.2.2]? = some (.cells #[.bool false, .slice none 0 0] 32 (0, 0))) ∧ Aside0 (w.heap.size ≤ s_.2.2) ∧ Aside0 (w.heap.size ≤ s_.2.2) ∧ Aside0 (gb837 ≠ s_.2.2) ∧ Aside0 (s_.2.2 ≠ gb837) ∧ Aside0 (gb838 ≠ s_.2.2) ∧ Aside0 (s_.2.2 ≠ gb838) ∧ Aside0 (Below w.heap.size w w')) ?_ ?_
       ·skip
        ·skip
         clear BK837 BK838 HB
         rintro ⟨v844, v848, gb851⟩ w38 ⟨hHeld, HO845, HO849, BK837, BK838, BK851, GW851, GE851, NB837_851, NB851_837, NB838_851, NB851_838, HB⟩
         try dsimp only at hHeld HO845 HO849 BK837 BK838 BK851 GW851 GE851 NB837_851 NB851_837 NB838_851 NB851_838 HB
         refine nP ?_
         refine oT (i := 4) (N := some 5) (bb 8 63) HT_ fun K hK => ?_
         refine box_step ?hg (N := 5) ?hd (cs := #[.bool false, .slice none 0 0]) (t := 32) ?hr ?_; (case hd => rfl); (case hg => rfl); (case hr => first | (go_simp; done) | (go_simp; rfl))
         intro gb850 hg w39 hbox hb
         replace HO845 := rb HO845 hb
         replace HO849 := rb HO849 hb
         have BK850 := Aside0.mk (hbox)
         have GW850 := bz hg HB
         have GE850 := bz hg HB
         replace HB := bs HB hb
         have NB837_850 := nl hg BK837
         have NB850_837 := ng hg BK837
         replace BK837 := kb BK837 hb
         have NB838_850 := nl hg BK838
         have NB850_838 := ng hg BK838
         replace BK838 := kb BK838 hb
         have NB851_850 := nl hg BK851
         have NB850_851 := ng hg BK851
         replace BK851 := kb BK851 hb
         clear hb hbox hg
         refine hK.out _ _ held fun hHeld => nT (N := some 5) ?_
         clear hK K
         exact nJ (hJ1_3_4_5 (v844, v848, gb850, gb851) _ ⟨hHeld, ⟨tq HO845⟩, ⟨tq HO849⟩, ⟨tk BK837⟩, ⟨tk BK838⟩, ⟨tk BK850⟩, ⟨tk BK851⟩, GW850, GE850, NB837_850, NB850_837, NB838_850, NB850_838, NB851_850, NB850_851, GW851, GE851, NB837_851, NB851_837, NB838_851, NB851_838, ⟨tb HB⟩⟩)
       intro hJ1_3_5
       refine join_ (σ := Value × Nat × Nat) 3 (bb 8 55) (fun s_ => [(17, .agg #[.bool t842, s_.1]), (5, .pointer (some ⟨s_.2.1, 0, none⟩)), (6, .pointer (some ⟨s_.2.2, 0, none⟩))]) (fun s_ w' => (w'.cell? ⟨gb837, 0, none⟩ = some (.bool a0_0) ∧ w'.cell? ⟨gb837, 1, none⟩ = some (.slice A0_1 l0_1.length c0_1) ∧ w'.cell? ⟨gb838, 0, none⟩ = some (.bool a1_0) ∧ w'.cell? ⟨gb838, 1, none⟩ = some (.slice A1_1 l1_1.length c1_1)) ∧ Aside0 (Kd.R (Kd.int .i64) 3 w' w.heap.size (fun _ => True) s_.1 t843) ∧ Aside0 (w'.heap[gb837]? = some (.cells #[.bool a0_0, .slice A0_1 l0_1.length c0_1] 24 (0, 0))) ∧ Aside0 (w'.heap[gb838]? = some (.cells #[.bool a1_0, .slice A1_1 l1_1.length c1_1] 24 (0, 0))) ∧ Aside0 (w'.heap[s_.2.1]? = some (.cells #[.bool false, .slice none 0 0] 32 (0, 0))) ∧ Aside0 (w'.heap[s_.2.2]? = some (.cells #[.bool false, .slice none 0 0] 32 (0, 0))) ∧ Aside0 (w.heap.size ≤ s_.2.1) ∧ Aside0 (w.heap.size ≤ s_.2.1) ∧ Aside0 (gb837 ≠ s_.2.1) ∧ Aside0 (s_.2.1 ≠ gb837) ∧ Aside0 (gb838 ≠ s_.2.1) ∧ Aside0 (s_.2.1 ≠ gb838) ∧ Aside0 (s_.2.2 ≠ s_.2.1) ∧ Aside0 (s_.2.1 ≠ s_.2.2) ∧ Aside0 (w.heap.size ≤ s_.2.2) ∧ Aside0 (w.heap.size ≤ s_.2.2) ∧ Aside0 (gb837 ≠ s_.2.2) ∧ Aside0 (s_.2.2 ≠ gb837) ∧ Aside0 (gb838 ≠ s_.2.2) ∧ Aside0 (s_.2.2 ≠ gb838) ∧ Aside0 (Below w.heap.size w w')) ?_ ?_
       ·skip
        ·skip
         clear BK837 BK838 HB
         rintro ⟨v844, gb850, gb851⟩ w38 ⟨hHeld, HO845, BK837, BK838, BK850, BK851, GW850, GE850, NB837_850, NB850_837, NB838_850, NB850_838, NB851_850, NB850_851, GW851, GE851, NB837_851, NB851_837, NB838_851, NB851_838, HB⟩
         try dsimp only at hHeld HO845 BK837 BK838 BK850 BK851 GW850 GE850 NB837_850 NB850_837 NB838_850 NB850_838 NB851_850 NB850_851 GW851 GE851 NB837_851 NB851_837 NB838_851 NB851_838 HB
         refine nP ?_
         refine oT (i := 3) (N := some 19) (bb 8 63) HT_ fun K hK => ?_
         refine gS Try.func18 #[.agg #[.bool a1_0, .slice A1_1 l1_1.length c1_1]] ?_
         with_reducible refine (whetstonelaw02_of.calls kj2 a1_0 _ _ l1_1 t846 t847 _ ?side1 ?side2 A21.out).mono ?_
         (case side1 => exact tc (Kd.C_below HR1_1.out HB.out))
         (case side2 => exact HC1_1.out)
         rintro e w39 ⟨v848, rfl, ho0, hb⟩
         refine ⟨_, rfl, ?_⟩
         have HO849 := Aside0.mk (Kd.R_lower (Kd.R_new' ho0 (Kd.R_lt (tq HO845))) (below_size (tb HB)))
         replace HO845 := re HO845 (Kd.R_base ho0) hb
         replace BK837 := kb BK837 hb
         replace BK838 := kb BK838 hb
         replace BK850 := kb BK850 hb
         replace BK851 := kb BK851 hb
         replace HB := bs HB hb
         (try clear hb); (try clear hb2); (try clear hk); (try clear hi); (try clear ho0)
         refine hK.out _ _ held fun hHeld => nT (N := some 19) ?_
         clear hK K
         exact nJ (hJ1_3_4_5 (v844, v848, gb850, gb851) _ ⟨hHeld, ⟨by (with_reducible repeat first | apply qa | apply qn | apply qd); exact Kd.R_mono HO845.out (fun _ hk => hk.2)⟩, ⟨by (with_reducible repeat first | apply qa | apply qn | apply qd); exact Kd.R_mono HO849.out (fun _ hk => hk.2)⟩, ⟨tk BK837⟩, ⟨tk BK838⟩, ⟨tk BK850⟩, ⟨tk BK851⟩, GW850, GE850, NB837_850, NB850_837, NB838_850, NB850_838, NB851_850, NB850_851, GW851, GE851, NB837_851, NB851_837, NB838_851, NB851_838, ⟨tb HB⟩⟩)
       intro hJ1_4_5
       refine join_ (σ := Value × Value) 4 (bb 8 15) (fun s_ => [(17, .agg #[.bool t842, s_.1]), (19, .agg #[.bool t846, s_.2])]) (fun s_ w' => (w'.cell? ⟨gb837, 0, none⟩ = some (.bool a0_0) ∧ w'.cell? ⟨gb837, 1, none⟩ = some (.slice A0_1 l0_1.length c0_1) ∧ w'.cell? ⟨gb838, 0, none⟩ = some (.bool a1_0) ∧ w'.cell? ⟨gb838, 1, none⟩ = some (.slice A1_1 l1_1.length c1_1)) ∧ Aside0 (Kd.R (Kd.int .i64) 3 w' w.heap.size (fun k_ => some k_ ≠ (s_.2 : Value).ownBlock) s_.1 t843) ∧ Aside0 (Kd.R (Kd.int .i64) 3 w' w.heap.size (fun k_ => some k_ ≠ (s_.1 : Value).ownBlock) s_.2 t847) ∧ Aside0 (w'.heap[gb837]? = some (.cells #[.bool a0_0, .slice A0_1 l0_1.length c0_1] 24 (0, 0))) ∧ Aside0 (w'.heap[gb838]? = some (.cells #[.bool a1_0, .slice A1_1 l1_1.length c1_1] 24 (0, 0))) ∧ Aside0 (Below w.heap.size w w')) ?_ ?_
       ·skip
        ·skip
         clear BK837 BK838 HB
         rintro ⟨v844, v848⟩ w37 ⟨hHeld, HO845, HO849, BK837, BK838, HB⟩
         try dsimp only at hHeld HO845 HO849 BK837 BK838 HB
         refine nP ?_
         refine two_ (i := 4) (j := 5) (Ni := some 5) (Nj := some 6) (bb 8 31) (bb 8 47) rfl rfl rfl rfl (two_of HT_.out (by kernel_rfl)) (by decide) (by decide) (fun K hK => ?_) (fun K hK => ?_)
         ·skip
          refine box_step ?hg (N := 5) ?hd (cs := #[.bool false, .slice none 0 0]) (t := 32) ?hr ?_; (case hd => rfl); (case hg => rfl); (case hr => first | (go_simp; done) | (go_simp; rfl))
          intro gb850 hg w38 hbox hb
          replace HO845 := rb HO845 hb
          replace HO849 := rb HO849 hb
          have BK850 := Aside0.mk (hbox)
          have GW850 := bz hg HB
          have GE850 := bz hg HB
          replace HB := bs HB hb
          have NB837_850 := nl hg BK837
          have NB850_837 := ng hg BK837
          replace BK837 := kb BK837 hb
          have NB838_850 := nl hg BK838
          have NB850_838 := ng hg BK838
          replace BK838 := kb BK838 hb
          clear hb hbox hg
          refine hK.out _ _ held fun hHeld => nT (N := some 5) ?_
          clear hK K
          exact nJ (hJ1_3_4 (v844, v848, gb850) _ ⟨hHeld, ⟨tq HO845⟩, ⟨tq HO849⟩, ⟨tk BK837⟩, ⟨tk BK838⟩, ⟨tk BK850⟩, GW850, GE850, NB837_850, NB850_837, NB838_850, NB850_838, ⟨tb HB⟩⟩)
         ·skip
          refine box_step ?hg (N := 6) ?hd (cs := #[.bool false, .slice none 0 0]) (t := 32) ?hr ?_; (case hd => rfl); (case hg => rfl); (case hr => first | (go_simp; done) | (go_simp; rfl))
          intro gb851 hg w38 hbox hb
          replace HO845 := rb HO845 hb
          replace HO849 := rb HO849 hb
          have BK851 := Aside0.mk (hbox)
          have GW851 := bz hg HB
          have GE851 := bz hg HB
          replace HB := bs HB hb
          have NB837_851 := nl hg BK837
          have NB851_837 := ng hg BK837
          replace BK837 := kb BK837 hb
          have NB838_851 := nl hg BK838
          have NB851_838 := ng hg BK838
          replace BK838 := kb BK838 hb
          clear hb hbox hg
          refine hK.out _ _ held fun hHeld => nT (N := some 6) ?_
          clear hK K
          exact nJ (hJ1_3_5 (v844, v848, gb851) _ ⟨hHeld, ⟨tq HO845⟩, ⟨tq HO849⟩, ⟨tk BK837⟩, ⟨tk BK838⟩, ⟨tk BK851⟩, GW851, GE851, NB837_851, NB851_837, NB838_851, NB851_838, ⟨tb HB⟩⟩)
       intro hJ1_3
       refine join_ (σ := Value × Nat) 4 (bb 8 23) (fun s_ => [(17, .agg #[.bool t842, s_.1]), (5, .pointer (some ⟨s_.2, 0, none⟩))]) (fun s_ w' => (w'.cell? ⟨gb837, 0, none⟩ = some (.bool a0_0) ∧ w'.cell? ⟨gb837, 1, none⟩ = some (.slice A0_1 l0_1.length c0_1) ∧ w'.cell? ⟨gb838, 0, none⟩ = some (.bool a1_0) ∧ w'.cell? ⟨gb838, 1, none⟩ = some (.slice A1_1 l1_1.length c1_1)) ∧ Aside0 (Kd.R (Kd.int .i64) 3 w' w.heap.size (fun _ => True) s_.1 t843) ∧ Aside0 (w'.heap[gb837]? = some (.cells #[.bool a0_0, .slice A0_1 l0_1.length c0_1] 24 (0, 0))) ∧ Aside0 (w'.heap[gb838]? = some (.cells #[.bool a1_0, .slice A1_1 l1_1.length c1_1] 24 (0, 0))) ∧ Aside0 (w'.heap[s_.2]? = some (.cells #[.bool false, .slice none 0 0] 32 (0, 0))) ∧ Aside0 (w.heap.size ≤ s_.2) ∧ Aside0 (w.heap.size ≤ s_.2) ∧ Aside0 (gb837 ≠ s_.2) ∧ Aside0 (s_.2 ≠ gb837) ∧ Aside0 (gb838 ≠ s_.2) ∧ Aside0 (s_.2 ≠ gb838) ∧ Aside0 (Below w.heap.size w w')) ?_ ?_
       ·skip
        ·skip
         clear BK837 BK838 HB
         rintro ⟨v844, gb850⟩ w37 ⟨hHeld, HO845, BK837, BK838, BK850, GW850, GE850, NB837_850, NB850_837, NB838_850, NB850_838, HB⟩
         try dsimp only at hHeld HO845 BK837 BK838 BK850 GW850 GE850 NB837_850 NB850_837 NB838_850 NB850_838 HB
         refine nP ?_
         refine two_ (i := 3) (j := 5) (Ni := some 19) (Nj := some 6) (bb 8 31) (bb 8 55) rfl rfl rfl rfl (two_of HT_.out (by kernel_rfl)) (by decide) (by decide) (fun K hK => ?_) (fun K hK => ?_)
         ·skip
          refine gS Try.func18 #[.agg #[.bool a1_0, .slice A1_1 l1_1.length c1_1]] ?_
          with_reducible refine (whetstonelaw02_of.calls kj2 a1_0 _ _ l1_1 t846 t847 _ ?side1 ?side2 A21.out).mono ?_
          (case side1 => exact tc (Kd.C_below HR1_1.out HB.out))
          (case side2 => exact HC1_1.out)
          rintro e w38 ⟨v848, rfl, ho0, hb⟩
          refine ⟨_, rfl, ?_⟩
          have HO849 := Aside0.mk (Kd.R_lower (Kd.R_new' ho0 (Kd.R_lt (tq HO845))) (below_size (tb HB)))
          replace HO845 := re HO845 (Kd.R_base ho0) hb
          replace BK837 := kb BK837 hb
          replace BK838 := kb BK838 hb
          replace BK850 := kb BK850 hb
          replace HB := bs HB hb
          (try clear hb); (try clear hb2); (try clear hk); (try clear hi); (try clear ho0)
          refine hK.out _ _ held fun hHeld => nT (N := some 19) ?_
          clear hK K
          exact nJ (hJ1_3_4 (v844, v848, gb850) _ ⟨hHeld, ⟨by (with_reducible repeat first | apply qa | apply qn | apply qd); exact Kd.R_mono HO845.out (fun _ hk => hk.2)⟩, ⟨by (with_reducible repeat first | apply qa | apply qn | apply qd); exact Kd.R_mono HO849.out (fun _ hk => hk.2)⟩, ⟨tk BK837⟩, ⟨tk BK838⟩, ⟨tk BK850⟩, GW850, GE850, NB837_850, NB850_837, NB838_850, NB850_838, ⟨tb HB⟩⟩)
         ·skip
          refine box_step ?hg (N := 6) ?hd (cs := #[.bool false, .slice none 0 0]) (t := 32) ?hr ?_; (case hd => rfl); (case hg => rfl); (case hr => first | (go_simp; done) | (go_simp; rfl))
          intro gb851 hg w38 hbox hb
          replace HO845 := rb HO845 hb
          have BK851 := Aside0.mk (hbox)
          have GW851 := bz hg HB
          have GE851 := bz hg HB
          replace HB := bs HB hb
          have NB837_851 := nl hg BK837
          have NB851_837 := ng hg BK837
          replace BK837 := kb BK837 hb
          have NB838_851 := nl hg BK838
          have NB851_838 := ng hg BK838
          replace BK838 := kb BK838 hb
          have NB850_851 := nl hg BK850
          have NB851_850 := ng hg BK850
          replace BK850 := kb BK850 hb
          clear hb hbox hg
          refine hK.out _ _ held fun hHeld => nT (N := some 6) ?_
          clear hK K
          exact nJ (hJ1_4_5 (v844, gb850, gb851) _ ⟨hHeld, ⟨tq HO845⟩, ⟨tk BK837⟩, ⟨tk BK838⟩, ⟨tk BK850⟩, ⟨tk BK851⟩, GW850, GE850, NB837_850, NB850_837, NB838_850, NB850_838, NB851_850, NB850_851, GW851, GE851, NB837_851, NB851_837, NB838_851, NB851_838, ⟨tb HB⟩⟩)
       intro hJ1_4
       refine join_ (σ := Value × Nat) 4 (bb 8 39) (fun s_ => [(17, .agg #[.bool t842, s_.1]), (6, .pointer (some ⟨s_.2, 0, none⟩))]) (fun s_ w' => (w'.cell? ⟨gb837, 0, none⟩ = some (.bool a0_0) ∧ w'.cell? ⟨gb837, 1, none⟩ = some (.slice A0_1 l0_1.length c0_1) ∧ w'.cell? ⟨gb838, 0, none⟩ = some (.bool a1_0) ∧ w'.cell? ⟨gb838, 1, none⟩ = some (.slice A1_1 l1_1.length c1_1)) ∧ Aside0 (Kd.R (Kd.int .i64) 3 w' w.heap.size (fun _ => True) s_.1 t843) ∧ Aside0 (w'.heap[gb837]? = some (.cells #[.bool a0_0, .slice A0_1 l0_1.length c0_1] 24 (0, 0))) ∧ Aside0 (w'.heap[gb838]? = some (.cells #[.bool a1_0, .slice A1_1 l1_1.length c1_1] 24 (0, 0))) ∧ Aside0 (w'.heap[s_.2]? = some (.cells #[.bool false, .slice none 0 0] 32 (0, 0))) ∧ Aside0 (w.heap.size ≤ s_.2) ∧ Aside0 (w.heap.size ≤ s_.2) ∧ Aside0 (gb837 ≠ s_.2) ∧ Aside0 (s_.2 ≠ gb837) ∧ Aside0 (gb838 ≠ s_.2) ∧ Aside0 (s_.2 ≠ gb838) ∧ Aside0 (Below w.heap.size w w')) ?_ ?_
       ·skip
        ·skip
         clear BK837 BK838 HB
         rintro ⟨v844, gb851⟩ w37 ⟨hHeld, HO845, BK837, BK838, BK851, GW851, GE851, NB837_851, NB851_837, NB838_851, NB851_838, HB⟩
         try dsimp only at hHeld HO845 BK837 BK838 BK851 GW851 GE851 NB837_851 NB851_837 NB838_851 NB851_838 HB
         refine nP ?_
         refine two_ (i := 3) (j := 4) (Ni := some 19) (Nj := some 5) (bb 8 47) (bb 8 55) rfl rfl rfl rfl (two_of HT_.out (by kernel_rfl)) (by decide) (by decide) (fun K hK => ?_) (fun K hK => ?_)
         ·skip
          refine gS Try.func18 #[.agg #[.bool a1_0, .slice A1_1 l1_1.length c1_1]] ?_
          with_reducible refine (whetstonelaw02_of.calls kj2 a1_0 _ _ l1_1 t846 t847 _ ?side1 ?side2 A21.out).mono ?_
          (case side1 => exact tc (Kd.C_below HR1_1.out HB.out))
          (case side2 => exact HC1_1.out)
          rintro e w38 ⟨v848, rfl, ho0, hb⟩
          refine ⟨_, rfl, ?_⟩
          have HO849 := Aside0.mk (Kd.R_lower (Kd.R_new' ho0 (Kd.R_lt (tq HO845))) (below_size (tb HB)))
          replace HO845 := re HO845 (Kd.R_base ho0) hb
          replace BK837 := kb BK837 hb
          replace BK838 := kb BK838 hb
          replace BK851 := kb BK851 hb
          replace HB := bs HB hb
          (try clear hb); (try clear hb2); (try clear hk); (try clear hi); (try clear ho0)
          refine hK.out _ _ held fun hHeld => nT (N := some 19) ?_
          clear hK K
          exact nJ (hJ1_3_5 (v844, v848, gb851) _ ⟨hHeld, ⟨by (with_reducible repeat first | apply qa | apply qn | apply qd); exact Kd.R_mono HO845.out (fun _ hk => hk.2)⟩, ⟨by (with_reducible repeat first | apply qa | apply qn | apply qd); exact Kd.R_mono HO849.out (fun _ hk => hk.2)⟩, ⟨tk BK837⟩, ⟨tk BK838⟩, ⟨tk BK851⟩, GW851, GE851, NB837_851, NB851_837, NB838_851, NB851_838, ⟨tb HB⟩⟩)
         ·skip
          refine box_step ?hg (N := 5) ?hd (cs := #[.bool false, .slice none 0 0]) (t := 32) ?hr ?_; (case hd => rfl); (case hg => rfl); (case hr => first | (go_simp; done) | (go_simp; rfl))
          intro gb850 hg w38 hbox hb
          replace HO845 := rb HO845 hb
          have BK850 := Aside0.mk (hbox)
          have GW850 := bz hg HB
          have GE850 := bz hg HB
          replace HB := bs HB hb
          have NB837_850 := nl hg BK837
          have NB850_837 := ng hg BK837
          replace BK837 := kb BK837 hb
          have NB838_850 := nl hg BK838
          have NB850_838 := ng hg BK838
          replace BK838 := kb BK838 hb
          have NB851_850 := nl hg BK851
          have NB850_851 := ng hg BK851
          replace BK851 := kb BK851 hb
          clear hb hbox hg
          refine hK.out _ _ held fun hHeld => nT (N := some 5) ?_
          clear hK K
          exact nJ (hJ1_4_5 (v844, gb850, gb851) _ ⟨hHeld, ⟨tq HO845⟩, ⟨tk BK837⟩, ⟨tk BK838⟩, ⟨tk BK850⟩, ⟨tk BK851⟩, GW850, GE850, NB837_850, NB850_837, NB838_850, NB850_838, NB851_850, NB850_851, GW851, GE851, NB837_851, NB851_837, NB838_851, NB851_838, ⟨tb HB⟩⟩)
       intro hJ1_5
       refine join_ (σ := Nat × Nat) 4 (bb 8 53) (fun s_ => [(5, .pointer (some ⟨s_.1, 0, none⟩)), (6, .pointer (some ⟨s_.2, 0, none⟩))]) (fun s_ w' => (w'.cell? ⟨gb837, 0, none⟩ = some (.bool a0_0) ∧ w'.cell? ⟨gb837, 1, none⟩ = some (.slice A0_1 l0_1.length c0_1) ∧ w'.cell? ⟨gb838, 0, none⟩ = some (.bool a1_0) ∧ w'.cell? ⟨gb838, 1, none⟩ = some (.slice A1_1 l1_1.length c1_1)) ∧ Aside0 (w'.heap[gb837]? = some (.cells #[.bool a0_0, .slice A0_1 l0_1.length c0_1] 24 (0, 0))) ∧ Aside0 (w'.heap[gb838]? = some (.cells #[.bool a1_0, .slice A1_1 l1_1.length c1_1] 24 (0, 0))) ∧ Aside0 (w'.heap[s_.1]? = some (.cells #[.bool false, .slice none 0 0] 32 (0, 0))) ∧ Aside0 (w'.heap[s_.2]? = some (.cells #[.bool false, .slice none 0 0] 32 (0, 0))) ∧ Aside0 (w.heap.size ≤ s_.1) ∧ Aside0 (w.heap.size ≤ s_.1) ∧ Aside0 (gb837 ≠ s_.1) ∧ Aside0 (s_.1 ≠ gb837) ∧ Aside0 (gb838 ≠ s_.1) ∧ Aside0 (s_.1 ≠ gb838) ∧ Aside0 (s_.2 ≠ s_.1) ∧ Aside0 (s_.1 ≠ s_.2) ∧ Aside0 (w.heap.size ≤ s_.2) ∧ Aside0 (w.heap.size ≤ s_.2) ∧ Aside0 (gb837 ≠ s_.2) ∧ Aside0 (s_.2 ≠ gb837) ∧ Aside0 (gb838 ≠ s_.2) ∧ Aside0 (s_.2 ≠ gb838) ∧ Aside0 (Below w.heap.size w w')) ?_ ?_
       ·skip
        ·skip
         clear BK837 BK838 HB
         rintro ⟨gb850, gb851⟩ w37 ⟨hHeld, BK837, BK838, BK850, BK851, GW850, GE850, NB837_850, NB850_837, NB838_850, NB850_838, NB851_850, NB850_851, GW851, GE851, NB837_851, NB851_837, NB838_851, NB851_838, HB⟩
         try dsimp only at hHeld BK837 BK838 BK850 BK851 GW850 GE850 NB837_850 NB850_837 NB838_850 NB850_838 NB851_850 NB850_851 GW851 GE851 NB837_851 NB851_837 NB838_851 NB851_838 HB
         refine nP ?_
         refine oT (i := 1) (N := some 17) (bb 8 55) HT_ fun K hK => ?_
         refine gS Try.func18 #[.agg #[.bool a0_0, .slice A0_1 l0_1.length c0_1]] ?_
         with_reducible refine (whetstonelaw02_of.calls kj2 a0_0 _ _ l0_1 t842 t843 _ ?side1 ?side2 A20.out).mono ?_
         (case side1 => exact tc (Kd.C_below HR0_1.out HB.out))
         (case side2 => exact HC0_1.out)
         rintro e w38 ⟨v844, rfl, ho0, hb⟩
         refine ⟨_, rfl, ?_⟩
         have HO845 := rl ho0 HB
         replace BK837 := kb BK837 hb
         replace BK838 := kb BK838 hb
         replace BK850 := kb BK850 hb
         replace BK851 := kb BK851 hb
         replace HB := bs HB hb
         (try clear hb); (try clear hb2); (try clear hk); (try clear hi); (try clear ho0)
         refine hK.out _ _ held fun hHeld => nT (N := some 17) ?_
         clear hK K
         exact nJ (hJ1_4_5 (v844, gb850, gb851) _ ⟨hHeld, ⟨tq HO845⟩, ⟨tk BK837⟩, ⟨tk BK838⟩, ⟨tk BK850⟩, ⟨tk BK851⟩, GW850, GE850, NB837_850, NB850_837, NB838_850, NB850_838, NB851_850, NB850_851, GW851, GE851, NB837_851, NB851_837, NB838_851, NB851_838, ⟨tb HB⟩⟩)
       intro hJ4_5
       refine join_ (σ := Value) 5 (bb 8 7) (fun s_ => [(17, .agg #[.bool t842, s_])]) (fun s_ w' => (w'.cell? ⟨gb837, 0, none⟩ = some (.bool a0_0) ∧ w'.cell? ⟨gb837, 1, none⟩ = some (.slice A0_1 l0_1.length c0_1) ∧ w'.cell? ⟨gb838, 0, none⟩ = some (.bool a1_0) ∧ w'.cell? ⟨gb838, 1, none⟩ = some (.slice A1_1 l1_1.length c1_1)) ∧ Aside0 (Kd.R (Kd.int .i64) 3 w' w.heap.size (fun _ => True) s_ t843) ∧ Aside0 (w'.heap[gb837]? = some (.cells #[.bool a0_0, .slice A0_1 l0_1.length c0_1] 24 (0, 0))) ∧ Aside0 (w'.heap[gb838]? = some (.cells #[.bool a1_0, .slice A1_1 l1_1.length c1_1] 24 (0, 0))) ∧ Aside0 (Below w.heap.size w w')) ?_ ?_
       ·skip
        ·skip
         clear BK837 BK838 HB
         rintro v844 w36 ⟨hHeld, HO845, BK837, BK838, HB⟩
         try dsimp only at hHeld HO845 BK837 BK838 HB
         refine nP ?_
         refine three_ (i := 3) (j := 4) (k := 5) (Ni := some 19) (Nj := some 5) (Nk := some 6) (bb 8 15) (bb 8 23) (bb 8 39) rfl rfl rfl rfl rfl rfl (three_of HT_.out (by kernel_rfl)) (by decide) (by decide) (by decide) (fun K hK => ?_) (fun K hK => ?_) (fun K hK => ?_)
         ·skip
          refine gS Try.func18 #[.agg #[.bool a1_0, .slice A1_1 l1_1.length c1_1]] ?_
          with_reducible refine (whetstonelaw02_of.calls kj2 a1_0 _ _ l1_1 t846 t847 _ ?side1 ?side2 A21.out).mono ?_
          (case side1 => exact tc (Kd.C_below HR1_1.out HB.out))
          (case side2 => exact HC1_1.out)
          rintro e w37 ⟨v848, rfl, ho0, hb⟩
          refine ⟨_, rfl, ?_⟩
          have HO849 := Aside0.mk (Kd.R_lower (Kd.R_new' ho0 (Kd.R_lt (tq HO845))) (below_size (tb HB)))
          replace HO845 := re HO845 (Kd.R_base ho0) hb
          replace BK837 := kb BK837 hb
          replace BK838 := kb BK838 hb
          replace HB := bs HB hb
          (try clear hb); (try clear hb2); (try clear hk); (try clear hi); (try clear ho0)
          refine hK.out _ _ held fun hHeld => nT (N := some 19) ?_
          clear hK K
          exact nJ (hJ1_3 (v844, v848) _ ⟨hHeld, ⟨by (with_reducible repeat first | apply qa | apply qn | apply qd); exact Kd.R_mono HO845.out (fun _ hk => hk.2)⟩, ⟨by (with_reducible repeat first | apply qa | apply qn | apply qd); exact Kd.R_mono HO849.out (fun _ hk => hk.2)⟩, ⟨tk BK837⟩, ⟨tk BK838⟩, ⟨tb HB⟩⟩)
         ·skip
          refine box_step ?hg (N := 5) ?hd (cs := #[.bool false, .slice none 0 0]) (t := 32) ?hr ?_; (case hd => rfl); (case hg => rfl); (case hr => first | (go_simp; done) | (go_simp; rfl))
          intro gb850 hg w37 hbox hb
          replace HO845 := rb HO845 hb
          have BK850 := Aside0.mk (hbox)
          have GW850 := bz hg HB
          have GE850 := bz hg HB
          replace HB := bs HB hb
          have NB837_850 := nl hg BK837
          have NB850_837 := ng hg BK837
          replace BK837 := kb BK837 hb
          have NB838_850 := nl hg BK838
          have NB850_838 := ng hg BK838
          replace BK838 := kb BK838 hb
          clear hb hbox hg
          refine hK.out _ _ held fun hHeld => nT (N := some 5) ?_
          clear hK K
          exact nJ (hJ1_4 (v844, gb850) _ ⟨hHeld, ⟨tq HO845⟩, ⟨tk BK837⟩, ⟨tk BK838⟩, ⟨tk BK850⟩, GW850, GE850, NB837_850, NB850_837, NB838_850, NB850_838, ⟨tb HB⟩⟩)
         ·skip
          refine box_step ?hg (N := 6) ?hd (cs := #[.bool false, .slice none 0 0]) (t := 32) ?hr ?_; (case hd => rfl); (case hg => rfl); (case hr => first | (go_simp; done) | (go_simp; rfl))
          intro gb851 hg w37 hbox hb
          replace HO845 := rb HO845 hb
          have BK851 := Aside0.mk (hbox)
          have GW851 := bz hg HB
          have GE851 := bz hg HB
          replace HB := bs HB hb
          have NB837_851 := nl hg BK837
          have NB851_837 := ng hg BK837
          replace BK837 := kb BK837 hb
          have NB838_851 := nl hg BK838
          have NB851_838 := ng hg BK838
          replace BK838 := kb BK838 hb
          clear hb hbox hg
          refine hK.out _ _ held fun hHeld => nT (N := some 6) ?_
          clear hK K
          exact nJ (hJ1_5 (v844, gb851) _ ⟨hHeld, ⟨tq HO845⟩, ⟨tk BK837⟩, ⟨tk BK838⟩, ⟨tk BK851⟩, GW851, GE851, NB837_851, NB851_837, NB838_851, NB851_838, ⟨tb HB⟩⟩)
       intro hJ1
       refine join_ (σ := Nat) 5 (bb 8 21) (fun s_ => [(5, .pointer (some ⟨s_, 0, none⟩))]) (fun s_ w' => (w'.cell? ⟨gb837, 0, none⟩ = some (.bool a0_0) ∧ w'.cell? ⟨gb837, 1, none⟩ = some (.slice A0_1 l0_1.length c0_1) ∧ w'.cell? ⟨gb838, 0, none⟩ = some (.bool a1_0) ∧ w'.cell? ⟨gb838, 1, none⟩ = some (.slice A1_1 l1_1.length c1_1)) ∧ Aside0 (w'.heap[gb837]? = some (.cells #[.bool a0_0, .slice A0_1 l0_1.length c0_1] 24 (0, 0))) ∧ Aside0 (w'.heap[gb838]? = some (.cells #[.bool a1_0, .slice A1_1 l1_1.length c1_1] 24 (0, 0))) ∧ Aside0 (w'.heap[s_]? = some (.cells #[.bool false, .slice none 0 0] 32 (0, 0))) ∧ Aside0 (w.heap.size ≤ s_) ∧ Aside0 (w.heap.size ≤ s_) ∧ Aside0 (gb837 ≠ s_) ∧ Aside0 (s_ ≠ gb837) ∧ Aside0 (gb838 ≠ s_) ∧ Aside0 (s_ ≠ gb838) ∧ Aside0 (Below w.heap.size w w')) ?_ ?_
       ·skip
        ·skip
         clear BK837 BK838 HB
         rintro gb850 w36 ⟨hHeld, BK837, BK838, BK850, GW850, GE850, NB837_850, NB850_837, NB838_850, NB850_838, HB⟩
         try dsimp only at hHeld BK837 BK838 BK850 GW850 GE850 NB837_850 NB850_837 NB838_850 NB850_838 HB
         refine nP ?_
         refine two_ (i := 1) (j := 5) (Ni := some 17) (Nj := some 6) (bb 8 23) (bb 8 53) rfl rfl rfl rfl (two_of HT_.out (by kernel_rfl)) (by decide) (by decide) (fun K hK => ?_) (fun K hK => ?_)
         ·skip
          refine gS Try.func18 #[.agg #[.bool a0_0, .slice A0_1 l0_1.length c0_1]] ?_
          with_reducible refine (whetstonelaw02_of.calls kj2 a0_0 _ _ l0_1 t842 t843 _ ?side1 ?side2 A20.out).mono ?_
          (case side1 => exact tc (Kd.C_below HR0_1.out HB.out))
          (case side2 => exact HC0_1.out)
          rintro e w37 ⟨v844, rfl, ho0, hb⟩
          refine ⟨_, rfl, ?_⟩
          have HO845 := rl ho0 HB
          replace BK837 := kb BK837 hb
          replace BK838 := kb BK838 hb
          replace BK850 := kb BK850 hb
          replace HB := bs HB hb
          (try clear hb); (try clear hb2); (try clear hk); (try clear hi); (try clear ho0)
          refine hK.out _ _ held fun hHeld => nT (N := some 17) ?_
          clear hK K
          exact nJ (hJ1_4 (v844, gb850) _ ⟨hHeld, ⟨tq HO845⟩, ⟨tk BK837⟩, ⟨tk BK838⟩, ⟨tk BK850⟩, GW850, GE850, NB837_850, NB850_837, NB838_850, NB850_838, ⟨tb HB⟩⟩)
         ·skip
          refine box_step ?hg (N := 6) ?hd (cs := #[.bool false, .slice none 0 0]) (t := 32) ?hr ?_; (case hd => rfl); (case hg => rfl); (case hr => first | (go_simp; done) | (go_simp; rfl))
          intro gb851 hg w37 hbox hb
          have BK851 := Aside0.mk (hbox)
          have GW851 := bz hg HB
          have GE851 := bz hg HB
          replace HB := bs HB hb
          have NB837_851 := nl hg BK837
          have NB851_837 := ng hg BK837
          replace BK837 := kb BK837 hb
          have NB838_851 := nl hg BK838
          have NB851_838 := ng hg BK838
          replace BK838 := kb BK838 hb
          have NB850_851 := nl hg BK850
          have NB851_850 := ng hg BK850
          replace BK850 := kb BK850 hb
          clear hb hbox hg
          refine hK.out _ _ held fun hHeld => nT (N := some 6) ?_
          clear hK K
          exact nJ (hJ4_5 (gb850, gb851) _ ⟨hHeld, ⟨tk BK837⟩, ⟨tk BK838⟩, ⟨tk BK850⟩, ⟨tk BK851⟩, GW850, GE850, NB837_850, NB850_837, NB838_850, NB850_838, NB851_850, NB850_851, GW851, GE851, NB837_851, NB851_837, NB838_851, NB851_838, ⟨tb HB⟩⟩)
       intro hJ4
       refine join_ (σ := Nat) 5 (bb 8 37) (fun s_ => [(6, .pointer (some ⟨s_, 0, none⟩))]) (fun s_ w' => (w'.cell? ⟨gb837, 0, none⟩ = some (.bool a0_0) ∧ w'.cell? ⟨gb837, 1, none⟩ = some (.slice A0_1 l0_1.length c0_1) ∧ w'.cell? ⟨gb838, 0, none⟩ = some (.bool a1_0) ∧ w'.cell? ⟨gb838, 1, none⟩ = some (.slice A1_1 l1_1.length c1_1)) ∧ Aside0 (w'.heap[gb837]? = some (.cells #[.bool a0_0, .slice A0_1 l0_1.length c0_1] 24 (0, 0))) ∧ Aside0 (w'.heap[gb838]? = some (.cells #[.bool a1_0, .slice A1_1 l1_1.length c1_1] 24 (0, 0))) ∧ Aside0 (w'.heap[s_]? = some (.cells #[.bool false, .slice none 0 0] 32 (0, 0))) ∧ Aside0 (w.heap.size ≤ s_) ∧ Aside0 (w.heap.size ≤ s_) ∧ Aside0 (gb837 ≠ s_) ∧ Aside0 (s_ ≠ gb837) ∧ Aside0 (gb838 ≠ s_) ∧ Aside0 (s_ ≠ gb838) ∧ Aside0 (Below w.heap.size w w')) ?_ ?_
       ·skip
        ·skip
         clear BK837 BK838 HB
         rintro gb851 w36 ⟨hHeld, BK837, BK838, BK851, GW851, GE851, NB837_851, NB851_837, NB838_851, NB851_838, HB⟩
         try dsimp only at hHeld BK837 BK838 BK851 GW851 GE851 NB837_851 NB851_837 NB838_851 NB851_838 HB
         refine nP ?_
         refine two_ (i := 1) (j := 4) (Ni := some 17) (Nj := some 5) (bb 8 39) (bb 8 53) rfl rfl rfl rfl (two_of HT_.out (by kernel_rfl)) (by decide) (by decide) (fun K hK => ?_) (fun K hK => ?_)
         ·skip
          refine gS Try.func18 #[.agg #[.bool a0_0, .slice A0_1 l0_1.length c0_1]] ?_
          with_reducible refine (whetstonelaw02_of.calls kj2 a0_0 _ _ l0_1 t842 t843 _ ?side1 ?side2 A20.out).mono ?_
          (case side1 => exact tc (Kd.C_below HR0_1.out HB.out))
          (case side2 => exact HC0_1.out)
          rintro e w37 ⟨v844, rfl, ho0, hb⟩
          refine ⟨_, rfl, ?_⟩
          have HO845 := rl ho0 HB
          replace BK837 := kb BK837 hb
          replace BK838 := kb BK838 hb
          replace BK851 := kb BK851 hb
          replace HB := bs HB hb
          (try clear hb); (try clear hb2); (try clear hk); (try clear hi); (try clear ho0)
          refine hK.out _ _ held fun hHeld => nT (N := some 17) ?_
          clear hK K
          exact nJ (hJ1_5 (v844, gb851) _ ⟨hHeld, ⟨tq HO845⟩, ⟨tk BK837⟩, ⟨tk BK838⟩, ⟨tk BK851⟩, GW851, GE851, NB837_851, NB851_837, NB838_851, NB851_838, ⟨tb HB⟩⟩)
         ·skip
          refine box_step ?hg (N := 5) ?hd (cs := #[.bool false, .slice none 0 0]) (t := 32) ?hr ?_; (case hd => rfl); (case hg => rfl); (case hr => first | (go_simp; done) | (go_simp; rfl))
          intro gb850 hg w37 hbox hb
          have BK850 := Aside0.mk (hbox)
          have GW850 := bz hg HB
          have GE850 := bz hg HB
          replace HB := bs HB hb
          have NB837_850 := nl hg BK837
          have NB850_837 := ng hg BK837
          replace BK837 := kb BK837 hb
          have NB838_850 := nl hg BK838
          have NB850_838 := ng hg BK838
          replace BK838 := kb BK838 hb
          have NB851_850 := nl hg BK851
          have NB850_851 := ng hg BK851
          replace BK851 := kb BK851 hb
          clear hb hbox hg
          refine hK.out _ _ held fun hHeld => nT (N := some 5) ?_
          clear hK K
          exact nJ (hJ4_5 (gb850, gb851) _ ⟨hHeld, ⟨tk BK837⟩, ⟨tk BK838⟩, ⟨tk BK850⟩, ⟨tk BK851⟩, GW850, GE850, NB837_850, NB850_837, NB838_850, NB850_838, NB851_850, NB850_851, GW851, GE851, NB837_851, NB851_837, NB838_851, NB851_838, ⟨tb HB⟩⟩)
       intro hJ5
       refine three_ (i := 1) (j := 4) (k := 5) (Ni := some 17) (Nj := some 5) (Nk := some 6) (bb 8 7) (bb 8 21) (bb 8 37) rfl rfl rfl rfl rfl rfl (three_of HT_.out (by kernel_rfl)) (by decide) (by decide) (by decide) (fun K hK => ?_) (fun K hK => ?_) (fun K hK => ?_)
       ·skip
        refine gS Try.func18 #[.agg #[.bool a0_0, .slice A0_1 l0_1.length c0_1]] ?_
        with_reducible refine (whetstonelaw02_of.calls kj2 a0_0 _ _ l0_1 t842 t843 _ ?side1 ?side2 A20.out).mono ?_
        (case side1 => exact tc (Kd.C_below HR0_1.out HB.out))
        (case side2 => exact HC0_1.out)
        rintro e w35 ⟨v844, rfl, ho0, hb⟩
        refine ⟨_, rfl, ?_⟩
        have HO845 := rl ho0 HB
        replace BK837 := kb BK837 hb
        replace BK838 := kb BK838 hb
        replace HB := bs HB hb
        (try clear hb); (try clear hb2); (try clear hk); (try clear hi); (try clear ho0)
        refine hK.out _ _ held fun hHeld => nT (N := some 17) ?_
        clear hK K
        exact nJ (hJ1 (v844) _ ⟨hHeld, ⟨tq HO845⟩, ⟨tk BK837⟩, ⟨tk BK838⟩, ⟨tb HB⟩⟩)
       ·skip
        refine box_step ?hg (N := 5) ?hd (cs := #[.bool false, .slice none 0 0]) (t := 32) ?hr ?_; (case hd => rfl); (case hg => rfl); (case hr => first | (go_simp; done) | (go_simp; rfl))
        intro gb850 hg w35 hbox hb
        have BK850 := Aside0.mk (hbox)
        have GW850 := bz hg HB
        have GE850 := bz hg HB
        replace HB := bs HB hb
        have NB837_850 := nl hg BK837
        have NB850_837 := ng hg BK837
        replace BK837 := kb BK837 hb
        have NB838_850 := nl hg BK838
        have NB850_838 := ng hg BK838
        replace BK838 := kb BK838 hb
        clear hb hbox hg
        refine hK.out _ _ held fun hHeld => nT (N := some 5) ?_
        clear hK K
        exact nJ (hJ4 (gb850) _ ⟨hHeld, ⟨tk BK837⟩, ⟨tk BK838⟩, ⟨tk BK850⟩, GW850, GE850, NB837_850, NB850_837, NB838_850, NB850_838, ⟨tb HB⟩⟩)
       ·skip
        refine box_step ?hg (N := 6) ?hd (cs := #[.bool false, .slice none 0 0]) (t := 32) ?hr ?_; (case hd => rfl); (case hg => rfl); (case hr => first | (go_simp; done) | (go_simp; rfl))
        intro gb851 hg w35 hbox hb
        have BK851 := Aside0.mk (hbox)
        have GW851 := bz hg HB
        have GE851 := bz hg HB
        replace HB := bs HB hb
        have NB837_851 := nl hg BK837
        have NB851_837 := ng hg BK837
        replace BK837 := kb BK837 hb
        have NB838_851 := nl hg BK838
        have NB851_838 := ng hg BK838
        replace BK838 := kb BK838 hb
        clear hb hbox hg
        refine hK.out _ _ held fun hHeld => nT (N := some 6) ?_
        clear hK K
        exact nJ (hJ5 (gb851) _ ⟨hHeld, ⟨tk BK837⟩, ⟨tk BK838⟩, ⟨tk BK851⟩, GW851, GE851, NB837_851, NB851_837, NB838_851, NB851_838, ⟨tb HB⟩⟩)
      ·replace c31 := Bool.eq_false_iff.mpr c31
       subst c31
       have H1 : (none) = some r := by rw [if_neg (show ¬ (false = true) by decide)] at H; exact H
       clear H
       have H := H1
       clear H1
       exact absurd H (by simp)
     ·replace c27 := Bool.eq_false_iff.mpr c27
      subst c27
      have H1 : (none) = some r := by rw [if_neg (show ¬ (false = true) by decide)] at H; exact H
      clear H
      have H := H1
      clear H1
      exact absurd H (by simp)
    ·replace c23 := Bool.eq_false_iff.mpr c23
     subst c23
     have H1 : (none) = some r := by rw [if_neg (show ¬ (false = true) by decide)] at H; exact H
     clear H
     have H := H1
     clear H1
     exact absurd H (by simp)

/-- THE ONE PURE STATEMENT of whetstonelaw02_BigProducts: yours. -/
def whetstonelaw02_BigProducts.Pure : Prop := ∀ (a0_0 : Bool) (l0_1 : List Int) (a1_0 : Bool) (l1_1 : List Int), l0_1.length ≤ maxLen → (∀ x ∈ l0_1, (Lit.int .u32 x).wf = true) → l1_1.length ≤ maxLen → (∀ x ∈ l1_1, (Lit.int .u32 x).wf = true) → ∃ k, whetstonelaw02_BigProducts.f k a0_0 l0_1 a1_0 l1_1 = some true
theorem whetstonelaw02_BigProducts.walk (P : whetstonelaw02_BigProducts.Pure) (a0_0 : Bool) (A0_1 : Option Addr) (n0_1 c0_1 : Nat) (z0_1 : List Int) (a1_0 : Bool) (A1_1 : Option Addr) (n1_1 c1_1 : Nat) (z1_1 : List Int) (w : World) (w0_1 : (A0_1 = none ∧ n0_1 = 0 ∧ c0_1 = 0 ∧ z0_1 = []) ∨ ∃ x, A0_1 = some x ∧ n0_1 ≤ c0_1 ∧ c0_1 ≤ maxLen ∧ z0_1.length = c0_1 ∧ (∀ i, i < z0_1.length → w.cell? (x.add i) = some (.int .u32 (z0_1.getD i 0))) ∧ ∀ n ∈ z0_1, (Lit.int .u32 n).wf = true) (w1_1 : (A1_1 = none ∧ n1_1 = 0 ∧ c1_1 = 0 ∧ z1_1 = []) ∨ ∃ x, A1_1 = some x ∧ n1_1 ≤ c1_1 ∧ c1_1 ≤ maxLen ∧ z1_1.length = c1_1 ∧ (∀ i, i < z1_1.length → w.cell? (x.add i) = some (.int .u32 (z1_1.getD i 0))) ∧ ∀ n ∈ z1_1, (Lit.int .u32 n).wf = true) :
  Calls Try.prog 7 #[.agg #[.bool a0_0, .slice A0_1 n0_1 c0_1], .agg #[.bool a1_0, .slice A1_1 n1_1 c1_1]] w fun e w' => e = .returned (.bool true) ∧ Below w.heap.size w w' := by
 obtain ⟨l0_1, rfl, hr0_1, hm0_1, hw0_1, hc0_1⟩ := ReadsInt.ofRowC w0_1
 obtain ⟨l1_1, rfl, hr1_1, hm1_1, hw1_1, hc1_1⟩ := ReadsInt.ofRowC w1_1
 obtain ⟨k, h⟩ := P a0_0 l0_1 a1_0 l1_1 hm0_1 hw0_1 hm1_1 hw1_1
 refine (whetstonelaw02_BigProducts.calls k a0_0 _ _ l0_1 a1_0 _ _ l1_1 true w (Kd.C_of_reads (d := (0 : Int)) (h1 := fun _ => rfl) hr0_1) hc0_1 (Kd.C_of_reads (d := (0 : Int)) (h1 := fun _ => rfl) hr1_1) hc1_1 h).mono ?_
 rintro e w' ⟨rfl, hd⟩
 exact ⟨rfl, hd⟩

end Go.Proofs.Ytjpnaapimnoamaa.QBigProducts
