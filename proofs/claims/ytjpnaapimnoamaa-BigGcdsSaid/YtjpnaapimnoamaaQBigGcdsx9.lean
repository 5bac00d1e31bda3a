-- written by wip/wprint, a program of this session
import Derived.Test.YtjpnaapimnoamaaQBigGcdsx0
import Derived.Test.YtjpnaapimnoamaaQBigGcdsx1
import Derived.Test.YtjpnaapimnoamaaQBigGcdsx4
import Derived.Test.YtjpnaapimnoamaaQBigGcdsx6
import Derived.Test.YtjpnaapimnoamaaQBigGcdsx7
import Derived.Test.YtjpnaapimnoamaaQBigGcdsx8
namespace Go.Proofs.Ytjpnaapimnoamaa.QBigGcds
open Go.RowKit Go.Proofs.YtjpnaapimnoamaaW.PrintWords Go.Proofs.YtjpnaapimnoamaaW.PrintLast Go.Proofs.YtjpnaapimnoamaaW.PrintMore
open Go.Proofs.YtjpnaapimnoamaaW.PrintWords.Kd renaming R_alloc → qa, R_drewN → qn, R_drew → qd
open Go.Proofs.YtjpnaapimnoamaaW.PrintWords renaming below_alloc → ba, pw_below_drewN → bn, below_drew1 → bd
attribute [local go_sem] max2_int min2_int max_two min_two max_three min_three max_four min_four   -- for this text's walks alone
set_option linter.unusedVariables false
set_option linter.unusedSimpArgs false

/-! ### whetstoneref01_Limbs: function 59 -/
def whetstoneref01_Limbs.l0 : Nat → List Int → List Int → List Int → Option (List Int)
  | 0, _, _, _ => none
  | k + 1, x3, x4, x5 => if (x4.length : Int) > 0 then ((whetstoneref01_DivMod.f k x4 x5).bind fun bt311 => ((whetstoneref01_Number.f k bt311.2).bind fun t317 => (if x3.length < 35184372088832 then (whetstoneref01_Limbs.l0 k (x3 ++ [(t317) % 4294967296]) bt311.1 x5) else (none)))) else (some x3)
def whetstoneref01_Limbs.f (k : Nat) (l0 : List Int) : Option (List Int) := (whetstoneref01_Trim.f k l0).bind fun t305 => ((whetstoneref01_Small.f k 4294967296).bind fun t308 => (whetstoneref01_Limbs.l0 k ([] : List Int) t305 t308))
theorem whetstoneref01_Limbs.mono_l : ∀ k, (∀ y0 y1 y2, LeO (whetstoneref01_Limbs.l0 k y0 y1 y2) (whetstoneref01_Limbs.l0 (k + 1) y0 y1 y2))
  | 0 => fun _ _ _ r h => by simp [whetstoneref01_Limbs.l0] at h
  | k + 1 => by
    have ih0 := whetstoneref01_Limbs.mono_l k
    · intro y0 y1 y2
      unfold whetstoneref01_Limbs.l0
      repeat' with_reducible first | exact ih0 _ _ _ | exact whetstoneref01_DivMod.mono _ _ _ | exact whetstoneref01_Number.mono _ _ | exact whetstoneref01_Small.mono _ _ | exact whetstoneref01_Trim.mono _ _ | exact LeO.refl _ | exact LeO.none _ | refine LeO.ite ?_ ?_ | refine LeO.bind ?_ (fun _ => ?_)
theorem whetstoneref01_Limbs.mono : ∀ a0 k, LeO (whetstoneref01_Limbs.f k a0) (whetstoneref01_Limbs.f (k + 1) a0) := by
  intro a0 k
  have ih0 := whetstoneref01_Limbs.mono_l k
  unfold whetstoneref01_Limbs.f
  repeat' with_reducible first | exact ih0 _ _ _ | exact whetstoneref01_DivMod.mono _ _ _ | exact whetstoneref01_Number.mono _ _ | exact whetstoneref01_Small.mono _ _ | exact whetstoneref01_Trim.mono _ _ | exact LeO.refl _ | exact LeO.none _ | refine LeO.ite ?_ ?_ | refine LeO.bind ?_ (fun _ => ?_)
set_option maxHeartbeats 8000000 in
set_option maxRecDepth 100000 in
theorem whetstoneref01_Limbs.calls (k : Nat) (A0 : Option Addr) (c0 : Nat) (l0 : List Int) (r : List Int) (w : World) (hr0 : Kd.C (Kd.int .i64) w A0 l0.length l0) (hc0 : l0.length ≤ c0) (h : whetstoneref01_Limbs.f k l0 = some r) :
    Calls Try.prog 59 #[.slice A0 l0.length c0] w fun e w' => ∃ v0_ : Value, e = .returned (v0_) ∧ Kd.R (Kd.int .u32) 87 w' w.heap.size (fun _ => True) v0_ r ∧ Below w.heap.size w w' := by
  have HR0 := Aside0.mk hr0
  have HC0 := Aside0.mk hc0
  clear hr0 hc0
  have HB := Aside0.mk (Below.refl w.heap.size w)
  have H : ((whetstoneref01_Trim.f k l0).bind fun t305 => ((whetstoneref01_Small.f k 4294967296).bind fun t308 => (whetstoneref01_Limbs.l0 k ([] : List Int) t305 t308))) = some r := h
  clear h
  replace H := bi H
  obtain ⟨t305, A20, H⟩ := H
  have A2 := Aside0.mk A20
  clear A20
  replace H := bi H
  obtain ⟨t308, A30, H⟩ := H
  have A3 := Aside0.mk A30
  clear A30
  have H' := Aside0.mk H
  clear H
  go_enter Try.func59, Try.ntmps59
  go_wp2_with (first | ((with_reducible refine gate_callee (f := 69) rfl ?_); refine gL (N := some 9) Try.func69 #[.slice A0 l0.length c0] ?_; (with_reducible refine (whetstoneref01_Trim.calls k _ _ l0 t305 _ ?side1 ?side2 A2.out).mono ?_); (case side1 => repeat (first | exact HR0.out | (with_reducible refine Kd.C_alloc ?_ _) | (with_reducible refine Kd.C_drewN ?_ _) | (with_reducible refine Kd.C_drew ?_))); (case side2 => exact HC0.out); rintro e w4 ⟨v306, rfl, ho0, hb⟩; refine ⟨_, rfl, ?_⟩; have HO307 := rl ho0 HB; replace HB := bs HB hb; (try clear hb); (try clear hb2); (try clear hk); (try clear hi); (try clear ho0)) | ((with_reducible refine gate_callee (f := 76) rfl ?_); refine gL (N := some 10) Try.func76 #[.int .u64 4294967296] ?_; (with_reducible refine (whetstoneref01_Small.calls k 4294967296 t308 _ A3.out).mono ?_); rintro e w5 ⟨v309, rfl, ho0, hb⟩; refine ⟨_, rfl, ?_⟩; have HO310 := Aside0.mk (Kd.R_lower (Kd.R_new' ho0 (Kd.R_lt (tq HO307))) (below_size (tb HB))); replace HO307 := re HO307 (Kd.R_base ho0) hb; replace HB := bs HB hb; (try clear hb); (try clear hb2); (try clear hk); (try clear hi); (try clear ho0)))
  go_loopg [3, 4] k (fun kq v3 v4 w' => ∃ (x3_1 : List Int) (x4_1 : List Int), Aside0 (whetstoneref01_Limbs.l0 kq x3_1 x4_1 t308 = some r) ∧ Aside0 (kq ≤ k) ∧ Aside0 (Kd.R (Kd.int .u32) 87 w' w.heap.size (fun _ => True) v3 x3_1) ∧ Aside0 (Kd.R (Kd.int .i64) 3 w' w.heap.size (fun k_ => some k_ ≠ (v309 : Value).ownBlock) v4 x4_1) ∧ Aside0 (Kd.R (Kd.int .i64) 3 w' w.heap.size (fun k_ => some k_ ≠ (v4 : Value).ownBlock) v309 t308) ∧ Aside0 (Below w.heap.size w w'))
  case atStart => exact ⟨(([] : List Int)), (t305), H', ⟨Nat.le_refl _⟩, ⟨by first | exact Kd.R_nil _ _ _ _ _ | exact Kd.N_nil _ _ _ _ _ | exact Kd.V_nil _ _ _ _ _ | exact Kd.Q_nil _ _ _ _ _ | exact Kd.S_nil _ _ _ _ _⟩, ⟨by (with_reducible repeat first | apply qa | apply qn | apply qd); exact Kd.R_mono HO307.out (fun _ hk => hk.2)⟩, ⟨by (with_reducible repeat first | apply qa | apply qn | apply qd); exact Kd.R_mono HO310.out (fun _ hk => hk.2)⟩, ⟨tb HB⟩⟩
  case round =>
    clear H'
    (try clear p2); (try clear c5)
    obtain ⟨x3_1, x4_1, HA, HK1, HO_3, HO_4, HO_5, HB⟩ := hrel
    cases gk with
    | zero => exact absurd HA.out (by simp [whetstoneref01_Limbs.l0])
    | succ k1 =>
      have H := HA.out
      clear HA
      simp only [whetstoneref01_Limbs.l0] at H
      by_cases c6 : (x4_1.length : Int) > 0
      · rw [if_pos c6] at H
        have c6b0 : decide (0 < (x4_1.length : Int)) = true := decide_eq_true c6
        have c6b1 : decide (0 < x4_1.length) = true := decide_eq_true (by omega)
        clear c6
        replace H := bi H
        obtain ⟨⟨t311, t312⟩, A70, H⟩ := H
        try dsimp only at H
        have A7 := Aside0.mk A70
        clear A70
        replace H := bi H
        obtain ⟨t317, A80, H⟩ := H
        have A8 := Aside0.mk A80
        clear A80
        by_cases c9 : x3_1.length < 35184372088832
        · rw [if_pos c9] at H
          have LMc9 := Aside0.mk c9
          clear c9
          obtain ⟨y318, hy318⟩ : ∃ y_ : List Int, y_ = (x3_1 ++ [(t317) % 4294967296]) := ⟨_, rfl⟩
          replace H : (whetstoneref01_Limbs.l0 k1 y318 t311 t308) = some r := by first | (rw [hy318]; with_reducible exact H) | (have H2_ := (Option.bind_some _ _).symm.trans H; rw [hy318]; with_reducible exact H2_) | (have H2_ := (Option.bind_some _ _).symm.trans H; with_reducible exact H2_) | with_reducible exact H | (rw [hy318]; exact H) | exact H
          have Ny318 := Aside0.mk hy318
          clear hy318
          have H' := Aside0.mk H
          clear H
          obtain ⟨Ao10, co10, eo10⟩ := Kd.R_slice HO_4.out
          subst eo10
          obtain ⟨Ao11, co11, eo11⟩ := Kd.R_slice HO_5.out
          subst eo11
          go_wp2_with (first | ((with_reducible refine gate_callee (f := 68) rfl ?_); refine gL (N := some 17) Try.func68 #[.slice Ao10 x4_1.length co10, .slice Ao11 t308.length co11] ?_; (with_reducible refine (whetstoneref01_DivMod.calls k1 _ _ x4_1 _ _ t308 t311 t312 _ ?side1 ?side2 ?side3 ?side4 A7.out).mono ?_); (case side1 => exact tc (Kd.R_reads' HO_4.out).2.2); (case side2 => exact (Kd.R_reads' HO_4.out).2.1); (case side3 => exact tc (Kd.R_reads' HO_5.out).2.2); (case side4 => exact (Kd.R_reads' HO_5.out).2.1); rintro e w12 ⟨v313, v315, rfl, ho0, ho1, hb⟩; refine ⟨_, rfl, ?_⟩; have HO314 := Aside0.mk (Kd.R_lower (Kd.R_new' (Kd.R_new' ho0 (Kd.R_lt (tq HO_4))) (Kd.R_lt (tq HO_5))) (below_size (tb HB))); have HO316 := Aside0.mk (Kd.R_lower (Kd.R_new' (Kd.R_new' ho1 (Kd.R_lt (tq HO_4))) (Kd.R_lt (tq HO_5))) (below_size (tb HB))); replace HO_3 := rb HO_3 hb; replace HO_5 := Aside0.mk (Kd.R_mono (Kd.R_told (Kd.R_told (Kd.R_old (tq HO_5) hb) (Kd.R_base ho0)) (Kd.R_base ho1)) (fun _ h_ => h_.1)); replace HB := bs HB hb; (try clear hb); (try clear hb2); (try clear hk); (try clear hi); (try clear ho0); (try clear ho1); obtain ⟨Ao13, co13, eo13⟩ := Kd.R_slice HO316.out; subst eo13) | ((with_reducible refine gate_callee (f := 79) rfl ?_); refine gL (N := some 22) Try.func79 #[.slice Ao13 t312.length co13] ?_; (with_reducible refine (whetstoneref01_Number.calls k1 _ _ t312 t317 _ ?side1 ?side2 A8.out).mono ?_); (case side1 => exact tc (Kd.R_reads' HO316.out).2.2); (case side2 => exact (Kd.R_reads' HO316.out).2.1); rintro e w' ⟨rfl, ⟨nd, rfl⟩⟩; refine ⟨_, rfl, ?_⟩) | ((with_reducible refine gate_builtin (b := .append) (xs := #[.tmp 20, .tmp 24]) rfl ?_); at_builtin; refine Kd.R_append (Kd.int .u32) (w0 := w) w.heap.size rfl (.tmp 20) (.tmp 24) 22 87 (.int .u32 0) 4 rfl Try.underlying22 info87 rfl (by decide) (by omega) u3 x3_1 ((t317) % 4294967296) [.int .u32 ((t317) % 4294967296)] (fun _ => True) (fun _ => False) rfl rfl ?aP (fun _ hk => hk.elim) ?aF ?aO ?aB ?aS ?aL ?_; (case aP => exact rfl); (case aB => exact (tb HB)); (case aF => exact (fun _ _ => trivial)); (case aO => exact (tq HO_3)); (case aS => exact (below_size (tb HB))); (case aL => have := LMc9.out; omega); intro v319 w14 ho hb hg hat; rw [← Ny318.out] at ho; replace HO_5 := Aside0.mk (Kd.R_over' (tq HO_5) (Kd.R_typed (tq HO_3)) (by decide) hg); replace HO314 := Aside0.mk (Kd.R_over' (tq HO314) (Kd.R_typed (tq HO_3)) (by decide) hg); replace HB := Aside0.mk (hb); have HO320 := Aside0.mk (ho); clear HO_3 ho hb hg hat))
          go_roundg k1
          case measure => have := HK1.out; omega
          case rel => exact ⟨(y318), (t311), H', ⟨by have := HK1.out; omega⟩, ⟨tq HO320⟩, ⟨by (with_reducible repeat first | apply qa | apply qn | apply qd); exact Kd.R_mono HO314.out (fun _ hk => hk.2)⟩, ⟨by (with_reducible repeat first | apply qa | apply qn | apply qd); exact Kd.R_mono HO_5.out (fun _ hk => hk.1.2)⟩, ⟨tb HB⟩⟩
        · rw [if_neg c9] at H
          exact absurd H (by simp)
      · rw [if_neg c6] at H
        have c6b0 : decide (0 < (x4_1.length : Int)) = false := decide_eq_false c6
        have c6b1 : decide (0 < x4_1.length) = false := decide_eq_false (by omega)
        clear c6
        obtain rfl := Option.some.inj H
        obtain ⟨Ao15, co15, eo15⟩ := Kd.R_slice HO_4.out
        subst eo15
        go_wp2
        go_ret
        exact ⟨_, by first | rfl | (simp [errW_none, errW_some] <;> rfl) | (simp [*, errW_none, errW_some] <;> rfl), tq HO_3, tb HB⟩

/-! ### whetstonelaw02_same: function 19 -/
def whetstonelaw02_same.f (k : Nat) (a0_0 : Bool) (l0_1 : List Int) (a1_0 : Bool) (l1_1 : List Int) : Option (Bool) := (whetstoneref02_Norm.f k a1_0 l1_1).bind fun bt323 => (if (a0_0 == bt323.1) = true then ((whetstoneref01_Limbs.f k bt323.2).bind fun t328 => ((whetstoneref01_Words.f k l0_1 t328).bind fun t331 => (some t331))) else (some false))
theorem whetstonelaw02_same.mono : ∀ a0 a1 a2 a3 k, LeO (whetstonelaw02_same.f k a0 a1 a2 a3) (whetstonelaw02_same.f (k + 1) a0 a1 a2 a3) := by
  intro a0 a1 a2 a3 k
  unfold whetstonelaw02_same.f
  repeat' with_reducible first | exact whetstoneref01_Limbs.mono _ _ | exact whetstoneref01_Words.mono _ _ _ | exact whetstoneref02_Norm.mono _ _ _ | exact LeO.refl _ | exact LeO.none _ | refine LeO.ite ?_ ?_ | refine LeO.bind ?_ (fun _ => ?_)
def whetstonelaw02_same.T2 : Bool × List (List Nat × List Nat) := (true, [([], []), ([0], [0]), ([], []), ([2], [2]), ([1, 3], [1, 3]), ([4], [4]), ([5], [5]), ([6, 5], [5, 6]), ([5], [5]), ([8, 5], [5, 8]), ([9, 5, 5], [5, 9]), ([7, 10, 10, 5], [5, 7, 10]), ([5, 11], [5, 11]), ([12, 11, 0, 1, 2, 3, 4, 5, 6, 7, 8, 9, 10, 11, 12], [12])])
def whetstonelaw02_same.B2 : List Nat := [0, 1, 0, 4, 15, 31, 63, 127, 63, 319, 831, 2047, 4095, 8191]
theorem whetstonelaw02_same.tab2 : rtab .any (opsOf Try.f19 2) = whetstonelaw02_same.T2 := by kernel_rfl
theorem whetstonelaw02_same.bits2 : waitsOk whetstonelaw02_same.T2.2 whetstonelaw02_same.B2 = true := by kernel_rfl
set_option maxHeartbeats 8000000 in
set_option maxRecDepth 100000 in
theorem whetstonelaw02_same.calls (k : Nat) (a0_0 : Bool) (A0_1 : Option Addr) (c0_1 : Nat) (l0_1 : List Int) (a1_0 : Bool) (A1_1 : Option Addr) (c1_1 : Nat) (l1_1 : List Int) (r : Bool) (w : World) (hr0_1 : Kd.C (Kd.int .u32) w A0_1 l0_1.length l0_1) (hc0_1 : l0_1.length ≤ c0_1) (hr1_1 : Kd.C (Kd.int .i64) w A1_1 l1_1.length l1_1) (hc1_1 : l1_1.length ≤ c1_1) (h : whetstonelaw02_same.f k a0_0 l0_1 a1_0 l1_1 = some r) :
    Calls Try.prog 19 #[.agg #[.bool a0_0, .slice A0_1 l0_1.length c0_1], .agg #[.bool a1_0, .slice A1_1 l1_1.length c1_1]] w fun e w' => e = .returned (.bool r) ∧ Below w.heap.size w w' := by
  have hu24 := Try.underlying24
  have hu32 := Try.underlying32
  have HR0_1 := Aside0.mk hr0_1
  have HC0_1 := Aside0.mk hc0_1
  clear hr0_1 hc0_1
  have HR1_1 := Aside0.mk hr1_1
  have HC1_1 := Aside0.mk hc1_1
  clear hr1_1 hc1_1
  have HB := Aside0.mk (Below.refl w.heap.size w)
  have H : ((whetstoneref02_Norm.f k a1_0 l1_1).bind fun bt323 => (if (a0_0 == bt323.1) = true then ((whetstoneref01_Limbs.f k bt323.2).bind fun t328 => ((whetstoneref01_Words.f k l0_1 t328).bind fun t331 => (some t331))) else (some false))) = some r := h
  clear h
  replace H := bi H
  obtain ⟨⟨t323, t324⟩, A30, H⟩ := H
  try dsimp only at H
  have A3 := Aside0.mk A30
  clear A30
  by_cases c4 : (a0_0 == t323) = true
  · rw [if_pos c4] at H
    have c4b0 : (a0_0 == t323) = true := c4
    (try (have c4b1 : decide (a0_0 = t323) = true := by simpa using c4))
    (try (have c4b2 : (a0_0 == t323) = true := by simpa using c4))
    clear c4
    replace H := bi H
    obtain ⟨t328, A50, H⟩ := H
    have A5 := Aside0.mk A50
    clear A50
    replace H := bi H
    obtain ⟨t331, A60, H⟩ := H
    have A6 := Aside0.mk A60
    clear A60
    obtain rfl := Option.some.inj H
    go_enter Try.func19, Try.ntmps19
    try go_wp2_with (first | ((with_reducible refine gate_dst (N := 2) rfl ?_); refine bx (N := 2) #[.bool a0_0, .slice A0_1 l0_1.length c0_1] 24 ?_; intro gb321 hg w7 hbox hb; have BK321 := Aside0.mk (hbox); have GW321 := bz hg HB; have GE321 := bz hg HB; replace HB := bs HB hb; clear hb hbox hg) | ((with_reducible refine gate_dst (N := 3) rfl ?_); refine bx (N := 3) #[.bool a1_0, .slice A1_1 l1_1.length c1_1] 32 ?_; intro gb322 hg w8 hbox hb; have BK322 := Aside0.mk (hbox); have GW322 := bz hg HB; have GE322 := bz hg HB; replace HB := bs HB hb; have NB321_322 := nl hg BK321; have NB322_321 := ng hg BK321; replace BK321 := kb BK321 hb; clear hb hbox hg; have hnb9 := NB322_321.out; have hnc9 := NB321_322.out; have hcz10_0 := bc BK322 0 (.bool a1_0); have hcz10_1 := bc BK322 1 (.slice A1_1 l1_1.length c1_1); have hfz10_0 := blk_frozen BK322.out 0; have hfz10_1 := blk_frozen BK322.out 1) | ((with_reducible refine gate_callee (f := 54) rfl ?_); refine gL (N := some 7) Try.func54 #[.agg #[.bool a1_0, .slice A1_1 l1_1.length c1_1]] ?_; (with_reducible refine (whetstoneref02_Norm.calls k a1_0 _ _ l1_1 t323 t324 _ ?side1 ?side2 A3.out).mono ?_); (case side1 => exact tc (Kd.C_below HR1_1.out HB.out)); (case side2 => exact HC1_1.out); rintro e w11 ⟨v325, rfl, ho0, hb⟩; refine ⟨_, rfl, ?_⟩; have HO326 := rl ho0 HB; replace BK321 := kb BK321 hb; replace BK322 := kb BK322 hb; replace HB := bs HB hb; (try clear hb); (try clear hb2); (try clear hk); (try clear hi); (try clear ho0)) | ((with_reducible refine gate_dst (N := 5) rfl ?_); refine bx (N := 5) #[.bool false, .slice none 0 0] 32 ?_; intro gb327 hg w12 hbox hb; replace HO326 := rb HO326 hb; have BK327 := Aside0.mk (hbox); have GW327 := bz hg HB; have GE327 := bz hg HB; replace HB := bs HB hb; have NB321_327 := nl hg BK321; have NB327_321 := ng hg BK321; replace BK321 := kb BK321 hb; have NB322_327 := nl hg BK322; have NB327_322 := ng hg BK322; clear hb hbox hg; have hnb13 := NB327_321.out; have hnc13 := NB321_327.out; have hnb14 := NB327_322.out; have hnc14 := NB322_327.out; have hcz15_0 := bc BK327 0 (.bool false); have hcz15_1 := bc BK327 1 (.slice none 0 0); have hfz15_0 := blk_frozen BK327.out 0; have hfz15_1 := blk_frozen BK327.out 1; obtain ⟨Ao16, co16, eo16⟩ := Kd.R_slice HO326.out; subst eo16))
    have n0_ : Aside0 (Kd.R (Kd.int .i64) 3 ((w12.setCell ⟨gb327, 0, none⟩ (.bool t323)).setCell ⟨gb327, 1, none⟩ (.slice Ao16 t324.length co16)) w.heap.size (fun _ => True) (.slice Ao16 t324.length co16) t324) := ⟨by (with_reducible repeat first | apply qa | apply qn | apply qd); exact Kd.R_mono (Kd.R_far (p := ⟨gb327, 1, none⟩) (Kd.R_far (p := ⟨gb327, 0, none⟩) (Kd.R_types HO326.out BK327.out (by decide)) (fun _ hk => hk.2) (.bool t323)) (fun _ hk => hk.2) (.slice Ao16 t324.length co16)) (fun _ hk => trivial)⟩
    have n1_ : Aside0 (((w12.setCell ⟨gb327, 0, none⟩ (.bool t323)).setCell ⟨gb327, 1, none⟩ (.slice Ao16 t324.length co16)).heap[gb321]? = some (.cells #[.bool a0_0, .slice A0_1 l0_1.length c0_1] 24 (0, 0))) := ⟨tk BK321⟩
    have n3_ : Aside0 (((w12.setCell ⟨gb327, 0, none⟩ (.bool t323)).setCell ⟨gb327, 1, none⟩ (.slice Ao16 t324.length co16)).heap[gb327]? = some (.cells #[.bool t323, .slice Ao16 t324.length co16] 32 (0, 0))) := ⟨tk BK327⟩
    have n4_ : Aside0 (Below w.heap.size w ((w12.setCell ⟨gb327, 0, none⟩ (.bool t323)).setCell ⟨gb327, 1, none⟩ (.slice Ao16 t324.length co16))) := ⟨tb HB⟩
    (try clear HO326); (try clear BK321); (try clear BK322); (try clear BK327); (try clear HB)
    generalize ((w12.setCell ⟨gb327, 0, none⟩ (.bool t323)).setCell ⟨gb327, 1, none⟩ (.slice Ao16 t324.length co16)) = w17 at n0_ n1_ n3_ n4_ ⊢
    have HO326 := n0_
    have BK321 := n1_
    have BK327 := n3_
    have HB := n4_
    clear n0_ n1_ n3_ n4_
    replace HO326 := Aside0.mk (Kd.R_drew HO326.out)
    replace BK321 := Aside0.mk (blk_drew BK321.out)
    replace BK327 := Aside0.mk (blk_drew BK327.out)
    replace HB := Aside0.mk (below_drew1 HB.out)
    refine start_ (n := 14) (S := fun w' => w'.cell? ⟨gb321, 0, none⟩ = some (.bool a0_0) ∧ w'.cell? ⟨gb321, 1, none⟩ = some (.slice A0_1 l0_1.length c0_1) ∧ w'.cell? ⟨gb327, 0, none⟩ = some (.bool t323) ∧ w'.cell? ⟨gb327, 1, none⟩ = some (.slice Ao16 t324.length co16)) (ds := []) #[false, false, false, false, false, false, false, false, false, false, false, false, false, false] (by kernel_rfl) rfl rfl ⟨(blk_cell BK321.out 0).trans rfl, (blk_cell BK321.out 1).trans rfl, (blk_cell BK327.out 0).trans rfl, (blk_cell BK327.out 1).trans rfl⟩ (fun hHeld => ?_); refine with_tabW whetstonelaw02_same.tab2 whetstonelaw02_same.bits2 (fun HT_ HW_ => ?_)
    generalize w17.drew = w18 at HO326 BK321 BK327 HB hHeld ⊢
    refine pT (i := 0) (N := some 8) (bb 14 1) HT_ ?_
    refine pT (i := 2) (N := some 10) (bb 14 5) HT_ ?_
    refine tW (i := 1) (N := some 9) (bb 14 7) HT_ HW_ hHeld ?_
    refine tW (i := 3) (N := some 11) (bb 14 15) HT_ HW_ hHeld ?_
    refine pT (i := 4) (N := some 12) (bb 14 31) HT_ ?_
    refine pT (i := 5) (N := some 13) (bb 14 63) HT_ ?_
    refine pT (i := 6) (N := some 14) (bb 14 127) HT_ ?_
    refine pT (i := 8) (N := some 16) (bb 14 383) HT_ ?_
    refine tW (i := 7) (N := some 15) (bb 14 511) HT_ HW_ hHeld ?_
    refine tW (i := 9) (N := some 17) (bb 14 1023) HT_ HW_ hHeld ?_
    refine oT (i := 10) (N := some 18) (bb 14 2047) HT_ fun K hK => ?_
    refine gS Try.func59 #[.slice Ao16 t324.length co16] ?_
    with_reducible refine (whetstoneref01_Limbs.calls k _ _ t324 t328 _ ?side1 ?side2 A5.out).mono ?_
    (case side1 => exact tc (Kd.R_reads' HO326.out).2.2)
    (case side2 => exact (Kd.R_reads' HO326.out).2.1)
    rintro e w19 ⟨v329, rfl, ho0, hb⟩
    refine ⟨_, rfl, ?_⟩
    have HO330 := rl ho0 HB
    replace BK321 := kb BK321 hb
    replace BK327 := kb BK327 hb
    replace HB := bs HB hb
    (try clear hb); (try clear hb2); (try clear hk); (try clear hi); (try clear ho0)
    obtain ⟨Ao20, co20, eo20⟩ := Kd.R_slice HO330.out
    (first | subst eo20 | (injection eo20 with f1_ f2_ f3_; have f4_ := f1_.symm; have f5_ := f3_.symm; clear f1_ f2_ f3_; subst f4_; subst f5_))
    refine hK.out _ _ ⟨(blk_cell BK321.out 0).trans rfl, (blk_cell BK321.out 1).trans rfl, (blk_cell BK327.out 0).trans rfl, (blk_cell BK327.out 1).trans rfl⟩ fun hHeld => nT (N := some 18) ?_
    clear hK K
    refine oT (i := 11) (N := some 19) (bb 14 4095) HT_ fun K hK => ?_
    refine gS Try.func58 #[.slice A0_1 l0_1.length c0_1, .slice Ao20 t328.length co20] ?_
    with_reducible refine (whetstoneref01_Words.calls k _ _ l0_1 _ _ t328 t331 _ ?side1 ?side2 ?side3 ?side4 A6.out).mono ?_
    (case side1 => exact tc (Kd.C_below HR0_1.out HB.out))
    (case side2 => exact HC0_1.out)
    (case side3 => exact tc (Kd.R_reads' HO330.out).2.2)
    (case side4 => exact (Kd.R_reads' HO330.out).2.1)
    rintro e w' ⟨rfl, ⟨nd, rfl⟩⟩
    refine ⟨_, rfl, ?_⟩
    refine hK.out _ _ ⟨(blk_cell BK321.out 0).trans rfl, (blk_cell BK321.out 1).trans rfl, (blk_cell BK327.out 0).trans rfl, (blk_cell BK327.out 1).trans rfl⟩ fun hHeld => nT (N := some 19) ?_
    clear hK K
    refine pT (i := 12) (N := some 20) (bb 14 8191) HT_ ?_
    refine pT (i := 13) (N := some 4) (bb 14 16383) HT_ ?_
    refine done_ (done_of HT_.out (by kernel_rfl)) ?_
    try go_wp2
    go_ret
    exact ⟨by first | rfl | (simp [errW_none, errW_some] <;> rfl) | (simp [*, errW_none, errW_some] <;> rfl), tb HB⟩
  · rw [if_neg c4] at H
    have c4b0 : (a0_0 == t323) = false := by simpa using c4
    (try (have c4b1 : decide (a0_0 = t323) = false := by simpa using c4))
    (try (have c4b2 : (a0_0 == t323) = false := by simpa using c4))
    (try (have c4b3 : ¬ (a0_0 = t323) := by simpa using c4))
    clear c4
    obtain rfl := Option.some.inj H
    go_enter Try.func19, Try.ntmps19
    try go_wp2_with (first | ((with_reducible refine gate_dst (N := 2) rfl ?_); refine bx (N := 2) #[.bool a0_0, .slice A0_1 l0_1.length c0_1] 24 ?_; intro gb321 hg w21 hbox hb; have BK321 := Aside0.mk (hbox); have GW321 := bz hg HB; have GE321 := bz hg HB; replace HB := bs HB hb; clear hb hbox hg) | ((with_reducible refine gate_dst (N := 3) rfl ?_); refine bx (N := 3) #[.bool a1_0, .slice A1_1 l1_1.length c1_1] 32 ?_; intro gb322 hg w22 hbox hb; have BK322 := Aside0.mk (hbox); have GW322 := bz hg HB; have GE322 := bz hg HB; replace HB := bs HB hb; have NB321_322 := nl hg BK321; have NB322_321 := ng hg BK321; replace BK321 := kb BK321 hb; clear hb hbox hg; have hnb23 := NB322_321.out; have hnc23 := NB321_322.out; have hcz24_0 := bc BK322 0 (.bool a1_0); have hcz24_1 := bc BK322 1 (.slice A1_1 l1_1.length c1_1); have hfz24_0 := blk_frozen BK322.out 0; have hfz24_1 := blk_frozen BK322.out 1) | ((with_reducible refine gate_callee (f := 54) rfl ?_); refine gL (N := some 7) Try.func54 #[.agg #[.bool a1_0, .slice A1_1 l1_1.length c1_1]] ?_; (with_reducible refine (whetstoneref02_Norm.calls k a1_0 _ _ l1_1 t323 t324 _ ?side1 ?side2 A3.out).mono ?_); (case side1 => exact tc (Kd.C_below HR1_1.out HB.out)); (case side2 => exact HC1_1.out); rintro e w25 ⟨v325, rfl, ho0, hb⟩; refine ⟨_, rfl, ?_⟩; have HO326 := rl ho0 HB; replace BK321 := kb BK321 hb; replace BK322 := kb BK322 hb; replace HB := bs HB hb; (try clear hb); (try clear hb2); (try clear hk); (try clear hi); (try clear ho0)) | ((with_reducible refine gate_dst (N := 5) rfl ?_); refine bx (N := 5) #[.bool false, .slice none 0 0] 32 ?_; intro gb327 hg w26 hbox hb; replace HO326 := rb HO326 hb; have BK327 := Aside0.mk (hbox); have GW327 := bz hg HB; have GE327 := bz hg HB; replace HB := bs HB hb; have NB321_327 := nl hg BK321; have NB327_321 := ng hg BK321; replace BK321 := kb BK321 hb; have NB322_327 := nl hg BK322; have NB327_322 := ng hg BK322; clear hb hbox hg; have hnb27 := NB327_321.out; have hnc27 := NB321_327.out; have hnb28 := NB327_322.out; have hnc28 := NB322_327.out; have hcz29_0 := bc BK327 0 (.bool false); have hcz29_1 := bc BK327 1 (.slice none 0 0); have hfz29_0 := blk_frozen BK327.out 0; have hfz29_1 := blk_frozen BK327.out 1; obtain ⟨Ao30, co30, eo30⟩ := Kd.R_slice HO326.out; subst eo30))
    have n1_ : Aside0 (((w26.setCell ⟨gb327, 0, none⟩ (.bool t323)).setCell ⟨gb327, 1, none⟩ (.slice Ao30 t324.length co30)).heap[gb321]? = some (.cells #[.bool a0_0, .slice A0_1 l0_1.length c0_1] 24 (0, 0))) := ⟨tk BK321⟩
    have n3_ : Aside0 (((w26.setCell ⟨gb327, 0, none⟩ (.bool t323)).setCell ⟨gb327, 1, none⟩ (.slice Ao30 t324.length co30)).heap[gb327]? = some (.cells #[.bool t323, .slice Ao30 t324.length co30] 32 (0, 0))) := ⟨tk BK327⟩
    have n4_ : Aside0 (Below w.heap.size w ((w26.setCell ⟨gb327, 0, none⟩ (.bool t323)).setCell ⟨gb327, 1, none⟩ (.slice Ao30 t324.length co30))) := ⟨tb HB⟩
    (try clear HO326); (try clear BK321); (try clear BK322); (try clear BK327); (try clear HB)
    generalize ((w26.setCell ⟨gb327, 0, none⟩ (.bool t323)).setCell ⟨gb327, 1, none⟩ (.slice Ao30 t324.length co30)) = w31 at n1_ n3_ n4_ ⊢
    have BK321 := n1_
    have BK327 := n3_
    have HB := n4_
    clear n1_ n3_ n4_
    replace BK321 := Aside0.mk (blk_drew BK321.out)
    replace BK327 := Aside0.mk (blk_drew BK327.out)
    replace HB := Aside0.mk (below_drew1 HB.out)
    refine start_ (n := 14) (S := fun w' => w'.cell? ⟨gb321, 0, none⟩ = some (.bool a0_0) ∧ w'.cell? ⟨gb321, 1, none⟩ = some (.slice A0_1 l0_1.length c0_1) ∧ w'.cell? ⟨gb327, 0, none⟩ = some (.bool t323) ∧ w'.cell? ⟨gb327, 1, none⟩ = some (.slice Ao30 t324.length co30)) (ds := []) #[false, false, false, false, false, false, false, false, false, false, false, false, false, false] (by kernel_rfl) rfl rfl ⟨(blk_cell BK321.out 0).trans rfl, (blk_cell BK321.out 1).trans rfl, (blk_cell BK327.out 0).trans rfl, (blk_cell BK327.out 1).trans rfl⟩ (fun hHeld => ?_); refine with_tabW whetstonelaw02_same.tab2 whetstonelaw02_same.bits2 (fun HT_ HW_ => ?_)
    generalize w31.drew = w32 at HB hHeld ⊢
    refine pT (i := 0) (N := some 8) (bb 14 1) HT_ ?_
    refine pT (i := 2) (N := some 10) (bb 14 5) HT_ ?_
    refine tW (i := 1) (N := some 9) (bb 14 7) HT_ HW_ hHeld ?_
    refine tW (i := 3) (N := some 11) (bb 14 15) HT_ HW_ hHeld ?_
    refine pT (i := 4) (N := some 12) (bb 14 31) HT_ ?_
    refine pT (i := 5) (N := some 13) (bb 14 63) HT_ ?_
    refine pure_ (i := 6) (N := some 14) (v := undef) (a' := ?_) #[true, true, true, true, true, true, true, false, false, false, false, false, false, false] rfl rfl (any_of HT_.out (by kernel_rfl)) (fun _ _ _ h => h) (Or.inr ⟨by rfl, rfl⟩) ?_ ?_
    rotate_left
    · simp only [Act.put, List.setIfInBounds_toArray, List.set_cons_zero, List.set_cons_succ, i64_w, i32_w]
      rfl
    refine pure_ (i := 7) (N := some 15) (v := undef) (a' := ?_) #[true, true, true, true, true, true, true, true, false, false, false, false, false, false] rfl rfl (any_of HT_.out (by kernel_rfl)) (fun _ _ _ h => h) (Or.inr ⟨by rfl, rfl⟩) ?_ ?_
    rotate_left
    · simp only [Act.put, List.setIfInBounds_toArray, List.set_cons_zero, List.set_cons_succ, i64_w, i32_w]
      rfl
    refine pure_ (i := 8) (N := some 16) (v := undef) (a' := ?_) #[true, true, true, true, true, true, true, true, true, false, false, false, false, false] rfl rfl (any_of HT_.out (by kernel_rfl)) (fun _ _ _ h => h) (Or.inr ⟨by rfl, rfl⟩) ?_ ?_
    rotate_left
    · simp only [Act.put, List.setIfInBounds_toArray, List.set_cons_zero, List.set_cons_succ, i64_w, i32_w]
      rfl
    refine pure_ (i := 9) (N := some 17) (v := undef) (a' := ?_) #[true, true, true, true, true, true, true, true, true, true, false, false, false, false] rfl rfl (any_of HT_.out (by kernel_rfl)) (fun _ _ _ h => h) (Or.inr ⟨by rfl, rfl⟩) ?_ ?_
    rotate_left
    · simp only [Act.put, List.setIfInBounds_toArray, List.set_cons_zero, List.set_cons_succ, i64_w, i32_w]
      rfl
    refine pure_ (i := 10) (N := some 18) (v := undef) (a' := ?_) #[true, true, true, true, true, true, true, true, true, true, true, false, false, false] rfl rfl (any_of HT_.out (by kernel_rfl)) (fun _ _ _ h => h) (Or.inr ⟨by rfl, rfl⟩) ?_ ?_
    rotate_left
    · simp only [Act.put, List.setIfInBounds_toArray, List.set_cons_zero, List.set_cons_succ, i64_w, i32_w]
      rfl
    refine pure_ (i := 11) (N := some 19) (v := undef) (a' := ?_) #[true, true, true, true, true, true, true, true, true, true, true, true, false, false] rfl rfl (any_of HT_.out (by kernel_rfl)) (fun _ _ _ h => h) (Or.inr ⟨by rfl, rfl⟩) ?_ ?_
    rotate_left
    · simp only [Act.put, List.setIfInBounds_toArray, List.set_cons_zero, List.set_cons_succ, i64_w, i32_w]
      rfl
    refine pT (i := 12) (N := some 20) (bb 14 8191) HT_ ?_
    refine pT (i := 13) (N := some 4) (bb 14 16383) HT_ ?_
    refine done_ (done_of HT_.out (by kernel_rfl)) ?_
    try go_wp2
    go_ret
    exact ⟨by first | rfl | (simp [errW_none, errW_some] <;> rfl) | (simp [*, errW_none, errW_some] <;> rfl), tb HB⟩

/-! ### nat_Cmp: function 65 -/
attribute [local go_sem] Oper.semAt_some
/-- From the limb m down: the comparison of two rows. -/
def nat_Cmp.g : Nat → List Int → List Int → Int
  | 0, _, _ => 0
  | m + 1, x, y => if x[m]?.getD 0 < y[m]?.getD 0 then -1 else if y[m]?.getD 0 < x[m]?.getD 0 then 1 else nat_Cmp.g m x y
theorem nat_Cmp.g_skip (x y : List Int) {n : Nat} : ∀ {k m : Nat}, m + k = n → (∀ p ∈ nat_limbs.down n k, x[p.1]?.getD 0 = y[p.1]?.getD 0) → nat_Cmp.g n x y = nat_Cmp.g m x y
  | 0, m, h, _ => by obtain rfl : m = n := by omega
                     rfl
  | k + 1, m, h, he => by
    rw [nat_limbs.down_succ (n := n) (k := k) (m := m) (by omega)] at he
    have ih := nat_Cmp.g_skip x y (n := n) (k := k) (m := m + 1) (by omega) (fun p hp => he p (List.mem_append_left _ hp))
    have hm := he ⟨m, by omega⟩ (by simp)
    dsimp only at hm
    rw [ih, nat_Cmp.g, if_neg (by omega), if_neg (by omega)]
def nat_Cmp.f (k : Nat) (l0 : List Int) (l1 : List Int) : Option Int := (nat_trim.f k l0).bind fun x => ((nat_trim.f k l1).bind fun y => (some (if x.length < y.length then -1 else if y.length < x.length then 1 else nat_Cmp.g x.length x y)))
theorem nat_Cmp.mono : ∀ a0 a1 k, LeO (nat_Cmp.f k a0 a1) (nat_Cmp.f (k + 1) a0 a1) := by
  intro a0 a1 k
  unfold nat_Cmp.f
  exact LeO.bind (nat_trim.mono _ _) (fun _ => LeO.bind (nat_trim.mono _ _) (fun _ => LeO.refl _))
set_option maxHeartbeats 8000000 in
set_option maxRecDepth 100000 in
theorem nat_Cmp.calls (k : Nat) (A0 : Option Addr) (c0 : Nat) (l0 : List Int) (A1 : Option Addr) (c1 : Nat) (l1 : List Int) (r : Int) (w : World) (hr0 : Kd.C (Kd.int .u32) w A0 l0.length l0) (hc0 : l0.length ≤ c0) (hr1 : Kd.C (Kd.int .u32) w A1 l1.length l1) (hc1 : l1.length ≤ c1) (h : nat_Cmp.f k l0 l1 = some r) :
    Calls Try.prog 65 #[.slice A0 l0.length c0, .slice A1 l1.length c1] w fun e w' => e = .returned (.int .i64 r) ∧ Below w.heap.size w w' := by
  obtain ⟨x, hx, h⟩ := Option.bind_eq_some_iff.mp h
  obtain ⟨y, hy, h⟩ := Option.bind_eq_some_iff.mp h
  have hr := Option.some.inj h
  clear h
  refine (callsIn_wide (n := 4)).1 ?_
  refine callsIn_of_wp_marks Try.func65 rfl trivial ?_ rfl
  simp only [Try.ntmps65, List.size_toArray, List.length_cons, List.length_nil, Nat.reduceAdd, Nat.reduceSub, Array.replicate_succ, Array.replicate_zero, List.push_toArray, List.append_toArray, List.nil_append, List.cons_append]
  have hV0 : Kd.V (Kd.int .u32) 87 w w.heap.size (fun q => q < w.heap.size) (.slice A0 l0.length c0) l0 := Kd.V_mk hc0 (Kd.C_F (Kd.heap_int .u32) hr0)
  have hV1 : Kd.V (Kd.int .u32) 87 w w.heap.size (fun q => q < w.heap.size) (.slice A1 l1.length c1) l1 := Kd.V_mk hc1 (Kd.C_F (Kd.heap_int .u32) hr1)
  gi_wp2
  have bB := (Boxed.new w 22 (.slice A1 l1.length c1)).alloc (.cells #[.int .i64 0] 3)
  have bR := Boxed.new (w.alloc (.cells #[.slice A1 l1.length c1] 22)) 3 (.int .i64 0)
  rw [World.size_alloc] at bR
  have hB0 : Below w.heap.size w ((w.alloc (.cells #[.slice A1 l1.length c1] 22)).alloc (.cells #[.int .i64 0] 3)) := ((Below.refl _ w).alloc (Nat.le_refl _) _).alloc (by simp) _
  have hV0' := Kd.V_below hV0 hB0
  have hV1' := Kd.V_below hV1 hB0
  have hz0 : ((w.alloc (.cells #[.slice A1 l1.length c1] 22)).alloc (.cells #[.int .i64 0] 3)).heap.size = w.heap.size + 2 := by simp
  generalize (w.alloc (.cells #[.slice A1 l1.length c1] 22)).alloc (.cells #[.int .i64 0] 3) = W0 at *
  have hbc := bB.cell
  have hbf := bB.frozen
  rename_i K0 hK0
  have rest : ∀ (A3 : Option Addr) (c3 : Nat) (A4 : Option Addr) (c4 : Nat) (w2 : World), Boxed w2 w.heap.size 22 (.slice A1 l1.length c1) → Boxed w2 (w.heap.size + 1) 3 (.int .i64 0) → Below w.heap.size w w2 →
      Kd.V (Kd.int .u32) 87 w2 w.heap.size (fun q => q < w.heap.size ∨ w.heap.size + 2 ≤ q) (.slice A3 x.length c3) x → Kd.V (Kd.int .u32) 87 w2 w.heap.size (fun q => q < w.heap.size ∨ w.heap.size + 2 ≤ q) (.slice A4 y.length c4) y → K0 { tmps := #[.slice A3 x.length c3, .slice A1 l1.length c1, undef, .pointer (some ⟨w.heap.size, 0, none⟩), .pointer (some ⟨w.heap.size + 1, 0, none⟩), undef, undef, .slice A0 l0.length c0, .slice A3 x.length c3, .slice A1 l1.length c1, .slice A4 y.length c4, undef, undef, undef, undef, undef, undef, undef, undef, undef, undef, undef, undef, undef, undef, undef, undef, undef, undef, undef, undef, undef, undef, undef, undef, undef, undef, undef, undef, undef, undef], defers := [] } (w2.setCell ⟨w.heap.size, 0, none⟩ (.slice A4 y.length c4)) := by
    intro A3 c3 A4 c4 w2 bB2 bR2 hB2 hX hY
    refine hK0 _ _ ?_
    dsimp only
    have bB3 := bB2.set (.slice A4 y.length c4)
    have bR3 := bR2.other (B' := w.heap.size) (by omega) (.slice A4 y.length c4)
    have hB3 := hB2.setCell (p := ⟨w.heap.size, 0, none⟩) (Nat.le_refl _) (.slice A4 y.length c4)
    have hne : ∀ q, q < w.heap.size ∨ w.heap.size + 2 ≤ q → q ≠ w.heap.size := fun q h => by omega
    have hX3 := Kd.V_far hX (p := ⟨w.heap.size, 0, none⟩) hne (.slice A4 y.length c4)
    have hY3 := Kd.V_far hY (p := ⟨w.heap.size, 0, none⟩) hne (.slice A4 y.length c4)
    clear hK0 bB2 bR2 hB2 hX hY
    generalize w2.setCell ⟨w.heap.size, 0, none⟩ (.slice A4 y.length c4) = W3 at *
    have hx3 := Kd.V_reads' hX3
    have hy3 := Kd.V_reads' hY3
    have hxl : x.length ≤ 9223372036854775807 := hx3.2.2.2.1
    have hyl : y.length ≤ 9223372036854775807 := hy3.2.2.2.1
    have hbc := bB3.cell
    have hrc := bR3.cell
    have hrf := bR3.frozen
    gi_wp2
    · refine ⟨.int .i64 (-1), ?_, ?_⟩
      · have hc5 := World.cell?_setCell_same' W3 ⟨w.heap.size + 1, 0, none⟩ (.int .i64 (-1)) (by rw [hrc]; rfl)
        simp [results, Try.f65, go_sem, hc5]
      · rw [if_pos (by omega)] at hr
        subst hr
        exact ⟨rfl, hB3.setCell (p := ⟨w.heap.size + 1, 0, none⟩) (Nat.le_succ _) _⟩
    · refine ⟨.int .i64 1, ?_, ?_⟩
      · have hc5 := World.cell?_setCell_same' W3 ⟨w.heap.size + 1, 0, none⟩ (.int .i64 1) (by rw [hrc]; rfl)
        simp [results, Try.f65, go_sem, hc5]
      · rw [if_neg (by omega), if_pos (by omega)] at hr
        subst hr
        exact ⟨rfl, hB3.setCell (p := ⟨w.heap.size + 1, 0, none⟩) (Nat.le_succ _) _⟩
    · rw [if_neg (by omega), if_neg (by omega)] at hr
      refine ⟨trivial, ?_⟩
      gi_at_call 83
      refine (nat_limbs_in Fence.wide _ trivial rfl _ _ _ _).mono ?_
      rintro e w' ⟨rfl, rfl⟩
      have bN := Boxed.new W3 22 (.slice A3 x.length c3)
      have bB4 := bB3.alloc (.cells #[.slice A3 x.length c3] 22)
      have bR4 := bR3.alloc (.cells #[.slice A3 x.length c3] 22)
      have hB4 : Below w.heap.size w (W3.alloc (.cells #[.slice A3 x.length c3] 22)) := hB3.alloc hB3.size _
      have hx4 := nat_limbs.At.of (Kd.V_reads' (Kd.V_alloc hX3 (.cells #[.slice A3 x.length c3] 22))).2.2
      have hy4 := nat_limbs.At.of (Kd.V_reads' (Kd.V_alloc hY3 (.cells #[.slice A3 x.length c3] 22))).2.2
      have hlt4 : W3.heap.size < (W3.alloc (.cells #[.slice A3 x.length c3] 22)).heap.size := by simp
      generalize (W3.alloc (.cells #[.slice A3 x.length c3] 22)) = W4 at *
      gi_wp2
      refine wpIn_rangeFunc_ownG rfl (by omega) (gf := 92) (lb := #[.pointer (some ⟨W3.heap.size, 0, none⟩)]) rfl trivial (enters_of Try.func92 (by kernel_rfl) rfl)
        (nat_limbs_stops Fence.wide 3 trivial rfl (by omega) W3.heap.size W4.heap.size c3 A3 x hxl (Below W4.heap.size) (Below.refl _) (fun h h' => h.trans h') (fun h p hp => h.cell (hp.elim id (fun e => e ▸ hlt4))) W4 hlt4 (Nat.le_refl _) bN.cell hx4) belowK_t (belowK_b (Nat.le_refl _)) (Below.refl _ _) (fun _ => rfl)
        (fun pre W => (∀ p ∈ pre, x[p.1]?.getD 0 = y[p.1]?.getD 0) ∧ Below W4.heap.size W4 W)
        (fun c pre W => (c = .ret ∧ ∃ ini last, pre = ini ++ [last] ∧ (∀ p ∈ ini, x[p.1]?.getD 0 = y[p.1]?.getD 0) ∧ ((x[last.1]?.getD 0 < y[last.1]?.getD 0 ∧ W.cell? ⟨w.heap.size + 1, 0, none⟩ = some (.int .i64 (-1))) ∨ (y[last.1]?.getD 0 < x[last.1]?.getD 0 ∧ W.cell? ⟨w.heap.size + 1, 0, none⟩ = some (.int .i64 1)))) ∧ Below w.heap.size W4 W)
        (OwnFrom.and (Own.from (fun s A B row hs hg hr => hs) _) (ownFrom_below (Nat.le_refl _) (Nat.le_refl _)))
        (fun c => OwnFrom.and (Own.from (fun s A B row hs hg hr => by obtain ⟨hc, ini, last, e1, e2, e3⟩ := hs; exact ⟨hc, ini, last, e1, e2, e3.imp (fun h => ⟨h.1, cell_kept h.2 hg hr⟩) (fun h => ⟨h.1, cell_kept h.2 hg hr⟩)⟩) _) (ownFrom_below hB4.size hB4.size))
        ⟨by simp, Below.refl _ _⟩
        (fun z => { tmps := #[.slice A3 x.length c3, .slice A1 l1.length c1, undef, .pointer (some ⟨w.heap.size, 0, none⟩), .pointer (some ⟨w.heap.size + 1, 0, none⟩), .int .i64 (z.1 : Int), .int .u32 (x[z.1]?.getD 0), .slice A0 l0.length c0, .slice A3 x.length c3, .slice A1 l1.length c1, .slice A4 y.length c4, .bool false, .slice A3 x.length c3, .int .i64 x.length, .slice A4 y.length c4, .int .i64 y.length, .bool false, .bool false, .slice A3 x.length c3, .int .i64 x.length, .slice A4 y.length c4, .int .i64 y.length, .bool false, .slice A3 x.length c3, .func (.func 92) #[] #[.pointer (some ⟨W3.heap.size, 0, none⟩)], .int .i64 (z.1 : Int), .int .u32 (x[z.1]?.getD 0), undef, undef, undef, undef, undef, undef, undef, undef, undef, undef, undef, undef, undef, undef], defers := [] }) ?assign ?body ?done ?stop
      case assign =>
        intro l z W K hK
        have hgx : x[z.1]?.getD 0 = x[z.1] := by simp
        dsimp only at hK
        rw [hgx] at hK
        gi_wp2
        exact hK
      case body =>
        rintro l pre z W ⟨hp, hB⟩ _
        have hbc5 := (hB.cell (p := ⟨w.heap.size, 0, none⟩) bB4.lt).trans bB4.cell
        have hrc5 := (hB.cell (p := ⟨w.heap.size + 1, 0, none⟩) bR4.lt).trans bR4.cell
        have hrf5 := (hB.frozen (p := ⟨w.heap.size + 1, 0, none⟩) bR4.lt).trans bR4.frozen
        have hz : z.1 < y.length := by have := z.2; omega
        rcases hy4 with rfl | ⟨ad, rfl, hbd, hcs⟩
        · exact absurd hz (by simp)
        have hcy := (hB.cell (p := ad.add z.1) (by rw [add_block]; exact hbd)).trans (hcs z.1 hz)
        have hgx : x[z.1]?.getD 0 = x[z.1] := by simp
        have hgy : y[z.1]?.getD 0 = y[z.1] := by simp [hz]
        gi_wp2
        · have hlt : x[z.1]?.getD 0 < y[z.1]?.getD 0 := by rw [hgx, hgy]; assumption
          exact ⟨(KeepsOthers.setCell _ _ _).from _, ⟨rfl, pre, z, rfl, hp, .inl ⟨hlt, World.cell?_setCell_same' _ _ _ (by rw [hrc5]; rfl)⟩⟩, (hB.mono hB4.size).setCell (p := ⟨w.heap.size + 1, 0, none⟩) (Nat.le_succ _) _⟩
        · have hlt : y[z.1]?.getD 0 < x[z.1]?.getD 0 := by rw [hgx, hgy]; assumption
          exact ⟨(KeepsOthers.setCell _ _ _).from _, ⟨rfl, pre, z, rfl, hp, .inr ⟨hlt, World.cell?_setCell_same' _ _ _ (by rw [hrc5]; rfl)⟩⟩, (hB.mono hB4.size).setCell (p := ⟨w.heap.size + 1, 0, none⟩) (Nat.le_succ _) _⟩
        · have heq : x[z.1]?.getD 0 = y[z.1]?.getD 0 := by rw [hgx, hgy]; omega
          exact ⟨KeepsFrom.refl _ _, Below.refl _ _, fun p hp' => (List.mem_append.1 hp').elim (hp p) (fun e => by simp at e; subst e; exact heq), hB⟩
      case done =>
        rintro D ys W hD rfl ⟨hne, hB⟩ hK
        have hrc5 := (hB.cell (p := ⟨w.heap.size + 1, 0, none⟩) bR4.lt).trans bR4.cell
        have hrf5 := (hB.frozen (p := ⟨w.heap.size + 1, 0, none⟩) bR4.lt).trans bR4.frozen
        gi_wp2
        have hK' := (KeepsOthers.setCell W ⟨w.heap.size + 1, 0, none⟩ (.int .i64 0)).same D _ hK rfl
        refine ⟨by simp, .inl ⟨_, _, rfl, run_takeDeferred hK', ?_⟩⟩
        have hc5 := cell_kept (World.cell?_setCell_same' W ⟨w.heap.size + 1, 0, none⟩ (.int .i64 0) (by rw [hrc5]; rfl)) (grownBy_putObj' _ D (.deferred none)) (fun r e => by cases e; exact ⟨_, hK', rfl⟩)
        have hg := nat_Cmp.g_skip x y (n := x.length) (k := x.length) (m := 0) (by omega) hne
        have hr0 : r = 0 := by rw [← hr, hg]; rfl
        subst hr0
        refine ⟨.int .i64 0, ?_, rfl, ?_⟩
        · simp [results, Try.f65, go_sem, hc5]
        · have hBW : Below w.heap.size w W := hB4.trans (hB.mono hB4.size)
          exact (hBW.setCell (p := ⟨w.heap.size + 1, 0, none⟩) (Nat.le_succ _) _).trans (belowK_b (w := w) (Nat.le_refl _) _ D _ _ (Nat.le_trans hB4.size hD) hK' rfl rfl)
      case stop =>
        rintro D c pre W hD ⟨k', hk', rfl⟩ ⟨⟨rfl, ini, last, e1, e2, e3⟩, hB⟩ hK
        gi_wp2
        refine ⟨by simp, .inl ⟨_, _, rfl, run_takeDeferred hK, ?_⟩⟩
        have hB5 : Below w.heap.size w (W.putObj D (.deferred none)) := (hB4.trans hB).trans (belowK_b (w := w) (Nat.le_refl _) W D _ _ (Nat.le_trans hB4.size hD) hK rfl rfl)
        obtain ⟨k, rfl⟩ : ∃ k, k' = k + 1 := by
          cases k' with
          | zero => simp [nat_limbs.down] at e1
          | succ k => exact ⟨k, rfl⟩
        obtain ⟨m, hm⟩ : ∃ m, m + 1 + k = x.length := ⟨x.length - 1 - k, by omega⟩
        rw [nat_limbs.down_succ hm] at e1
        obtain ⟨rfl, e5⟩ := List.append_inj' e1 rfl
        obtain rfl : (⟨m, by omega⟩ : Fin x.length) = last := by simpa using e5
        have hg := nat_Cmp.g_skip x y (n := x.length) (k := k) (m := m + 1) (by omega) e2
        rcases e3 with ⟨h1, h2⟩ | ⟨h1, h2⟩
        · have hc5 := cell_kept h2 (grownBy_putObj' _ D (.deferred none)) (fun r e => by cases e; exact ⟨_, hK, rfl⟩)
          have hrr : r = -1 := by rw [← hr, hg, nat_Cmp.g, if_pos h1]
          subst hrr
          exact ⟨.int .i64 (-1), by simp [results, Try.f65, go_sem, hc5], rfl, hB5⟩
        · have hc5 := cell_kept h2 (grownBy_putObj' _ D (.deferred none)) (fun r e => by cases e; exact ⟨_, hK, rfl⟩)
          have hrr : r = 1 := by
            have h1' := h1
            dsimp only at h1'
            rw [← hr, hg, nat_Cmp.g, if_neg (by omega), if_pos h1]
          subst hrr
          exact ⟨.int .i64 1, by simp [results, Try.f65, go_sem, hc5], rfl, hB5⟩
  have hmx : Try.prog.follows .mixedOrders = true := by kernel_rfl
  refine wpIn_region_any (by assumption) ?_
  change wpAnyIn _ _ _ _ _ _ _ _ _ (World.drew _)
  refine wpAnyIn_ready (rs := [0,2]) (by kernel_rfl) (by simp) ?_
  refine AllReadyIn.cons rfl (fun K hK => ?_) ?_
  · go_simp
    refine hK _ _ ?_
    clear hK K
    refine wpAnyIn_ready (rs := [1,2]) (by kernel_rfl) (by simp) ?_
    refine AllReadyIn.cons rfl (fun K hK => ?_) ?_
    · go_simp
      refine ⟨trivial, ?_⟩
      gi_at_call 81
      refine (callsIn_wide.2 (nat_trim.calls k (fun q => q < w.heap.size) _ _ l0 x _ (Kd.V_drew hV0') hx)).mono ?_
      rintro e w1 ⟨v1, rfl, ho1, hb1⟩
      obtain ⟨A3, c3, rfl⟩ := Kd.V_slice ho1
      have bB1 : Boxed w1 _ _ _ := (hb1.block _ bB.lt).trans bB
      have bR1 : Boxed w1 _ _ _ := (hb1.block _ bR.lt).trans bR
      have hbc1 := bB1.cell
      have hbf1 := bB1.frozen
      have hV1'' := Kd.V_below (Kd.V_drew hV1') hb1
      refine hK _ _ ?_
      clear hK K
      refine wpAnyIn_ready (rs := [2]) (by kernel_rfl) (by simp) ?_
      refine AllReadyIn.cons rfl (fun K hK => ?_) AllReadyIn.nil
      go_simp
      refine hK _ _ ?_
      clear hK K
      refine wpAnyIn_ready (rs := [3]) (by kernel_rfl) (by simp) ?_
      refine AllReadyIn.cons rfl (fun K hK => ?_) AllReadyIn.nil
      go_simp
      refine ⟨trivial, ?_⟩
      gi_at_call 81
      refine (callsIn_wide.2 (nat_trim.calls k (fun q => q < w.heap.size) _ _ l1 y _ hV1'' hy)).mono ?_
      rintro e w2 ⟨v2, rfl, ho2, hb2⟩
      obtain ⟨A4, c4, rfl⟩ := Kd.V_slice ho2
      have bB2 : Boxed w2 _ _ _ := (hb2.block _ bB1.lt).trans bB1
      have bR2 : Boxed w2 _ _ _ := (hb2.block _ bR1.lt).trans bR1
      have hbc2 := bB2.cell
      have hbf2 := bB2.frozen
      have hsz1 : w.heap.size + 2 ≤ w1.heap.size := by rw [← hz0]; exact hb1.size
      refine hK _ _ ?_
      clear hK K
      refine wpAnyIn_ready (rs := [4]) (by kernel_rfl) (by simp) ?_
      refine AllReadyIn.cons rfl (fun K hK => ?_) AllReadyIn.nil
      go_simp
      refine hK _ _ ?_
      clear hK K
      refine wpAnyIn_ready (rs := [5]) (by kernel_rfl) (by simp) ?_
      refine AllReadyIn.cons rfl (fun K hK => ?_) AllReadyIn.nil
      go_simp
      refine hK _ _ ?_
      clear hK K
      refine wpAnyIn_done (by kernel_rfl) ?_ _
      exact rest A3 c3 A4 c4 w2 bB2 bR2 (hB0.trans (((below_drew (Below.refl _ W0)).trans hb1 |>.trans (hb2.mono hb1.size)).mono hB0.size)) (Kd.V_below (Kd.V_mono ho1 (fun q hq => hq.imp id (fun h => Nat.le_trans (Nat.le_of_eq hz0.symm) h))) hb2) (Kd.V_mono ho2 (fun q hq => hq.imp id (fun h => Nat.le_trans hsz1 h)))
    · refine AllReadyIn.cons rfl (fun K hK => ?_) AllReadyIn.nil
      go_simp
      refine hK _ _ ?_
      clear hK K
      refine wpAnyIn_ready (rs := [1]) (by kernel_rfl) (by simp) ?_
      refine AllReadyIn.cons rfl (fun K hK => ?_) AllReadyIn.nil
      go_simp
      refine ⟨trivial, ?_⟩
      gi_at_call 81
      refine (callsIn_wide.2 (nat_trim.calls k (fun q => q < w.heap.size) _ _ l0 x _ (Kd.V_drew hV0') hx)).mono ?_
      rintro e w1 ⟨v1, rfl, ho1, hb1⟩
      obtain ⟨A3, c3, rfl⟩ := Kd.V_slice ho1
      have bB1 : Boxed w1 _ _ _ := (hb1.block _ bB.lt).trans bB
      have bR1 : Boxed w1 _ _ _ := (hb1.block _ bR.lt).trans bR
      have hbc1 := bB1.cell
      have hbf1 := bB1.frozen
      have hV1'' := Kd.V_below (Kd.V_drew hV1') hb1
      refine hK _ _ ?_
      clear hK K
      refine wpAnyIn_ready (rs := [3]) (by kernel_rfl) (by simp) ?_
      refine AllReadyIn.cons rfl (fun K hK => ?_) AllReadyIn.nil
      go_simp
      refine ⟨trivial, ?_⟩
      gi_at_call 81
      refine (callsIn_wide.2 (nat_trim.calls k (fun q => q < w.heap.size) _ _ l1 y _ hV1'' hy)).mono ?_
      rintro e w2 ⟨v2, rfl, ho2, hb2⟩
      obtain ⟨A4, c4, rfl⟩ := Kd.V_slice ho2
      have bB2 : Boxed w2 _ _ _ := (hb2.block _ bB1.lt).trans bB1
      have bR2 : Boxed w2 _ _ _ := (hb2.block _ bR1.lt).trans bR1
      have hbc2 := bB2.cell
      have hbf2 := bB2.frozen
      have hsz1 : w.heap.size + 2 ≤ w1.heap.size := by rw [← hz0]; exact hb1.size
      refine hK _ _ ?_
      clear hK K
      refine wpAnyIn_ready (rs := [4]) (by kernel_rfl) (by simp) ?_
      refine AllReadyIn.cons rfl (fun K hK => ?_) AllReadyIn.nil
      go_simp
      refine hK _ _ ?_
      clear hK K
      refine wpAnyIn_ready (rs := [5]) (by kernel_rfl) (by simp) ?_
      refine AllReadyIn.cons rfl (fun K hK => ?_) AllReadyIn.nil
      go_simp
      refine hK _ _ ?_
      clear hK K
      refine wpAnyIn_done (by kernel_rfl) ?_ _
      exact rest A3 c3 A4 c4 w2 bB2 bR2 (hB0.trans (((below_drew (Below.refl _ W0)).trans hb1 |>.trans (hb2.mono hb1.size)).mono hB0.size)) (Kd.V_below (Kd.V_mono ho1 (fun q hq => hq.imp id (fun h => Nat.le_trans (Nat.le_of_eq hz0.symm) h))) hb2) (Kd.V_mono ho2 (fun q hq => hq.imp id (fun h => Nat.le_trans hsz1 h)))
  · refine AllReadyIn.cons rfl (fun K hK => ?_) AllReadyIn.nil
    go_simp
    refine hK _ _ ?_
    clear hK K
    refine wpAnyIn_ready (rs := [0]) (by kernel_rfl) (by simp) ?_
    refine AllReadyIn.cons rfl (fun K hK => ?_) AllReadyIn.nil
    go_simp
    refine hK _ _ ?_
    clear hK K
    refine wpAnyIn_ready (rs := [1]) (by kernel_rfl) (by simp) ?_
    refine AllReadyIn.cons rfl (fun K hK => ?_) AllReadyIn.nil
    go_simp
    refine ⟨trivial, ?_⟩
    gi_at_call 81
    refine (callsIn_wide.2 (nat_trim.calls k (fun q => q < w.heap.size) _ _ l0 x _ (Kd.V_drew hV0') hx)).mono ?_
    rintro e w1 ⟨v1, rfl, ho1, hb1⟩
    obtain ⟨A3, c3, rfl⟩ := Kd.V_slice ho1
    have bB1 : Boxed w1 _ _ _ := (hb1.block _ bB.lt).trans bB
    have bR1 : Boxed w1 _ _ _ := (hb1.block _ bR.lt).trans bR
    have hbc1 := bB1.cell
    have hbf1 := bB1.frozen
    have hV1'' := Kd.V_below (Kd.V_drew hV1') hb1
    refine hK _ _ ?_
    clear hK K
    refine wpAnyIn_ready (rs := [3]) (by kernel_rfl) (by simp) ?_
    refine AllReadyIn.cons rfl (fun K hK => ?_) AllReadyIn.nil
    go_simp
    refine ⟨trivial, ?_⟩
    gi_at_call 81
    refine (callsIn_wide.2 (nat_trim.calls k (fun q => q < w.heap.size) _ _ l1 y _ hV1'' hy)).mono ?_
    rintro e w2 ⟨v2, rfl, ho2, hb2⟩
    obtain ⟨A4, c4, rfl⟩ := Kd.V_slice ho2
    have bB2 : Boxed w2 _ _ _ := (hb2.block _ bB1.lt).trans bB1
    have bR2 : Boxed w2 _ _ _ := (hb2.block _ bR1.lt).trans bR1
    have hbc2 := bB2.cell
    have hbf2 := bB2.frozen
    have hsz1 : w.heap.size + 2 ≤ w1.heap.size := by rw [← hz0]; exact hb1.size
    refine hK _ _ ?_
    clear hK K
    refine wpAnyIn_ready (rs := [4]) (by kernel_rfl) (by simp) ?_
    refine AllReadyIn.cons rfl (fun K hK => ?_) AllReadyIn.nil
    go_simp
    refine hK _ _ ?_
    clear hK K
    refine wpAnyIn_ready (rs := [5]) (by kernel_rfl) (by simp) ?_
    refine AllReadyIn.cons rfl (fun K hK => ?_) AllReadyIn.nil
    go_simp
    refine hK _ _ ?_
    clear hK K
    refine wpAnyIn_done (by kernel_rfl) ?_ _
    exact rest A3 c3 A4 c4 w2 bB2 bR2 (hB0.trans (((below_drew (Below.refl _ W0)).trans hb1 |>.trans (hb2.mono hb1.size)).mono hB0.size)) (Kd.V_below (Kd.V_mono ho1 (fun q hq => hq.imp id (fun h => Nat.le_trans (Nat.le_of_eq hz0.symm) h))) hb2) (Kd.V_mono ho2 (fun q hq => hq.imp id (fun h => Nat.le_trans hsz1 h)))

/-! ### bits_Sub32: function 82 -/
def bits_Sub32.f (a0 : Int) (a1 : Int) (a2 : Int) : Option (Int × Int) := some ((((a0 - a1) % 4294967296) - a2) % 4294967296, (Go.bits .or .u32 (Go.bits .and .u32 (Go.bits .xor .u32 4294967295 a0) a1) (Go.bits .and .u32 (Go.bits .xor .u32 4294967295 (Go.bits .xor .u32 a0 a1)) ((((a0 - a1) % 4294967296) - a2) % 4294967296))) / 2147483648)
set_option maxHeartbeats 8000000 in
set_option maxRecDepth 100000 in
theorem bits_Sub32.calls (a0 : Int) (a1 : Int) (a2 : Int) (r1 : Int) (r2 : Int) (w : World) (h : bits_Sub32.f a0 a1 a2 = some (r1, r2)) :
    Calls Try.prog 82 #[.int .u32 a0, .int .u32 a1, .int .u32 a2] w fun e w' => e = .returned (.tuple #[.int .u32 r1, .int .u32 r2]) ∧ Drawn0 w w' := by
  have H : (some ((((a0 - a1) % 4294967296) - a2) % 4294967296, (Go.bits .or .u32 (Go.bits .and .u32 (Go.bits .xor .u32 4294967295 a0) a1) (Go.bits .and .u32 (Go.bits .xor .u32 4294967295 (Go.bits .xor .u32 a0 a1)) ((((a0 - a1) % 4294967296) - a2) % 4294967296))) / 2147483648)) = some (r1, r2) := h
  clear h
  simp only [Option.some.injEq, Prod.mk.injEq] at H
  obtain ⟨rfl, rfl⟩ := H
  go_enter Try.func82, Try.ntmps82
  go_wp2
  go_ret2
  exact ⟨by first | rfl | (simp; done) | (simp [*]; done), by repeat (first | exact Drawn0.refl _ | apply Drawn0.step)⟩

end Go.Proofs.Ytjpnaapimnoamaa.QBigGcds
