-- written by wip/wprint, a program of this session
import Derived.Test.YtkbefeadmchmbaaQBigQuotientsx0
import Derived.Test.YtkbefeadmchmbaaQBigQuotientsx9
import Derived.Test.YtkbefeadmchmbaaQBigQuotientsx10
namespace Go.Proofs.Ytkbefeadmchmbaa.QBigQuotients
open Go.RowKit Go.Proofs.YtkbefeadmchmbaaW.PrintWords Go.Proofs.YtkbefeadmchmbaaW.PrintLast Go.Proofs.YtkbefeadmchmbaaW.PrintMore
open Go.Proofs.YtkbefeadmchmbaaW.PrintWords.Kd renaming R_alloc → qa, R_drewN → qn, R_drew → qd
open Go.Proofs.YtkbefeadmchmbaaW.PrintWords renaming below_alloc → ba, pw_below_drewN → bn, below_drew1 → bd
attribute [local go_sem] max2_int min2_int max_two min_two max_three min_three max_four min_four   -- for this text's walks alone
set_option linter.unusedVariables false
set_option linter.unusedSimpArgs false

/-! ### whetstoneref01_Mul: function 64 -/
def whetstoneref01_Mul.l0 : Nat → List Int → List Int → List Int → Int → Option (List Int)
 | 0, _, _, _, _ => none
 | k + 1, x0, x1, x5, x6 => if x6 ≥ 0 then ((whetstoneref01_Times.f k x5 10).bind fun t716 => (if 0 ≤ x6 then (if x6 < (x1.length : Int) then ((whetstoneref01_Times.f k x0 (rd x1 x6)).bind fun t720 => ((whetstoneref01_Add.f k t716 t720).bind fun t723 => (whetstoneref01_Mul.l0 k x0 x1 t723 (wrap64 (x6 - 1))))) else (none)) else (none))) else (some x5)
def whetstoneref01_Mul.f (k : Nat) (l0 : List Int) (l1 : List Int) : Option (List Int) := whetstoneref01_Mul.l0 k l0 l1 ([] : List Int) (wrap64 ((l1.length : Int) - 1))
theorem whetstoneref01_Mul.mono_l : ∀ k, (∀ y0 y1 y2 y3, LeO (whetstoneref01_Mul.l0 k y0 y1 y2 y3) (whetstoneref01_Mul.l0 (k + 1) y0 y1 y2 y3))
 | 0 => fun _ _ _ _ r h => by simp [whetstoneref01_Mul.l0] at h
 | k + 1 => by
  have ih0 := whetstoneref01_Mul.mono_l k
  ·intro y0 y1 y2 y3
   unfold whetstoneref01_Mul.l0
   repeat' with_reducible first | exact ih0 _ _ _ _ | exact whetstoneref01_Add.mono _ _ _ | exact whetstoneref01_Times.mono _ _ _ | exact LeO.refl _ | exact LeO.none _ | refine LeO.ite ?_ ?_ | refine LeO.bind ?_ (fun _ => ?_)
theorem whetstoneref01_Mul.mono : ∀ a0 a1 k, LeO (whetstoneref01_Mul.f k a0 a1) (whetstoneref01_Mul.f (k + 1) a0 a1) := by
 intro a0 a1 k; have ih0 := whetstoneref01_Mul.mono_l k
 unfold whetstoneref01_Mul.f
 repeat' with_reducible first | exact ih0 _ _ _ _ | exact whetstoneref01_Add.mono _ _ _ | exact whetstoneref01_Times.mono _ _ _ | exact LeO.refl _ | exact LeO.none _ | refine LeO.ite ?_ ?_ | refine LeO.bind ?_ (fun _ => ?_)
def whetstoneref01_Mul.T5 : Bool × List (List Nat × List Nat) := (true, [([], []), ([0], [0]), ([], []), ([], []), ([], []), ([3, 4], [3, 4]), ([5], [5]), ([2, 6, 1], [2, 6]), ([1, 7, 7], [1, 7]), ([8, 8, 0, 1, 2, 3, 4, 5, 6, 7, 8], [0, 8])])
def whetstoneref01_Mul.B5 : List Nat := [0, 1, 0, 0, 0, 24, 56, 127, 255, 511]
theorem whetstoneref01_Mul.tab5 : rtab .any (opsOf Try.f64 5) = whetstoneref01_Mul.T5 := by kernel_rfl
theorem whetstoneref01_Mul.bits5 : waitsOk whetstoneref01_Mul.T5.2 whetstoneref01_Mul.B5 = true := by kernel_rfl
set_option maxHeartbeats 8000000 in
set_option maxRecDepth 100000 in
theorem whetstoneref01_Mul.calls (k : Nat) (A0 : Option Addr) (c0 : Nat) (l0 : List Int) (A1 : Option Addr) (c1 : Nat) (l1 : List Int) (r : List Int) (w : World) (hr0 : Kd.C (Kd.int .i64) w A0 l0.length l0) (hc0 : l0.length ≤ c0) (hr1 : Kd.C (Kd.int .i64) w A1 l1.length l1) (hc1 : l1.length ≤ c1) (h : whetstoneref01_Mul.f k l0 l1 = some r) :
  Calls Try.prog 64 #[.slice A0 l0.length c0, .slice A1 l1.length c1] w fun e w' => ∃ v0_ : Value, e = .returned (v0_) ∧ Kd.R (Kd.int .i64) 3 w' w.heap.size (fun _ => True) v0_ r ∧ Below w.heap.size w w' := by
 have HR0 := Aside0.mk hr0; have HC0 := Aside0.mk hc0; clear hr0 hc0; have HR1 := Aside0.mk hr1; have HC1 := Aside0.mk hc1; clear hr1 hc1; have HB := Aside0.mk (Below.refl w.heap.size w); have H : (whetstoneref01_Mul.l0 k l0 l1 ([] : List Int) (wrap64 ((l1.length : Int) - 1))) = some r := h; clear h; have H' := Aside0.mk H; clear H
 go_enter Try.func64, Try.ntmps64
 go_wp2
 go_loopg [5, 6] k (fun kq v5 v6 w' => ∃ (x5_1 : List Int) (x6_1 : Int), v6 = .int .i64 x6_1 ∧ Aside0 (whetstoneref01_Mul.l0 kq l0 l1 x5_1 x6_1 = some r) ∧ Aside0 (kq ≤ k) ∧ Aside0 (Kd.R (Kd.int .i64) 3 w' w.heap.size (fun _ => True) v5 x5_1) ∧ Aside0 (Below w.heap.size w w'))
 case atStart => exact ⟨(([] : List Int)), (wrap64 ((l1.length : Int) - 1)), (by first | rfl | (simp; done) | (simp [*]; done)), H', ⟨Nat.le_refl _⟩, ⟨by first | exact Kd.R_nil _ _ _ _ _ | exact Kd.N_nil _ _ _ _ _ | exact Kd.V_nil _ _ _ _ _ | exact Kd.Q_nil _ _ _ _ _ | exact Kd.S_nil _ _ _ _ _⟩, ⟨tb HB⟩⟩
 case round =>
  clear H'; (try clear c1); (try clear p2); obtain ⟨x5_1, x6_1, rfl, HA, HK1, HO_5, HB⟩ := hrel
  cases gk with
  | zero => exact absurd HA.out (by simp [whetstoneref01_Mul.l0])
  | succ k1 =>
   have H := HA.out; clear HA; simp only [whetstoneref01_Mul.l0] at H
   by_cases c3 : x6_1 ≥ 0
   ·rw [if_pos c3] at H
    have c3b0 : decide (0 ≤ x6_1) = true := decide_eq_true c3; clear c3; replace H := bi H; obtain ⟨t716, A40, H⟩ := H; have A4 := Aside0.mk A40; clear A40
    by_cases c5 : 0 ≤ x6_1
    ·rw [if_pos c5] at H
     have c5b0 : decide (0 ≤ x6_1) = true := decide_eq_true c5; clear c5
     by_cases c6 : x6_1 < (l1.length : Int)
     ·rw [if_pos c6] at H
      have c6b0 : decide (x6_1 < (l1.length : Int)) = true := decide_eq_true c6; clear c6; replace H := bi H; obtain ⟨t720, A70, H⟩ := H; have A7 := Aside0.mk A70; clear A70; replace H := bi H; obtain ⟨t723, A80, H⟩ := H; have A8 := Aside0.mk A80; clear A80; have H' := Aside0.mk H; clear H
      try go_wp2
      replace HO_5 := Aside0.mk (Kd.R_drew HO_5.out); replace HB := Aside0.mk (below_drew1 HB.out); have p719 : 0 ≤ (x6_1 : Int) := td; have q719 : x6_1 < (l1.length : Int) := td; obtain ⟨ad719, e719, hx719_0⟩ := Kd.at_int HR1.out x6_1 p719 q719; have hw719_0 := hx719_0
      cases e719
      replace hx719_0 := (HB.out.cell (World.block_lt_of_cell? w _ hx719_0)).trans hx719_0; replace p719 := eq_true p719; replace q719 := eq_true q719; obtain ⟨Ao10, co10, eo10⟩ := Kd.R_slice HO_5.out; (first | subst eo10 | (injection eo10 with f1_ f2_ f3_; have f4_ := f1_.symm; have f5_ := f3_.symm; clear f1_ f2_ f3_; subst f4_; subst f5_)); refine start_ (n := 10) (S := fun w' => w'.cell? (ad719.add (x6_1).toNat) = some (.int .i64 (rd l1 x6_1))) (ds := []) #[false, false, false, false, false, false, false, false, false, false] (by kernel_rfl) rfl rfl (((HB.out.cell (World.block_lt_of_cell? w _ hw719_0)).trans hw719_0)) (fun hHeld => ?_); refine with_tabW whetstoneref01_Mul.tab5 whetstoneref01_Mul.bits5 (fun HT_ HW_ => ?_); generalize wr.drew = w9 at HO_5 HB hx719_0 hHeld ⊢; refine pT (i := 0) (N := some 14) (bb 10 1) HT_ ?_; refine pT (i := 2) (N := some 16) (bb 10 5) HT_ ?_; refine pT (i := 3) (N := some 17) (bb 10 13) HT_ ?_; refine pT (i := 4) (N := some 18) (bb 10 29) HT_ ?_; refine pT (i := 5) (N := some 19) (bb 10 61) HT_ ?_; refine tW (i := 6) (N := some 20) (bb 10 125) HT_ HW_ hHeld ?_; refine oT (i := 1) (N := some 15) (bb 10 127) HT_ fun K hK => ?_; refine gS Try.func53 #[.slice Ao10 x5_1.length co10, .int .i64 10] ?_; (with_reducible refine (whetstoneref01_Times.calls k1 _ _ x5_1 10 t716 _ ?side1 ?side2 A4.out).mono ?_); (case side1 => exact tc (Kd.R_reads' HO_5.out).2.2); (case side2 => exact (Kd.R_reads' HO_5.out).2.1); rintro e w11 ⟨v717, rfl, ho0, hb⟩; refine ⟨_, rfl, ?_⟩; have HO718 := rl (rn ho0 HO_5) HB; replace HO_5 := re HO_5 (Kd.R_base ho0) hb; replace HB := bs HB hb; (try clear hb); (try clear ho0); refine hK.out _ _ (((HB.out.cell (World.block_lt_of_cell? w _ hw719_0)).trans hw719_0)) (fun hHeld => ?_); clear hK K; refine norm_ (a' := ?_) ?_ ?_; rotate_left
      ·show Act.put _ (some 15) _ = _
       simp only [Act.put, List.setIfInBounds_toArray, List.set_cons_zero, List.set_cons_succ, i64_w, i32_w]
       rfl
      refine oT (i := 7) (N := some 21) (bb 10 255) HT_ fun K hK => ?_; refine gS Try.func53 #[.slice A0 l0.length c0, .int .i64 (rd l1 x6_1)] ?_; (with_reducible refine (whetstoneref01_Times.calls k1 _ _ l0 (rd l1 x6_1) t720 _ ?side1 ?side2 A7.out).mono ?_); (case side1 => exact tc (Kd.C_below HR0.out HB.out)); (case side2 => exact HC0.out); rintro e w12 ⟨v721, rfl, ho0, hb⟩; refine ⟨_, rfl, ?_⟩; have HO722 := rl (rn (rn ho0 HO_5) HO718) HB; replace HO_5 := re HO_5 (Kd.R_base ho0) hb; replace HO718 := re HO718 (Kd.R_base ho0) hb; replace HB := bs HB hb; (try clear hb); (try clear ho0); obtain ⟨Ao13, co13, eo13⟩ := Kd.R_slice HO718.out; (first | subst eo13 | (injection eo13 with f1_ f2_ f3_; have f4_ := f1_.symm; have f5_ := f3_.symm; clear f1_ f2_ f3_; subst f4_; subst f5_)); obtain ⟨Ao14, co14, eo14⟩ := Kd.R_slice HO722.out; (first | subst eo14 | (injection eo14 with f1_ f2_ f3_; have f4_ := f1_.symm; have f5_ := f3_.symm; clear f1_ f2_ f3_; subst f4_; subst f5_)); refine hK.out _ _ (((HB.out.cell (World.block_lt_of_cell? w _ hw719_0)).trans hw719_0)) (fun hHeld => ?_); clear hK K; refine norm_ (a' := ?_) ?_ ?_; rotate_left
      ·show Act.put _ (some 21) _ = _
       simp only [Act.put, List.setIfInBounds_toArray, List.set_cons_zero, List.set_cons_succ, i64_w, i32_w]
       rfl
      refine oT (i := 8) (N := some 22) (bb 10 511) HT_ fun K hK => ?_; refine gS Try.func37 #[.slice Ao13 t716.length co13, .slice Ao14 t720.length co14] ?_; (with_reducible refine (whetstoneref01_Add.calls k1 _ _ t716 _ _ t720 t723 _ ?side1 ?side2 ?side3 ?side4 A8.out).mono ?_); (case side1 => exact tc (Kd.R_reads' HO718.out).2.2); (case side2 => exact (Kd.R_reads' HO718.out).2.1); (case side3 => exact tc (Kd.R_reads' HO722.out).2.2); (case side4 => exact (Kd.R_reads' HO722.out).2.1); rintro e w15 ⟨v724, rfl, ho0, hb⟩; refine ⟨_, rfl, ?_⟩; have HO725 := rl (rn (rn (rn ho0 HO_5) HO718) HO722) HB; replace HB := bs HB hb; (try clear hb); (try clear ho0); refine hK.out _ _ (((HB.out.cell (World.block_lt_of_cell? w _ hw719_0)).trans hw719_0)) (fun hHeld => ?_); clear hK K; refine norm_ (a' := ?_) ?_ ?_; rotate_left
      ·show Act.put _ (some 22) _ = _
       simp only [Act.put, List.setIfInBounds_toArray, List.set_cons_zero, List.set_cons_succ, i64_w, i32_w]
       rfl
      refine pT (i := 9) (N := some 5) (bb 10 1023) HT_ ?_; refine done_ (done_of HT_.out (by kernel_rfl)) ?_
      try go_wp2
      go_roundg k1
      case measure => have := HK1.out; omega
      case rel => exact ⟨(t723), (wrap64 (x6_1 - 1)), (by first | rfl | (simp; done) | (simp [*]; done)), H', ⟨by have := HK1.out; omega⟩, ⟨by (with_reducible repeat first | apply qa | apply qn | apply qd); exact Kd.R_mono HO725.out (fun _ hk => trivial)⟩, ⟨tb HB⟩⟩
     ·rw [if_neg c6] at H
      exact absurd H (by simp)
    ·rw [if_neg c5] at H
     exact absurd H (by simp)
   ·rw [if_neg c3] at H
    have c3b0 : decide (0 ≤ x6_1) = false := decide_eq_false c3; clear c3; obtain rfl := Option.some.inj H
    go_wp2
    go_ret
    exact ⟨_, ee, tq HO_5, tb HB⟩

/-! ### whetstoneref01_From: function 57 -/
def whetstoneref01_From.l0 : Nat → List Int → List Int → List Int → Int → Option (List Int)
 | 0, _, _, _, _ => none
 | k + 1, x0, x3, x4, x5 => if x5 ≥ 0 then ((whetstoneref01_Mul.f k x3 x4).bind fun t729 => (if 0 ≤ x5 then (if x5 < (x0.length : Int) then ((whetstoneref01_Small.f k (IntKind.u64.wrap (rd x0 x5))).bind fun t733 => ((whetstoneref01_Add.f k t729 t733).bind fun t736 => (whetstoneref01_From.l0 k x0 t736 x4 (wrap64 (x5 - 1))))) else (none)) else (none))) else (some x3)
def whetstoneref01_From.f (k : Nat) (l0 : List Int) : Option (List Int) := (whetstoneref01_Small.f k 4294967296).bind fun t726 => (whetstoneref01_From.l0 k l0 ([] : List Int) t726 (wrap64 ((l0.length : Int) - 1)))
theorem whetstoneref01_From.mono_l : ∀ k, (∀ y0 y1 y2 y3, LeO (whetstoneref01_From.l0 k y0 y1 y2 y3) (whetstoneref01_From.l0 (k + 1) y0 y1 y2 y3))
 | 0 => fun _ _ _ _ r h => by simp [whetstoneref01_From.l0] at h
 | k + 1 => by
  have ih0 := whetstoneref01_From.mono_l k
  ·intro y0 y1 y2 y3
   unfold whetstoneref01_From.l0
   repeat' with_reducible first | exact ih0 _ _ _ _ | exact whetstoneref01_Add.mono _ _ _ | exact whetstoneref01_Mul.mono _ _ _ | exact whetstoneref01_Small.mono _ _ | exact LeO.refl _ | exact LeO.none _ | refine LeO.ite ?_ ?_ | refine LeO.bind ?_ (fun _ => ?_)
theorem whetstoneref01_From.mono : ∀ a0 k, LeO (whetstoneref01_From.f k a0) (whetstoneref01_From.f (k + 1) a0) := by
 intro a0 k; have ih0 := whetstoneref01_From.mono_l k
 unfold whetstoneref01_From.f
 repeat' with_reducible first | exact ih0 _ _ _ _ | exact whetstoneref01_Add.mono _ _ _ | exact whetstoneref01_Mul.mono _ _ _ | exact whetstoneref01_Small.mono _ _ | exact LeO.refl _ | exact LeO.none _ | refine LeO.ite ?_ ?_ | refine LeO.bind ?_ (fun _ => ?_)
def whetstoneref01_From.T6 : Bool × List (List Nat × List Nat) := (true, [([], []), ([], []), ([0, 1], [0, 1]), ([], []), ([], []), ([3, 4], [3, 4]), ([5], [5]), ([6], [6]), ([7, 2], [7]), ([2, 8, 8], [2, 8]), ([9, 9, 0, 1, 2, 3, 4, 5, 6, 7, 8, 9], [0, 9])])
def whetstoneref01_From.B6 : List Nat := [0, 0, 3, 0, 0, 24, 56, 120, 255, 511, 1023]
theorem whetstoneref01_From.tab6 : rtab .any (opsOf Try.f57 6) = whetstoneref01_From.T6 := by kernel_rfl
theorem whetstoneref01_From.bits6 : waitsOk whetstoneref01_From.T6.2 whetstoneref01_From.B6 = true := by kernel_rfl
set_option maxHeartbeats 8000000 in
set_option maxRecDepth 100000 in
theorem whetstoneref01_From.calls (k : Nat) (A0 : Option Addr) (c0 : Nat) (l0 : List Int) (r : List Int) (w : World) (hr0 : Kd.C (Kd.int .u32) w A0 l0.length l0) (hc0 : l0.length ≤ c0) (h : whetstoneref01_From.f k l0 = some r) :
  Calls Try.prog 57 #[.slice A0 l0.length c0] w fun e w' => ∃ v0_ : Value, e = .returned (v0_) ∧ Kd.R (Kd.int .i64) 3 w' w.heap.size (fun _ => True) v0_ r ∧ Below w.heap.size w w' := by
 have HR0 := Aside0.mk hr0; have HC0 := Aside0.mk hc0; clear hr0 hc0; have HB := Aside0.mk (Below.refl w.heap.size w); have H : ((whetstoneref01_Small.f k 4294967296).bind fun t726 => (whetstoneref01_From.l0 k l0 ([] : List Int) t726 (wrap64 ((l0.length : Int) - 1)))) = some r := h; clear h; replace H := bi H; obtain ⟨t726, A20, H⟩ := H; have A2 := Aside0.mk A20; clear A20; have H' := Aside0.mk H; clear H
 go_enter Try.func57, Try.ntmps57
 go_wp2_with (first | ((with_reducible refine gate_callee (f := 38) rfl ?_); refine gL (N := some 6) Try.func38 #[.int .u64 4294967296] ?_; (with_reducible refine (whetstoneref01_Small.calls k 4294967296 t726 _ A2.out).mono ?_); rintro e w3 ⟨v727, rfl, ho0, hb⟩; refine ⟨_, rfl, ?_⟩; have HO728 := rl ho0 HB; replace HB := bs HB hb; (try clear hb); (try clear ho0)))
 go_loopg [3, 5] k (fun kq v3 v5 w' => ∃ (x3_1 : List Int) (x5_1 : Int), v5 = .int .i64 x5_1 ∧ Aside0 (whetstoneref01_From.l0 kq l0 x3_1 t726 x5_1 = some r) ∧ Aside0 (kq ≤ k) ∧ Aside0 (Kd.R (Kd.int .i64) 3 w' w.heap.size (fun k_ => some k_ ≠ (v727 : Value).ownBlock) v3 x3_1) ∧ Aside0 (Kd.R (Kd.int .i64) 3 w' w.heap.size (fun k_ => some k_ ≠ (v3 : Value).ownBlock) v727 t726) ∧ Aside0 (Below w.heap.size w w'))
 case atStart => exact ⟨(([] : List Int)), (wrap64 ((l0.length : Int) - 1)), (by first | rfl | (simp; done) | (simp [*]; done)), H', ⟨Nat.le_refl _⟩, ⟨by first | exact Kd.R_nil _ _ _ _ _ | exact Kd.N_nil _ _ _ _ _ | exact Kd.V_nil _ _ _ _ _ | exact Kd.Q_nil _ _ _ _ _ | exact Kd.S_nil _ _ _ _ _⟩, ⟨by (with_reducible repeat first | apply qa | apply qn | apply qd); exact Kd.R_mono HO728.out (fun _ hk => (by simp [Value.ownBlock]))⟩, ⟨tb HB⟩⟩
 case round =>
  clear H'; (try clear p2); (try clear c3); obtain ⟨x3_1, x5_1, rfl, HA, HK1, HO_3, HO_4, HB⟩ := hrel
  cases gk with
  | zero => exact absurd HA.out (by simp [whetstoneref01_From.l0])
  | succ k1 =>
   have H := HA.out; clear HA; simp only [whetstoneref01_From.l0] at H
   by_cases c4 : x5_1 ≥ 0
   ·rw [if_pos c4] at H
    have c4b0 : decide (0 ≤ x5_1) = true := decide_eq_true c4; clear c4; replace H := bi H; obtain ⟨t729, A50, H⟩ := H; have A5 := Aside0.mk A50; clear A50
    by_cases c6 : 0 ≤ x5_1
    ·rw [if_pos c6] at H
     have c6b0 : decide (0 ≤ x5_1) = true := decide_eq_true c6; clear c6
     by_cases c7 : x5_1 < (l0.length : Int)
     ·rw [if_pos c7] at H
      have c7b0 : decide (x5_1 < (l0.length : Int)) = true := decide_eq_true c7; clear c7; replace H := bi H; obtain ⟨t733, A80, H⟩ := H; have A8 := Aside0.mk A80; clear A80; replace H := bi H; obtain ⟨t736, A90, H⟩ := H; have A9 := Aside0.mk A90; clear A90; have H' := Aside0.mk H; clear H
      try go_wp2
      replace HO_3 := Aside0.mk (Kd.R_drew HO_3.out); replace HO_4 := Aside0.mk (Kd.R_drew HO_4.out); replace HB := Aside0.mk (below_drew1 HB.out); have p732 : 0 ≤ (x5_1 : Int) := td; have q732 : x5_1 < (l0.length : Int) := td; obtain ⟨ad732, e732, hx732_0⟩ := Kd.at_int HR0.out x5_1 p732 q732; have hw732_0 := hx732_0
      cases e732
      replace hx732_0 := (HB.out.cell (World.block_lt_of_cell? w _ hx732_0)).trans hx732_0; replace p732 := eq_true p732; replace q732 := eq_true q732; obtain ⟨Ao11, co11, eo11⟩ := Kd.R_slice HO_3.out; (first | subst eo11 | (injection eo11 with f1_ f2_ f3_; have f4_ := f1_.symm; have f5_ := f3_.symm; clear f1_ f2_ f3_; subst f4_; subst f5_)); obtain ⟨Ao12, co12, eo12⟩ := Kd.R_slice HO_4.out; (first | subst eo12 | (injection eo12 with f1_ f2_ f3_; have f4_ := f1_.symm; have f5_ := f3_.symm; clear f1_ f2_ f3_; subst f4_; subst f5_)); refine start_ (n := 11) (S := fun w' => w'.cell? (ad732.add (x5_1).toNat) = some (.int .u32 (rd l0 x5_1))) (ds := []) #[false, false, false, false, false, false, false, false, false, false, false] (by kernel_rfl) rfl rfl (((HB.out.cell (World.block_lt_of_cell? w _ hw732_0)).trans hw732_0)) (fun hHeld => ?_); refine with_tabW whetstoneref01_From.tab6 whetstoneref01_From.bits6 (fun HT_ HW_ => ?_); generalize wr.drew = w10 at HO_3 HO_4 HB hx732_0 hHeld ⊢; refine pT (i := 0) (N := some 14) (bb 11 1) HT_ ?_; refine pT (i := 1) (N := some 15) (bb 11 3) HT_ ?_; refine pT (i := 3) (N := some 17) (bb 11 11) HT_ ?_; refine pT (i := 4) (N := some 18) (bb 11 27) HT_ ?_; refine pT (i := 5) (N := some 19) (bb 11 59) HT_ ?_; refine tW (i := 6) (N := some 20) (bb 11 123) HT_ HW_ hHeld ?_; refine pT (i := 7) (N := some 21) (bb 11 251) HT_ ?_; refine oT (i := 2) (N := some 16) (bb 11 255) HT_ fun K hK => ?_; refine gS Try.func64 #[.slice Ao11 x3_1.length co11, .slice Ao12 t726.length co12] ?_; (with_reducible refine (whetstoneref01_Mul.calls k1 _ _ x3_1 _ _ t726 t729 _ ?side1 ?side2 ?side3 ?side4 A5.out).mono ?_); (case side1 => exact tc (Kd.R_reads' HO_3.out).2.2); (case side2 => exact (Kd.R_reads' HO_3.out).2.1); (case side3 => exact tc (Kd.R_reads' HO_4.out).2.2); (case side4 => exact (Kd.R_reads' HO_4.out).2.1); rintro e w13 ⟨v730, rfl, ho0, hb⟩; refine ⟨_, rfl, ?_⟩; have HO731 := rl (rn (rn ho0 HO_3) HO_4) HB; replace HO_3 := re HO_3 (Kd.R_base ho0) hb; replace HO_4 := re HO_4 (Kd.R_base ho0) hb; replace HB := bs HB hb; (try clear hb); (try clear ho0); refine hK.out _ _ (((HB.out.cell (World.block_lt_of_cell? w _ hw732_0)).trans hw732_0)) (fun hHeld => ?_); clear hK K; refine norm_ (a' := ?_) ?_ ?_; rotate_left
      ·show Act.put _ (some 16) _ = _
       simp only [Act.put, List.setIfInBounds_toArray, List.set_cons_zero, List.set_cons_succ, i64_w, i32_w]
       rfl
      refine oT (i := 8) (N := some 22) (bb 11 511) HT_ fun K hK => ?_; refine gS Try.func38 #[.int .u64 (IntKind.u64.wrap (rd l0 x5_1))] ?_; (with_reducible refine (whetstoneref01_Small.calls k1 (IntKind.u64.wrap (rd l0 x5_1)) t733 _ A8.out).mono ?_); rintro e w14 ⟨v734, rfl, ho0, hb⟩; refine ⟨_, rfl, ?_⟩; have HO735 := rl (rn (rn (rn ho0 HO_3) HO_4) HO731) HB; replace HO_3 := re HO_3 (Kd.R_base ho0) hb; replace HO_4 := re HO_4 (Kd.R_base ho0) hb; replace HO731 := re HO731 (Kd.R_base ho0) hb; replace HB := bs HB hb; (try clear hb); (try clear ho0); obtain ⟨Ao15, co15, eo15⟩ := Kd.R_slice HO731.out; (first | subst eo15 | (injection eo15 with f1_ f2_ f3_; have f4_ := f1_.symm; have f5_ := f3_.symm; clear f1_ f2_ f3_; subst f4_; subst f5_)); obtain ⟨Ao16, co16, eo16⟩ := Kd.R_slice HO735.out; (first | subst eo16 | (injection eo16 with f1_ f2_ f3_; have f4_ := f1_.symm; have f5_ := f3_.symm; clear f1_ f2_ f3_; subst f4_; subst f5_)); refine hK.out _ _ (((HB.out.cell (World.block_lt_of_cell? w _ hw732_0)).trans hw732_0)) (fun hHeld => ?_); clear hK K; refine norm_ (a' := ?_) ?_ ?_; rotate_left
      ·show Act.put _ (some 22) _ = _
       simp only [Act.put, List.setIfInBounds_toArray, List.set_cons_zero, List.set_cons_succ, i64_w, i32_w]
       rfl
      refine oT (i := 9) (N := some 23) (bb 11 1023) HT_ fun K hK => ?_; refine gS Try.func37 #[.slice Ao15 t729.length co15, .slice Ao16 t733.length co16] ?_; (with_reducible refine (whetstoneref01_Add.calls k1 _ _ t729 _ _ t733 t736 _ ?side1 ?side2 ?side3 ?side4 A9.out).mono ?_); (case side1 => exact tc (Kd.R_reads' HO731.out).2.2); (case side2 => exact (Kd.R_reads' HO731.out).2.1); (case side3 => exact tc (Kd.R_reads' HO735.out).2.2); (case side4 => exact (Kd.R_reads' HO735.out).2.1); rintro e w17 ⟨v737, rfl, ho0, hb⟩; refine ⟨_, rfl, ?_⟩; have HO738 := rl (rn (rn (rn (rn ho0 HO_3) HO_4) HO731) HO735) HB; replace HO_4 := re HO_4 (Kd.R_base ho0) hb; replace HB := bs HB hb; (try clear hb); (try clear ho0); refine hK.out _ _ (((HB.out.cell (World.block_lt_of_cell? w _ hw732_0)).trans hw732_0)) (fun hHeld => ?_); clear hK K; refine norm_ (a' := ?_) ?_ ?_; rotate_left
      ·show Act.put _ (some 23) _ = _
       simp only [Act.put, List.setIfInBounds_toArray, List.set_cons_zero, List.set_cons_succ, i64_w, i32_w]
       rfl
      refine pT (i := 10) (N := some 3) (bb 11 2047) HT_ ?_; refine done_ (done_of HT_.out (by kernel_rfl)) ?_
      try go_wp2
      go_roundg k1
      case measure => have := HK1.out; omega
      case rel => exact ⟨(t736), (wrap64 (x5_1 - 1)), (by first | rfl | (simp; done) | (simp [*]; done)), H', ⟨by have := HK1.out; omega⟩, ⟨tm HO738⟩, ⟨tm HO_4⟩, ⟨tb HB⟩⟩
     ·rw [if_neg c7] at H
      exact absurd H (by simp)
    ·rw [if_neg c6] at H
     exact absurd H (by simp)
   ·rw [if_neg c4] at H
    have c4b0 : decide (0 ≤ x5_1) = false := decide_eq_false c4; clear c4; obtain rfl := Option.some.inj H
    go_wp2
    go_ret
    exact ⟨_, ee, by (with_reducible repeat first | apply qa | apply qn | apply qd); exact Kd.R_mono HO_3.out (fun _ hk => trivial), tb HB⟩

/-! ### whetstoneref02_From: function 30 -/
def whetstoneref02_From.f (k : Nat) (a0 : Bool) (l1 : List Int) : Option (Bool × List Int) := (whetstoneref01_From.f k l1).bind fun t740 => ((whetstoneref02_Norm.f k a0 t740).bind fun bt743 => (some (bt743.1, bt743.2)))
theorem whetstoneref02_From.mono : ∀ a0 a1 k, LeO (whetstoneref02_From.f k a0 a1) (whetstoneref02_From.f (k + 1) a0 a1) := by
 intro a0 a1 k
 unfold whetstoneref02_From.f
 repeat' with_reducible first | exact whetstoneref01_From.mono _ _ | exact whetstoneref02_Norm.mono _ _ _ | exact LeO.refl _ | exact LeO.none _ | refine LeO.ite ?_ ?_ | refine LeO.bind ?_ (fun _ => ?_)
set_option maxHeartbeats 8000000 in
set_option maxRecDepth 100000 in
theorem whetstoneref02_From.calls (k : Nat) (a0 : Bool) (A1 : Option Addr) (c1 : Nat) (l1 : List Int) (r1 : Bool) (r2 : List Int) (w : World) (hr1 : Kd.C (Kd.int .u32) w A1 l1.length l1) (hc1 : l1.length ≤ c1) (h : whetstoneref02_From.f k a0 l1 = some (r1, r2)) :
  Calls Try.prog 30 #[.bool a0, .slice A1 l1.length c1] w fun e w' => ∃ v1_ : Value, e = .returned (.agg #[.bool r1, v1_]) ∧ Kd.R (Kd.int .i64) 3 w' w.heap.size (fun _ => True) v1_ r2 ∧ Below w.heap.size w w' := by
 have hu32 := Try.underlying32; have HR1 := Aside0.mk hr1; have HC1 := Aside0.mk hc1; clear hr1 hc1; have HB := Aside0.mk (Below.refl w.heap.size w); have H : ((whetstoneref01_From.f k l1).bind fun t740 => ((whetstoneref02_Norm.f k a0 t740).bind fun bt743 => (some (bt743.1, bt743.2)))) = some (r1, r2) := h; clear h; replace H := bi H; obtain ⟨t740, A30, H⟩ := H; have A3 := Aside0.mk A30; clear A30; replace H := bi H; obtain ⟨⟨t743, t744⟩, A40, H⟩ := H
 try dsimp only at H
 have A4 := Aside0.mk A40; clear A40; simp only [Option.some.injEq, Prod.mk.injEq] at H; obtain ⟨rfl, rfl⟩ := H
 go_enter Try.func30, Try.ntmps30
 go_wp2_with (first | ((with_reducible refine gate_dst (N := 4) rfl ?_); refine bx (N := 4) #[.bool false, .slice none 0 0] 32 ?_; intro gb739 hg w5 hbox hb; have BK739 := Aside0.mk (hbox); have GW739 := bz hg HB; have GE739 := bz hg HB; replace HB := bs HB hb; clear hb hbox hg) | ((with_reducible refine gate_callee (f := 57) rfl ?_); refine gL (N := some 7) Try.func57 #[.slice A1 l1.length c1] ?_; (with_reducible refine (whetstoneref01_From.calls k _ _ l1 t740 _ ?side1 ?side2 A3.out).mono ?_); (case side1 => exact tc (Kd.C_below HR1.out HB.out)); (case side2 => exact HC1.out); rintro e w6 ⟨v741, rfl, ho0, hb⟩; refine ⟨_, rfl, ?_⟩; have HO742 := rl ho0 HB; replace BK739 := kb BK739 hb; replace HB := bs HB hb; (try clear hb); (try clear ho0); obtain ⟨Ao7, co7, eo7⟩ := Kd.R_slice HO742.out; subst eo7) | ((with_reducible refine gate_callee (f := 27) rfl ?_); refine gL (N := some 9) Try.func27 #[.agg #[.bool a0, .slice Ao7 t740.length co7]] ?_; (with_reducible refine (whetstoneref02_Norm.calls k a0 _ _ t740 t743 t744 _ ?side1 ?side2 A4.out).mono ?_); (case side1 => exact tc (Kd.R_reads' HO742.out).2.2); (case side2 => exact (Kd.R_reads' HO742.out).2.1); rintro e w8 ⟨v745, rfl, ho0, hb⟩; refine ⟨_, rfl, ?_⟩; have HO746 := rl (rn ho0 HO742) HB; replace BK739 := kb BK739 hb; replace HB := bs HB hb; (try clear hb); (try clear ho0); obtain ⟨hcz9_0, hcz9_1, hfz9_0, hfz9_1⟩ := b2 BK739; obtain ⟨Ao10, co10, eo10⟩ := Kd.R_slice HO746.out; subst eo10))
 refine bodyPost_ret (results_cell_row rfl _ _ gb739 32 #[.bool t743, .slice Ao10 t744.length co10] (0, 0) _ rfl (tk BK739) Try.underlying32 rfl (by kernel_rfl)) rfl ?_; exact ⟨_, ee, by (with_reducible repeat first | apply qa | apply qn | apply qd); exact Kd.R_mono (Kd.R_far (p := ⟨gb739, 1, none⟩) (Kd.R_far (p := ⟨gb739, 0, none⟩) (Kd.R_types HO746.out BK739.out (by decide)) (fun _ hk => hk.2) (.bool t743)) (fun _ hk => hk.2) (.slice Ao10 t744.length co10)) (fun _ hk => trivial), tb HB⟩

/-! ### whetstonelaw02_of: function 8 -/
def whetstonelaw02_of.f (k : Nat) (a0_0 : Bool) (l0_1 : List Int) : Option (Bool × List Int) := (whetstoneref02_From.f k a0_0 l0_1).bind fun bt749 => (some (bt749.1, bt749.2))
theorem whetstonelaw02_of.mono : ∀ a0 a1 k, LeO (whetstonelaw02_of.f k a0 a1) (whetstonelaw02_of.f (k + 1) a0 a1) := by
 intro a0 a1 k
 unfold whetstonelaw02_of.f
 repeat' with_reducible first | exact whetstoneref02_From.mono _ _ _ | exact LeO.refl _ | exact LeO.none _ | refine LeO.ite ?_ ?_ | refine LeO.bind ?_ (fun _ => ?_)
set_option maxHeartbeats 8000000 in
set_option maxRecDepth 100000 in
theorem whetstonelaw02_of.calls (k : Nat) (a0_0 : Bool) (A0_1 : Option Addr) (c0_1 : Nat) (l0_1 : List Int) (r1 : Bool) (r2 : List Int) (w : World) (hr0_1 : Kd.C (Kd.int .u32) w A0_1 l0_1.length l0_1) (hc0_1 : l0_1.length ≤ c0_1) (h : whetstonelaw02_of.f k a0_0 l0_1 = some (r1, r2)) :
  Calls Try.prog 8 #[.agg #[.bool a0_0, .slice A0_1 l0_1.length c0_1]] w fun e w' => ∃ v1_ : Value, e = .returned (.agg #[.bool r1, v1_]) ∧ Kd.R (Kd.int .i64) 3 w' w.heap.size (fun _ => True) v1_ r2 ∧ Below w.heap.size w w' := by
 have hu24 := Try.underlying24; have hu32 := Try.underlying32; have HR0_1 := Aside0.mk hr0_1; have HC0_1 := Aside0.mk hc0_1; clear hr0_1 hc0_1; have HB := Aside0.mk (Below.refl w.heap.size w); have H : ((whetstoneref02_From.f k a0_0 l0_1).bind fun bt749 => (some (bt749.1, bt749.2))) = some (r1, r2) := h; clear h; replace H := bi H; obtain ⟨⟨t749, t750⟩, A20, H⟩ := H
 try dsimp only at H
 have A2 := Aside0.mk A20; clear A20; simp only [Option.some.injEq, Prod.mk.injEq] at H; obtain ⟨rfl, rfl⟩ := H
 go_enter Try.func8, Try.ntmps8
 go_wp2_with (first | ((with_reducible refine gate_dst (N := 1) rfl ?_); refine bx (N := 1) #[.bool a0_0, .slice A0_1 l0_1.length c0_1] 24 ?_; intro gb747 hg w3 hbox hb; have BK747 := Aside0.mk (hbox); have GW747 := bz hg HB; have GE747 := bz hg HB; replace HB := bs HB hb; clear hb hbox hg) | ((with_reducible refine gate_dst (N := 2) rfl ?_); refine bx (N := 2) #[.bool false, .slice none 0 0] 32 ?_; intro gb748 hg w4 hbox hb; have BK748 := Aside0.mk (hbox); have GW748 := bz hg HB; have GE748 := bz hg HB; replace HB := bs HB hb; obtain ⟨NB747_748, NB748_747⟩ := nb hg BK747; replace BK747 := kb BK747 hb; clear hb hbox hg; have hnb5 := NB747_748.out; have hnc5 := NB748_747.out; obtain ⟨hcz6_0, hcz6_1, hfz6_0, hfz6_1⟩ := b2 BK747) | ((with_reducible refine gate_callee (f := 30) rfl ?_); refine gL (N := some 7) Try.func30 #[.bool a0_0, .slice A0_1 l0_1.length c0_1] ?_; (with_reducible refine (whetstoneref02_From.calls k a0_0 _ _ l0_1 t749 t750 _ ?side1 ?side2 A2.out).mono ?_); (case side1 => exact tc (Kd.C_below HR0_1.out HB.out)); (case side2 => exact HC0_1.out); rintro e w7 ⟨v751, rfl, ho0, hb⟩; refine ⟨_, rfl, ?_⟩; have HO752 := rl ho0 HB; replace BK748 := kb BK748 hb; replace HB := bs HB hb; (try clear hb); (try clear ho0); obtain ⟨hcz8_0, hcz8_1, hfz8_0, hfz8_1⟩ := b2 BK748; obtain ⟨Ao9, co9, eo9⟩ := Kd.R_slice HO752.out; subst eo9))
 refine bodyPost_ret (results_cell_row rfl _ _ gb748 32 #[.bool t749, .slice Ao9 t750.length co9] (0, 0) _ rfl (tk BK748) Try.underlying32 rfl (by kernel_rfl)) rfl ?_; exact ⟨_, ee, by (with_reducible repeat first | apply qa | apply qn | apply qd); exact Kd.R_mono (Kd.R_far (p := ⟨gb748, 1, none⟩) (Kd.R_far (p := ⟨gb748, 0, none⟩) (Kd.R_types HO752.out BK748.out (by decide)) (fun _ hk => hk.2) (.bool t749)) (fun _ hk => hk.2) (.slice Ao9 t750.length co9)) (fun _ hk => trivial), tb HB⟩

end Go.Proofs.Ytkbefeadmchmbaa.QBigQuotients
