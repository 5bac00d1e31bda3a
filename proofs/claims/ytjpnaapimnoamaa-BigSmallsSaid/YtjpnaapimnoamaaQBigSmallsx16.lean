-- written by wip/wprint, a program of this session
import Derived.Test.YtjpnaapimnoamaaQBigSmallsx0
import Derived.Test.YtjpnaapimnoamaaQBigSmallsx4
import Derived.Test.YtjpnaapimnoamaaQBigSmallsx6
import Derived.Test.YtjpnaapimnoamaaQBigSmallsx7
namespace Go.Proofs.Ytjpnaapimnoamaa.QBigSmalls
open Go.RowKit Go.Proofs.YtjpnaapimnoamaaW.PrintWords Go.Proofs.YtjpnaapimnoamaaW.PrintLast Go.Proofs.YtjpnaapimnoamaaW.PrintMore
open Go.Proofs.YtjpnaapimnoamaaW.PrintWords.Kd renaming R_alloc → qa, R_drewN → qn, R_drew → qd
open Go.Proofs.YtjpnaapimnoamaaW.PrintWords renaming below_alloc → ba, pw_below_drewN → bn, below_drew1 → bd
attribute [local go_sem] max2_int min2_int max_two min_two max_three min_three max_four min_four   -- for this text's walks alone
set_option linter.unusedVariables false
set_option linter.unusedSimpArgs false

/-! ### big_Small: function 46 -/
mutual
def big_Small.l0 : Nat → Int → List Int → Int → Int → Bool → List Int → Option (Int × Bool)
 | 0, _, _, _, _, _, _ => none
 | k + 1, x5, x14, x15, x16, x647000, x647001 => if x16 < x15 then (if 0 ≤ x16 then (if x16 < (x14.length : Int) then (if 0 ≤ (wrap64 (32 * x16)) then (big_Small.l0 k (Go.bits .or .u64 x5 (shl .u64 (IntKind.u64.wrap (rd x14 x16)) (wrap64 (32 * x16)))) x14 x15 (wrap64 (x16 + 1)) x647000 x647001) else (none)) else (none)) else (none)) else (if x647000 = true then (big_Small.j1 k x5 false x647000 x647001) else (big_Small.j1 k x5 (decide (x5 ≤ 9223372036854775807)) x647000 x647001))
def big_Small.j1 : Nat → Int → Bool → Bool → List Int → Option (Int × Bool)
 | 0, _, _, _, _ => none
 | k + 1, x5, x29, x647000, x647001 => if x29 = true then (some (wrap64 (x5), true)) else (if x647000 = true then (if x5 ≤ 9223372036854775808 then (some (wrap64 ((wrap64 (-(wrap64 (IntKind.u64.wrap (x5 - 1))))) - 1), true)) else (some (0, false))) else (some (0, false)))
end
def big_Small.f (k : Nat) (a0_0 : Bool) (l0_1 : List Int) : Option (Int × Bool) := (nat_Norm.f k l0_1).bind fun t647 => (if (t647.length : Int) > 2 then (some (0, false)) else (big_Small.l0 k 0 t647 (t647.length : Int) 0 a0_0 l0_1))
theorem big_Small.mono_l : ∀ k, (∀ y0 y1 y2 y3 y4 y5, LeO (big_Small.l0 k y0 y1 y2 y3 y4 y5) (big_Small.l0 (k + 1) y0 y1 y2 y3 y4 y5)) ∧ (∀ y0 y1 y2 y3, LeO (big_Small.j1 k y0 y1 y2 y3) (big_Small.j1 (k + 1) y0 y1 y2 y3))
 | 0 => ⟨fun _ _ _ _ _ _ r h => by simp [big_Small.l0] at h, fun _ _ _ _ r h => by simp [big_Small.j1] at h⟩
 | k + 1 => by
  obtain ⟨ih0, ih1⟩ := big_Small.mono_l k
  refine ⟨?_, ?_⟩
  ·intro y0 y1 y2 y3 y4 y5
   unfold big_Small.l0
   repeat' with_reducible first | exact ih0 _ _ _ _ _ _ | exact ih1 _ _ _ _ | exact nat_Norm.mono _ _ | exact LeO.refl _ | exact LeO.none _ | refine LeO.ite ?_ ?_ | refine LeO.bind ?_ (fun _ => ?_)
  ·intro y0 y1 y2 y3
   unfold big_Small.j1
   repeat' with_reducible first | exact ih0 _ _ _ _ _ _ | exact ih1 _ _ _ _ | exact nat_Norm.mono _ _ | exact LeO.refl _ | exact LeO.none _ | refine LeO.ite ?_ ?_ | refine LeO.bind ?_ (fun _ => ?_)
theorem big_Small.mono : ∀ a0 a1 k, LeO (big_Small.f k a0 a1) (big_Small.f (k + 1) a0 a1) := by
 intro a0 a1 k
 obtain ⟨ih0, ih1⟩ := big_Small.mono_l k
 unfold big_Small.f
 repeat' with_reducible first | exact ih0 _ _ _ _ _ _ | exact ih1 _ _ _ _ | exact nat_Norm.mono _ _ | exact LeO.refl _ | exact LeO.none _ | refine LeO.ite ?_ ?_ | refine LeO.bind ?_ (fun _ => ?_)
set_option maxHeartbeats 8000000 in
set_option maxRecDepth 100000 in
theorem big_Small.calls (k : Nat) (a0_0 : Bool) (A0_1 : Option Addr) (c0_1 : Nat) (l0_1 : List Int) (r1 : Int) (r2 : Bool) (w : World) (hr0_1 : Kd.C (Kd.int .u32) w A0_1 l0_1.length l0_1) (hc0_1 : l0_1.length ≤ c0_1) (h : big_Small.f k a0_0 l0_1 = some (r1, r2)) :
  Calls Try.prog 46 #[.agg #[.bool a0_0, .slice A0_1 l0_1.length c0_1]] w fun e w' => e = .returned (.tuple #[.int .i64 r1, .bool r2]) ∧ Below w.heap.size w w' := by
 have hu24 := Try.underlying24
 have HR0_1 := Aside0.mk hr0_1
 have HC0_1 := Aside0.mk hc0_1
 clear hr0_1 hc0_1
 have HB := Aside0.mk (Below.refl w.heap.size w)
 have H : ((nat_Norm.f k l0_1).bind fun t647 => (if (t647.length : Int) > 2 then (some (0, false)) else (big_Small.l0 k 0 t647 (t647.length : Int) 0 a0_0 l0_1))) = some (r1, r2) := h
 clear h
 replace H := bi H
 obtain ⟨t647, A20, H⟩ := H
 have A2 := Aside0.mk A20
 clear A20
 by_cases c3 : (t647.length : Int) > 2
 ·rw [if_pos c3] at H
  have c3b0 : decide (2 < (t647.length : Int)) = true := decide_eq_true c3
  have c3b1 : decide (2 < t647.length) = true := decide_eq_true (by omega)
  clear c3
  simp only [Option.some.injEq, Prod.mk.injEq] at H
  obtain ⟨rfl, rfl⟩ := H
  go_enter Try.func46, Try.ntmps46
  go_wp2_with (first | ((with_reducible refine gate_dst (N := 1) rfl ?_); refine bx (N := 1) #[.bool a0_0, .slice A0_1 l0_1.length c0_1] 24 ?_; intro gb646 hg w4 hbox hb; have BK646 := Aside0.mk (hbox); have GW646 := bz hg HB; have GE646 := bz hg HB; replace HB := bs HB hb; clear hb hbox hg; have hcz5_0 := bc BK646 0 (.bool a0_0); have hcz5_1 := bc BK646 1 (.slice A0_1 l0_1.length c0_1); have hfz5_0 := blk_frozen BK646.out 0; have hfz5_1 := blk_frozen BK646.out 1) | ((with_reducible refine gate_callee (f := 75) rfl ?_); refine gL (N := some 10) Try.func75 #[.slice A0_1 l0_1.length c0_1] ?_; (with_reducible refine (nat_Norm.calls k _ _ l0_1 t647 _ ?side1 ?side2 A2.out).mono ?_); (case side1 => exact tc (Kd.C_below HR0_1.out HB.out)); (case side2 => exact HC0_1.out); rintro e w6 ⟨v648, rfl, ho0, hb⟩; refine ⟨_, rfl, ?_⟩; have HO649 := rl ho0 HB; replace HB := bs HB hb; (try clear hb); (try clear hb2); (try clear hk); (try clear hi); (try clear ho0); obtain ⟨Ao7, co7, eo7⟩ := Kd.R_slice HO649.out; subst eo7))
  go_ret2
  exact ⟨by first | rfl | (simp [errW_none, errW_some] <;> rfl) | (simp [*, errW_none, errW_some] <;> rfl), tb HB⟩
 ·rw [if_neg c3] at H
  have c3b0 : decide (2 < (t647.length : Int)) = false := decide_eq_false c3
  have c3b1 : decide (2 < t647.length) = false := decide_eq_false (by omega)
  clear c3
  have H' := Aside0.mk H
  clear H
  go_enter Try.func46, Try.ntmps46
  go_wp2_with (first | ((with_reducible refine gate_dst (N := 1) rfl ?_); refine bx (N := 1) #[.bool a0_0, .slice A0_1 l0_1.length c0_1] 24 ?_; intro gb646 hg w8 hbox hb; have BK646 := Aside0.mk (hbox); have GW646 := bz hg HB; have GE646 := bz hg HB; replace HB := bs HB hb; clear hb hbox hg; have hcz9_0 := bc BK646 0 (.bool a0_0); have hcz9_1 := bc BK646 1 (.slice A0_1 l0_1.length c0_1); have hfz9_0 := blk_frozen BK646.out 0; have hfz9_1 := blk_frozen BK646.out 1) | ((with_reducible refine gate_callee (f := 75) rfl ?_); refine gL (N := some 10) Try.func75 #[.slice A0_1 l0_1.length c0_1] ?_; (with_reducible refine (nat_Norm.calls k _ _ l0_1 t647 _ ?side1 ?side2 A2.out).mono ?_); (case side1 => exact tc (Kd.C_below HR0_1.out HB.out)); (case side2 => exact HC0_1.out); rintro e w10 ⟨v648, rfl, ho0, hb⟩; refine ⟨_, rfl, ?_⟩; have HO649 := rl ho0 HB; replace BK646 := kb BK646 hb; replace HB := bs HB hb; (try clear hb); (try clear hb2); (try clear hk); (try clear hi); (try clear ho0); obtain ⟨Ao11, co11, eo11⟩ := Kd.R_slice HO649.out; subst eo11))
  go_loopg [5, 16] k (fun kq v5 v16 w' => ∃ (x5_1 : Int) (x16_1 : Int), v5 = .int .u64 x5_1 ∧ v16 = .int .i64 x16_1 ∧ Aside0 (big_Small.l0 kq x5_1 t647 (t647.length : Int) x16_1 a0_0 l0_1 = some (r1, r2)) ∧ Aside0 (kq ≤ k) ∧ Aside0 (Kd.R (Kd.int .u32) 87 w' w.heap.size (fun _ => True) (.slice Ao11 t647.length co11) t647) ∧ Aside0 (w'.heap[gb646]? = some (.cells #[.bool a0_0, (.slice A0_1 l0_1.length c0_1)] 24 (0, 0))) ∧ Aside0 (Below w.heap.size w w'))
  case atStart => exact ⟨(0), (0), (by first | rfl | (simp; done) | (simp [*]; done)), (by first | rfl | (simp; done) | (simp [*]; done)), H', ⟨Nat.le_refl _⟩, ⟨tq HO649⟩, ⟨tk BK646⟩, ⟨tb HB⟩⟩
  case round =>
   clear H'
   (try clear p2); (try clear c3); (try clear c3b0); (try clear c3b1); (try clear c4); (try clear c7); (try clear hcz5_0); (try clear hcz5_1); (try clear hcz9_0); (try clear hcz9_1); (try clear hfz5_0); (try clear hfz5_1); (try clear hfz9_0); (try clear hfz9_1)
   obtain ⟨x5_1, x16_1, rfl, rfl, HA, HK1, HO_14, BK646, HB⟩ := hrel
   cases gk with
   | zero => exact absurd HA.out (by simp [big_Small.l0])
   | succ k1 =>
    have H := HA.out
    clear HA
    simp only [big_Small.l0] at H
    by_cases c12 : x16_1 < (t647.length : Int)
    ·rw [if_pos c12] at H
     have c12b0 : decide (x16_1 < (t647.length : Int)) = true := decide_eq_true c12
     clear c12
     by_cases c13 : 0 ≤ x16_1
     ·rw [if_pos c13] at H
      have c13b0 : decide (0 ≤ x16_1) = true := decide_eq_true c13
      clear c13
      by_cases c14 : x16_1 < (t647.length : Int)
      ·rw [if_pos c14] at H
       have c14b0 : decide (x16_1 < (t647.length : Int)) = true := decide_eq_true c14
       clear c14
       obtain ⟨ji15, hji15⟩ : ∃ j_ : Int, (wrap64 (32 * x16_1)) = j_ := ⟨_, rfl⟩
       replace H : (if 0 ≤ (ji15) then (big_Small.l0 k1 (Go.bits .or .u64 x5_1 (shl .u64 (IntKind.u64.wrap (rd t647 x16_1)) (ji15))) t647 (t647.length : Int) (wrap64 (x16_1 + 1)) a0_0 l0_1) else (none)) = some (r1, r2) := by first | (rw [hji15] at H; exact H) | (simp only [hji15] at H ⊢; exact H)
       have hji15w : (IntKind.i64.wrap (32 * x16_1)) = ji15 := (i64_w _).trans hji15
       by_cases c16 : 0 ≤ (ji15)
       ·rw [if_pos c16] at H
        have c16b0 := eq_true c16
        have c16b1 : decide (0 ≤ (ji15)) = true := decide_eq_true c16
        clear c16
        obtain ⟨ji17, hji17⟩ : ∃ j_ : Int, (shl .u64 (IntKind.u64.wrap (rd t647 x16_1)) (ji15)) = j_ := ⟨_, rfl⟩
        replace H : (big_Small.l0 k1 (Go.bits .or .u64 x5_1 (ji17)) t647 (t647.length : Int) (wrap64 (x16_1 + 1)) a0_0 l0_1) = some (r1, r2) := by first | (rw [hji17] at H; exact H) | (simp only [hji17] at H ⊢; exact H)
        have hji17_ : (IntKind.u64.wrap ((IntKind.u64.wrap (rd t647 x16_1)) * 2 ^ min (ji15).toNat 64)) = ji17 := hji17
        have hji17z : (ji15) ≤ 64 → (IntKind.u64.wrap ((IntKind.u64.wrap (rd t647 x16_1)) * 2 ^ (ji15).toNat)) = ji17 := shl_small hji17
        have H' := Aside0.mk H
        clear H
        have p650 : 0 ≤ (x16_1 : Int) := td
        have q650 : x16_1 < (t647.length : Int) := td
        obtain ⟨ad650, e650, hx650_0⟩ := Kd.at_int (Kd.R_reads' HO_14.out).2.2 x16_1 p650 q650
        cases e650
        replace p650 := eq_true p650
        replace q650 := eq_true q650
        go_wp2
        go_roundg k1
        case measure => have := HK1.out; omega
        case rel => exact ⟨(Go.bits .or .u64 x5_1 (ji17)), (wrap64 (x16_1 + 1)), (by first | rfl | (simp; done) | (simp only [← hji17] <;> (first | rfl | simp)) | (simp [*]; done)), (by first | rfl | (simp; done) | (simp [*]; done)), H', ⟨by have := HK1.out; omega⟩, ⟨tq HO_14⟩, ⟨tk BK646⟩, ⟨tb HB⟩⟩
       ·rw [if_neg c16] at H
        exact absurd H (by simp)
      ·rw [if_neg c14] at H
       exact absurd H (by simp)
     ·rw [if_neg c13] at H
      exact absurd H (by simp)
    ·rw [if_neg c12] at H
     have c12b0 : decide (x16_1 < (t647.length : Int)) = false := decide_eq_false c12
     clear c12
     have HC18 := Aside0.mk H
     clear H
     go_upto_region 10 with (fail)
     go_cut [29] from 1 to 0 (fun v29 wc => ∃ (kq : Nat) (x29_17 : Bool), v29 = .bool x29_17 ∧ Aside0 (big_Small.j1 kq x5_1 x29_17 a0_0 l0_1 = some (r1, r2)) ∧ Aside0 (kq ≤ k1) ∧ Aside0 (wc.heap[gb646]? = some (.cells #[.bool a0_0, (.slice A0_1 l0_1.length c0_1)] 24 (0, 0))) ∧ Aside0 (Below w.heap.size w wc))
     case first =>
      have H := HC18.out
      clear HC18
      by_cases c19 : a0_0 = true
      ·subst c19
       have H1 : (big_Small.j1 k1 x5_1 false true l0_1) = some (r1, r2) := by rw [if_pos rfl] at H; exact H
       clear H
       have H := H1
       clear H1
       have H' := Aside0.mk H
       clear H
       have hcz20_0 := bc BK646 0 (.bool true)
       have hcz20_1 := bc BK646 1 (.slice A0_1 l0_1.length c0_1)
       have hfz20_0 := blk_frozen BK646.out 0
       have hfz20_1 := blk_frozen BK646.out 1
       go_wp2
       go_meet
       case rel => exact ⟨_, (false), (by first | rfl | (simp; done) | (simp [*]; done)), H', ⟨by have := HK1.out; first | omega | exact Nat.le_refl _⟩, ⟨tk BK646⟩, ⟨tb HB⟩⟩
      ·replace c19 := Bool.eq_false_iff.mpr c19
       subst c19
       have H1 : (big_Small.j1 k1 x5_1 (decide (x5_1 ≤ 9223372036854775807)) false l0_1) = some (r1, r2) := by rw [if_neg (show ¬ (false = true) by decide)] at H; exact H
       clear H
       have H := H1
       clear H1
       have H' := Aside0.mk H
       clear H
       have hcz21_0 := bc BK646 0 (.bool false)
       have hcz21_1 := bc BK646 1 (.slice A0_1 l0_1.length c0_1)
       have hfz21_0 := blk_frozen BK646.out 0
       have hfz21_1 := blk_frozen BK646.out 1
       go_wp2
       go_meet
       case rel => exact ⟨_, (decide (x5_1 ≤ 9223372036854775807)), (by first | rfl | (simp; done) | (simp [*]; done)), H', ⟨by have := HK1.out; first | omega | exact Nat.le_refl _⟩, ⟨tk BK646⟩, ⟨tb HB⟩⟩
     case rest =>
      clear HC18
      (try clear c1); (try clear p2); (try clear c3); (try clear c3b0); (try clear c3b1); (try clear c4); (try clear p6); (try clear q6); (try clear hx6); (try clear c7); (try clear c12); (try clear c12b0); (try clear c13); (try clear c13b0); (try clear c14); (try clear c14b0); (try clear c16); (try clear c16b0); (try clear c16b1); (try clear c19); (try clear hcz20_0); (try clear hcz20_1); (try clear hcz21_0); (try clear hcz21_1); (try clear hcz5_0); (try clear hcz5_1); (try clear hcz9_0); (try clear hcz9_1); (try clear hfz20_0); (try clear hfz20_1); (try clear hfz21_0); (try clear hfz21_1); (try clear hfz5_0); (try clear hfz5_1); (try clear hfz9_0); (try clear hfz9_1); (try clear hx650_0); (try clear p2); (try clear p650); (try clear q650)
      obtain ⟨kq, x29_17, rfl, HA, HJ17, BK646, HB⟩ := hcut
      cases kq with
      | zero => exact absurd HA.out (by simp [big_Small.j1])
      | succ kj17 =>
       have H := HA.out
       clear HA
       simp only [big_Small.j1] at H
       by_cases c22 : x29_17 = true
       ·subst c22
        have H1 : (some (wrap64 (x5_1), true)) = some (r1, r2) := by rw [if_pos rfl] at H; exact H
        clear H
        have H := H1
        clear H1
        simp only [Option.some.injEq, Prod.mk.injEq] at H
        obtain ⟨rfl, rfl⟩ := H
        go_wp2
        go_ret2
        exact ⟨by first | rfl | (simp [errW_none, errW_some] <;> rfl) | (simp [*, errW_none, errW_some] <;> rfl), tb HB⟩
       ·replace c22 := Bool.eq_false_iff.mpr c22
        subst c22
        have H1 : (if a0_0 = true then (if x5_1 ≤ 9223372036854775808 then (some (wrap64 ((wrap64 (-(wrap64 (IntKind.u64.wrap (x5_1 - 1))))) - 1), true)) else (some (0, false))) else (some (0, false))) = some (r1, r2) := by rw [if_neg (show ¬ (false = true) by decide)] at H; exact H
        clear H
        have H := H1
        clear H1
        by_cases c23 : a0_0 = true
        ·subst c23
         have H1 : (if x5_1 ≤ 9223372036854775808 then (some (wrap64 ((wrap64 (-(wrap64 (IntKind.u64.wrap (x5_1 - 1))))) - 1), true)) else (some (0, false))) = some (r1, r2) := by rw [if_pos rfl] at H; exact H
         clear H
         have H := H1
         clear H1
         by_cases c24 : x5_1 ≤ 9223372036854775808
         ·rw [if_pos c24] at H
          have c24b0 : decide (x5_1 ≤ 9223372036854775808) = true := decide_eq_true c24
          clear c24
          simp only [Option.some.injEq, Prod.mk.injEq] at H
          obtain ⟨rfl, rfl⟩ := H
          have hcz25_0 := bc BK646 0 (.bool true)
          have hcz25_1 := bc BK646 1 (.slice A0_1 l0_1.length c0_1)
          have hfz25_0 := blk_frozen BK646.out 0
          have hfz25_1 := blk_frozen BK646.out 1
          go_wp2
          go_ret2
          exact ⟨by first | rfl | (simp [errW_none, errW_some] <;> rfl) | (simp [*, errW_none, errW_some] <;> rfl), tb HB⟩
         ·rw [if_neg c24] at H
          have c24b0 : decide (x5_1 ≤ 9223372036854775808) = false := decide_eq_false c24
          clear c24
          simp only [Option.some.injEq, Prod.mk.injEq] at H
          obtain ⟨rfl, rfl⟩ := H
          have hcz26_0 := bc BK646 0 (.bool true)
          have hcz26_1 := bc BK646 1 (.slice A0_1 l0_1.length c0_1)
          have hfz26_0 := blk_frozen BK646.out 0
          have hfz26_1 := blk_frozen BK646.out 1
          go_wp2
          go_ret2
          exact ⟨by first | rfl | (simp [errW_none, errW_some] <;> rfl) | (simp [*, errW_none, errW_some] <;> rfl), tb HB⟩
        ·replace c23 := Bool.eq_false_iff.mpr c23
         subst c23
         have H1 : (some (0, false)) = some (r1, r2) := by rw [if_neg (show ¬ (false = true) by decide)] at H; exact H
         clear H
         have H := H1
         clear H1
         simp only [Option.some.injEq, Prod.mk.injEq] at H
         obtain ⟨rfl, rfl⟩ := H
         have hcz27_0 := bc BK646 0 (.bool false)
         have hcz27_1 := bc BK646 1 (.slice A0_1 l0_1.length c0_1)
         have hfz27_0 := blk_frozen BK646.out 0
         have hfz27_1 := blk_frozen BK646.out 1
         go_wp2
         go_ret2
         exact ⟨by first | rfl | (simp [errW_none, errW_some] <;> rfl) | (simp [*, errW_none, errW_some] <;> rfl), tb HB⟩

/-! ### whetstoneref02_Cmp: function 25 -/
def whetstoneref02_Cmp.f (k : Nat) (a0_0 : Bool) (l0_1 : List Int) (a1_0 : Bool) (l1_1 : List Int) : Option (Int) := (whetstoneref02_Norm.f k a0_0 l0_1).bind fun bt653 => ((whetstoneref02_Norm.f k a1_0 l1_1).bind fun bt658 => (if (bt653.1 != bt658.1) = true then (if bt653.1 = true then (some (-1)) else (some 1)) else (if bt653.1 = true then ((whetstoneref01_Cmp.f k bt658.2 bt653.2).bind fun t663 => (some t663)) else ((whetstoneref01_Cmp.f k bt653.2 bt658.2).bind fun t664 => (some t664)))))
theorem whetstoneref02_Cmp.mono : ∀ a0 a1 a2 a3 k, LeO (whetstoneref02_Cmp.f k a0 a1 a2 a3) (whetstoneref02_Cmp.f (k + 1) a0 a1 a2 a3) := by
 intro a0 a1 a2 a3 k
 unfold whetstoneref02_Cmp.f
 repeat' with_reducible first | exact whetstoneref01_Cmp.mono _ _ _ | exact whetstoneref02_Norm.mono _ _ _ | exact LeO.refl _ | exact LeO.none _ | refine LeO.ite ?_ ?_ | refine LeO.bind ?_ (fun _ => ?_)
set_option maxHeartbeats 8000000 in
set_option maxRecDepth 100000 in
theorem whetstoneref02_Cmp.calls (k : Nat) (a0_0 : Bool) (A0_1 : Option Addr) (c0_1 : Nat) (l0_1 : List Int) (a1_0 : Bool) (A1_1 : Option Addr) (c1_1 : Nat) (l1_1 : List Int) (r : Int) (w : World) (hr0_1 : Kd.C (Kd.int .i64) w A0_1 l0_1.length l0_1) (hc0_1 : l0_1.length ≤ c0_1) (hr1_1 : Kd.C (Kd.int .i64) w A1_1 l1_1.length l1_1) (hc1_1 : l1_1.length ≤ c1_1) (h : whetstoneref02_Cmp.f k a0_0 l0_1 a1_0 l1_1 = some r) :
  Calls Try.prog 25 #[.agg #[.bool a0_0, .slice A0_1 l0_1.length c0_1], .agg #[.bool a1_0, .slice A1_1 l1_1.length c1_1]] w fun e w' => e = .returned (.int .i64 r) ∧ Below w.heap.size w w' := by
 have hu32 := Try.underlying32
 have HR0_1 := Aside0.mk hr0_1
 have HC0_1 := Aside0.mk hc0_1
 clear hr0_1 hc0_1
 have HR1_1 := Aside0.mk hr1_1
 have HC1_1 := Aside0.mk hc1_1
 clear hr1_1 hc1_1
 have HB := Aside0.mk (Below.refl w.heap.size w)
 have H : ((whetstoneref02_Norm.f k a0_0 l0_1).bind fun bt653 => ((whetstoneref02_Norm.f k a1_0 l1_1).bind fun bt658 => (if (bt653.1 != bt658.1) = true then (if bt653.1 = true then (some (-1)) else (some 1)) else (if bt653.1 = true then ((whetstoneref01_Cmp.f k bt658.2 bt653.2).bind fun t663 => (some t663)) else ((whetstoneref01_Cmp.f k bt653.2 bt658.2).bind fun t664 => (some t664)))))) = some r := h
 clear h
 replace H := bi H
 obtain ⟨⟨t653, t654⟩, A30, H⟩ := H
 try dsimp only at H
 have A3 := Aside0.mk A30
 clear A30
 replace H := bi H
 obtain ⟨⟨t658, t659⟩, A40, H⟩ := H
 try dsimp only at H
 have A4 := Aside0.mk A40
 clear A40
 by_cases c5 : (t653 != t658) = true
 ·rw [if_pos c5] at H
  have c5b0 : (t653 != t658) = true := c5
  (try (have c5b1 : decide (t653 = t658) = false := by simpa using c5))
  (try (have c5b2 : (t653 == t658) = false := by simpa using c5))
  (try (have c5b3 : ¬ (t653 = t658) := by simpa using c5))
  clear c5
  by_cases c6 : t653 = true
  ·subst c6
   have H1 : (some (-1)) = some r := by rw [if_pos rfl] at H; exact H
   clear H
   have H := H1
   clear H1
   obtain rfl := Option.some.inj H
   go_enter Try.func25, Try.ntmps25
   go_wp2_with (first | ((with_reducible refine gate_dst (N := 2) rfl ?_); refine bx (N := 2) #[.bool a0_0, .slice A0_1 l0_1.length c0_1] 32 ?_; intro gb651 hg w7 hbox hb; have BK651 := Aside0.mk (hbox); have GW651 := bz hg HB; have GE651 := bz hg HB; replace HB := bs HB hb; clear hb hbox hg) | ((with_reducible refine gate_dst (N := 3) rfl ?_); refine bx (N := 3) #[.bool a1_0, .slice A1_1 l1_1.length c1_1] 32 ?_; intro gb652 hg w8 hbox hb; have BK652 := Aside0.mk (hbox); have GW652 := bz hg HB; have GE652 := bz hg HB; replace HB := bs HB hb; have NB651_652 := nl hg BK651; have NB652_651 := ng hg BK651; replace BK651 := kb BK651 hb; clear hb hbox hg; have hnb9 := NB651_652.out; have hnc9 := NB652_651.out; have hcz10_0 := bc BK651 0 (.bool a0_0); have hcz10_1 := bc BK651 1 (.slice A0_1 l0_1.length c0_1); have hfz10_0 := blk_frozen BK651.out 0; have hfz10_1 := blk_frozen BK651.out 1) | ((with_reducible refine gate_callee (f := 54) rfl ?_); refine gL (N := some 8) Try.func54 #[.agg #[.bool a0_0, .slice A0_1 l0_1.length c0_1]] ?_; (with_reducible refine (whetstoneref02_Norm.calls k a0_0 _ _ l0_1 true t654 _ ?side1 ?side2 A3.out).mono ?_); (case side1 => exact tc (Kd.C_below HR0_1.out HB.out)); (case side2 => exact HC0_1.out); rintro e w11 ⟨v655, rfl, ho0, hb⟩; refine ⟨_, rfl, ?_⟩; have HO656 := rl ho0 HB; replace BK651 := kb BK651 hb; replace BK652 := kb BK652 hb; replace HB := bs HB hb; (try clear hb); (try clear hb2); (try clear hk); (try clear hi); (try clear ho0)) | ((with_reducible refine gate_dst (N := 5) rfl ?_); refine bx (N := 5) #[.bool false, .slice none 0 0] 32 ?_; intro gb657 hg w12 hbox hb; replace HO656 := rb HO656 hb; have BK657 := Aside0.mk (hbox); have GW657 := bz hg HB; have GE657 := bz hg HB; replace HB := bs HB hb; have NB651_657 := nl hg BK651; have NB657_651 := ng hg BK651; replace BK651 := kb BK651 hb; have NB652_657 := nl hg BK652; have NB657_652 := ng hg BK652; replace BK652 := kb BK652 hb; clear hb hbox hg; have hnb13 := NB657_651.out; have hnc13 := NB651_657.out; have hnb14 := NB657_652.out; have hnc14 := NB652_657.out; have hcz15_0 := bc BK657 0 (.bool false); have hcz15_1 := bc BK657 1 (.slice none 0 0); have hfz15_0 := blk_frozen BK657.out 0; have hfz15_1 := blk_frozen BK657.out 1; obtain ⟨Ao16, co16, eo16⟩ := Kd.R_slice HO656.out; subst eo16; have hcz17_0 := bc BK652 0 (.bool a1_0); have hcz17_1 := bc BK652 1 (.slice A1_1 l1_1.length c1_1); have hfz17_0 := blk_frozen BK652.out 0; have hfz17_1 := blk_frozen BK652.out 1) | ((with_reducible refine gate_callee (f := 54) rfl ?_); refine gL (N := some 10) Try.func54 #[.agg #[.bool a1_0, .slice A1_1 l1_1.length c1_1]] ?_; (with_reducible refine (whetstoneref02_Norm.calls k a1_0 _ _ l1_1 t658 t659 _ ?side1 ?side2 A4.out).mono ?_); (case side1 => exact Kd.C_below HR1_1.out (tb HB)); (case side2 => exact HC1_1.out); rintro e w18 ⟨v660, rfl, ho0, hb⟩; refine ⟨_, rfl, ?_⟩; have HO661 := Aside0.mk (Kd.R_lower (Kd.R_new' ho0 (Kd.R_lt (by (with_reducible repeat first | apply qa | apply qn | apply qd); exact (Kd.R_mono (Kd.R_far (p := ⟨gb657, 1, none⟩) (Kd.R_far (p := ⟨gb657, 0, none⟩) (Kd.R_types HO656.out BK657.out (by decide)) (fun _ hk => hk.2) (.bool true)) (fun _ hk => hk.2) (.slice Ao16 t654.length co16)) (fun _ h_ => h_.1))))) (below_size (tb HB))); replace BK651 := kb BK651 hb; replace BK652 := kb BK652 hb; replace BK657 := kb (o' := .cells #[.bool true, .slice Ao16 t654.length co16] 32 (0, 0)) BK657 hb; replace HB := bs HB hb; (try clear hb); (try clear hb2); (try clear hk); (try clear hi); (try clear ho0)) | ((with_reducible refine gate_dst (N := 6) rfl ?_); refine bx (N := 6) #[.bool false, .slice none 0 0] 32 ?_; intro gb662 hg w19 hbox hb; replace HO661 := rb HO661 hb; have BK662 := Aside0.mk (hbox); have GW662 := bz hg HB; have GE662 := bz hg HB; replace HB := bs HB hb; have NB651_662 := nl hg BK651; have NB662_651 := ng hg BK651; have NB652_662 := nl hg BK652; have NB662_652 := ng hg BK652; have NB657_662 := nl hg BK657; have NB662_657 := ng hg BK657; replace BK657 := kb BK657 hb; clear hb hbox hg; have hnb20 := NB662_651.out; have hnc20 := NB651_662.out; have hnb21 := NB662_652.out; have hnc21 := NB652_662.out; have hnb22 := NB662_657.out; have hnc22 := NB657_662.out; have hcz23_0 := bc BK662 0 (.bool false); have hcz23_1 := bc BK662 1 (.slice none 0 0); have hfz23_0 := blk_frozen BK662.out 0; have hfz23_1 := blk_frozen BK662.out 1; obtain ⟨Ao24, co24, eo24⟩ := Kd.R_slice HO661.out; subst eo24; have hcz25_0 := bc BK657 0 (.bool true); have hcz25_1 := bc BK657 1 (.slice Ao16 t654.length co16); have hfz25_0 := blk_frozen BK657.out 0; have hfz25_1 := blk_frozen BK657.out 1))
   go_ret
   exact ⟨by first | rfl | (simp [errW_none, errW_some] <;> rfl) | (simp [*, errW_none, errW_some] <;> rfl), tb HB⟩
  ·replace c6 := Bool.eq_false_iff.mpr c6
   subst c6
   have H1 : (some 1) = some r := by rw [if_neg (show ¬ (false = true) by decide)] at H; exact H
   clear H
   have H := H1
   clear H1
   obtain rfl := Option.some.inj H
   go_enter Try.func25, Try.ntmps25
   go_wp2_with (first | ((with_reducible refine gate_dst (N := 2) rfl ?_); refine bx (N := 2) #[.bool a0_0, .slice A0_1 l0_1.length c0_1] 32 ?_; intro gb651 hg w26 hbox hb; have BK651 := Aside0.mk (hbox); have GW651 := bz hg HB; have GE651 := bz hg HB; replace HB := bs HB hb; clear hb hbox hg) | ((with_reducible refine gate_dst (N := 3) rfl ?_); refine bx (N := 3) #[.bool a1_0, .slice A1_1 l1_1.length c1_1] 32 ?_; intro gb652 hg w27 hbox hb; have BK652 := Aside0.mk (hbox); have GW652 := bz hg HB; have GE652 := bz hg HB; replace HB := bs HB hb; have NB651_652 := nl hg BK651; have NB652_651 := ng hg BK651; replace BK651 := kb BK651 hb; clear hb hbox hg; have hnb28 := NB651_652.out; have hnc28 := NB652_651.out; have hcz29_0 := bc BK651 0 (.bool a0_0); have hcz29_1 := bc BK651 1 (.slice A0_1 l0_1.length c0_1); have hfz29_0 := blk_frozen BK651.out 0; have hfz29_1 := blk_frozen BK651.out 1) | ((with_reducible refine gate_callee (f := 54) rfl ?_); refine gL (N := some 8) Try.func54 #[.agg #[.bool a0_0, .slice A0_1 l0_1.length c0_1]] ?_; (with_reducible refine (whetstoneref02_Norm.calls k a0_0 _ _ l0_1 false t654 _ ?side1 ?side2 A3.out).mono ?_); (case side1 => exact tc (Kd.C_below HR0_1.out HB.out)); (case side2 => exact HC0_1.out); rintro e w30 ⟨v655, rfl, ho0, hb⟩; refine ⟨_, rfl, ?_⟩; have HO656 := rl ho0 HB; replace BK651 := kb BK651 hb; replace BK652 := kb BK652 hb; replace HB := bs HB hb; (try clear hb); (try clear hb2); (try clear hk); (try clear hi); (try clear ho0)) | ((with_reducible refine gate_dst (N := 5) rfl ?_); refine bx (N := 5) #[.bool false, .slice none 0 0] 32 ?_; intro gb657 hg w31 hbox hb; replace HO656 := rb HO656 hb; have BK657 := Aside0.mk (hbox); have GW657 := bz hg HB; have GE657 := bz hg HB; replace HB := bs HB hb; have NB651_657 := nl hg BK651; have NB657_651 := ng hg BK651; replace BK651 := kb BK651 hb; have NB652_657 := nl hg BK652; have NB657_652 := ng hg BK652; replace BK652 := kb BK652 hb; clear hb hbox hg; have hnb32 := NB657_651.out; have hnc32 := NB651_657.out; have hnb33 := NB657_652.out; have hnc33 := NB652_657.out; have hcz34_0 := bc BK657 0 (.bool false); have hcz34_1 := bc BK657 1 (.slice none 0 0); have hfz34_0 := blk_frozen BK657.out 0; have hfz34_1 := blk_frozen BK657.out 1; obtain ⟨Ao35, co35, eo35⟩ := Kd.R_slice HO656.out; subst eo35; have hcz36_0 := bc BK652 0 (.bool a1_0); have hcz36_1 := bc BK652 1 (.slice A1_1 l1_1.length c1_1); have hfz36_0 := blk_frozen BK652.out 0; have hfz36_1 := blk_frozen BK652.out 1) | ((with_reducible refine gate_callee (f := 54) rfl ?_); refine gL (N := some 10) Try.func54 #[.agg #[.bool a1_0, .slice A1_1 l1_1.length c1_1]] ?_; (with_reducible refine (whetstoneref02_Norm.calls k a1_0 _ _ l1_1 t658 t659 _ ?side1 ?side2 A4.out).mono ?_); (case side1 => exact Kd.C_below HR1_1.out (tb HB)); (case side2 => exact HC1_1.out); rintro e w37 ⟨v660, rfl, ho0, hb⟩; refine ⟨_, rfl, ?_⟩; have HO661 := Aside0.mk (Kd.R_lower (Kd.R_new' ho0 (Kd.R_lt (by (with_reducible repeat first | apply qa | apply qn | apply qd); exact (Kd.R_mono (Kd.R_far (p := ⟨gb657, 1, none⟩) (Kd.R_far (p := ⟨gb657, 0, none⟩) (Kd.R_types HO656.out BK657.out (by decide)) (fun _ hk => hk.2) (.bool false)) (fun _ hk => hk.2) (.slice Ao35 t654.length co35)) (fun _ h_ => h_.1))))) (below_size (tb HB))); replace BK651 := kb BK651 hb; replace BK652 := kb BK652 hb; replace BK657 := kb (o' := .cells #[.bool false, .slice Ao35 t654.length co35] 32 (0, 0)) BK657 hb; replace HB := bs HB hb; (try clear hb); (try clear hb2); (try clear hk); (try clear hi); (try clear ho0)) | ((with_reducible refine gate_dst (N := 6) rfl ?_); refine bx (N := 6) #[.bool false, .slice none 0 0] 32 ?_; intro gb662 hg w38 hbox hb; replace HO661 := rb HO661 hb; have BK662 := Aside0.mk (hbox); have GW662 := bz hg HB; have GE662 := bz hg HB; replace HB := bs HB hb; have NB651_662 := nl hg BK651; have NB662_651 := ng hg BK651; have NB652_662 := nl hg BK652; have NB662_652 := ng hg BK652; have NB657_662 := nl hg BK657; have NB662_657 := ng hg BK657; replace BK657 := kb BK657 hb; clear hb hbox hg; have hnb39 := NB662_651.out; have hnc39 := NB651_662.out; have hnb40 := NB662_652.out; have hnc40 := NB652_662.out; have hnb41 := NB662_657.out; have hnc41 := NB657_662.out; have hcz42_0 := bc BK662 0 (.bool false); have hcz42_1 := bc BK662 1 (.slice none 0 0); have hfz42_0 := blk_frozen BK662.out 0; have hfz42_1 := blk_frozen BK662.out 1; obtain ⟨Ao43, co43, eo43⟩ := Kd.R_slice HO661.out; subst eo43; have hcz44_0 := bc BK657 0 (.bool false); have hcz44_1 := bc BK657 1 (.slice Ao35 t654.length co35); have hfz44_0 := blk_frozen BK657.out 0; have hfz44_1 := blk_frozen BK657.out 1))
   go_ret
   exact ⟨by first | rfl | (simp [errW_none, errW_some] <;> rfl) | (simp [*, errW_none, errW_some] <;> rfl), tb HB⟩
 ·rw [if_neg c5] at H
  have c5b0 : (t653 != t658) = false := by simpa using c5
  (try (have c5b1 : decide (t653 = t658) = true := by simpa using c5))
  (try (have c5b2 : (t653 == t658) = true := by simpa using c5))
  clear c5
  by_cases c45 : t653 = true
  ·subst c45
   have H1 : ((whetstoneref01_Cmp.f k t659 t654).bind fun t663 => (some t663)) = some r := by rw [if_pos rfl] at H; exact H
   clear H
   have H := H1
   clear H1
   replace H := bi H
   obtain ⟨t663, A460, H⟩ := H
   have A46 := Aside0.mk A460
   clear A460
   obtain rfl := Option.some.inj H
   go_enter Try.func25, Try.ntmps25
   go_wp2_with (first | ((with_reducible refine gate_dst (N := 2) rfl ?_); refine bx (N := 2) #[.bool a0_0, .slice A0_1 l0_1.length c0_1] 32 ?_; intro gb651 hg w47 hbox hb; have BK651 := Aside0.mk (hbox); have GW651 := bz hg HB; have GE651 := bz hg HB; replace HB := bs HB hb; clear hb hbox hg) | ((with_reducible refine gate_dst (N := 3) rfl ?_); refine bx (N := 3) #[.bool a1_0, .slice A1_1 l1_1.length c1_1] 32 ?_; intro gb652 hg w48 hbox hb; have BK652 := Aside0.mk (hbox); have GW652 := bz hg HB; have GE652 := bz hg HB; replace HB := bs HB hb; have NB651_652 := nl hg BK651; have NB652_651 := ng hg BK651; replace BK651 := kb BK651 hb; clear hb hbox hg; have hnb49 := NB651_652.out; have hnc49 := NB652_651.out; have hcz50_0 := bc BK651 0 (.bool a0_0); have hcz50_1 := bc BK651 1 (.slice A0_1 l0_1.length c0_1); have hfz50_0 := blk_frozen BK651.out 0; have hfz50_1 := blk_frozen BK651.out 1) | ((with_reducible refine gate_callee (f := 54) rfl ?_); refine gL (N := some 8) Try.func54 #[.agg #[.bool a0_0, .slice A0_1 l0_1.length c0_1]] ?_; (with_reducible refine (whetstoneref02_Norm.calls k a0_0 _ _ l0_1 true t654 _ ?side1 ?side2 A3.out).mono ?_); (case side1 => exact tc (Kd.C_below HR0_1.out HB.out)); (case side2 => exact HC0_1.out); rintro e w51 ⟨v655, rfl, ho0, hb⟩; refine ⟨_, rfl, ?_⟩; have HO656 := rl ho0 HB; replace BK651 := kb BK651 hb; replace BK652 := kb BK652 hb; replace HB := bs HB hb; (try clear hb); (try clear hb2); (try clear hk); (try clear hi); (try clear ho0)) | ((with_reducible refine gate_dst (N := 5) rfl ?_); refine bx (N := 5) #[.bool false, .slice none 0 0] 32 ?_; intro gb657 hg w52 hbox hb; replace HO656 := rb HO656 hb; have BK657 := Aside0.mk (hbox); have GW657 := bz hg HB; have GE657 := bz hg HB; replace HB := bs HB hb; have NB651_657 := nl hg BK651; have NB657_651 := ng hg BK651; replace BK651 := kb BK651 hb; have NB652_657 := nl hg BK652; have NB657_652 := ng hg BK652; replace BK652 := kb BK652 hb; clear hb hbox hg; have hnb53 := NB657_651.out; have hnc53 := NB651_657.out; have hnb54 := NB657_652.out; have hnc54 := NB652_657.out; have hcz55_0 := bc BK657 0 (.bool false); have hcz55_1 := bc BK657 1 (.slice none 0 0); have hfz55_0 := blk_frozen BK657.out 0; have hfz55_1 := blk_frozen BK657.out 1; obtain ⟨Ao56, co56, eo56⟩ := Kd.R_slice HO656.out; subst eo56; have hcz57_0 := bc BK652 0 (.bool a1_0); have hcz57_1 := bc BK652 1 (.slice A1_1 l1_1.length c1_1); have hfz57_0 := blk_frozen BK652.out 0; have hfz57_1 := blk_frozen BK652.out 1) | ((with_reducible refine gate_callee (f := 54) rfl ?_); refine gL (N := some 10) Try.func54 #[.agg #[.bool a1_0, .slice A1_1 l1_1.length c1_1]] ?_; (with_reducible refine (whetstoneref02_Norm.calls k a1_0 _ _ l1_1 t658 t659 _ ?side1 ?side2 A4.out).mono ?_); (case side1 => exact Kd.C_below HR1_1.out (tb HB)); (case side2 => exact HC1_1.out); rintro e w58 ⟨v660, rfl, ho0, hb⟩; refine ⟨_, rfl, ?_⟩; have HO661 := Aside0.mk (Kd.R_lower (Kd.R_new' ho0 (Kd.R_lt (by (with_reducible repeat first | apply qa | apply qn | apply qd); exact (Kd.R_mono (Kd.R_far (p := ⟨gb657, 1, none⟩) (Kd.R_far (p := ⟨gb657, 0, none⟩) (Kd.R_types HO656.out BK657.out (by decide)) (fun _ hk => hk.2) (.bool true)) (fun _ hk => hk.2) (.slice Ao56 t654.length co56)) (fun _ h_ => h_.1))))) (below_size (tb HB))); replace HO656 := Aside0.mk (Kd.R_elder' (by (with_reducible repeat first | apply qa | apply qn | apply qd); exact (Kd.R_mono (Kd.R_far (p := ⟨gb657, 1, none⟩) (Kd.R_far (p := ⟨gb657, 0, none⟩) (Kd.R_types HO656.out BK657.out (by decide)) (fun _ hk => hk.2) (.bool true)) (fun _ hk => hk.2) (.slice Ao56 t654.length co56)) (fun _ h_ => h_.1))) (Kd.R_base ho0) hb); replace BK651 := kb BK651 hb; replace BK652 := kb BK652 hb; replace BK657 := kb (o' := .cells #[.bool true, .slice Ao56 t654.length co56] 32 (0, 0)) BK657 hb; replace HB := bs HB hb; (try clear hb); (try clear hb2); (try clear hk); (try clear hi); (try clear ho0)) | ((with_reducible refine gate_dst (N := 6) rfl ?_); refine bx (N := 6) #[.bool false, .slice none 0 0] 32 ?_; intro gb662 hg w59 hbox hb; replace HO656 := rb HO656 hb; replace HO661 := rb HO661 hb; have BK662 := Aside0.mk (hbox); have GW662 := bz hg HB; have GE662 := bz hg HB; replace HB := bs HB hb; have NB651_662 := nl hg BK651; have NB662_651 := ng hg BK651; have NB652_662 := nl hg BK652; have NB662_652 := ng hg BK652; have NB657_662 := nl hg BK657; have NB662_657 := ng hg BK657; replace BK657 := kb BK657 hb; clear hb hbox hg; have hnb60 := NB662_651.out; have hnc60 := NB651_662.out; have hnb61 := NB662_652.out; have hnc61 := NB652_662.out; have hnb62 := NB662_657.out; have hnc62 := NB657_662.out; have hcz63_0 := bc BK662 0 (.bool false); have hcz63_1 := bc BK662 1 (.slice none 0 0); have hfz63_0 := blk_frozen BK662.out 0; have hfz63_1 := blk_frozen BK662.out 1; obtain ⟨Ao64, co64, eo64⟩ := Kd.R_slice HO661.out; subst eo64; have hcz65_0 := bc BK657 0 (.bool true); have hcz65_1 := bc BK657 1 (.slice Ao56 t654.length co56); have hfz65_0 := blk_frozen BK657.out 0; have hfz65_1 := blk_frozen BK657.out 1) | ((with_reducible refine gate_callee (f := 63) rfl ?_); refine gL (N := some 24) Try.func63 #[.slice Ao64 t659.length co64, .slice Ao56 t654.length co56] ?_; (with_reducible refine (whetstoneref01_Cmp.calls k _ _ t659 _ _ t654 t663 _ ?side1 ?side2 ?side3 ?side4 A46.out).mono ?_); (case side1 => refine (Kd.R_reads' (e := 3) (base := w.heap.size) (ok := fun k_ => (True ∧ some k_ ≠ (.slice Ao56 t654.length co56 : Value).ownBlock)) (n := t659.length) (c := co64) ?_).2.2; exact (by (with_reducible repeat first | apply qa | apply qn | apply qd); exact (Kd.R_mono (Kd.R_far (p := ⟨gb662, 1, none⟩) (Kd.R_far (p := ⟨gb662, 0, none⟩) (Kd.R_types HO661.out BK662.out (by decide)) (fun _ hk => hk.2) (.bool t658)) (fun _ hk => hk.2) (.slice Ao64 t659.length co64)) (fun _ h_ => h_.1)))); (case side2 => exact (Kd.R_reads' HO661.out).2.1); (case side3 => refine (Kd.R_reads' (e := 3) (base := w.heap.size) (ok := fun k_ => (True ∧ some k_ ≠ (.slice Ao64 t659.length co64 : Value).ownBlock)) (n := t654.length) (c := co56) ?_).2.2; exact (by (with_reducible repeat first | apply qa | apply qn | apply qd); exact (Kd.R_mono (Kd.R_far (p := ⟨gb662, 1, none⟩) (Kd.R_far (p := ⟨gb662, 0, none⟩) (Kd.R_types HO656.out BK662.out (by decide)) (fun _ hk => hk.2) (.bool t658)) (fun _ hk => hk.2) (.slice Ao64 t659.length co64)) (fun _ h_ => h_.1)))); (case side4 => exact (Kd.R_reads' HO656.out).2.1); rintro e w66 ⟨rfl, hb⟩; refine ⟨_, rfl, ?_⟩; replace HB := bs HB hb; (try clear hb); (try clear hb2); (try clear hk); (try clear hi)))
   go_ret
   exact ⟨by first | rfl | (simp [errW_none, errW_some] <;> rfl) | (simp [*, errW_none, errW_some] <;> rfl), tb HB⟩
  ·replace c45 := Bool.eq_false_iff.mpr c45
   subst c45
   have H1 : ((whetstoneref01_Cmp.f k t654 t659).bind fun t664 => (some t664)) = some r := by rw [if_neg (show ¬ (false = true) by decide)] at H; exact H
   clear H
   have H := H1
   clear H1
   replace H := bi H
   obtain ⟨t664, A670, H⟩ := H
   have A67 := Aside0.mk A670
   clear A670
   obtain rfl := Option.some.inj H
   go_enter Try.func25, Try.ntmps25
   go_wp2_with (first | ((with_reducible refine gate_dst (N := 2) rfl ?_); refine bx (N := 2) #[.bool a0_0, .slice A0_1 l0_1.length c0_1] 32 ?_; intro gb651 hg w68 hbox hb; have BK651 := Aside0.mk (hbox); have GW651 := bz hg HB; have GE651 := bz hg HB; replace HB := bs HB hb; clear hb hbox hg) | ((with_reducible refine gate_dst (N := 3) rfl ?_); refine bx (N := 3) #[.bool a1_0, .slice A1_1 l1_1.length c1_1] 32 ?_; intro gb652 hg w69 hbox hb; have BK652 := Aside0.mk (hbox); have GW652 := bz hg HB; have GE652 := bz hg HB; replace HB := bs HB hb; have NB651_652 := nl hg BK651; have NB652_651 := ng hg BK651; replace BK651 := kb BK651 hb; clear hb hbox hg; have hnb70 := NB651_652.out; have hnc70 := NB652_651.out; have hcz71_0 := bc BK651 0 (.bool a0_0); have hcz71_1 := bc BK651 1 (.slice A0_1 l0_1.length c0_1); have hfz71_0 := blk_frozen BK651.out 0; have hfz71_1 := blk_frozen BK651.out 1) | ((with_reducible refine gate_callee (f := 54) rfl ?_); refine gL (N := some 8) Try.func54 #[.agg #[.bool a0_0, .slice A0_1 l0_1.length c0_1]] ?_; (with_reducible refine (whetstoneref02_Norm.calls k a0_0 _ _ l0_1 false t654 _ ?side1 ?side2 A3.out).mono ?_); (case side1 => exact tc (Kd.C_below HR0_1.out HB.out)); (case side2 => exact HC0_1.out); rintro e w72 ⟨v655, rfl, ho0, hb⟩; refine ⟨_, rfl, ?_⟩; have HO656 := rl ho0 HB; replace BK651 := kb BK651 hb; replace BK652 := kb BK652 hb; replace HB := bs HB hb; (try clear hb); (try clear hb2); (try clear hk); (try clear hi); (try clear ho0)) | ((with_reducible refine gate_dst (N := 5) rfl ?_); refine bx (N := 5) #[.bool false, .slice none 0 0] 32 ?_; intro gb657 hg w73 hbox hb; replace HO656 := rb HO656 hb; have BK657 := Aside0.mk (hbox); have GW657 := bz hg HB; have GE657 := bz hg HB; replace HB := bs HB hb; have NB651_657 := nl hg BK651; have NB657_651 := ng hg BK651; replace BK651 := kb BK651 hb; have NB652_657 := nl hg BK652; have NB657_652 := ng hg BK652; replace BK652 := kb BK652 hb; clear hb hbox hg; have hnb74 := NB657_651.out; have hnc74 := NB651_657.out; have hnb75 := NB657_652.out; have hnc75 := NB652_657.out; have hcz76_0 := bc BK657 0 (.bool false); have hcz76_1 := bc BK657 1 (.slice none 0 0); have hfz76_0 := blk_frozen BK657.out 0; have hfz76_1 := blk_frozen BK657.out 1; obtain ⟨Ao77, co77, eo77⟩ := Kd.R_slice HO656.out; subst eo77; have hcz78_0 := bc BK652 0 (.bool a1_0); have hcz78_1 := bc BK652 1 (.slice A1_1 l1_1.length c1_1); have hfz78_0 := blk_frozen BK652.out 0; have hfz78_1 := blk_frozen BK652.out 1) | ((with_reducible refine gate_callee (f := 54) rfl ?_); refine gL (N := some 10) Try.func54 #[.agg #[.bool a1_0, .slice A1_1 l1_1.length c1_1]] ?_; (with_reducible refine (whetstoneref02_Norm.calls k a1_0 _ _ l1_1 t658 t659 _ ?side1 ?side2 A4.out).mono ?_); (case side1 => exact Kd.C_below HR1_1.out (tb HB)); (case side2 => exact HC1_1.out); rintro e w79 ⟨v660, rfl, ho0, hb⟩; refine ⟨_, rfl, ?_⟩; have HO661 := Aside0.mk (Kd.R_lower (Kd.R_new' ho0 (Kd.R_lt (by (with_reducible repeat first | apply qa | apply qn | apply qd); exact (Kd.R_mono (Kd.R_far (p := ⟨gb657, 1, none⟩) (Kd.R_far (p := ⟨gb657, 0, none⟩) (Kd.R_types HO656.out BK657.out (by decide)) (fun _ hk => hk.2) (.bool false)) (fun _ hk => hk.2) (.slice Ao77 t654.length co77)) (fun _ h_ => h_.1))))) (below_size (tb HB))); replace HO656 := Aside0.mk (Kd.R_elder' (by (with_reducible repeat first | apply qa | apply qn | apply qd); exact (Kd.R_mono (Kd.R_far (p := ⟨gb657, 1, none⟩) (Kd.R_far (p := ⟨gb657, 0, none⟩) (Kd.R_types HO656.out BK657.out (by decide)) (fun _ hk => hk.2) (.bool false)) (fun _ hk => hk.2) (.slice Ao77 t654.length co77)) (fun _ h_ => h_.1))) (Kd.R_base ho0) hb); replace BK651 := kb BK651 hb; replace BK652 := kb BK652 hb; replace BK657 := kb (o' := .cells #[.bool false, .slice Ao77 t654.length co77] 32 (0, 0)) BK657 hb; replace HB := bs HB hb; (try clear hb); (try clear hb2); (try clear hk); (try clear hi); (try clear ho0)) | ((with_reducible refine gate_dst (N := 6) rfl ?_); refine bx (N := 6) #[.bool false, .slice none 0 0] 32 ?_; intro gb662 hg w80 hbox hb; replace HO656 := rb HO656 hb; replace HO661 := rb HO661 hb; have BK662 := Aside0.mk (hbox); have GW662 := bz hg HB; have GE662 := bz hg HB; replace HB := bs HB hb; have NB651_662 := nl hg BK651; have NB662_651 := ng hg BK651; have NB652_662 := nl hg BK652; have NB662_652 := ng hg BK652; have NB657_662 := nl hg BK657; have NB662_657 := ng hg BK657; replace BK657 := kb BK657 hb; clear hb hbox hg; have hnb81 := NB662_651.out; have hnc81 := NB651_662.out; have hnb82 := NB662_652.out; have hnc82 := NB652_662.out; have hnb83 := NB662_657.out; have hnc83 := NB657_662.out; have hcz84_0 := bc BK662 0 (.bool false); have hcz84_1 := bc BK662 1 (.slice none 0 0); have hfz84_0 := blk_frozen BK662.out 0; have hfz84_1 := blk_frozen BK662.out 1; obtain ⟨Ao85, co85, eo85⟩ := Kd.R_slice HO661.out; subst eo85; have hcz86_0 := bc BK657 0 (.bool false); have hcz86_1 := bc BK657 1 (.slice Ao77 t654.length co77); have hfz86_0 := blk_frozen BK657.out 0; have hfz86_1 := blk_frozen BK657.out 1) | ((with_reducible refine gate_callee (f := 63) rfl ?_); refine gL (N := some 29) Try.func63 #[.slice Ao77 t654.length co77, .slice Ao85 t659.length co85] ?_; (with_reducible refine (whetstoneref01_Cmp.calls k _ _ t654 _ _ t659 t664 _ ?side1 ?side2 ?side3 ?side4 A67.out).mono ?_); (case side1 => refine (Kd.R_reads' (e := 3) (base := w.heap.size) (ok := fun k_ => (True ∧ some k_ ≠ (.slice Ao85 t659.length co85 : Value).ownBlock)) (n := t654.length) (c := co77) ?_).2.2; exact (by (with_reducible repeat first | apply qa | apply qn | apply qd); exact (Kd.R_mono (Kd.R_far (p := ⟨gb662, 1, none⟩) (Kd.R_far (p := ⟨gb662, 0, none⟩) (Kd.R_types HO656.out BK662.out (by decide)) (fun _ hk => hk.2) (.bool t658)) (fun _ hk => hk.2) (.slice Ao85 t659.length co85)) (fun _ h_ => h_.1)))); (case side2 => exact (Kd.R_reads' HO656.out).2.1); (case side3 => refine (Kd.R_reads' (e := 3) (base := w.heap.size) (ok := fun k_ => (True ∧ some k_ ≠ (.slice Ao77 t654.length co77 : Value).ownBlock)) (n := t659.length) (c := co85) ?_).2.2; exact (by (with_reducible repeat first | apply qa | apply qn | apply qd); exact (Kd.R_mono (Kd.R_far (p := ⟨gb662, 1, none⟩) (Kd.R_far (p := ⟨gb662, 0, none⟩) (Kd.R_types HO661.out BK662.out (by decide)) (fun _ hk => hk.2) (.bool t658)) (fun _ hk => hk.2) (.slice Ao85 t659.length co85)) (fun _ h_ => h_.1)))); (case side4 => exact (Kd.R_reads' HO661.out).2.1); rintro e w87 ⟨rfl, hb⟩; refine ⟨_, rfl, ?_⟩; replace HB := bs HB hb; (try clear hb); (try clear hb2); (try clear hk); (try clear hi)))
   go_ret
   exact ⟨by first | rfl | (simp [errW_none, errW_some] <;> rfl) | (simp [*, errW_none, errW_some] <;> rfl), tb HB⟩

end Go.Proofs.Ytjpnaapimnoamaa.QBigSmalls
