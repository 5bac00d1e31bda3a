-- written by wip/wprint, a program of this session
import Derived.Test.YtkbefeadmchmbaaQBigQuotientsx0
namespace Go.Proofs.Ytkbefeadmchmbaa.QBigQuotients
open Go.RowKit Go.Proofs.YtkbefeadmchmbaaW.PrintWords Go.Proofs.YtkbefeadmchmbaaW.PrintLast Go.Proofs.YtkbefeadmchmbaaW.PrintMore
open Go.Proofs.YtkbefeadmchmbaaW.PrintWords.Kd renaming R_alloc → qa, R_drewN → qn, R_drew → qd
open Go.Proofs.YtkbefeadmchmbaaW.PrintWords renaming below_alloc → ba, pw_below_drewN → bn, below_drew1 → bd
attribute [local go_sem] max2_int min2_int max_two min_two max_three min_three max_four min_four   -- for this text's walks alone
set_option linter.unusedVariables false
set_option linter.unusedSimpArgs false

/-! ### nat_guess: function 46 -/
mutual
def nat_guess.l0 : Nat → List Int → Int → List Int → Int → Int → Int → Option (Int)
 | 0, _, _, _, _, _, _ => none
 | k + 1, x0, x1, x2, x7, x9, x10 => if x9 ≥ 4294967296 then (nat_guess.j1 k x0 x1 x2 x7 x9 x10 true) else (if 0 ≤ (wrap64 (x7 - 2)) then (if (wrap64 (x7 - 2)) < (x2.length : Int) then (if 0 ≤ (wrap64 ((wrap64 (x1 + x7)) - 2)) then (if (wrap64 ((wrap64 (x1 + x7)) - 2)) < (x0.length : Int) then (nat_guess.j1 k x0 x1 x2 x7 x9 x10 (decide ((IntKind.u64.wrap (x9 * (IntKind.u64.wrap (rd x2 (wrap64 (x7 - 2)))))) > (Go.bits .or .u64 (IntKind.u64.wrap (x10 * 4294967296)) (IntKind.u64.wrap (rd x0 (wrap64 ((wrap64 (x1 + x7)) - 2)))))))) else (none)) else (none)) else (none)) else (none))
def nat_guess.j1 : Nat → List Int → Int → List Int → Int → Int → Int → Bool → Option (Int)
 | 0, _, _, _, _, _, _, _ => none
 | k + 1, x0, x1, x2, x7, x9, x10, x69 => if x69 = true then (if 0 ≤ (wrap64 (x7 - 1)) then (if (wrap64 (x7 - 1)) < (x2.length : Int) then (if (IntKind.u64.wrap (x10 + (IntKind.u64.wrap (rd x2 (wrap64 (x7 - 1)))))) ≥ 4294967296 then (some (IntKind.u64.wrap (x9 - 1))) else (nat_guess.l0 k x0 x1 x2 x7 (IntKind.u64.wrap (x9 - 1)) (IntKind.u64.wrap (x10 + (IntKind.u64.wrap (rd x2 (wrap64 (x7 - 1)))))))) else (none)) else (none)) else (some x9)
end
def nat_guess.f (k : Nat) (l0 : List Int) (a1 : Int) (l2 : List Int) : Option (Int) := if 0 ≤ (wrap64 (a1 + (l2.length : Int))) then (if (wrap64 (a1 + (l2.length : Int))) < (l0.length : Int) then (if 0 ≤ (wrap64 ((wrap64 (a1 + (l2.length : Int))) - 1)) then (if (wrap64 ((wrap64 (a1 + (l2.length : Int))) - 1)) < (l0.length : Int) then (if 0 ≤ (wrap64 ((l2.length : Int) - 1)) then (if (wrap64 ((l2.length : Int) - 1)) < (l2.length : Int) then (if (IntKind.u64.wrap (rd l2 (wrap64 ((l2.length : Int) - 1)))) = 0 then (none) else (nat_guess.l0 k l0 a1 l2 (l2.length : Int) (IntKind.u64.wrap (Int.tdiv (Go.bits .or .u64 (IntKind.u64.wrap ((IntKind.u64.wrap (rd l0 (wrap64 (a1 + (l2.length : Int))))) * 4294967296)) (IntKind.u64.wrap (rd l0 (wrap64 ((wrap64 (a1 + (l2.length : Int))) - 1))))) (IntKind.u64.wrap (rd l2 (wrap64 ((l2.length : Int) - 1)))))) (Int.tmod (Go.bits .or .u64 (IntKind.u64.wrap ((IntKind.u64.wrap (rd l0 (wrap64 (a1 + (l2.length : Int))))) * 4294967296)) (IntKind.u64.wrap (rd l0 (wrap64 ((wrap64 (a1 + (l2.length : Int))) - 1))))) (IntKind.u64.wrap (rd l2 (wrap64 ((l2.length : Int) - 1))))))) else (none)) else (none)) else (none)) else (none)) else (none)) else (none)
theorem nat_guess.mono_l : ∀ k, (∀ y0 y1 y2 y3 y4 y5, LeO (nat_guess.l0 k y0 y1 y2 y3 y4 y5) (nat_guess.l0 (k + 1) y0 y1 y2 y3 y4 y5)) ∧ (∀ y0 y1 y2 y3 y4 y5 y6, LeO (nat_guess.j1 k y0 y1 y2 y3 y4 y5 y6) (nat_guess.j1 (k + 1) y0 y1 y2 y3 y4 y5 y6))
 | 0 => ⟨fun _ _ _ _ _ _ r h => by simp [nat_guess.l0] at h, fun _ _ _ _ _ _ _ r h => by simp [nat_guess.j1] at h⟩
 | k + 1 => by
  obtain ⟨ih0, ih1⟩ := nat_guess.mono_l k; refine ⟨?_, ?_⟩
  ·intro y0 y1 y2 y3 y4 y5
   unfold nat_guess.l0
   repeat' with_reducible first | exact ih0 _ _ _ _ _ _ | exact ih1 _ _ _ _ _ _ _ | exact LeO.refl _ | exact LeO.none _ | refine LeO.ite ?_ ?_ | refine LeO.bind ?_ (fun _ => ?_)
  ·intro y0 y1 y2 y3 y4 y5 y6
   unfold nat_guess.j1
   repeat' with_reducible first | exact ih0 _ _ _ _ _ _ | exact ih1 _ _ _ _ _ _ _ | exact LeO.refl _ | exact LeO.none _ | refine LeO.ite ?_ ?_ | refine LeO.bind ?_ (fun _ => ?_)
theorem nat_guess.mono : ∀ a0 a1 a2 k, LeO (nat_guess.f k a0 a1 a2) (nat_guess.f (k + 1) a0 a1 a2) := by
 intro a0 a1 a2 k; obtain ⟨ih0, ih1⟩ := nat_guess.mono_l k
 unfold nat_guess.f
 repeat' with_reducible first | exact ih0 _ _ _ _ _ _ | exact ih1 _ _ _ _ _ _ _ | exact LeO.refl _ | exact LeO.none _ | refine LeO.ite ?_ ?_ | refine LeO.bind ?_ (fun _ => ?_)
set_option maxHeartbeats 8000000 in
set_option maxRecDepth 100000 in
theorem nat_guess.calls (k : Nat) (A0 : Option Addr) (c0 : Nat) (l0 : List Int) (a1 : Int) (A2 : Option Addr) (c2 : Nat) (l2 : List Int) (r : Int) (w : World) (hr0 : Kd.C (Kd.int .u32) w A0 l0.length l0) (hc0 : l0.length ≤ c0) (hr2 : Kd.C (Kd.int .u32) w A2 l2.length l2) (hc2 : l2.length ≤ c2) (h : nat_guess.f k l0 a1 l2 = some r) :
  Calls Try.prog 46 #[.slice A0 l0.length c0, .int .i64 a1, .slice A2 l2.length c2] w fun e w' => e = .returned (.int .u64 r) ∧ Drawn0 w w' := by
 have HR0 := Aside0.mk hr0; have HC0 := Aside0.mk hc0; clear hr0 hc0; have HR2 := Aside0.mk hr2; have HC2 := Aside0.mk hc2; clear hr2 hc2; have H : (if 0 ≤ (wrap64 (a1 + (l2.length : Int))) then (if (wrap64 (a1 + (l2.length : Int))) < (l0.length : Int) then (if 0 ≤ (wrap64 ((wrap64 (a1 + (l2.length : Int))) - 1)) then (if (wrap64 ((wrap64 (a1 + (l2.length : Int))) - 1)) < (l0.length : Int) then (if 0 ≤ (wrap64 ((l2.length : Int) - 1)) then (if (wrap64 ((l2.length : Int) - 1)) < (l2.length : Int) then (if (IntKind.u64.wrap (rd l2 (wrap64 ((l2.length : Int) - 1)))) = 0 then (none) else (nat_guess.l0 k l0 a1 l2 (l2.length : Int) (IntKind.u64.wrap (Int.tdiv (Go.bits .or .u64 (IntKind.u64.wrap ((IntKind.u64.wrap (rd l0 (wrap64 (a1 + (l2.length : Int))))) * 4294967296)) (IntKind.u64.wrap (rd l0 (wrap64 ((wrap64 (a1 + (l2.length : Int))) - 1))))) (IntKind.u64.wrap (rd l2 (wrap64 ((l2.length : Int) - 1)))))) (Int.tmod (Go.bits .or .u64 (IntKind.u64.wrap ((IntKind.u64.wrap (rd l0 (wrap64 (a1 + (l2.length : Int))))) * 4294967296)) (IntKind.u64.wrap (rd l0 (wrap64 ((wrap64 (a1 + (l2.length : Int))) - 1))))) (IntKind.u64.wrap (rd l2 (wrap64 ((l2.length : Int) - 1))))))) else (none)) else (none)) else (none)) else (none)) else (none)) else (none)) = some r := h; clear h; obtain ⟨ji4, hji4⟩ : ∃ j_ : Int, (wrap64 (a1 + (l2.length : Int))) = j_ := ⟨_, rfl⟩
 replace H : (if 0 ≤ (ji4) then (if (ji4) < (l0.length : Int) then (if 0 ≤ (wrap64 ((ji4) - 1)) then (if (wrap64 ((ji4) - 1)) < (l0.length : Int) then (if 0 ≤ (wrap64 ((l2.length : Int) - 1)) then (if (wrap64 ((l2.length : Int) - 1)) < (l2.length : Int) then (if (IntKind.u64.wrap (rd l2 (wrap64 ((l2.length : Int) - 1)))) = 0 then (none) else (nat_guess.l0 k l0 a1 l2 (l2.length : Int) (IntKind.u64.wrap (Int.tdiv (Go.bits .or .u64 (IntKind.u64.wrap ((IntKind.u64.wrap (rd l0 (ji4))) * 4294967296)) (IntKind.u64.wrap (rd l0 (wrap64 ((ji4) - 1))))) (IntKind.u64.wrap (rd l2 (wrap64 ((l2.length : Int) - 1)))))) (Int.tmod (Go.bits .or .u64 (IntKind.u64.wrap ((IntKind.u64.wrap (rd l0 (ji4))) * 4294967296)) (IntKind.u64.wrap (rd l0 (wrap64 ((ji4) - 1))))) (IntKind.u64.wrap (rd l2 (wrap64 ((l2.length : Int) - 1))))))) else (none)) else (none)) else (none)) else (none)) else (none)) else (none)) = some r := by first | (rw [hji4] at H; exact H) | (simp only [hji4] at H ⊢; exact H)
 have hji4w : (IntKind.i64.wrap (a1 + (l2.length : Int))) = ji4 := (i64_w _).trans hji4
 by_cases c5 : 0 ≤ (ji4)
 ·rw [if_pos c5] at H
  have c5b0 : decide (0 ≤ (ji4)) = true := decide_eq_true c5; clear c5
  by_cases c6 : (ji4) < (l0.length : Int)
  ·rw [if_pos c6] at H
   have c6b0 : decide ((ji4) < (l0.length : Int)) = true := decide_eq_true c6; clear c6; obtain ⟨ji7, hji7⟩ : ∃ j_ : Int, (wrap64 ((ji4) - 1)) = j_ := ⟨_, rfl⟩
   replace H : (if 0 ≤ (ji7) then (if (ji7) < (l0.length : Int) then (if 0 ≤ (wrap64 ((l2.length : Int) - 1)) then (if (wrap64 ((l2.length : Int) - 1)) < (l2.length : Int) then (if (IntKind.u64.wrap (rd l2 (wrap64 ((l2.length : Int) - 1)))) = 0 then (none) else (nat_guess.l0 k l0 a1 l2 (l2.length : Int) (IntKind.u64.wrap (Int.tdiv (Go.bits .or .u64 (IntKind.u64.wrap ((IntKind.u64.wrap (rd l0 (ji4))) * 4294967296)) (IntKind.u64.wrap (rd l0 (ji7)))) (IntKind.u64.wrap (rd l2 (wrap64 ((l2.length : Int) - 1)))))) (Int.tmod (Go.bits .or .u64 (IntKind.u64.wrap ((IntKind.u64.wrap (rd l0 (ji4))) * 4294967296)) (IntKind.u64.wrap (rd l0 (ji7)))) (IntKind.u64.wrap (rd l2 (wrap64 ((l2.length : Int) - 1))))))) else (none)) else (none)) else (none)) else (none)) = some r := by first | (rw [hji7] at H; exact H) | (simp only [hji7] at H ⊢; exact H)
   have hji7w : (IntKind.i64.wrap ((ji4) - 1)) = ji7 := (i64_w _).trans hji7
   by_cases c8 : 0 ≤ (ji7)
   ·rw [if_pos c8] at H
    have c8b0 : decide (0 ≤ (ji7)) = true := decide_eq_true c8; clear c8
    by_cases c9 : (ji7) < (l0.length : Int)
    ·rw [if_pos c9] at H
     have c9b0 : decide ((ji7) < (l0.length : Int)) = true := decide_eq_true c9; clear c9; obtain ⟨ji10, hji10⟩ : ∃ j_ : Int, (wrap64 ((l2.length : Int) - 1)) = j_ := ⟨_, rfl⟩
     replace H : (if 0 ≤ (ji10) then (if (ji10) < (l2.length : Int) then (if (IntKind.u64.wrap (rd l2 (ji10))) = 0 then (none) else (nat_guess.l0 k l0 a1 l2 (l2.length : Int) (IntKind.u64.wrap (Int.tdiv (Go.bits .or .u64 (IntKind.u64.wrap ((IntKind.u64.wrap (rd l0 (ji4))) * 4294967296)) (IntKind.u64.wrap (rd l0 (ji7)))) (IntKind.u64.wrap (rd l2 (ji10))))) (Int.tmod (Go.bits .or .u64 (IntKind.u64.wrap ((IntKind.u64.wrap (rd l0 (ji4))) * 4294967296)) (IntKind.u64.wrap (rd l0 (ji7)))) (IntKind.u64.wrap (rd l2 (ji10)))))) else (none)) else (none)) = some r := by first | (rw [hji10] at H; exact H) | (simp only [hji10] at H ⊢; exact H)
     have hji10w : (IntKind.i64.wrap ((l2.length : Int) - 1)) = ji10 := (i64_w _).trans hji10
     by_cases c11 : 0 ≤ (ji10)
     ·rw [if_pos c11] at H
      have c11b0 : decide (0 ≤ (ji10)) = true := decide_eq_true c11; clear c11
      by_cases c12 : (ji10) < (l2.length : Int)
      ·rw [if_pos c12] at H
       have c12b0 : decide ((ji10) < (l2.length : Int)) = true := decide_eq_true c12; clear c12
       by_cases c13 : (IntKind.u64.wrap (rd l2 (ji10))) = 0
       ·rw [if_pos c13] at H
        exact absurd H (by simp)
       ·rw [if_neg c13] at H
        have c13b0 : ((IntKind.u64.wrap (rd l2 (ji10))) == 0) = false := beq_eq_false_iff_ne.mpr c13; have c13b1 : ((IntKind.u64.wrap (rd l2 (ji10))) != 0) = true := bne_iff_ne.mpr c13; have H' := Aside0.mk H; clear H; have p155 : 0 ≤ ((ji4) : Int) := td; have q155 : (ji4) < (l0.length : Int) := td; obtain ⟨ad155, e155, hx155_0⟩ := Kd.at_int HR0.out (ji4) p155 q155
        cases e155
        replace p155 := eq_true p155; replace q155 := eq_true q155; have p156 : 0 ≤ ((ji7) : Int) := td; have q156 : (ji7) < (l0.length : Int) := td; obtain ⟨ad156, e156, hx156_0⟩ := Kd.at_int HR0.out (ji7) p156 q156; obtain rfl : ad155 = ad156 := (by injection e156); replace p156 := eq_true p156; replace q156 := eq_true q156; have p157 : 0 ≤ ((ji10) : Int) := td; have q157 : (ji10) < (l2.length : Int) := td; obtain ⟨ad157, e157, hx157_0⟩ := Kd.at_int HR2.out (ji10) p157 q157
        cases e157
        replace p157 := eq_true p157; replace q157 := eq_true q157; have p158 : 0 ≤ ((ji10) : Int) := td; have q158 : (ji10) < (l2.length : Int) := td; obtain ⟨ad158, e158, hx158_0⟩ := Kd.at_int HR2.out (ji10) p158 q158; obtain rfl : ad157 = ad158 := (by injection e158); replace p158 := eq_true p158; replace q158 := eq_true q158
        go_enter Try.func46, Try.ntmps46
        go_wp2
        repeat (go_quiet (fail); try go_wp2)
        go_loopg [9, 10] k (fun kq v9 v10 w' => ∃ (x9_1 : Int) (x10_1 : Int), v9 = .int .u64 x9_1 ∧ v10 = .int .u64 x10_1 ∧ Aside0 (nat_guess.l0 kq l0 a1 l2 (l2.length : Int) x9_1 x10_1 = some r) ∧ Aside0 (kq ≤ k) ∧ Drawn0 w w')
        case atStart => exact ⟨(IntKind.u64.wrap (Int.tdiv (Go.bits .or .u64 (IntKind.u64.wrap ((IntKind.u64.wrap (rd l0 (ji4))) * 4294967296)) (IntKind.u64.wrap (rd l0 (ji7)))) (IntKind.u64.wrap (rd l2 (ji10))))), (Int.tmod (Go.bits .or .u64 (IntKind.u64.wrap ((IntKind.u64.wrap (rd l0 (ji4))) * 4294967296)) (IntKind.u64.wrap (rd l0 (ji7)))) (IntKind.u64.wrap (rd l2 (ji10)))), (by first | rfl | (simp; done) | (simp only [← hji4, ← hji7, ← hji10] <;> (first | rfl | simp)) | (simp [*]; done)), (by first | rfl | (simp; done) | (simp only [← hji4, ← hji7, ← hji10] <;> (first | rfl | simp)) | (simp [*]; done)), H', ⟨Nat.le_refl _⟩, by repeat (first | exact Drawn0.refl _ | apply Drawn0.step)⟩
        case round =>
         clear H'; (try clear c1); (try clear p1); (try clear q1); (try clear hx1); (try clear c2); (try clear p2); (try clear c4); (try clear c5); (try clear c5b0); (try clear c6); (try clear c6b0); (try clear p6); (try clear c8); (try clear c8b0); (try clear c9); (try clear c9b0); (try clear c11); (try clear c11b0); (try clear c12); (try clear c12b0); (try clear c13); (try clear c13b0); (try clear c13b1); (try clear hx155_0); (try clear hx156_0); (try clear hx157_0); (try clear hx158_0); (try clear p155); (try clear p156); (try clear p157); (try clear p158); (try clear q155); (try clear q156); (try clear q157); (try clear q158); obtain ⟨x9_1, x10_1, rfl, rfl, HA, HK1, ⟨m1, rfl⟩⟩ := hrel
         cases gk with
         | zero => exact absurd HA.out (by simp [nat_guess.l0])
         | succ k1 =>
          have H := HA.out; clear HA; simp only [nat_guess.l0] at H; have HC14 := Aside0.mk H; clear H
          go_upto_region 4 with (fail)
          repeat (go_quiet (fail); go_upto_region 4 with (fail))
          go_cut [69] from 1 to 0 (fun v69 wc => ∃ (kq : Nat) (x69_13 : Bool), v69 = .bool x69_13 ∧ Aside0 (nat_guess.j1 kq l0 a1 l2 (l2.length : Int) x9_1 x10_1 x69_13 = some r) ∧ Aside0 (kq ≤ k1) ∧ Drawn0 w wc)
          case first =>
           have H := HC14.out; clear HC14
           by_cases c15 : x9_1 ≥ 4294967296
           ·rw [if_pos c15] at H
            have c15b0 : decide (4294967296 ≤ x9_1) = true := decide_eq_true c15; clear c15; (first | rw [c15b0] | rw [c15b1] | (simp only [i64_w, i32_w]; rw [c15b0]) | skip); have H' := Aside0.mk H; clear H
            go_wp2
            repeat (go_quiet (fail); try go_wp2)
            go_meet
            case rel => exact ⟨_, (true), (by first | rfl | (simp; done) | (simp [*]; done)), H', ⟨by have := HK1.out; first | omega | exact Nat.le_refl _⟩, by repeat (first | exact Drawn0.refl _ | apply Drawn0.step)⟩
           ·rw [if_neg c15] at H
            have c15b0 : decide (4294967296 ≤ x9_1) = false := decide_eq_false c15; clear c15; (first | rw [c15b0] | rw [c15b1] | (simp only [i64_w, i32_w]; rw [c15b0]) | skip); obtain ⟨ji16, hji16⟩ : ∃ j_ : Int, (wrap64 ((l2.length : Int) - 2)) = j_ := ⟨_, rfl⟩
            replace H : (if 0 ≤ (ji16) then (if (ji16) < (l2.length : Int) then (if 0 ≤ (wrap64 ((wrap64 (a1 + (l2.length : Int))) - 2)) then (if (wrap64 ((wrap64 (a1 + (l2.length : Int))) - 2)) < (l0.length : Int) then (nat_guess.j1 k1 l0 a1 l2 (l2.length : Int) x9_1 x10_1 (decide ((IntKind.u64.wrap (x9_1 * (IntKind.u64.wrap (rd l2 (ji16))))) > (Go.bits .or .u64 (IntKind.u64.wrap (x10_1 * 4294967296)) (IntKind.u64.wrap (rd l0 (wrap64 ((wrap64 (a1 + (l2.length : Int))) - 2)))))))) else (none)) else (none)) else (none)) else (none)) = some r := by first | (rw [hji16] at H; exact H) | (simp only [hji16] at H ⊢; exact H)
            have hji16w : (IntKind.i64.wrap ((l2.length : Int) - 2)) = ji16 := (i64_w _).trans hji16
            by_cases c17 : 0 ≤ (ji16)
            ·rw [if_pos c17] at H
             have c17b0 : decide (0 ≤ (ji16)) = true := decide_eq_true c17; clear c17
             by_cases c18 : (ji16) < (l2.length : Int)
             ·rw [if_pos c18] at H
              have c18b0 : decide ((ji16) < (l2.length : Int)) = true := decide_eq_true c18; clear c18; obtain ⟨ji19, hji19⟩ : ∃ j_ : Int, (wrap64 ((wrap64 (a1 + (l2.length : Int))) - 2)) = j_ := ⟨_, rfl⟩
              replace H : (if 0 ≤ (ji19) then (if (ji19) < (l0.length : Int) then (nat_guess.j1 k1 l0 a1 l2 (l2.length : Int) x9_1 x10_1 (decide ((IntKind.u64.wrap (x9_1 * (IntKind.u64.wrap (rd l2 (ji16))))) > (Go.bits .or .u64 (IntKind.u64.wrap (x10_1 * 4294967296)) (IntKind.u64.wrap (rd l0 (ji19))))))) else (none)) else (none)) = some r := by first | (rw [hji19] at H; exact H) | (simp only [hji19] at H ⊢; exact H)
              try (have hji19vji4 := hji19; rw [hji4] at hji19vji4)
              have hji19w : (IntKind.i64.wrap ((wrap64 (a1 + (l2.length : Int))) - 2)) = ji19 := (i64_w _).trans hji19
              by_cases c20 : 0 ≤ (ji19)
              ·rw [if_pos c20] at H
               have c20b0 : decide (0 ≤ (ji19)) = true := decide_eq_true c20; clear c20
               by_cases c21 : (ji19) < (l0.length : Int)
               ·rw [if_pos c21] at H
                have c21b0 : decide ((ji19) < (l0.length : Int)) = true := decide_eq_true c21; clear c21; have H' := Aside0.mk H; clear H; have p159 : 0 ≤ ((ji16) : Int) := td; have q159 : (ji16) < (l2.length : Int) := td; obtain ⟨ad159, e159, hx159_0⟩ := Kd.at_int HR2.out (ji16) p159 q159; obtain rfl : ad157 = ad159 := (by injection e159); replace p159 := eq_true p159; replace q159 := eq_true q159; have p160 : 0 ≤ ((ji19) : Int) := td; have q160 : (ji19) < (l0.length : Int) := td; obtain ⟨ad160, e160, hx160_0⟩ := Kd.at_int HR0.out (ji19) p160 q160; obtain rfl : ad155 = ad160 := (by injection e160); replace p160 := eq_true p160; replace q160 := eq_true q160
                go_wp2
                repeat (go_quiet (fail); try go_wp2)
                go_meet
                case rel => exact ⟨_, (decide ((IntKind.u64.wrap (x9_1 * (IntKind.u64.wrap (rd l2 (ji16))))) > (Go.bits .or .u64 (IntKind.u64.wrap (x10_1 * 4294967296)) (IntKind.u64.wrap (rd l0 (ji19)))))), (by first | rfl | (simp; done) | (simp only [← hji16, ← hji19] <;> (first | rfl | simp)) | (simp [*]; done)), H', ⟨by have := HK1.out; first | omega | exact Nat.le_refl _⟩, by repeat (first | exact Drawn0.refl _ | apply Drawn0.step)⟩
               ·rw [if_neg c21] at H
                exact absurd H (by simp)
              ·rw [if_neg c20] at H
               exact absurd H (by simp)
             ·rw [if_neg c18] at H
              exact absurd H (by simp)
            ·rw [if_neg c17] at H
             exact absurd H (by simp)
          case rest =>
           clear HC14; (try clear c1); (try clear p1); (try clear q1); (try clear hx1); (try clear c2); (try clear p2); (try clear c4); (try clear c5); (try clear c5b0); (try clear c6); (try clear c6b0); (try clear p6); (try clear c8); (try clear c8b0); (try clear c9); (try clear c9b0); (try clear c11); (try clear c11b0); (try clear c12); (try clear c12b0); (try clear c13); (try clear c13b0); (try clear c13b1); (try clear c15); (try clear c15b0); (try clear p15); (try clear q15); (try clear hx15); (try clear p16); (try clear q16); (try clear hx16); (try clear c17); (try clear c17b0); (try clear c18); (try clear c18b0); (try clear c20); (try clear c20b0); (try clear c21); (try clear c21b0); (try clear hx155_0); (try clear hx156_0); (try clear hx157_0); (try clear hx158_0); (try clear hx159_0); (try clear hx160_0); (try clear p1); (try clear p155); (try clear p156); (try clear p157); (try clear p158); (try clear p159); (try clear p160); (try clear p2); (try clear p6); (try clear q1); (try clear q155); (try clear q156); (try clear q157); (try clear q158); (try clear q159); (try clear q160); obtain ⟨kq, x69_13, rfl, HA, HJ13, ⟨mc13, rfl⟩⟩ := hcut
           cases kq with
           | zero => exact absurd HA.out (by simp [nat_guess.j1])
           | succ kj13 =>
            have H := HA.out; clear HA; simp only [nat_guess.j1] at H
            by_cases c22 : x69_13 = true
            ·subst c22
             have H1 : (if 0 ≤ (wrap64 ((l2.length : Int) - 1)) then (if (wrap64 ((l2.length : Int) - 1)) < (l2.length : Int) then (if (IntKind.u64.wrap (x10_1 + (IntKind.u64.wrap (rd l2 (wrap64 ((l2.length : Int) - 1)))))) ≥ 4294967296 then (some (IntKind.u64.wrap (x9_1 - 1))) else (nat_guess.l0 kj13 l0 a1 l2 (l2.length : Int) (IntKind.u64.wrap (x9_1 - 1)) (IntKind.u64.wrap (x10_1 + (IntKind.u64.wrap (rd l2 (wrap64 ((l2.length : Int) - 1)))))))) else (none)) else (none)) = some r := by rw [if_pos rfl] at H; exact H
             clear H; have H := H1; clear H1; obtain ⟨ji23, hji23⟩ : ∃ j_ : Int, (wrap64 ((l2.length : Int) - 1)) = j_ := ⟨_, rfl⟩
             replace H : (if 0 ≤ (ji23) then (if (ji23) < (l2.length : Int) then (if (IntKind.u64.wrap (x10_1 + (IntKind.u64.wrap (rd l2 (ji23))))) ≥ 4294967296 then (some (IntKind.u64.wrap (x9_1 - 1))) else (nat_guess.l0 kj13 l0 a1 l2 (l2.length : Int) (IntKind.u64.wrap (x9_1 - 1)) (IntKind.u64.wrap (x10_1 + (IntKind.u64.wrap (rd l2 (ji23))))))) else (none)) else (none)) = some r := by first | (rw [hji23] at H; exact H) | (simp only [hji23] at H ⊢; exact H)
             obtain rfl : ji10 = ji23 := hji10.symm.trans hji23; have hji23w : (IntKind.i64.wrap ((l2.length : Int) - 1)) = ji10 := (i64_w _).trans hji23
             by_cases c24 : 0 ≤ (ji10)
             ·rw [if_pos c24] at H
              have c24b0 : decide (0 ≤ (ji10)) = true := decide_eq_true c24; clear c24
              by_cases c25 : (ji10) < (l2.length : Int)
              ·rw [if_pos c25] at H
               have c25b0 : decide ((ji10) < (l2.length : Int)) = true := decide_eq_true c25; clear c25
               by_cases c26 : (IntKind.u64.wrap (x10_1 + (IntKind.u64.wrap (rd l2 (ji10))))) ≥ 4294967296
               ·rw [if_pos c26] at H
                have c26b0 : decide (4294967296 ≤ (IntKind.u64.wrap (x10_1 + (IntKind.u64.wrap (rd l2 (ji10)))))) = true := decide_eq_true c26; clear c26; obtain rfl := Option.some.inj H; have p161 : 0 ≤ ((ji10) : Int) := td; have q161 : (ji10) < (l2.length : Int) := td; obtain ⟨ad161, e161, hx161_0⟩ := Kd.at_int HR2.out (ji10) p161 q161; obtain rfl : ad157 = ad161 := (by injection e161); replace p161 := eq_true p161; replace q161 := eq_true q161
                go_wp2
                repeat (go_quiet (fail); try go_wp2)
                go_ret
                exact ⟨by first | rfl | (simp; done) | (simp only [← hji4, ← hji7, ← hji10, ← hji23] <;> (first | rfl | simp)) | (simp [*]; done), by repeat (first | exact Drawn0.refl _ | apply Drawn0.step)⟩
               ·rw [if_neg c26] at H
                have c26b0 : decide (4294967296 ≤ (IntKind.u64.wrap (x10_1 + (IntKind.u64.wrap (rd l2 (ji10)))))) = false := decide_eq_false c26; clear c26; have H' := Aside0.mk H; clear H; have p161 : 0 ≤ ((ji10) : Int) := td; have q161 : (ji10) < (l2.length : Int) := td; obtain ⟨ad161, e161, hx161_0⟩ := Kd.at_int HR2.out (ji10) p161 q161; obtain rfl : ad157 = ad161 := (by injection e161); replace p161 := eq_true p161; replace q161 := eq_true q161
                go_wp2
                repeat (go_quiet (fail); try go_wp2)
                go_roundg kj13
                case measure => have := HK1.out; have := HJ13.out; omega
                case rel => exact ⟨(IntKind.u64.wrap (x9_1 - 1)), (IntKind.u64.wrap (x10_1 + (IntKind.u64.wrap (rd l2 (ji10))))), (by first | rfl | (simp; done) | (simp [*]; done)), (by first | rfl | (simp; done) | (simp only [← hji23] <;> (first | rfl | simp)) | (simp [*]; done)), H', ⟨by have := HK1.out; have := HJ13.out; omega⟩, by repeat (first | exact Drawn0.refl _ | apply Drawn0.step)⟩
              ·rw [if_neg c25] at H
               exact absurd H (by simp)
             ·rw [if_neg c24] at H
              exact absurd H (by simp)
            ·replace c22 := Bool.eq_false_iff.mpr c22
             subst c22
             have H1 : (some x9_1) = some r := by rw [if_neg (show ¬ (false = true) by decide)] at H; exact H
             clear H; have H := H1; clear H1; obtain rfl := Option.some.inj H
             go_wp2
             repeat (go_quiet (fail); try go_wp2)
             go_ret
             exact ⟨by first | rfl | (simp; done) | (simp only [← hji4, ← hji7, ← hji10] <;> (first | rfl | simp)) | (simp [*]; done), by repeat (first | exact Drawn0.refl _ | apply Drawn0.step)⟩
      ·rw [if_neg c12] at H
       exact absurd H (by simp)
     ·rw [if_neg c11] at H
      exact absurd H (by simp)
    ·rw [if_neg c9] at H
     exact absurd H (by simp)
   ·rw [if_neg c8] at H
    exact absurd H (by simp)
  ·rw [if_neg c6] at H
   exact absurd H (by simp)
 ·rw [if_neg c5] at H
  exact absurd H (by simp)

/-! ### nat_lower: function 47 -/
def nat_lower.l0 : Nat → List Int → Int → Int → List Int → Int → Int → List Int → Int → Int → Option (Bool × List Int)
 | 0, _, _, _, _, _, _, _, _, _ => none
 | k + 1, x0, x1, x2, x3, x9, x10, x16, x17, x18 => if x18 < x17 then (if 0 ≤ x18 then (if x18 < (x16.length : Int) then (if 0 ≤ (wrap64 (x18 + x1)) then (if (wrap64 (x18 + x1)) < (x0.length : Int) then (nat_lower.l0 k (x0.set ((wrap64 (x18 + x1)) : Int).toNat ((IntKind.u64.wrap ((IntKind.u64.wrap ((IntKind.u64.wrap (rd x0 (wrap64 (x18 + x1)))) - (Go.bits .and .u64 (IntKind.u64.wrap ((IntKind.u64.wrap (x2 * (IntKind.u64.wrap (rd x16 x18)))) + x10)) 4294967295))) - x9)) % 4294967296)) x1 x2 x3 ((IntKind.u64.wrap ((IntKind.u64.wrap ((IntKind.u64.wrap (rd x0 (wrap64 (x18 + x1)))) - (Go.bits .and .u64 (IntKind.u64.wrap ((IntKind.u64.wrap (x2 * (IntKind.u64.wrap (rd x16 x18)))) + x10)) 4294967295))) - x9)) / 9223372036854775808) ((IntKind.u64.wrap ((IntKind.u64.wrap (x2 * (IntKind.u64.wrap (rd x16 x18)))) + x10)) / 4294967296) x16 x17 (wrap64 (x18 + 1))) else (none)) else (none)) else (none)) else (none)) else (if 0 ≤ (wrap64 (x1 + (x3.length : Int))) then (if (wrap64 (x1 + (x3.length : Int))) < (x0.length : Int) then (some ((((IntKind.u64.wrap ((IntKind.u64.wrap ((IntKind.u64.wrap (rd x0 (wrap64 (x1 + (x3.length : Int))))) - x10)) - x9)) / 9223372036854775808) == 1), (x0.set ((wrap64 (x1 + (x3.length : Int))) : Int).toNat ((IntKind.u64.wrap ((IntKind.u64.wrap ((IntKind.u64.wrap (rd x0 (wrap64 (x1 + (x3.length : Int))))) - x10)) - x9)) % 4294967296)))) else (none)) else (none))
def nat_lower.f (k : Nat) (l0 : List Int) (a1 : Int) (a2 : Int) (l3 : List Int) : Option (Bool × List Int) := nat_lower.l0 k l0 a1 a2 l3 0 0 l3 (l3.length : Int) 0
theorem nat_lower.mono_l : ∀ k, (∀ y0 y1 y2 y3 y4 y5 y6 y7 y8, LeO (nat_lower.l0 k y0 y1 y2 y3 y4 y5 y6 y7 y8) (nat_lower.l0 (k + 1) y0 y1 y2 y3 y4 y5 y6 y7 y8))
 | 0 => fun _ _ _ _ _ _ _ _ _ r h => by simp [nat_lower.l0] at h
 | k + 1 => by
  have ih0 := nat_lower.mono_l k
  ·intro y0 y1 y2 y3 y4 y5 y6 y7 y8
   unfold nat_lower.l0
   repeat' with_reducible first | exact ih0 _ _ _ _ _ _ _ _ _ | exact LeO.refl _ | exact LeO.none _ | refine LeO.ite ?_ ?_ | refine LeO.bind ?_ (fun _ => ?_)
theorem nat_lower.mono : ∀ a0 a1 a2 a3 k, LeO (nat_lower.f k a0 a1 a2 a3) (nat_lower.f (k + 1) a0 a1 a2 a3) := by
 intro a0 a1 a2 a3 k; have ih0 := nat_lower.mono_l k
 unfold nat_lower.f
 repeat' with_reducible first | exact ih0 _ _ _ _ _ _ _ _ _ | exact LeO.refl _ | exact LeO.none _ | refine LeO.ite ?_ ?_ | refine LeO.bind ?_ (fun _ => ?_)
set_option maxHeartbeats 8000000 in
set_option maxRecDepth 100000 in
theorem nat_lower.calls (k : Nat) (P0_ : Nat → Prop) (u9000_ : Value) (l0 : List Int) (a1 : Int) (a2 : Int) (A3 : Option Addr) (c3 : Nat) (l3 : List Int) (r1 : Bool) (r2 : List Int) (w0 w : World) (hB : Below w0.heap.size w0 w) (ho0 : Kd.R (Kd.int .u32) 70 w w0.heap.size P0_ u9000_ l0) (hr3 : ∀ W_, Kept w W_ (fun k_ => P0_ k_) → Kd.C (Kd.int .u32) W_ A3 l3.length l3) (hc3 : l3.length ≤ c3) (h : nat_lower.f k l0 a1 a2 l3 = some (r1, r2)) :
  Calls Try.prog 47 #[u9000_, .int .i64 a1, .int .u64 a2, .slice A3 l3.length c3] w fun e w' => e = .returned (.bool r1) ∧ Kd.R (Kd.int .u32) 70 w' w0.heap.size (fun k_ => (P0_ k_ ∨ w.heap.size ≤ k_)) u9000_ r2 ∧ Below w0.heap.size w0 w' ∧ Kept w w' (fun k_ => P0_ k_) := by
 have HO0 := Aside0.mk (show Kd.R (Kd.int .u32) 70 w w0.heap.size (fun k_ => (P0_ k_ ∨ w.heap.size ≤ k_)) u9000_ l0 from Kd.R_mono ho0 (fun k_ hk => (.inl hk))); have HR3 := Aside0.mk hr3; have HC3 := Aside0.mk hc3; clear hr3 hc3; have HK := Aside0.mk (Kept.refl w (fun k_ => P0_ k_)); have HW0 := Aside0.mk hB.size; have HB := Aside0.mk hB; clear hB; have H : (nat_lower.l0 k l0 a1 a2 l3 0 0 l3 (l3.length : Int) 0) = some (r1, r2) := h; clear h; have H' := Aside0.mk H; clear H
 go_enter Try.func47, Try.ntmps47
 go_wp2
 go_loopg [9, 10, 18] k (fun kq v9 v10 v18 w' => ∃ (x0_1 : List Int) (x9_1 : Int) (x10_1 : Int) (x18_1 : Int), v9 = .int .u64 x9_1 ∧ v10 = .int .u64 x10_1 ∧ v18 = .int .i64 x18_1 ∧ Aside0 (nat_lower.l0 kq x0_1 a1 a2 l3 x9_1 x10_1 l3 (l3.length : Int) x18_1 = some (r1, r2)) ∧ Aside0 (kq ≤ k) ∧ Aside0 (Kd.R (Kd.int .u32) 70 w' w0.heap.size (fun k_ => (P0_ k_ ∨ w.heap.size ≤ k_)) u9000_ x0_1) ∧ Aside0 (Kept w w' (fun k_ => P0_ k_)) ∧ Aside0 (Below w0.heap.size w0 w'))
 case atStart => exact ⟨(l0), (0), (0), (0), (by first | rfl | (simp; done) | (simp [*]; done)), (by first | rfl | (simp; done) | (simp [*]; done)), (by first | rfl | (simp; done) | (simp [*]; done)), H', ⟨Nat.le_refl _⟩, ⟨tq HO0⟩, ⟨by repeat (first | (with_reducible first | exact HK.out | apply Kept.alloc | apply Kept.drewN | apply Kept.drew) | exact HK.out)⟩, ⟨tb HB⟩⟩
 case round =>
  clear H'; (try clear p2); (try clear c3); (try clear c4); obtain ⟨x0_1, x9_1, x10_1, x18_1, rfl, rfl, rfl, HA, HK1, HO_0, HK, HB⟩ := hrel
  cases gk with
  | zero => exact absurd HA.out (by simp [nat_lower.l0])
  | succ k1 =>
   have H := HA.out; clear HA; simp only [nat_lower.l0] at H
   by_cases c5 : x18_1 < (l3.length : Int)
   ·rw [if_pos c5] at H
    have c5b0 : decide (x18_1 < (l3.length : Int)) = true := decide_eq_true c5; clear c5
    by_cases c6 : 0 ≤ x18_1
    ·rw [if_pos c6] at H
     have c6b0 : decide (0 ≤ x18_1) = true := decide_eq_true c6; clear c6
     by_cases c7 : x18_1 < (l3.length : Int)
     ·rw [if_pos c7] at H
      have c7b0 : decide (x18_1 < (l3.length : Int)) = true := decide_eq_true c7; clear c7; obtain ⟨ji8, hji8⟩ : ∃ j_ : Int, (wrap64 (x18_1 + a1)) = j_ := ⟨_, rfl⟩
      replace H : (if 0 ≤ (ji8) then (if (ji8) < (x0_1.length : Int) then (nat_lower.l0 k1 (x0_1.set ((ji8) : Int).toNat ((IntKind.u64.wrap ((IntKind.u64.wrap ((IntKind.u64.wrap (rd x0_1 (ji8))) - (Go.bits .and .u64 (IntKind.u64.wrap ((IntKind.u64.wrap (a2 * (IntKind.u64.wrap (rd l3 x18_1)))) + x10_1)) 4294967295))) - x9_1)) % 4294967296)) a1 a2 l3 ((IntKind.u64.wrap ((IntKind.u64.wrap ((IntKind.u64.wrap (rd x0_1 (ji8))) - (Go.bits .and .u64 (IntKind.u64.wrap ((IntKind.u64.wrap (a2 * (IntKind.u64.wrap (rd l3 x18_1)))) + x10_1)) 4294967295))) - x9_1)) / 9223372036854775808) ((IntKind.u64.wrap ((IntKind.u64.wrap (a2 * (IntKind.u64.wrap (rd l3 x18_1)))) + x10_1)) / 4294967296) l3 (l3.length : Int) (wrap64 (x18_1 + 1))) else (none)) else (none)) = some (r1, r2) := by first | (rw [hji8] at H; exact H) | (simp only [hji8] at H ⊢; exact H)
      have hji8w : (IntKind.i64.wrap (x18_1 + a1)) = ji8 := (i64_w _).trans hji8
      by_cases c9 : 0 ≤ (ji8)
      ·rw [if_pos c9] at H
       have c9b0 : decide (0 ≤ (ji8)) = true := decide_eq_true c9; clear c9
       by_cases c10 : (ji8) < (x0_1.length : Int)
       ·rw [if_pos c10] at H
        have c10b0 : decide ((ji8) < (x0_1.length : Int)) = true := decide_eq_true c10; clear c10; obtain ⟨y164, hy164⟩ : ∃ y_ : List Int, y_ = (x0_1.set ((ji8) : Int).toNat ((IntKind.u64.wrap ((IntKind.u64.wrap ((IntKind.u64.wrap (rd x0_1 (ji8))) - (Go.bits .and .u64 (IntKind.u64.wrap ((IntKind.u64.wrap (a2 * (IntKind.u64.wrap (rd l3 x18_1)))) + x10_1)) 4294967295))) - x9_1)) % 4294967296)) := ⟨_, rfl⟩; replace H : (nat_lower.l0 k1 y164 a1 a2 l3 ((IntKind.u64.wrap ((IntKind.u64.wrap ((IntKind.u64.wrap (rd x0_1 (ji8))) - (Go.bits .and .u64 (IntKind.u64.wrap ((IntKind.u64.wrap (a2 * (IntKind.u64.wrap (rd l3 x18_1)))) + x10_1)) 4294967295))) - x9_1)) / 9223372036854775808) ((IntKind.u64.wrap ((IntKind.u64.wrap (a2 * (IntKind.u64.wrap (rd l3 x18_1)))) + x10_1)) / 4294967296) l3 (l3.length : Int) (wrap64 (x18_1 + 1))) = some (r1, r2) := ti hy164 H; have Ny164 := Aside0.mk hy164; clear hy164; have H' := Aside0.mk H; clear H; have p162 : 0 ≤ (x18_1 : Int) := td; have q162 : x18_1 < (l3.length : Int) := td; obtain ⟨ad162, e162, hx162_0⟩ := Kd.at_int (Kd.C_kept_now HR3.out HK.out) x18_1 p162 q162
        cases e162
        replace p162 := eq_true p162; replace q162 := eq_true q162; obtain ⟨Ao12, co12, eo12⟩ := Kd.R_slice HO_0.out; subst eo12; have p163 : 0 ≤ ((ji8) : Int) := td; have q163 : (ji8) < (x0_1.length : Int) := td; obtain ⟨ad163, e163, hx163_0⟩ := Kd.at_int (Kd.R_reads' HO_0.out).2.2 (ji8) p163 q163
        cases e163
        replace p163 := eq_true p163; replace q163 := eq_true q163; have p11 : 0 ≤ ((ji8) : Int) := td; have q11 : ((ji8) : Int) < ((x0_1.length : Int) : Int) := td; obtain ⟨go11, co11, eo11, gb11, gl11, cl11, HG11⟩ := Kd.R_form HO_0.out (by omega); (first | cases eo11 | (injection eo11 with ea_ en_ ec_; (first | subst ea_ | (injection ea_ with ea_; subst ea_)); subst ec_; clear en_)); have GB11 := Aside0.mk gb11; have GG11 := Aside0.mk HG11; clear gb11 gl11 HG11; have HMgo11 := Aside0.mk (show (P0_ go11 ∨ w.heap.size ≤ go11) from (HO_0.out.1 _ rfl)); (first | simp only [add_plain] at hx163_0 | skip); obtain ⟨hx11_0, hf11_0⟩ := Kd.R_celln 0 HO_0.out ((ji8) : Int) p11 q11; replace p11 := eq_true p11; replace q11 := eq_true q11; have HP13 := Kd.R_putg HO_0.out ((ji8) : Int) ((IntKind.u64.wrap ((IntKind.u64.wrap ((IntKind.u64.wrap (rd x0_1 (ji8))) - (Go.bits .and .u64 (IntKind.u64.wrap ((IntKind.u64.wrap (a2 * (IntKind.u64.wrap (rd l3 x18_1)))) + x10_1)) 4294967295))) - x9_1)) % 4294967296)
        go_wp2_with (first | ((with_reducible refine gate_store (t := 70) (p := 51) rfl ?_); refine store_event (t := 70) (p := 51) (v := ?vo_w14) (w1 := (wr.setCell ⟨go11, ((ji8) : Int).toNat, none⟩ (.int .u32 ((IntKind.u64.wrap ((IntKind.u64.wrap ((IntKind.u64.wrap (rd x0_1 (ji8))) - (Go.bits .and .u64 (IntKind.u64.wrap ((IntKind.u64.wrap (a2 * (IntKind.u64.wrap (rd l3 x18_1)))) + x10_1)) 4294967295))) - x9_1)) % 4294967296)))) ?hg ?ho ?hn ?hr ?_; (case ho => rfl); (case hg => rfl); (case hn => rfl); (case hr => first | (go_simp; done) | (go_simp; rfl)); intro w14 hw; have hg : wr.grownBy w14 (some go11) := (by rw [hw]; exact HP13.2); have hp_ : Kd.R (Kd.int .u32) 70 w14 w0.heap.size (fun k_ => (P0_ k_ ∨ w.heap.size ≤ k_)) (.slice (some ⟨go11, 0, none⟩) x0_1.length co12) y164 := (by rw [hw, Ny164.out]; exact HP13.1); clear HP13; have n0_ := Aside0.mk (hp_); have n1_ := Aside0.mk ((by rw [hw]; exact below_set (HB.out) GB11.out : Below w0.heap.size w0 w14)); have n2_ := Aside0.mk (Kept.of_grown (S := (fun k_ => P0_ k_)) hg (by repeat (first | (with_reducible first | exact HK.out | apply Kept.alloc | apply Kept.drewN | apply Kept.drew) | exact HK.out)) (fun k_ e_ => (HO_0.out.1 k_ e_))); clear HO_0 HB HK; have HO_0 := n0_; have HB := n1_; have HK := n2_; clear n0_ n1_ n2_; clear hg hw hp_))
        go_roundg k1
        case measure => have := HK1.out; omega
        case rel => exact ⟨(y164), ((IntKind.u64.wrap ((IntKind.u64.wrap ((IntKind.u64.wrap (rd x0_1 (ji8))) - (Go.bits .and .u64 (IntKind.u64.wrap ((IntKind.u64.wrap (a2 * (IntKind.u64.wrap (rd l3 x18_1)))) + x10_1)) 4294967295))) - x9_1)) / 9223372036854775808), ((IntKind.u64.wrap ((IntKind.u64.wrap (a2 * (IntKind.u64.wrap (rd l3 x18_1)))) + x10_1)) / 4294967296), (wrap64 (x18_1 + 1)), (by first | rfl | (simp; done) | (simp only [← hji8] <;> (first | rfl | simp)) | (simp [*]; done)), (by first | rfl | (simp; done) | (simp [*]; done)), (by first | rfl | (simp; done) | (simp [*]; done)), H', ⟨by have := HK1.out; omega⟩, ⟨tq HO_0⟩, ⟨by repeat (first | (with_reducible first | exact HK.out | apply Kept.alloc | apply Kept.drewN | apply Kept.drew) | exact HK.out)⟩, ⟨tb HB⟩⟩
       ·rw [if_neg c10] at H
        exact absurd H (by simp)
      ·rw [if_neg c9] at H
       exact absurd H (by simp)
     ·rw [if_neg c7] at H
      exact absurd H (by simp)
    ·rw [if_neg c6] at H
     exact absurd H (by simp)
   ·rw [if_neg c5] at H
    have c5b0 : decide (x18_1 < (l3.length : Int)) = false := decide_eq_false c5; clear c5; obtain ⟨ji15, hji15⟩ : ∃ j_ : Int, (wrap64 (a1 + (l3.length : Int))) = j_ := ⟨_, rfl⟩
    replace H : (if 0 ≤ (ji15) then (if (ji15) < (x0_1.length : Int) then (some ((((IntKind.u64.wrap ((IntKind.u64.wrap ((IntKind.u64.wrap (rd x0_1 (ji15))) - x10_1)) - x9_1)) / 9223372036854775808) == 1), (x0_1.set ((ji15) : Int).toNat ((IntKind.u64.wrap ((IntKind.u64.wrap ((IntKind.u64.wrap (rd x0_1 (ji15))) - x10_1)) - x9_1)) % 4294967296)))) else (none)) else (none)) = some (r1, r2) := by first | (rw [hji15] at H; exact H) | (simp only [hji15] at H ⊢; exact H)
    have hji15w : (IntKind.i64.wrap (a1 + (l3.length : Int))) = ji15 := (i64_w _).trans hji15
    by_cases c16 : 0 ≤ (ji15)
    ·rw [if_pos c16] at H
     have c16b0 : decide (0 ≤ (ji15)) = true := decide_eq_true c16; clear c16
     by_cases c17 : (ji15) < (x0_1.length : Int)
     ·rw [if_pos c17] at H
      have c17b0 : decide ((ji15) < (x0_1.length : Int)) = true := decide_eq_true c17; clear c17; obtain ⟨y166, hy166⟩ : ∃ y_ : List Int, y_ = (x0_1.set ((ji15) : Int).toNat ((IntKind.u64.wrap ((IntKind.u64.wrap ((IntKind.u64.wrap (rd x0_1 (ji15))) - x10_1)) - x9_1)) % 4294967296)) := ⟨_, rfl⟩; replace H : (some ((((IntKind.u64.wrap ((IntKind.u64.wrap ((IntKind.u64.wrap (rd x0_1 (ji15))) - x10_1)) - x9_1)) / 9223372036854775808) == 1), y166)) = some (r1, r2) := ti hy166 H; have Ny166 := Aside0.mk hy166; clear hy166; simp only [Option.some.injEq, Prod.mk.injEq] at H; obtain ⟨rfl, rfl⟩ := H; obtain ⟨Ao19, co19, eo19⟩ := Kd.R_slice HO_0.out; subst eo19; have p165 : 0 ≤ ((ji15) : Int) := td; have q165 : (ji15) < (x0_1.length : Int) := td; obtain ⟨ad165, e165, hx165_0⟩ := Kd.at_int (Kd.R_reads' HO_0.out).2.2 (ji15) p165 q165
      cases e165
      replace p165 := eq_true p165; replace q165 := eq_true q165; have p18 : 0 ≤ ((ji15) : Int) := td; have q18 : ((ji15) : Int) < ((x0_1.length : Int) : Int) := td; obtain ⟨go18, co18, eo18, gb18, gl18, cl18, HG18⟩ := Kd.R_form HO_0.out (by omega); (first | cases eo18 | (injection eo18 with ea_ en_ ec_; (first | subst ea_ | (injection ea_ with ea_; subst ea_)); subst ec_; clear en_)); have GB18 := Aside0.mk gb18; have GG18 := Aside0.mk HG18; clear gb18 gl18 HG18; have HMgo18 := Aside0.mk (show (P0_ go18 ∨ w.heap.size ≤ go18) from (HO_0.out.1 _ rfl)); (first | simp only [add_plain] at hx165_0 | skip); obtain ⟨hx18_0, hf18_0⟩ := Kd.R_celln 0 HO_0.out ((ji15) : Int) p18 q18; replace p18 := eq_true p18; replace q18 := eq_true q18; have HP20 := Kd.R_putg HO_0.out ((ji15) : Int) ((IntKind.u64.wrap ((IntKind.u64.wrap ((IntKind.u64.wrap (rd x0_1 (ji15))) - x10_1)) - x9_1)) % 4294967296)
      go_wp2_with (first | ((with_reducible refine gate_store (t := 70) (p := 72) rfl ?_); refine store_event (t := 70) (p := 72) (v := ?vo_w21) (w1 := (wr.setCell ⟨go18, ((ji15) : Int).toNat, none⟩ (.int .u32 ((IntKind.u64.wrap ((IntKind.u64.wrap ((IntKind.u64.wrap (rd x0_1 (ji15))) - x10_1)) - x9_1)) % 4294967296)))) ?hg ?ho ?hn ?hr ?_; (case ho => rfl); (case hg => rfl); (case hn => rfl); (case hr => first | (go_simp; done) | (go_simp; rfl)); intro w21 hw; have hg : wr.grownBy w21 (some go18) := (by rw [hw]; exact HP20.2); have hp_ : Kd.R (Kd.int .u32) 70 w21 w0.heap.size (fun k_ => (P0_ k_ ∨ w.heap.size ≤ k_)) (.slice (some ⟨go18, 0, none⟩) x0_1.length co19) y166 := (by rw [hw, Ny166.out]; exact HP20.1); clear HP20; have n0_ := Aside0.mk (hp_); have n1_ := Aside0.mk ((by rw [hw]; exact below_set (HB.out) GB18.out : Below w0.heap.size w0 w21)); have n2_ := Aside0.mk (Kept.of_grown (S := (fun k_ => P0_ k_)) hg (by repeat (first | (with_reducible first | exact HK.out | apply Kept.alloc | apply Kept.drewN | apply Kept.drew) | exact HK.out)) (fun k_ e_ => (HO_0.out.1 k_ e_))); clear HO_0 HB HK; have HO_0 := n0_; have HB := n1_; have HK := n2_; clear n0_ n1_ n2_; clear hg hw hp_))
      go_ret
      exact ⟨by first | rfl | (simp [errW_none, errW_some] <;> rfl) | (simp only [← hji15]; first | rfl | (simp [errW_none, errW_some] <;> rfl)) | (simp [*, errW_none, errW_some] <;> rfl), tq HO_0, tb HB, by repeat (first | (with_reducible first | exact HK.out | apply Kept.alloc | apply Kept.drewN | apply Kept.drew) | exact HK.out)⟩
     ·rw [if_neg c17] at H
      exact absurd H (by simp)
    ·rw [if_neg c16] at H
     exact absurd H (by simp)

/-! ### bits_Add32: function 62 -/
def bits_Add32.f (a0 : Int) (a1 : Int) (a2 : Int) : Option (Int × Int) := some ((IntKind.u64.wrap ((IntKind.u64.wrap ((IntKind.u64.wrap (a0)) + (IntKind.u64.wrap (a1)))) + (IntKind.u64.wrap (a2)))) % 4294967296, ((IntKind.u64.wrap ((IntKind.u64.wrap ((IntKind.u64.wrap (a0)) + (IntKind.u64.wrap (a1)))) + (IntKind.u64.wrap (a2)))) / 4294967296) % 4294967296)
set_option maxHeartbeats 8000000 in
set_option maxRecDepth 100000 in
theorem bits_Add32.calls (a0 : Int) (a1 : Int) (a2 : Int) (r1 : Int) (r2 : Int) (w : World) (h : bits_Add32.f a0 a1 a2 = some (r1, r2)) :
  Calls Try.prog 62 #[.int .u32 a0, .int .u32 a1, .int .u32 a2] w fun e w' => e = .returned (.tuple #[.int .u32 r1, .int .u32 r2]) ∧ Drawn0 w w' := by
 have H : (some ((IntKind.u64.wrap ((IntKind.u64.wrap ((IntKind.u64.wrap (a0)) + (IntKind.u64.wrap (a1)))) + (IntKind.u64.wrap (a2)))) % 4294967296, ((IntKind.u64.wrap ((IntKind.u64.wrap ((IntKind.u64.wrap (a0)) + (IntKind.u64.wrap (a1)))) + (IntKind.u64.wrap (a2)))) / 4294967296) % 4294967296)) = some (r1, r2) := h; clear h; simp only [Option.some.injEq, Prod.mk.injEq] at H; obtain ⟨rfl, rfl⟩ := H
 go_enter Try.func62, Try.ntmps62
 go_wp2
 go_ret2
 exact ⟨by first | rfl | (simp; done) | (simp [*]; done), by repeat (first | exact Drawn0.refl _ | apply Drawn0.step)⟩

/-! ### nat_raise: function 48 -/
def nat_raise.l0 : Nat → List Int → Int → List Int → Int → List Int → Int → Int → Option (List Int)
 | 0, _, _, _, _, _, _, _ => none
 | k + 1, x0, x1, x2, x6, x9, x10, x11 => if x11 < x10 then (if 0 ≤ x11 then (if x11 < (x9.length : Int) then (if 0 ≤ (wrap64 (x11 + x1)) then (if (wrap64 (x11 + x1)) < (x0.length : Int) then ((bits_Add32.f (rd x0 (wrap64 (x11 + x1))) (rd x9 x11) x6).bind fun bt169 => (nat_raise.l0 k (x0.set ((wrap64 (x11 + x1)) : Int).toNat bt169.1) x1 x2 bt169.2 x9 x10 (wrap64 (x11 + 1)))) else (none)) else (none)) else (none)) else (none)) else (if 0 ≤ (wrap64 (x1 + (x2.length : Int))) then (if (wrap64 (x1 + (x2.length : Int))) < (x0.length : Int) then (some (x0.set ((wrap64 (x1 + (x2.length : Int))) : Int).toNat (((rd x0 (wrap64 (x1 + (x2.length : Int)))) + x6) % 4294967296))) else (none)) else (none))
def nat_raise.f (k : Nat) (l0 : List Int) (a1 : Int) (l2 : List Int) : Option (List Int) := nat_raise.l0 k l0 a1 l2 0 l2 (l2.length : Int) 0
theorem nat_raise.mono_l : ∀ k, (∀ y0 y1 y2 y3 y4 y5 y6, LeO (nat_raise.l0 k y0 y1 y2 y3 y4 y5 y6) (nat_raise.l0 (k + 1) y0 y1 y2 y3 y4 y5 y6))
 | 0 => fun _ _ _ _ _ _ _ r h => by simp [nat_raise.l0] at h
 | k + 1 => by
  have ih0 := nat_raise.mono_l k
  ·intro y0 y1 y2 y3 y4 y5 y6
   unfold nat_raise.l0
   repeat' with_reducible first | exact ih0 _ _ _ _ _ _ _ | exact LeO.refl _ | exact LeO.none _ | refine LeO.ite ?_ ?_ | refine LeO.bind ?_ (fun _ => ?_)
theorem nat_raise.mono : ∀ a0 a1 a2 k, LeO (nat_raise.f k a0 a1 a2) (nat_raise.f (k + 1) a0 a1 a2) := by
 intro a0 a1 a2 k; have ih0 := nat_raise.mono_l k
 unfold nat_raise.f
 repeat' with_reducible first | exact ih0 _ _ _ _ _ _ _ | exact LeO.refl _ | exact LeO.none _ | refine LeO.ite ?_ ?_ | refine LeO.bind ?_ (fun _ => ?_)
set_option maxHeartbeats 8000000 in
set_option maxRecDepth 100000 in
theorem nat_raise.calls (k : Nat) (P0_ : Nat → Prop) (u9000_ : Value) (l0 : List Int) (a1 : Int) (A2 : Option Addr) (c2 : Nat) (l2 : List Int) (r : List Int) (w0 w : World) (hB : Below w0.heap.size w0 w) (ho0 : Kd.R (Kd.int .u32) 70 w w0.heap.size P0_ u9000_ l0) (hr2 : ∀ W_, Kept w W_ (fun k_ => P0_ k_) → Kd.C (Kd.int .u32) W_ A2 l2.length l2) (hc2 : l2.length ≤ c2) (h : nat_raise.f k l0 a1 l2 = some r) :
  Calls Try.prog 48 #[u9000_, .int .i64 a1, .slice A2 l2.length c2] w fun e w' => e = .returned (.tuple #[]) ∧ Kd.R (Kd.int .u32) 70 w' w0.heap.size (fun k_ => (P0_ k_ ∨ w.heap.size ≤ k_)) u9000_ r ∧ Below w0.heap.size w0 w' ∧ Kept w w' (fun k_ => P0_ k_) := by
 have HO0 := Aside0.mk (show Kd.R (Kd.int .u32) 70 w w0.heap.size (fun k_ => (P0_ k_ ∨ w.heap.size ≤ k_)) u9000_ l0 from Kd.R_mono ho0 (fun k_ hk => (.inl hk))); have HR2 := Aside0.mk hr2; have HC2 := Aside0.mk hc2; clear hr2 hc2; have HK := Aside0.mk (Kept.refl w (fun k_ => P0_ k_)); have HW0 := Aside0.mk hB.size; have HB := Aside0.mk hB; clear hB; have H : (nat_raise.l0 k l0 a1 l2 0 l2 (l2.length : Int) 0) = some r := h; clear h; have H' := Aside0.mk H; clear H
 go_enter Try.func48, Try.ntmps48
 go_wp2
 go_loopg [6, 11] k (fun kq v6 v11 w' => ∃ (x0_1 : List Int) (x6_1 : Int) (x11_1 : Int), v6 = .int .u32 x6_1 ∧ v11 = .int .i64 x11_1 ∧ Aside0 (nat_raise.l0 kq x0_1 a1 l2 x6_1 l2 (l2.length : Int) x11_1 = some r) ∧ Aside0 (kq ≤ k) ∧ Aside0 (Kd.R (Kd.int .u32) 70 w' w0.heap.size (fun k_ => (P0_ k_ ∨ w.heap.size ≤ k_)) u9000_ x0_1) ∧ Aside0 (Kept w w' (fun k_ => P0_ k_)) ∧ Aside0 (Below w0.heap.size w0 w'))
 case atStart => exact ⟨(l0), (0), (0), (by first | rfl | (simp; done) | (simp [*]; done)), (by first | rfl | (simp; done) | (simp [*]; done)), H', ⟨Nat.le_refl _⟩, ⟨tq HO0⟩, ⟨by repeat (first | (with_reducible first | exact HK.out | apply Kept.alloc | apply Kept.drewN | apply Kept.drew) | exact HK.out)⟩, ⟨tb HB⟩⟩
 case round =>
  clear H'; (try clear c2); (try clear p2); obtain ⟨x0_1, x6_1, x11_1, rfl, rfl, HA, HK1, HO_0, HK, HB⟩ := hrel
  cases gk with
  | zero => exact absurd HA.out (by simp [nat_raise.l0])
  | succ k1 =>
   have H := HA.out; clear HA; simp only [nat_raise.l0] at H
   by_cases c4 : x11_1 < (l2.length : Int)
   ·rw [if_pos c4] at H
    have c4b0 : decide (x11_1 < (l2.length : Int)) = true := decide_eq_true c4; clear c4
    by_cases c5 : 0 ≤ x11_1
    ·rw [if_pos c5] at H
     have c5b0 : decide (0 ≤ x11_1) = true := decide_eq_true c5; clear c5
     by_cases c6 : x11_1 < (l2.length : Int)
     ·rw [if_pos c6] at H
      have c6b0 : decide (x11_1 < (l2.length : Int)) = true := decide_eq_true c6; clear c6; obtain ⟨ji7, hji7⟩ : ∃ j_ : Int, (wrap64 (x11_1 + a1)) = j_ := ⟨_, rfl⟩
      replace H : (if 0 ≤ (ji7) then (if (ji7) < (x0_1.length : Int) then ((bits_Add32.f (rd x0_1 (ji7)) (rd l2 x11_1) x6_1).bind fun bt169 => (nat_raise.l0 k1 (x0_1.set ((ji7) : Int).toNat bt169.1) a1 l2 bt169.2 l2 (l2.length : Int) (wrap64 (x11_1 + 1)))) else (none)) else (none)) = some r := by first | (rw [hji7] at H; exact H) | (simp only [hji7] at H ⊢; exact H)
      have hji7w : (IntKind.i64.wrap (x11_1 + a1)) = ji7 := (i64_w _).trans hji7
      by_cases c8 : 0 ≤ (ji7)
      ·rw [if_pos c8] at H
       have c8b0 : decide (0 ≤ (ji7)) = true := decide_eq_true c8; clear c8
       by_cases c9 : (ji7) < (x0_1.length : Int)
       ·rw [if_pos c9] at H
        have c9b0 : decide ((ji7) < (x0_1.length : Int)) = true := decide_eq_true c9; clear c9; replace H := bi H; obtain ⟨⟨t169, t170⟩, A100, H⟩ := H
        try dsimp only at H
        have A10 := Aside0.mk A100; clear A100; obtain ⟨y171, hy171⟩ : ∃ y_ : List Int, y_ = (x0_1.set ((ji7) : Int).toNat t169) := ⟨_, rfl⟩; replace H : (nat_raise.l0 k1 y171 a1 l2 t170 l2 (l2.length : Int) (wrap64 (x11_1 + 1))) = some r := ti hy171 H; have Ny171 := Aside0.mk hy171; clear hy171; have H' := Aside0.mk H; clear H; have p167 : 0 ≤ (x11_1 : Int) := td; have q167 : x11_1 < (l2.length : Int) := td; obtain ⟨ad167, e167, hx167_0⟩ := Kd.at_int (Kd.C_kept_now HR2.out HK.out) x11_1 p167 q167
        cases e167
        replace p167 := eq_true p167; replace q167 := eq_true q167; obtain ⟨Ao12, co12, eo12⟩ := Kd.R_slice HO_0.out; subst eo12; have p168 : 0 ≤ ((ji7) : Int) := td; have q168 : (ji7) < (x0_1.length : Int) := td; obtain ⟨ad168, e168, hx168_0⟩ := Kd.at_int (Kd.R_reads' HO_0.out).2.2 (ji7) p168 q168
        cases e168
        replace p168 := eq_true p168; replace q168 := eq_true q168
        go_wp2_with (first | ((with_reducible refine gate_callee (f := 62) rfl ?_); refine goesL_ (some 29) rfl rfl Try.func62 (by kernel_rfl) rfl #[.int .u32 (rd x0_1 (ji7)), .int .u32 (rd l2 x11_1), .int .u32 x6_1] rfl (by (try simp only [List.map_toArray, List.map_cons, List.map_nil]); first | done | (simp only [hji7]; rfl) | rfl | (simp only [List.length_drop, List.length_take]; rfl)) ?_; (with_reducible refine (bits_Add32.calls (rd x0_1 (ji7)) (rd l2 x11_1) x6_1 t169 t170 _ A10.out).mono ?_); rintro e w' ⟨rfl, ⟨nd, rfl⟩⟩; refine ⟨_, rfl, ?_⟩; (try (rw [drewN_self wr]; generalize hq_ : World.drewN wr _ = wr; have n0_ : Aside0 (Kd.R (Kd.int .u32) 70 wr w0.heap.size (fun k_ => (P0_ k_ ∨ w.heap.size ≤ k_)) (.slice (some ad168) x0_1.length co12) x0_1) := ⟨by rw [← hq_]; exact (tq HO_0)⟩; have n1_ : Aside0 (Kept w wr (fun k_ => P0_ k_)) := ⟨by rw [← hq_]; exact (by repeat (first | (with_reducible first | exact HK.out | apply Kept.alloc | apply Kept.drewN | apply Kept.drew) | exact HK.out))⟩; have n2_ : Aside0 (Below w0.heap.size w0 wr) := ⟨by rw [← hq_]; exact (tb HB)⟩; clear HO_0 HK HB hq_; have HO_0 := n0_; have HK := n1_; have HB := n2_; clear n0_ n1_ n2_)); have p11 : 0 ≤ ((ji7) : Int) := td; have q11 : ((ji7) : Int) < ((x0_1.length : Int) : Int) := td; obtain ⟨go11, co11, eo11, gb11, gl11, cl11, HG11⟩ := Kd.R_form HO_0.out (by omega); (first | cases eo11 | (injection eo11 with ea_ en_ ec_; (first | subst ea_ | (injection ea_ with ea_; subst ea_)); subst ec_; clear en_)); have GB11 := Aside0.mk gb11; have GG11 := Aside0.mk HG11; clear gb11 gl11 HG11; have HMgo11 := Aside0.mk (show (P0_ go11 ∨ w.heap.size ≤ go11) from (HO_0.out.1 _ rfl)); (first | simp only [add_plain] at hx168_0 | skip); obtain ⟨hx11_0, hf11_0⟩ := Kd.R_celln 0 HO_0.out ((ji7) : Int) p11 q11; replace p11 := eq_true p11; replace q11 := eq_true q11; obtain ⟨hy13_, hz13_⟩ := Kd.R_celln 0 HO_0.out ((ji7) : Int) (td) (td); have HP13 := Kd.R_putg HO_0.out ((ji7) : Int) t169) | ((with_reducible refine gate_store (t := 70) (p := 32) rfl ?_); refine store_event (t := 70) (p := 32) (v := ?vo_w14) (w1 := (wr.setCell ⟨go11, ((ji7) : Int).toNat, none⟩ (.int .u32 t169))) ?hg ?ho ?hn ?hr ?_; (case ho => rfl); (case hg => rfl); (case hn => rfl); (case hr => first | (go_simp; done) | (go_simp; rfl)); intro w14 hw; have hg : wr.grownBy w14 (some go11) := (by rw [hw]; exact HP13.2); have hp_ : Kd.R (Kd.int .u32) 70 w14 w0.heap.size (fun k_ => (P0_ k_ ∨ w.heap.size ≤ k_)) (.slice (some ⟨go11, 0, none⟩) x0_1.length co12) y171 := (by rw [hw, Ny171.out]; exact HP13.1); clear HP13; have n0_ := Aside0.mk (hp_); have n1_ := Aside0.mk ((by rw [hw]; exact below_set (HB.out) GB11.out : Below w0.heap.size w0 w14)); have n2_ := Aside0.mk (Kept.of_grown (S := (fun k_ => P0_ k_)) hg (by repeat (first | (with_reducible first | exact HK.out | apply Kept.alloc | apply Kept.drewN | apply Kept.drew) | exact HK.out)) (fun k_ e_ => (HO_0.out.1 k_ e_))); clear HO_0 HB HK; have HO_0 := n0_; have HB := n1_; have HK := n2_; clear n0_ n1_ n2_; clear hg hw hp_))
        go_roundg k1
        case measure => have := HK1.out; omega
        case rel => exact ⟨(y171), (t170), (wrap64 (x11_1 + 1)), (by first | rfl | (simp; done) | (simp [*]; done)), (by first | rfl | (simp; done) | (simp [*]; done)), H', ⟨by have := HK1.out; omega⟩, ⟨tq HO_0⟩, ⟨by repeat (first | (with_reducible first | exact HK.out | apply Kept.alloc | apply Kept.drewN | apply Kept.drew) | exact HK.out)⟩, ⟨tb HB⟩⟩
       ·rw [if_neg c9] at H
        exact absurd H (by simp)
      ·rw [if_neg c8] at H
       exact absurd H (by simp)
     ·rw [if_neg c6] at H
      exact absurd H (by simp)
    ·rw [if_neg c5] at H
     exact absurd H (by simp)
   ·rw [if_neg c4] at H
    have c4b0 : decide (x11_1 < (l2.length : Int)) = false := decide_eq_false c4; clear c4; obtain ⟨ji15, hji15⟩ : ∃ j_ : Int, (wrap64 (a1 + (l2.length : Int))) = j_ := ⟨_, rfl⟩
    replace H : (if 0 ≤ (ji15) then (if (ji15) < (x0_1.length : Int) then (some (x0_1.set ((ji15) : Int).toNat (((rd x0_1 (ji15)) + x6_1) % 4294967296))) else (none)) else (none)) = some r := by first | (rw [hji15] at H; exact H) | (simp only [hji15] at H ⊢; exact H)
    have hji15w : (IntKind.i64.wrap (a1 + (l2.length : Int))) = ji15 := (i64_w _).trans hji15
    by_cases c16 : 0 ≤ (ji15)
    ·rw [if_pos c16] at H
     have c16b0 : decide (0 ≤ (ji15)) = true := decide_eq_true c16; clear c16
     by_cases c17 : (ji15) < (x0_1.length : Int)
     ·rw [if_pos c17] at H
      have c17b0 : decide ((ji15) < (x0_1.length : Int)) = true := decide_eq_true c17; clear c17; obtain ⟨y173, hy173⟩ : ∃ y_ : List Int, y_ = (x0_1.set ((ji15) : Int).toNat (((rd x0_1 (ji15)) + x6_1) % 4294967296)) := ⟨_, rfl⟩; replace H : (some y173) = some r := ti hy173 H; have Ny173 := Aside0.mk hy173; clear hy173; obtain rfl := Option.some.inj H; obtain ⟨Ao19, co19, eo19⟩ := Kd.R_slice HO_0.out; subst eo19; have p172 : 0 ≤ ((ji15) : Int) := td; have q172 : (ji15) < (x0_1.length : Int) := td; obtain ⟨ad172, e172, hx172_0⟩ := Kd.at_int (Kd.R_reads' HO_0.out).2.2 (ji15) p172 q172
      cases e172
      replace p172 := eq_true p172; replace q172 := eq_true q172; have p18 : 0 ≤ ((ji15) : Int) := td; have q18 : ((ji15) : Int) < ((x0_1.length : Int) : Int) := td; obtain ⟨go18, co18, eo18, gb18, gl18, cl18, HG18⟩ := Kd.R_form HO_0.out (by omega); (first | cases eo18 | (injection eo18 with ea_ en_ ec_; (first | subst ea_ | (injection ea_ with ea_; subst ea_)); subst ec_; clear en_)); have GB18 := Aside0.mk gb18; have GG18 := Aside0.mk HG18; clear gb18 gl18 HG18; have HMgo18 := Aside0.mk (show (P0_ go18 ∨ w.heap.size ≤ go18) from (HO_0.out.1 _ rfl)); (first | simp only [add_plain] at hx172_0 | skip); obtain ⟨hx18_0, hf18_0⟩ := Kd.R_celln 0 HO_0.out ((ji15) : Int) p18 q18; replace p18 := eq_true p18; replace q18 := eq_true q18; have HP20 := Kd.R_putg HO_0.out ((ji15) : Int) (((rd x0_1 (ji15)) + x6_1) % 4294967296)
      go_wp2_with (first | ((with_reducible refine gate_store (t := 70) (p := 43) rfl ?_); refine store_event (t := 70) (p := 43) (v := ?vo_w21) (w1 := (wr.setCell ⟨go18, ((ji15) : Int).toNat, none⟩ (.int .u32 (((rd x0_1 (ji15)) + x6_1) % 4294967296)))) ?hg ?ho ?hn ?hr ?_; (case ho => rfl); (case hg => rfl); (case hn => rfl); (case hr => first | (go_simp; done) | (go_simp; rfl)); intro w21 hw; have hg : wr.grownBy w21 (some go18) := (by rw [hw]; exact HP20.2); have hp_ : Kd.R (Kd.int .u32) 70 w21 w0.heap.size (fun k_ => (P0_ k_ ∨ w.heap.size ≤ k_)) (.slice (some ⟨go18, 0, none⟩) x0_1.length co19) y173 := (by rw [hw, Ny173.out]; exact HP20.1); clear HP20; have n0_ := Aside0.mk (hp_); have n1_ := Aside0.mk ((by rw [hw]; exact below_set (HB.out) GB18.out : Below w0.heap.size w0 w21)); have n2_ := Aside0.mk (Kept.of_grown (S := (fun k_ => P0_ k_)) hg (by repeat (first | (with_reducible first | exact HK.out | apply Kept.alloc | apply Kept.drewN | apply Kept.drew) | exact HK.out)) (fun k_ e_ => (HO_0.out.1 k_ e_))); clear HO_0 HB HK; have HO_0 := n0_; have HB := n1_; have HK := n2_; clear n0_ n1_ n2_; clear hg hw hp_))
      first | go_end0 | ((try simp only [Exit.inBlock, Exit.then]); refine bodyPost_ret (results_none rfl _ _ _) rfl ?_)
      exact ⟨by first | rfl | (simp [errW_none, errW_some] <;> rfl) | (simp only [← hji15]; first | rfl | (simp [errW_none, errW_some] <;> rfl)) | (simp [*, errW_none, errW_some] <;> rfl), tq HO_0, tb HB, by repeat (first | (with_reducible first | exact HK.out | apply Kept.alloc | apply Kept.drewN | apply Kept.drew) | exact HK.out)⟩
     ·rw [if_neg c17] at H
      exact absurd H (by simp)
    ·rw [if_neg c16] at H
     exact absurd H (by simp)

end Go.Proofs.Ytkbefeadmchmbaa.QBigQuotients
