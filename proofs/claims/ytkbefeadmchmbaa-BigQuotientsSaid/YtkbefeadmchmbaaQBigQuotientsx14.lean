-- written by wip/wprint, a program of this session
import Derived.Test.YtkbefeadmchmbaaQBigQuotientsx0
import Derived.Test.YtkbefeadmchmbaaQBigQuotientsx6
import Derived.Test.YtkbefeadmchmbaaQBigQuotientsx13
namespace Go.Proofs.Ytkbefeadmchmbaa.QBigQuotients
open Go.RowKit Go.Proofs.YtkbefeadmchmbaaW.PrintWords Go.Proofs.YtkbefeadmchmbaaW.PrintLast Go.Proofs.YtkbefeadmchmbaaW.PrintMore
open Go.Proofs.YtkbefeadmchmbaaW.PrintWords.Kd renaming R_alloc → qa, R_drewN → qn, R_drew → qd, V_alloc → va, V_drewN → vn, V_drew → vd
open Go.Proofs.YtkbefeadmchmbaaW.PrintWords renaming below_alloc → ba, pw_below_drewN → bn, below_drew1 → bd
attribute [local go_sem] max2_int min2_int max_two min_two max_three min_three max_four min_four   -- for this text's walks alone
set_option linter.unusedVariables false
set_option linter.unusedSimpArgs false

/-! ### nat_Parse: function 36 -/
mutual
def nat_Parse.j0 : Nat → ByteArray → Bool → Option (List Int × Int)
 | 0, _, _ => none
 | k + 1, x0, x17 => if x17 = true then (some (([] : List Int), 6)) else (nat_Parse.l0 k x0 ([] : List Int) (x0.size : Int) 0)
def nat_Parse.l0 : Nat → ByteArray → List Int → Int → Int → Option (List Int × Int)
 | 0, _, _, _, _ => none
 | k + 1, x0, x4, x19, x20 => if x20 < x19 then (if 0 ≤ x20 then (if x20 < (x0.size : Int) then (if (bt x0 x20) < 48 then (nat_Parse.j2 k x0 x4 x20 x19 x20 true) else (nat_Parse.j2 k x0 x4 x20 x19 x20 (decide ((bt x0 x20) > 57)))) else (none)) else (none)) else (some (x4, 0))
def nat_Parse.j2 : Nat → ByteArray → List Int → Int → Int → Int → Bool → Option (List Int × Int)
 | 0, _, _, _, _, _, _ => none
 | k + 1, x0, x4, x5, x19, x20, x32 => if x32 = true then (some (([] : List Int), 6)) else ((nat_Mul.f k x4 (([10] : List Int))).bind fun t503 => (if 0 ≤ x5 then (if x5 < (x0.size : Int) then ((nat_Add.f k t503 (([((bt x0 x5) - 48) % 256] : List Int))).bind fun t509 => (nat_Parse.l0 k x0 t509 x19 (wrap64 (x20 + 1)))) else (none)) else (none)))
end
def nat_Parse.f (k : Nat) (a0 : ByteArray) : Option (List Int × Int) := if a0.toList = ([] : List UInt8) then (nat_Parse.j0 k a0 true) else (if 0 < (a0.size : Int) then (if (bt a0 0) = 48 then (nat_Parse.j0 k a0 (decide ((a0.size : Int) > 1))) else (nat_Parse.j0 k a0 false)) else (none))
theorem nat_Parse.mono_l : ∀ k, (∀ y0 y1, LeO (nat_Parse.j0 k y0 y1) (nat_Parse.j0 (k + 1) y0 y1)) ∧ (∀ y0 y1 y2 y3, LeO (nat_Parse.l0 k y0 y1 y2 y3) (nat_Parse.l0 (k + 1) y0 y1 y2 y3)) ∧ (∀ y0 y1 y2 y3 y4 y5, LeO (nat_Parse.j2 k y0 y1 y2 y3 y4 y5) (nat_Parse.j2 (k + 1) y0 y1 y2 y3 y4 y5))
 | 0 => ⟨fun _ _ r h => by simp [nat_Parse.j0] at h, fun _ _ _ _ r h => by simp [nat_Parse.l0] at h, fun _ _ _ _ _ _ r h => by simp [nat_Parse.j2] at h⟩
 | k + 1 => by
  obtain ⟨ih0, ih1, ih2⟩ := nat_Parse.mono_l k; refine ⟨?_, ?_, ?_⟩
  ·intro y0 y1
   unfold nat_Parse.j0
   repeat' with_reducible first | exact ih0 _ _ | exact ih1 _ _ _ _ | exact ih2 _ _ _ _ _ _ | exact nat_Add.mono _ _ _ | exact nat_Mul.mono _ _ _ | exact LeO.refl _ | exact LeO.none _ | refine LeO.ite ?_ ?_ | refine LeO.bind ?_ (fun _ => ?_)
  ·intro y0 y1 y2 y3
   unfold nat_Parse.l0
   repeat' with_reducible first | exact ih0 _ _ | exact ih1 _ _ _ _ | exact ih2 _ _ _ _ _ _ | exact nat_Add.mono _ _ _ | exact nat_Mul.mono _ _ _ | exact LeO.refl _ | exact LeO.none _ | refine LeO.ite ?_ ?_ | refine LeO.bind ?_ (fun _ => ?_)
  ·intro y0 y1 y2 y3 y4 y5
   unfold nat_Parse.j2
   repeat' with_reducible first | exact ih0 _ _ | exact ih1 _ _ _ _ | exact ih2 _ _ _ _ _ _ | exact nat_Add.mono _ _ _ | exact nat_Mul.mono _ _ _ | exact LeO.refl _ | exact LeO.none _ | refine LeO.ite ?_ ?_ | refine LeO.bind ?_ (fun _ => ?_)
theorem nat_Parse.mono : ∀ a0 k, LeO (nat_Parse.f k a0) (nat_Parse.f (k + 1) a0) := by
 intro a0 k; obtain ⟨ih0, ih1, ih2⟩ := nat_Parse.mono_l k
 unfold nat_Parse.f
 repeat' with_reducible first | exact ih0 _ _ | exact ih1 _ _ _ _ | exact ih2 _ _ _ _ _ _ | exact nat_Add.mono _ _ _ | exact nat_Mul.mono _ _ _ | exact LeO.refl _ | exact LeO.none _ | refine LeO.ite ?_ ?_ | refine LeO.bind ?_ (fun _ => ?_)
def nat_Parse.T9 : Bool × List (List Nat × List Nat) := (true, [([], []), ([], []), ([0, 1], [0, 1]), ([], []), ([], []), ([3, 4], [3, 4]), ([5], [5]), ([6], [6]), ([7], [7]), ([2, 8, 2], [2, 8]), ([9, 9, 0, 1, 2, 3, 4, 5, 6, 7, 8, 9], [0, 9])])
def nat_Parse.B9 : List Nat := [0, 0, 3, 0, 0, 24, 56, 120, 248, 511, 1023]
theorem nat_Parse.tab9 : rtab .any (opsOf Try.f36 9) = nat_Parse.T9 := by kernel_rfl
theorem nat_Parse.bits9 : waitsOk nat_Parse.T9.2 nat_Parse.B9 = true := by kernel_rfl
set_option maxHeartbeats 8000000 in
set_option maxRecDepth 100000 in
theorem nat_Parse.calls (k : Nat) (a0 : ByteArray) (r1 : List Int) (r2 : Int) (w : World) (h : nat_Parse.f k a0 = some (r1, r2)) :
  Calls Try.prog 36 #[.string a0] w fun e w' => ∃ v0_ : Value, e = .returned (.tuple #[v0_, .int .i64 r2]) ∧ Kd.V (Kd.int .u32) 70 w' w.heap.size (fun k_ => (w.heap.size ≤ k_)) v0_ r1 ∧ Below w.heap.size w w' := by
 have HB := Aside0.mk (Below.refl w.heap.size w); have H : (if a0.toList = ([] : List UInt8) then (nat_Parse.j0 k a0 true) else (if 0 < (a0.size : Int) then (if (bt a0 0) = 48 then (nat_Parse.j0 k a0 (decide ((a0.size : Int) > 1))) else (nat_Parse.j0 k a0 false)) else (none))) = some (r1, r2) := h; clear h; have HC2 := Aside0.mk H; clear H
 go_enter Try.func36, Try.ntmps36
 go_upto_region 1 with (fail)
 go_cut [17] from 1 to 0 (fun v17 wc => ∃ (kq : Nat) (x17_1 : Bool), v17 = .bool x17_1 ∧ Aside0 (nat_Parse.j0 kq a0 x17_1 = some (r1, r2)) ∧ Aside0 (kq ≤ k) ∧ Aside0 (Below w.heap.size w wc))
 case first =>
  have H := HC2.out; clear HC2
  by_cases c3 : a0.toList = ([] : List UInt8)
  ·rw [if_pos c3] at H
   have c3b0 : (a0.toList == ([] : List UInt8)) = true := beq_iff_eq.mpr c3; have c3b1 : (a0.toList != ([] : List UInt8)) = false := bne_eq_false_iff_eq.mpr c3; clear c3; (first | rw [c3b0] | rw [c3b1] | (simp only [i64_w, i32_w]; rw [c3b0]) | skip); have H' := Aside0.mk H; clear H
   go_wp2
   go_meet
   case rel => exact ⟨_, (true), (by first | rfl | (simp; done) | (simp [*]; done)), H', ⟨by first | omega | exact Nat.le_refl _⟩, ⟨tb HB⟩⟩
  ·rw [if_neg c3] at H
   have c3b0 : (a0.toList == ([] : List UInt8)) = false := beq_eq_false_iff_ne.mpr c3; have c3b1 : (a0.toList != ([] : List UInt8)) = true := bne_iff_ne.mpr c3; (first | rw [c3b0] | rw [c3b1] | (simp only [i64_w, i32_w]; rw [c3b0]) | skip)
   by_cases c4 : 0 < (a0.size : Int)
   ·rw [if_pos c4] at H
    have c4b0 : decide (0 < (a0.size : Int)) = true := decide_eq_true c4; have c4b1 : decide (0 < a0.size) = true := decide_eq_true (by omega); clear c4
    by_cases c6 : (bt a0 0) = 48
    ·rw [if_pos c6] at H
     have c6b0 : ((bt a0 0) == 48) = true := beq_iff_eq.mpr c6; have c6b1 : ((bt a0 0) != 48) = false := bne_eq_false_iff_eq.mpr c6; clear c6; have H' := Aside0.mk H; clear H; have p5 : 0 ≤ (0 : Int) := (by omega); have q5 : 0 < a0.size := (by have : (0 : Int) < (a0.size : Int) := td; omega); have hx5 : ∀ h : 0 < a0.size, ((a0[0]'h).toNat : Int) = bt a0 0 := bt_at a0 0; clear p5; have qi5 : (0 < (a0.size : Int)) = True := eq_true (td); replace q5 := eq_true q5
     go_wp2
     go_meet
     case rel => exact ⟨_, (decide ((a0.size : Int) > 1)), (by first | rfl | (simp; done) | (simp [*]; done)), H', ⟨by first | omega | exact Nat.le_refl _⟩, ⟨tb HB⟩⟩
    ·rw [if_neg c6] at H
     have c6b0 : ((bt a0 0) == 48) = false := beq_eq_false_iff_ne.mpr c6; have c6b1 : ((bt a0 0) != 48) = true := bne_iff_ne.mpr c6; have H' := Aside0.mk H; clear H; have p5 : 0 ≤ (0 : Int) := (by omega); have q5 : 0 < a0.size := (by have : (0 : Int) < (a0.size : Int) := td; omega); have hx5 : ∀ h : 0 < a0.size, ((a0[0]'h).toNat : Int) = bt a0 0 := bt_at a0 0; clear p5; have qi5 : (0 < (a0.size : Int)) = True := eq_true (td); replace q5 := eq_true q5
     go_wp2
     go_meet
     case rel => exact ⟨_, (false), (by first | rfl | (simp; done) | (simp [*]; done)), H', ⟨by first | omega | exact Nat.le_refl _⟩, ⟨tb HB⟩⟩
   ·rw [if_neg c4] at H
    exact absurd H (by simp)
 case rest =>
  clear HC2; (try clear p2); (try clear c3); (try clear c3b0); (try clear c3b1); (try clear c4); (try clear c4b0); (try clear c4b1); (try clear p5); (try clear q5); (try clear hx5); (try clear qi5); (try clear c6); (try clear c6b0); (try clear c6b1); (try clear p5); (try clear q5); obtain ⟨kq, x17_1, rfl, HA, HJ1, HB⟩ := hcut
  cases kq with
  | zero => exact absurd HA.out (by simp [nat_Parse.j0])
  | succ kj1 =>
   have H := HA.out; clear HA; simp only [nat_Parse.j0] at H
   by_cases c7 : x17_1 = true
   ·subst c7
    have H1 : (some (([] : List Int), 6)) = some (r1, r2) := by rw [if_pos rfl] at H; exact H
    clear H; have H := H1; clear H1; simp only [Option.some.injEq, Prod.mk.injEq] at H; obtain ⟨rfl, rfl⟩ := H
    go_wp2
    go_ret2
    exact ⟨_, ee, Kd.V_nil _ _ _ _ _, tb HB⟩
   ·replace c7 := Bool.eq_false_iff.mpr c7
    subst c7
    have H1 : (nat_Parse.l0 kj1 a0 ([] : List Int) (a0.size : Int) 0) = some (r1, r2) := by rw [if_neg (show ¬ (false = true) by decide)] at H; exact H
    clear H; have H := H1; clear H1; have H' := Aside0.mk H; clear H
    go_wp2
    go_loopg [4, 20] kj1 (fun kq v4 v20 w' => ∃ (x4_2 : List Int) (x20_2 : Int), v20 = .int .i64 x20_2 ∧ Aside0 (nat_Parse.l0 kq a0 x4_2 (a0.size : Int) x20_2 = some (r1, r2)) ∧ Aside0 (kq ≤ kj1) ∧ Aside0 (Kd.V (Kd.int .u32) 70 w' w.heap.size (fun k_ => (w.heap.size ≤ k_)) v4 x4_2) ∧ Aside0 (Below w.heap.size w w'))
    case atStart => exact ⟨(([] : List Int)), (0), (by first | rfl | (simp; done) | (simp [*]; done)), H', ⟨Nat.le_refl _⟩, ⟨Kd.V_nil _ _ _ _ _⟩, ⟨tb HB⟩⟩
    case round =>
     clear H'; (try clear p2); (try clear c3); (try clear c3b0); (try clear c3b1); (try clear c4); (try clear c4b0); (try clear c4b1); (try clear p5); (try clear q5); (try clear hx5); (try clear qi5); (try clear c6); (try clear c6b0); (try clear c6b1); (try clear c7); (try clear p2); (try clear p5); (try clear q5); obtain ⟨x4_2, x20_2, rfl, HA, HK2, HO_4, HB⟩ := hrel
     cases gk with
     | zero => exact absurd HA.out (by simp [nat_Parse.l0])
     | succ k2 =>
      have H := HA.out; clear HA; simp only [nat_Parse.l0] at H
      by_cases c8 : x20_2 < (a0.size : Int)
      ·rw [if_pos c8] at H
       have c8b0 : decide (x20_2 < (a0.size : Int)) = true := decide_eq_true c8; clear c8; have HC9 := Aside0.mk H; clear H
       go_upto_region 7 with (fail)
       go_cut [32] from 1 to 0 (fun v32 wc => ∃ (kq : Nat) (x32_8 : Bool), v32 = .bool x32_8 ∧ Aside0 (nat_Parse.j2 kq a0 x4_2 x20_2 (a0.size : Int) x20_2 x32_8 = some (r1, r2)) ∧ Aside0 (kq ≤ k2) ∧ Aside0 (Kd.V (Kd.int .u32) 70 wc w.heap.size (fun k_ => (w.heap.size ≤ k_)) u4 x4_2) ∧ Aside0 (Below w.heap.size w wc))
       case first =>
        have H := HC9.out; clear HC9
        by_cases c10 : 0 ≤ x20_2
        ·rw [if_pos c10] at H
         have c10b0 : decide (0 ≤ x20_2) = true := decide_eq_true c10; clear c10; (first | rw [c10b0] | rw [c10b1] | (simp only [i64_w, i32_w]; rw [c10b0]) | skip)
         by_cases c11 : x20_2 < (a0.size : Int)
         ·rw [if_pos c11] at H
          have c11b0 : decide (x20_2 < (a0.size : Int)) = true := decide_eq_true c11; clear c11
          by_cases c13 : (bt a0 x20_2) < 48
          ·rw [if_pos c13] at H
           have c13b0 : decide ((bt a0 x20_2) < 48) = true := decide_eq_true c13; clear c13; have H' := Aside0.mk H; clear H; have p12 : 0 ≤ (x20_2 : Int) := td; have q12 : x20_2 < (a0.size : Int) := td; have hx12 := bt_at a0 x20_2; replace p12 := eq_true p12; replace q12 := eq_true q12
           go_wp2
           go_meet
           case rel => exact ⟨_, (true), (by first | rfl | (simp; done) | (simp [*]; done)), H', ⟨by have := HJ1.out; have := HK2.out; first | omega | exact Nat.le_refl _⟩, ⟨tv HO_4⟩, ⟨tb HB⟩⟩
          ·rw [if_neg c13] at H
           have c13b0 : decide ((bt a0 x20_2) < 48) = false := decide_eq_false c13; clear c13; have H' := Aside0.mk H; clear H; have p12 : 0 ≤ (x20_2 : Int) := td; have q12 : x20_2 < (a0.size : Int) := td; have hx12 := bt_at a0 x20_2; replace p12 := eq_true p12; replace q12 := eq_true q12; have p14 : 0 ≤ (x20_2 : Int) := td; have q14 : x20_2 < (a0.size : Int) := td; have hx14 := bt_at a0 x20_2; replace p14 := eq_true p14; replace q14 := eq_true q14
           go_wp2
           go_meet
           case rel => exact ⟨_, (decide ((bt a0 x20_2) > 57)), (by first | rfl | (simp; done) | (simp [*]; done)), H', ⟨by have := HJ1.out; have := HK2.out; first | omega | exact Nat.le_refl _⟩, ⟨tv HO_4⟩, ⟨tb HB⟩⟩
         ·rw [if_neg c11] at H
          exact absurd H (by simp)
        ·rw [if_neg c10] at H
         exact absurd H (by simp)
       case rest =>
        clear HC9; (try clear c1); (try clear p1); (try clear q1); (try clear hx1); (try clear p2); (try clear c3); (try clear c3b0); (try clear c3b1); (try clear c4); (try clear c4b0); (try clear c4b1); (try clear p5); (try clear q5); (try clear hx5); (try clear qi5); (try clear c6); (try clear c6b0); (try clear c6b1); (try clear c7); (try clear c8); (try clear c8b0); (try clear c10); (try clear c10b0); (try clear c11); (try clear c11b0); (try clear p12); (try clear q12); (try clear hx12); (try clear c13); (try clear c13b0); (try clear p14); (try clear q14); (try clear hx14); (try clear p12); (try clear p14); (try clear p2); (try clear p5); (try clear q12); (try clear q14); (try clear q5); obtain ⟨kq, x32_8, rfl, HA, HJ8, HO_4, HB⟩ := hcut
        cases kq with
        | zero => exact absurd HA.out (by simp [nat_Parse.j2])
        | succ kj8 =>
         have H := HA.out; clear HA; simp only [nat_Parse.j2] at H
         by_cases c15 : x32_8 = true
         ·subst c15
          have H1 : (some (([] : List Int), 6)) = some (r1, r2) := by rw [if_pos rfl] at H; exact H
          clear H; have H := H1; clear H1; simp only [Option.some.injEq, Prod.mk.injEq] at H; obtain ⟨rfl, rfl⟩ := H
          go_wp2
          go_ret2
          exact ⟨_, ee, Kd.V_nil _ _ _ _ _, tb HB⟩
         ·replace c15 := Bool.eq_false_iff.mpr c15
          subst c15
          have H1 : ((nat_Mul.f kj8 x4_2 (([10] : List Int))).bind fun t503 => (if 0 ≤ x20_2 then (if x20_2 < (a0.size : Int) then ((nat_Add.f kj8 t503 (([((bt a0 x20_2) - 48) % 256] : List Int))).bind fun t509 => (nat_Parse.l0 kj8 a0 t509 (a0.size : Int) (wrap64 (x20_2 + 1)))) else (none)) else (none))) = some (r1, r2) := by rw [if_neg (show ¬ (false = true) by decide)] at H; exact H
          clear H; have H := H1; clear H1; obtain ⟨y500, hy500⟩ : ∃ y_ : List Int, y_ = (([10] : List Int)) := ⟨_, rfl⟩; replace H : ((nat_Mul.f kj8 x4_2 y500).bind fun t503 => (if 0 ≤ x20_2 then (if x20_2 < (a0.size : Int) then ((nat_Add.f kj8 t503 (([((bt a0 x20_2) - 48) % 256] : List Int))).bind fun t509 => (nat_Parse.l0 kj8 a0 t509 (a0.size : Int) (wrap64 (x20_2 + 1)))) else (none)) else (none))) = some (r1, r2) := ti hy500 H; have Ny500 := Aside0.mk hy500; clear hy500; replace H := bi H; obtain ⟨t503, A160, H⟩ := H; have A16 := Aside0.mk A160; clear A160
          by_cases c17 : 0 ≤ x20_2
          ·rw [if_pos c17] at H
           have c17b0 : decide (0 ≤ x20_2) = true := decide_eq_true c17; clear c17
           by_cases c18 : x20_2 < (a0.size : Int)
           ·rw [if_pos c18] at H
            have c18b0 : decide (x20_2 < (a0.size : Int)) = true := decide_eq_true c18; clear c18; obtain ⟨y506, hy506⟩ : ∃ y_ : List Int, y_ = (([((bt a0 x20_2) - 48) % 256] : List Int)) := ⟨_, rfl⟩; replace H : ((nat_Add.f kj8 t503 y506).bind fun t509 => (nat_Parse.l0 kj8 a0 t509 (a0.size : Int) (wrap64 (x20_2 + 1)))) = some (r1, r2) := ti hy506 H; have Ny506 := Aside0.mk hy506; clear hy506; replace H := bi H; obtain ⟨t509, A200, H⟩ := H; have A20 := Aside0.mk A200; clear A200; have H' := Aside0.mk H; clear H; obtain ⟨Ao21, co21, eo21⟩ := Kd.V_slice HO_4.out; subst eo21
            try go_wp2
            replace HO_4 := Aside0.mk (Kd.V_drew HO_4.out); replace HB := Aside0.mk (below_drew1 HB.out); have p19 : 0 ≤ (x20_2 : Int) := td; have q19 : x20_2 < (a0.size : Int) := td; have hx19 := bt_at a0 x20_2; replace p19 := eq_true p19; replace q19 := eq_true q19; refine start_ (n := 11) (S := fun w' => True) (ds := []) #[false, false, false, false, false, false, false, false, false, false, false] (by kernel_rfl) rfl rfl trivial (fun hHeld => ?_); refine with_tabW nat_Parse.tab9 nat_Parse.bits9 (fun HT_ HW_ => ?_); generalize wc.drew = w22 at HO_4 HB hHeld ⊢; refine pT (i := 0) (N := some 33) (bb 11 1) HT_ ?_; refine pT (i := 3) (N := some 36) (bb 11 9) HT_ ?_; refine pT (i := 4) (N := some 37) (bb 11 25) HT_ ?_; refine tW (i := 5) (N := some 38) (bb 11 57) HT_ HW_ hHeld ?_; refine pT (i := 6) (N := some 39) (bb 11 121) HT_ ?_; refine pT (i := 7) (N := some 40) (bb 11 249) HT_ ?_; refine join_ (σ := Value × Value × Value) 2 (bb 11 511) (fun s_ => [(34, s_.1), (35, s_.2.1), (41, s_.2.2)]) (fun s_ w' => Aside0 (Kd.R (Kd.int .u32) 70 w' w.heap.size (fun k_ => (w.heap.size ≤ k_) ∧ some k_ ≠ (s_.2.2 : Value).ownBlock) s_.1 y500) ∧ Aside0 (Kd.V (Kd.int .u32) 70 w' w.heap.size (fun k_ => (w.heap.size ≤ k_) ∧ some k_ ≠ (s_.2.2 : Value).ownBlock) s_.2.1 t503) ∧ Aside0 (Kd.R (Kd.int .u32) 70 w' w.heap.size (fun k_ => (w.heap.size ≤ k_) ∧ some k_ ≠ (s_.1 : Value).ownBlock) s_.2.2 y506) ∧ Aside0 (Kd.V (Kd.int .u32) 70 w' w.heap.size (fun k_ => (w.heap.size ≤ k_) ∧ some k_ ≠ (s_.1 : Value).ownBlock ∧ some k_ ≠ (s_.2.2 : Value).ownBlock) (.slice Ao21 x4_2.length co21) x4_2) ∧ Aside0 (Below w.heap.size w w')) ?_ ?_
            ·skip
             clear HO_4 HB; rintro ⟨v501, v504, v507⟩ w29 ⟨_, HO505, HO508, _, HB⟩
             try dsimp only at HO505 HO508 HB
             have hHeld := trivial; obtain ⟨Ao30, co30, eo30⟩ := Kd.V_slice HO505.out; (first | subst eo30 | (injection eo30 with f1_ f2_ f3_; have f4_ := f1_.symm; have f5_ := f3_.symm; clear f1_ f2_ f3_; subst f4_; subst f5_)); obtain ⟨Ao31, co31, eo31⟩ := Kd.R_slice HO508.out; (first | subst eo31 | (injection eo31 with f1_ f2_ f3_; have f4_ := f1_.symm; have f5_ := f3_.symm; clear f1_ f2_ f3_; subst f4_; subst f5_)); refine nP ?_; refine oT (i := 9) (N := some 42) (bb 11 1023) HT_ fun K hK => ?_; refine gS Try.func51 #[.slice Ao30 t503.length co30, .slice Ao31 y506.length co31] ?_; (with_reducible refine (nat_Add.calls kj8 (fun k_ => ((w.heap.size ≤ k_) ∧ some k_ ≠ (.slice Ao31 y506.length co31 : Value).ownBlock)) _ _ t503 (fun k_ => some k_ = (.slice Ao31 y506.length co31 : Value).ownBlock) _ _ y506 t509 _ ?side1 ?side2 A20.out).mono ?_); (case side1 => exact HO505.out); (case side2 => exact Kd.R_V (Kd.R_tight rfl (HO508.out))); rintro e w32 ⟨v510, rfl, ho0, hb⟩; refine ⟨_, rfl, ?_⟩; have HO511 := Aside0.mk (Kd.V_lower (Kd.V_mono (ok' := fun k_ => (w.heap.size ≤ k_)) ho0 (fun k_ hk_ => Or.elim hk_ (fun hs_ => Or.elim hs_ (fun hs_ => hs_.1) (fun hs_ => ((HO508.out).1 k_ hs_.symm).1)) (fun hn_ => (Nat.le_trans (below_size (tb HB)) hn_)))) (below_size (tb HB))); replace HB := bs HB hb; (try clear hb); (try clear ho0); refine hK.out _ _ trivial fun hHeld => nT (N := some 42) ?_; clear hK K; refine pT (i := 10) (N := some 4) (bb 11 2047) HT_ ?_; refine done_ (done_of HT_.out (by kernel_rfl)) ?_
             try go_wp2
             go_roundg kj8
             case measure => have := HJ1.out; have := HK2.out; have := HJ8.out; omega
             case rel => exact ⟨(t509), (wrap64 (x20_2 + 1)), (by first | rfl | (simp; done) | (simp [*]; done)), H', ⟨by have := HJ1.out; have := HK2.out; have := HJ8.out; omega⟩, ⟨tv HO511⟩, ⟨tb HB⟩⟩
            intro hCont; refine two_ (i := 1) (j := 8) (Ni := some 34) (Nj := some 41) (bb 11 251) (bb 11 505) rfl rfl rfl rfl (two_of HT_.out (by kernel_rfl)) (by decide) (by decide) (fun K hK => ?_) (fun K hK => ?_)
            ·skip
             refine Kd.R_lit_step (Kd.int .u32) _ 70 ?hg (N := 34) ?hd (xs := ([10] : List Int)) (inner := [.int .u32 10]) (ok := fun _ => True) (okp := fun _ => True) ?hr ?hp (fun _ hk => hk) trivial (Below.refl _ _) (Nat.le_refl _) (by simp) ?_; (case hd => rfl); (case hg => rfl); (case hr => first | (go_simp; done) | (go_simp; rfl)); (case hp => exact (Reps.one (show Kd.M (Kd.int .u32) _ _ _ 10 [.int .u32 10] from rfl) (Reps.none _ _))); intro v501 w23 ho24 hb hg_ hnew_; clear hg_ hnew_; (first | rw [← Ny500.out] at ho24 | (simp only [Int.reduceToNat] at ho24; rw [← Ny500.out] at ho24)); have HO502 := rl (Kd.R_newM (M := fun k_ => (w.heap.size ≤ k_)) ho24 (below_size (tb HB)) (fun k_ h_ => h_)) HB; replace HO_4 := Aside0.mk (Kd.V_elder' (tv HO_4) (Kd.R_base ho24) hb); replace HB := bs HB hb; clear hb ho24; obtain ⟨Ao25, co25, eo25⟩ := Kd.R_slice HO502.out; (first | subst eo25 | (injection eo25 with f1_ f2_ f3_; have f4_ := f1_.symm; have f5_ := f3_.symm; clear f1_ f2_ f3_; subst f4_; subst f5_)); refine hK.out _ _ trivial fun hHeld => nT (N := some 34) ?_; clear hK K; refine two_ (i := 2) (j := 8) (Ni := some 35) (Nj := some 41) (bb 11 255) (bb 11 507) rfl rfl rfl rfl (two_of HT_.out (by kernel_rfl)) (by decide) (by decide) (fun K hK => ?_) (fun K hK => ?_)
             ·skip
              refine gS Try.func59 #[.slice Ao21 x4_2.length co21, .slice Ao25 y500.length co25] ?_; (with_reducible refine (nat_Mul.calls kj8 (fun k_ => ((w.heap.size ≤ k_) ∧ some k_ ≠ (.slice Ao25 y500.length co25 : Value).ownBlock)) _ _ x4_2 (fun k_ => some k_ = (.slice Ao25 y500.length co25 : Value).ownBlock) _ _ y500 t503 _ ?side1 ?side2 A16.out).mono ?_); (case side1 => exact HO_4.out); (case side2 => exact Kd.R_V (Kd.R_tight rfl (HO502.out))); rintro e w26 ⟨v504, rfl, ho0, hb⟩; refine ⟨_, rfl, ?_⟩; have HO505 := Aside0.mk (Kd.V_lower (Kd.V_mono (ok' := fun k_ => (w.heap.size ≤ k_)) ho0 (fun k_ hk_ => Or.elim hk_ (fun hs_ => Or.elim hs_ (fun hs_ => hs_.1) (fun hs_ => ((HO502.out).1 k_ hs_.symm).1)) (fun hn_ => (Nat.le_trans (below_size (tb HB)) hn_)))) (below_size (tb HB))); replace HO_4 := vb HO_4 hb; replace HO502 := rb HO502 hb; replace HB := bs HB hb; (try clear hb); (try clear ho0); refine hK.out _ _ trivial fun hHeld => nT (N := some 35) ?_; clear hK K; refine oT (i := 8) (N := some 41) (bb 11 511) HT_ fun K hK => ?_; refine Kd.R_lit_step (Kd.int .u32) _ 70 ?hg (N := 41) ?hd (xs := ([((bt a0 x20_2) - 48) % 256] : List Int)) (inner := [.int .u32 (((bt a0 x20_2) - 48) % 256)]) (ok := fun _ => True) (okp := fun _ => True) ?hr ?hp (fun _ hk => hk) trivial (Below.refl _ _) (Nat.le_refl _) (by simp) ?_; (case hd => rfl); (case hg => rfl); (case hr => first | (go_simp; done) | (go_simp; simp only [show ∀ z : Int, IntKind.u32.wrap (IntKind.u8.wrap z) = z % 256 from fun z => by simp only [IntKind.wrap_u32, IntKind.wrap_u8]; omega]; done) | (go_simp; rfl)); (case hp => exact (Reps.one (show Kd.M (Kd.int .u32) _ _ _ (((bt a0 x20_2) - 48) % 256) [.int .u32 (((bt a0 x20_2) - 48) % 256)] from rfl) (Reps.none _ _))); intro v507 w27 ho28 hb hg_ hnew_; clear hg_ hnew_; (first | rw [← Ny506.out] at ho28 | (simp only [Int.reduceToNat] at ho28; rw [← Ny506.out] at ho28)); have HO508 := rl (rn (Kd.R_newM (M := fun k_ => (w.heap.size ≤ k_)) ho28 (below_size (tb HB)) (fun k_ h_ => h_)) HO502) HB; replace HO_4 := Aside0.mk (Kd.V_elder' (tv HO_4) (Kd.R_base ho28) hb); replace HO502 := re HO502 (Kd.R_base ho28) hb; replace HO505 := Aside0.mk (Kd.V_elder' (tv HO505) (Kd.R_base ho28) hb); replace HB := bs HB hb; clear hb ho28; refine hK.out _ _ trivial fun hHeld => nT (N := some 41) ?_; clear hK K; exact nJ (hCont (.slice Ao25 y500.length co25, v504, v507) _ ⟨⟨tm HO502⟩, ⟨tv HO505⟩, ⟨tm HO508⟩, ⟨by (with_reducible repeat first | apply va | apply vn | apply vd); exact Kd.V_mono HO_4.out (fun _ hk => ⟨hk.1.1, ⟨hk.1.2, hk.2⟩⟩)⟩, ⟨tb HB⟩⟩)
             ·skip
              refine Kd.R_lit_step (Kd.int .u32) _ 70 ?hg (N := 41) ?hd (xs := ([((bt a0 x20_2) - 48) % 256] : List Int)) (inner := [.int .u32 (((bt a0 x20_2) - 48) % 256)]) (ok := fun _ => True) (okp := fun _ => True) ?hr ?hp (fun _ hk => hk) trivial (Below.refl _ _) (Nat.le_refl _) (by simp) ?_; (case hd => rfl); (case hg => rfl); (case hr => first | (go_simp; done) | (go_simp; simp only [show ∀ z : Int, IntKind.u32.wrap (IntKind.u8.wrap z) = z % 256 from fun z => by simp only [IntKind.wrap_u32, IntKind.wrap_u8]; omega]; done) | (go_simp; rfl)); (case hp => exact (Reps.one (show Kd.M (Kd.int .u32) _ _ _ (((bt a0 x20_2) - 48) % 256) [.int .u32 (((bt a0 x20_2) - 48) % 256)] from rfl) (Reps.none _ _))); intro v507 w25 ho26 hb hg_ hnew_; clear hg_ hnew_; (first | rw [← Ny506.out] at ho26 | (simp only [Int.reduceToNat] at ho26; rw [← Ny506.out] at ho26)); have HO508 := rl (rn (Kd.R_newM (M := fun k_ => (w.heap.size ≤ k_)) ho26 (below_size (tb HB)) (fun k_ h_ => h_)) HO502) HB; replace HO_4 := Aside0.mk (Kd.V_elder' (tv HO_4) (Kd.R_base ho26) hb); replace HO502 := re HO502 (Kd.R_base ho26) hb; replace HB := bs HB hb; clear hb ho26; obtain ⟨Ao27, co27, eo27⟩ := Kd.R_slice HO502.out; (first | subst eo27 | (injection eo27 with f1_ f2_ f3_; have f4_ := f1_.symm; have f5_ := f3_.symm; clear f1_ f2_ f3_; subst f4_; subst f5_)); refine hK.out _ _ trivial fun hHeld => nT (N := some 41) ?_; clear hK K; refine oT (i := 2) (N := some 35) (bb 11 511) HT_ fun K hK => ?_; refine gS Try.func59 #[.slice Ao21 x4_2.length co21, .slice Ao27 y500.length co27] ?_; (with_reducible refine (nat_Mul.calls kj8 (fun k_ => (((w.heap.size ≤ k_) ∧ some k_ ≠ (.slice Ao27 y500.length co27 : Value).ownBlock) ∧ some k_ ≠ (v507 : Value).ownBlock)) _ _ x4_2 (fun k_ => some k_ = (.slice Ao27 y500.length co27 : Value).ownBlock) _ _ y500 t503 _ ?side1 ?side2 A16.out).mono ?_); (case side1 => exact HO_4.out); (case side2 => exact Kd.R_V (Kd.R_tight rfl (HO502.out))); rintro e w28 ⟨v504, rfl, ho0, hb⟩; refine ⟨_, rfl, ?_⟩; have HO505 := Aside0.mk (Kd.V_lower (Kd.V_mono (ok' := fun k_ => (w.heap.size ≤ k_) ∧ some k_ ≠ (v507 : Value).ownBlock) ho0 (fun k_ hk_ => ⟨Or.elim hk_ (fun hs_ => Or.elim hs_ (fun hs_ => hs_.1.1) (fun hs_ => ((HO502.out).1 k_ hs_.symm).1.1)) (fun hn_ => (Nat.le_trans (below_size (tb HB)) hn_)), Or.elim hk_ (fun hs_ => Or.elim hs_ (fun hs_ => hs_.2) (fun hs_ => ((HO502.out).1 k_ hs_.symm).2)) (fun hn_ => (Kd.fresh' (Kd.R_lt (tq HO508)) k_ hn_))⟩)) (below_size (tb HB))); replace HO_4 := vb HO_4 hb; replace HO502 := rb HO502 hb; replace HO508 := rb HO508 hb; replace HB := bs HB hb; (try clear hb); (try clear ho0); refine hK.out _ _ trivial fun hHeld => nT (N := some 35) ?_; clear hK K; exact nJ (hCont (.slice Ao27 y500.length co27, v504, v507) _ ⟨⟨tm HO502⟩, ⟨tv HO505⟩, ⟨tm HO508⟩, ⟨by (with_reducible repeat first | apply va | apply vn | apply vd); exact Kd.V_mono HO_4.out (fun _ hk => ⟨hk.1.1, ⟨hk.1.2, hk.2⟩⟩)⟩, ⟨tb HB⟩⟩)
            ·skip
             refine Kd.R_lit_step (Kd.int .u32) _ 70 ?hg (N := 41) ?hd (xs := ([((bt a0 x20_2) - 48) % 256] : List Int)) (inner := [.int .u32 (((bt a0 x20_2) - 48) % 256)]) (ok := fun _ => True) (okp := fun _ => True) ?hr ?hp (fun _ hk => hk) trivial (Below.refl _ _) (Nat.le_refl _) (by simp) ?_; (case hd => rfl); (case hg => rfl); (case hr => first | (go_simp; done) | (go_simp; simp only [show ∀ z : Int, IntKind.u32.wrap (IntKind.u8.wrap z) = z % 256 from fun z => by simp only [IntKind.wrap_u32, IntKind.wrap_u8]; omega]; done) | (go_simp; rfl)); (case hp => exact (Reps.one (show Kd.M (Kd.int .u32) _ _ _ (((bt a0 x20_2) - 48) % 256) [.int .u32 (((bt a0 x20_2) - 48) % 256)] from rfl) (Reps.none _ _))); intro v507 w23 ho24 hb hg_ hnew_; clear hg_ hnew_; (first | rw [← Ny506.out] at ho24 | (simp only [Int.reduceToNat] at ho24; rw [← Ny506.out] at ho24)); have HO508 := rl (Kd.R_newM (M := fun k_ => (w.heap.size ≤ k_)) ho24 (below_size (tb HB)) (fun k_ h_ => h_)) HB; replace HO_4 := Aside0.mk (Kd.V_elder' (tv HO_4) (Kd.R_base ho24) hb); replace HB := bs HB hb; clear hb ho24; refine hK.out _ _ trivial fun hHeld => nT (N := some 41) ?_; clear hK K; refine oT (i := 1) (N := some 34) (bb 11 507) HT_ fun K hK => ?_; refine Kd.R_lit_step (Kd.int .u32) _ 70 ?hg (N := 34) ?hd (xs := ([10] : List Int)) (inner := [.int .u32 10]) (ok := fun _ => True) (okp := fun _ => True) ?hr ?hp (fun _ hk => hk) trivial (Below.refl _ _) (Nat.le_refl _) (by simp) ?_; (case hd => rfl); (case hg => rfl); (case hr => first | (go_simp; done) | (go_simp; rfl)); (case hp => exact (Reps.one (show Kd.M (Kd.int .u32) _ _ _ 10 [.int .u32 10] from rfl) (Reps.none _ _))); intro v501 w25 ho26 hb hg_ hnew_; clear hg_ hnew_; (first | rw [← Ny500.out] at ho26 | (simp only [Int.reduceToNat] at ho26; rw [← Ny500.out] at ho26)); have HO502 := rl (rn (Kd.R_newM (M := fun k_ => (w.heap.size ≤ k_)) ho26 (below_size (tb HB)) (fun k_ h_ => h_)) HO508) HB; replace HO_4 := Aside0.mk (Kd.V_elder' (tv HO_4) (Kd.R_base ho26) hb); replace HO508 := re HO508 (Kd.R_base ho26) hb; replace HB := bs HB hb; clear hb ho26; obtain ⟨Ao27, co27, eo27⟩ := Kd.R_slice HO502.out; (first | subst eo27 | (injection eo27 with f1_ f2_ f3_; have f4_ := f1_.symm; have f5_ := f3_.symm; clear f1_ f2_ f3_; subst f4_; subst f5_)); refine hK.out _ _ trivial fun hHeld => nT (N := some 34) ?_; clear hK K; refine oT (i := 2) (N := some 35) (bb 11 511) HT_ fun K hK => ?_; refine gS Try.func59 #[.slice Ao21 x4_2.length co21, .slice Ao27 y500.length co27] ?_; (with_reducible refine (nat_Mul.calls kj8 (fun k_ => (((w.heap.size ≤ k_) ∧ some k_ ≠ (v507 : Value).ownBlock) ∧ some k_ ≠ (.slice Ao27 y500.length co27 : Value).ownBlock)) _ _ x4_2 (fun k_ => some k_ = (.slice Ao27 y500.length co27 : Value).ownBlock) _ _ y500 t503 _ ?side1 ?side2 A16.out).mono ?_); (case side1 => exact HO_4.out); (case side2 => exact Kd.R_V (Kd.R_tight rfl (HO502.out))); rintro e w28 ⟨v504, rfl, ho0, hb⟩; refine ⟨_, rfl, ?_⟩; have HO505 := Aside0.mk (Kd.V_lower (Kd.V_mono (ok' := fun k_ => (w.heap.size ≤ k_) ∧ some k_ ≠ (v507 : Value).ownBlock) ho0 (fun k_ hk_ => ⟨Or.elim hk_ (fun hs_ => Or.elim hs_ (fun hs_ => hs_.1.1) (fun hs_ => ((HO502.out).1 k_ hs_.symm).1.1)) (fun hn_ => (Nat.le_trans (below_size (tb HB)) hn_)), Or.elim hk_ (fun hs_ => Or.elim hs_ (fun hs_ => hs_.1.2) (fun hs_ => ((HO502.out).1 k_ hs_.symm).2)) (fun hn_ => (Kd.fresh' (Kd.R_lt (tq HO508)) k_ hn_))⟩)) (below_size (tb HB))); replace HO_4 := vb HO_4 hb; replace HO508 := rb HO508 hb; replace HO502 := rb HO502 hb; replace HB := bs HB hb; (try clear hb); (try clear ho0); refine hK.out _ _ trivial fun hHeld => nT (N := some 35) ?_; clear hK K; exact nJ (hCont (.slice Ao27 y500.length co27, v504, v507) _ ⟨⟨tm HO502⟩, ⟨tv HO505⟩, ⟨tm HO508⟩, ⟨by (with_reducible repeat first | apply va | apply vn | apply vd); exact Kd.V_mono HO_4.out (fun _ hk => ⟨hk.1.1, ⟨hk.2, hk.1.2⟩⟩)⟩, ⟨tb HB⟩⟩)
           ·rw [if_neg c18] at H
            exact absurd H (by simp)
          ·rw [if_neg c17] at H
           exact absurd H (by simp)
      ·rw [if_neg c8] at H
       have c8b0 : decide (x20_2 < (a0.size : Int)) = false := decide_eq_false c8; clear c8; simp only [Option.some.injEq, Prod.mk.injEq] at H; obtain ⟨rfl, rfl⟩ := H
       go_wp2
       go_ret2
       exact ⟨_, ee, tv HO_4, tb HB⟩

end Go.Proofs.Ytkbefeadmchmbaa.QBigQuotients
