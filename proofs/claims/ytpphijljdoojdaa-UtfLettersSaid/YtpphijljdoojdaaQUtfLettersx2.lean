-- written by wip/wprint, a program of this session
import Derived.Test.YtpphijljdoojdaaQUtfLettersx0
namespace Go.Proofs.Ytpphijljdoojdaa.QUtfLetters
open Go.RowKit Go.Proofs.YtpphijljdoojdaaW.PrintWords Go.Proofs.YtpphijljdoojdaaW.PrintLast Go.Proofs.YtpphijljdoojdaaW.PrintMore
attribute [local go_sem] max2_int min2_int max_two min_two max_three min_three max_four min_four   -- for this text's walks alone
set_option linter.unusedVariables false
set_option linter.unusedSimpArgs false

/-! ### utf_more: function 29 -/
def utf_more.f (l0 : List Int) (a1 : Int) : Option (Bool) := if a1 < (l0.length : Int) then (if 0 ≤ a1 then (some ((Go.bits .and .u8 (rd l0 a1) 192) == 128)) else (none)) else (some false)
set_option maxHeartbeats 8000000 in
set_option maxRecDepth 100000 in
theorem utf_more.calls (A0 : Option Addr) (c0 : Nat) (l0 : List Int) (a1 : Int) (r : Bool) (w : World) (hr0 : Kd.C (Kd.int .u8) w A0 l0.length l0) (hc0 : l0.length ≤ c0) (h : utf_more.f l0 a1 = some r) :
    Calls Try.prog 29 #[.slice A0 l0.length c0, .int .i64 a1] w fun e w' => e = .returned (.bool r) ∧ Drawn0 w w' := by
  have HR0 := Aside0.mk hr0
  have HC0 := Aside0.mk hc0
  clear hr0 hc0
  have H : (if a1 < (l0.length : Int) then (if 0 ≤ a1 then (some ((Go.bits .and .u8 (rd l0 a1) 192) == 128)) else (none)) else (some false)) = some r := h
  clear h
  by_cases c3 : a1 < (l0.length : Int)
  · rw [if_pos c3] at H
    have c3b0 : decide (a1 < (l0.length : Int)) = true := decide_eq_true c3
    clear c3
    by_cases c4 : 0 ≤ a1
    · rw [if_pos c4] at H
      have c4b0 : decide (0 ≤ a1) = true := decide_eq_true c4
      clear c4
      obtain rfl := Option.some.inj H
      have p101 : 0 ≤ (a1 : Int) := of_decide_eq_true (by first | (with_reducible assumption) | assumption)
      have q101 : a1 < (l0.length : Int) := of_decide_eq_true (by first | (with_reducible assumption) | assumption)
      obtain ⟨ad101, e101, hx101_0⟩ := Kd.at_int HR0.out a1 p101 q101
      cases e101
      replace p101 := eq_true p101
      replace q101 := eq_true q101
      go_enter Try.func29, Try.ntmps29
      go_wp2
      go_ret
      exact ⟨by first | rfl | (simp; done) | (simp [*]; done), by repeat (first | exact Drawn0.refl _ | apply Drawn0.step)⟩
    · rw [if_neg c4] at H
      exact absurd H (by simp)
  · rw [if_neg c3] at H
    have c3b0 : decide (a1 < (l0.length : Int)) = false := decide_eq_false c3
    clear c3
    obtain rfl := Option.some.inj H
    go_enter Try.func29, Try.ntmps29
    go_wp2
    go_ret
    exact ⟨by first | rfl | (simp; done) | (simp [*]; done), by repeat (first | exact Drawn0.refl _ | apply Drawn0.step)⟩

/-! ### utf_letter: function 23 -/
mutual
def utf_letter.j0 : Nat → List Int → Int → Int → Bool → Option (Int × Int)
  | 0, _, _, _, _ => none
  | k + 1, x0, x1, x6, x18 => if x18 = true then (if 0 ≤ (wrap64 (x1 + 1)) then (if (wrap64 (x1 + 1)) < (x0.length : Int) then (some (Go.bits .or .i32 (wrap32 ((Go.bits .and .i32 x6 31) * 64)) (wrap32 (Go.bits .and .u8 (rd x0 (wrap64 (x1 + 1))) 63)), 2)) else (none)) else (none)) else (if x6 ≥ 224 then (if x6 ≤ 239 then ((utf_more.f x0 (wrap64 (x1 + 1))).bind fun t105 => (if t105 = true then ((utf_more.f x0 (wrap64 (x1 + 2))).bind fun t106 => (utf_letter.j1 k x0 x1 x6 t106)) else (utf_letter.j1 k x0 x1 x6 false))) else (utf_letter.j1 k x0 x1 x6 false)) else (utf_letter.j1 k x0 x1 x6 false))
def utf_letter.j1 : Nat → List Int → Int → Int → Bool → Option (Int × Int)
  | 0, _, _, _, _ => none
  | k + 1, x0, x1, x6, x42 => if x42 = true then (if 0 ≤ (wrap64 (x1 + 1)) then (if (wrap64 (x1 + 1)) < (x0.length : Int) then (if 0 ≤ (wrap64 (x1 + 2)) then (if (wrap64 (x1 + 2)) < (x0.length : Int) then (if (Go.bits .or .i32 (Go.bits .or .i32 (wrap32 ((Go.bits .and .i32 x6 15) * 4096)) (wrap32 ((wrap32 (Go.bits .and .u8 (rd x0 (wrap64 (x1 + 1))) 63)) * 64))) (wrap32 (Go.bits .and .u8 (rd x0 (wrap64 (x1 + 2))) 63))) ≥ 2048 then (if (Go.bits .or .i32 (Go.bits .or .i32 (wrap32 ((Go.bits .and .i32 x6 15) * 4096)) (wrap32 ((wrap32 (Go.bits .and .u8 (rd x0 (wrap64 (x1 + 1))) 63)) * 64))) (wrap32 (Go.bits .and .u8 (rd x0 (wrap64 (x1 + 2))) 63))) < 55296 then (some (Go.bits .or .i32 (Go.bits .or .i32 (wrap32 ((Go.bits .and .i32 x6 15) * 4096)) (wrap32 ((wrap32 (Go.bits .and .u8 (rd x0 (wrap64 (x1 + 1))) 63)) * 64))) (wrap32 (Go.bits .and .u8 (rd x0 (wrap64 (x1 + 2))) 63)), 3)) else (if (Go.bits .or .i32 (Go.bits .or .i32 (wrap32 ((Go.bits .and .i32 x6 15) * 4096)) (wrap32 ((wrap32 (Go.bits .and .u8 (rd x0 (wrap64 (x1 + 1))) 63)) * 64))) (wrap32 (Go.bits .and .u8 (rd x0 (wrap64 (x1 + 2))) 63))) > 57343 then (some (Go.bits .or .i32 (Go.bits .or .i32 (wrap32 ((Go.bits .and .i32 x6 15) * 4096)) (wrap32 ((wrap32 (Go.bits .and .u8 (rd x0 (wrap64 (x1 + 1))) 63)) * 64))) (wrap32 (Go.bits .and .u8 (rd x0 (wrap64 (x1 + 2))) 63)), 3)) else (some (0, 0)))) else (some (0, 0))) else (none)) else (none)) else (none)) else (none)) else (if x6 ≥ 240 then (if x6 ≤ 244 then ((utf_more.f x0 (wrap64 (x1 + 1))).bind fun t109 => (if t109 = true then ((utf_more.f x0 (wrap64 (x1 + 2))).bind fun t110 => (if t110 = true then ((utf_more.f x0 (wrap64 (x1 + 3))).bind fun t111 => (utf_letter.j2 k x0 x1 x6 t111)) else (utf_letter.j2 k x0 x1 x6 false))) else (utf_letter.j2 k x0 x1 x6 false))) else (utf_letter.j2 k x0 x1 x6 false)) else (utf_letter.j2 k x0 x1 x6 false))
def utf_letter.j2 : Nat → List Int → Int → Int → Bool → Option (Int × Int)
  | 0, _, _, _, _ => none
  | k + 1, x0, x1, x6, x92 => if x92 = true then (if 0 ≤ (wrap64 (x1 + 1)) then (if (wrap64 (x1 + 1)) < (x0.length : Int) then (if 0 ≤ (wrap64 (x1 + 2)) then (if (wrap64 (x1 + 2)) < (x0.length : Int) then (if 0 ≤ (wrap64 (x1 + 3)) then (if (wrap64 (x1 + 3)) < (x0.length : Int) then (if (Go.bits .or .i32 (Go.bits .or .i32 (Go.bits .or .i32 (wrap32 ((Go.bits .and .i32 x6 7) * 262144)) (wrap32 ((wrap32 (Go.bits .and .u8 (rd x0 (wrap64 (x1 + 1))) 63)) * 4096))) (wrap32 ((wrap32 (Go.bits .and .u8 (rd x0 (wrap64 (x1 + 2))) 63)) * 64))) (wrap32 (Go.bits .and .u8 (rd x0 (wrap64 (x1 + 3))) 63))) ≥ 65536 then (if (Go.bits .or .i32 (Go.bits .or .i32 (Go.bits .or .i32 (wrap32 ((Go.bits .and .i32 x6 7) * 262144)) (wrap32 ((wrap32 (Go.bits .and .u8 (rd x0 (wrap64 (x1 + 1))) 63)) * 4096))) (wrap32 ((wrap32 (Go.bits .and .u8 (rd x0 (wrap64 (x1 + 2))) 63)) * 64))) (wrap32 (Go.bits .and .u8 (rd x0 (wrap64 (x1 + 3))) 63))) ≤ 1114111 then (some (Go.bits .or .i32 (Go.bits .or .i32 (Go.bits .or .i32 (wrap32 ((Go.bits .and .i32 x6 7) * 262144)) (wrap32 ((wrap32 (Go.bits .and .u8 (rd x0 (wrap64 (x1 + 1))) 63)) * 4096))) (wrap32 ((wrap32 (Go.bits .and .u8 (rd x0 (wrap64 (x1 + 2))) 63)) * 64))) (wrap32 (Go.bits .and .u8 (rd x0 (wrap64 (x1 + 3))) 63)), 4)) else (some (0, 0))) else (some (0, 0))) else (none)) else (none)) else (none)) else (none)) else (none)) else (none)) else (some (0, 0))
end
def utf_letter.f (k : Nat) (l0 : List Int) (a1 : Int) : Option (Int × Int) := if 0 ≤ a1 then (if a1 < (l0.length : Int) then (if (wrap32 (rd l0 a1)) < 128 then (some (wrap32 (rd l0 a1), 1)) else (if (wrap32 (rd l0 a1)) ≥ 194 then (if (wrap32 (rd l0 a1)) ≤ 223 then ((utf_more.f l0 (wrap64 (a1 + 1))).bind fun t103 => (utf_letter.j0 k l0 a1 (wrap32 (rd l0 a1)) t103)) else (utf_letter.j0 k l0 a1 (wrap32 (rd l0 a1)) false)) else (utf_letter.j0 k l0 a1 (wrap32 (rd l0 a1)) false))) else (none)) else (none)
theorem utf_letter.mono_l : ∀ k, (∀ y0 y1 y2 y3, LeO (utf_letter.j0 k y0 y1 y2 y3) (utf_letter.j0 (k + 1) y0 y1 y2 y3)) ∧ (∀ y0 y1 y2 y3, LeO (utf_letter.j1 k y0 y1 y2 y3) (utf_letter.j1 (k + 1) y0 y1 y2 y3)) ∧ (∀ y0 y1 y2 y3, LeO (utf_letter.j2 k y0 y1 y2 y3) (utf_letter.j2 (k + 1) y0 y1 y2 y3))
  | 0 => ⟨fun _ _ _ _ r h => by simp [utf_letter.j0] at h, fun _ _ _ _ r h => by simp [utf_letter.j1] at h, fun _ _ _ _ r h => by simp [utf_letter.j2] at h⟩
  | k + 1 => by
    obtain ⟨ih0, ih1, ih2⟩ := utf_letter.mono_l k
    refine ⟨?_, ?_, ?_⟩
    · intro y0 y1 y2 y3
      unfold utf_letter.j0
      repeat' first
      | (with_reducible exact ih0 _ _ _ _)
      | (with_reducible exact ih1 _ _ _ _)
      | (with_reducible exact ih2 _ _ _ _)
      | (with_reducible exact LeO.refl _)
      | (with_reducible exact LeO.none _)
      | (with_reducible refine LeO.ite ?_ ?_)
      | (with_reducible refine LeO.bind ?_ (fun _ => ?_))
      | exact ih0 _ _ _ _
      | exact ih1 _ _ _ _
      | exact ih2 _ _ _ _
      | exact LeO.none _
      | refine LeO.ite ?_ ?_
      | refine LeO.bind ?_ (fun _ => ?_)
    · intro y0 y1 y2 y3
      unfold utf_letter.j1
      repeat' first
      | (with_reducible exact ih0 _ _ _ _)
      | (with_reducible exact ih1 _ _ _ _)
      | (with_reducible exact ih2 _ _ _ _)
      | (with_reducible exact LeO.refl _)
      | (with_reducible exact LeO.none _)
      | (with_reducible refine LeO.ite ?_ ?_)
      | (with_reducible refine LeO.bind ?_ (fun _ => ?_))
      | exact ih0 _ _ _ _
      | exact ih1 _ _ _ _
      | exact ih2 _ _ _ _
      | exact LeO.none _
      | refine LeO.ite ?_ ?_
      | refine LeO.bind ?_ (fun _ => ?_)
    · intro y0 y1 y2 y3
      unfold utf_letter.j2
      repeat' first
      | (with_reducible exact ih0 _ _ _ _)
      | (with_reducible exact ih1 _ _ _ _)
      | (with_reducible exact ih2 _ _ _ _)
      | (with_reducible exact LeO.refl _)
      | (with_reducible exact LeO.none _)
      | (with_reducible refine LeO.ite ?_ ?_)
      | (with_reducible refine LeO.bind ?_ (fun _ => ?_))
      | exact ih0 _ _ _ _
      | exact ih1 _ _ _ _
      | exact ih2 _ _ _ _
      | exact LeO.none _
      | refine LeO.ite ?_ ?_
      | refine LeO.bind ?_ (fun _ => ?_)
theorem utf_letter.mono : ∀ a0 a1 k, LeO (utf_letter.f k a0 a1) (utf_letter.f (k + 1) a0 a1) := by
  intro a0 a1 k
  obtain ⟨ih0, ih1, ih2⟩ := utf_letter.mono_l k
  unfold utf_letter.f
  repeat' first
      | (with_reducible exact ih0 _ _ _ _)
      | (with_reducible exact ih1 _ _ _ _)
      | (with_reducible exact ih2 _ _ _ _)
      | (with_reducible exact LeO.refl _)
      | (with_reducible exact LeO.none _)
      | (with_reducible refine LeO.ite ?_ ?_)
      | (with_reducible refine LeO.bind ?_ (fun _ => ?_))
      | exact ih0 _ _ _ _
      | exact ih1 _ _ _ _
      | exact ih2 _ _ _ _
      | exact LeO.none _
      | refine LeO.ite ?_ ?_
      | refine LeO.bind ?_ (fun _ => ?_)
set_option maxHeartbeats 8000000 in
set_option maxRecDepth 100000 in
theorem utf_letter.calls (k : Nat) (A0 : Option Addr) (c0 : Nat) (l0 : List Int) (a1 : Int) (r1 : Int) (r2 : Int) (w : World) (hr0 : Kd.C (Kd.int .u8) w A0 l0.length l0) (hc0 : l0.length ≤ c0) (h : utf_letter.f k l0 a1 = some (r1, r2)) :
    Calls Try.prog 23 #[.slice A0 l0.length c0, .int .i64 a1] w fun e w' => e = .returned (.tuple #[.int .i32 r1, .int .i64 r2]) ∧ Drawn0 w w' := by
  have HR0 := Aside0.mk hr0
  have HC0 := Aside0.mk hc0
  clear hr0 hc0
  have H : (if 0 ≤ a1 then (if a1 < (l0.length : Int) then (if (wrap32 (rd l0 a1)) < 128 then (some (wrap32 (rd l0 a1), 1)) else (if (wrap32 (rd l0 a1)) ≥ 194 then (if (wrap32 (rd l0 a1)) ≤ 223 then ((utf_more.f l0 (wrap64 (a1 + 1))).bind fun t103 => (utf_letter.j0 k l0 a1 (wrap32 (rd l0 a1)) t103)) else (utf_letter.j0 k l0 a1 (wrap32 (rd l0 a1)) false)) else (utf_letter.j0 k l0 a1 (wrap32 (rd l0 a1)) false))) else (none)) else (none)) = some (r1, r2) := h
  clear h
  by_cases c3 : 0 ≤ a1
  · rw [if_pos c3] at H
    have c3b0 : decide (0 ≤ a1) = true := decide_eq_true c3
    clear c3
    by_cases c4 : a1 < (l0.length : Int)
    · rw [if_pos c4] at H
      have c4b0 : decide (a1 < (l0.length : Int)) = true := decide_eq_true c4
      clear c4
      by_cases c5 : (wrap32 (rd l0 a1)) < 128
      · rw [if_pos c5] at H
        have c5b0 : decide ((wrap32 (rd l0 a1)) < 128) = true := decide_eq_true c5
        clear c5
        simp only [Option.some.injEq, Prod.mk.injEq] at H
        obtain ⟨rfl, rfl⟩ := H
        have p102 : 0 ≤ (a1 : Int) := of_decide_eq_true (by first | (with_reducible assumption) | assumption)
        have q102 : a1 < (l0.length : Int) := of_decide_eq_true (by first | (with_reducible assumption) | assumption)
        obtain ⟨ad102, e102, hx102_0⟩ := Kd.at_int HR0.out a1 p102 q102
        cases e102
        replace p102 := eq_true p102
        replace q102 := eq_true q102
        go_enter Try.func23, Try.ntmps23
        go_wp2
        repeat (go_quiet (fail); try go_wp2)
        go_ret2
        exact ⟨by first | rfl | (simp; done) | (simp [*]; done), by repeat (first | exact Drawn0.refl _ | apply Drawn0.step)⟩
      · rw [if_neg c5] at H
        have c5b0 : decide ((wrap32 (rd l0 a1)) < 128) = false := decide_eq_false c5
        clear c5
        have HC6 := Aside0.mk H
        clear H
        have p102 : 0 ≤ (a1 : Int) := of_decide_eq_true (by first | (with_reducible assumption) | assumption)
        have q102 : a1 < (l0.length : Int) := of_decide_eq_true (by first | (with_reducible assumption) | assumption)
        obtain ⟨ad102, e102, hx102_0⟩ := Kd.at_int HR0.out a1 p102 q102
        cases e102
        replace p102 := eq_true p102
        replace q102 := eq_true q102
        go_enter Try.func23, Try.ntmps23
        go_upto_region 4 with (fail)
        repeat (go_quiet (fail); go_upto_region 4 with (fail))
        go_cut [18] from 1 to 0 (fun v18 wc => ∃ (kq : Nat) (x18_5 : Bool), v18 = .bool x18_5 ∧ Aside0 (utf_letter.j0 kq l0 a1 (wrap32 (rd l0 a1)) x18_5 = some (r1, r2)) ∧ Aside0 (kq ≤ k) ∧ Drawn0 w wc)
        case first =>
          have H := HC6.out
          clear HC6
          by_cases c7 : (wrap32 (rd l0 a1)) ≥ 194
          · rw [if_pos c7] at H
            have c7b0 : decide (194 ≤ (wrap32 (rd l0 a1))) = true := decide_eq_true c7
            clear c7
            (first | rw [c7b0] | rw [c7b1] | (simp only [i64_w, i32_w]; rw [c7b0]) | skip)
            by_cases c8 : (wrap32 (rd l0 a1)) ≤ 223
            · rw [if_pos c8] at H
              have c8b0 : decide ((wrap32 (rd l0 a1)) ≤ 223) = true := decide_eq_true c8
              clear c8
              replace H := Option.bind_eq_some_iff.mp H
              obtain ⟨t103, A90, H⟩ := H
              replace H : (utf_letter.j0 k l0 a1 (wrap32 (rd l0 a1)) t103) = some (r1, r2) := H
              have A9 := Aside0.mk A90
              clear A90
              have H' := Aside0.mk H
              clear H
              go_wp2_with (first | (go_at_call 29; (with_reducible refine (utf_more.calls _ _ l0 (wrap64 (a1 + 1)) t103 _ ?side1 ?side2 A9.out).mono ?_); (case side1 => repeat (first | exact HR0.out | (with_reducible refine Kd.C_alloc ?_ _) | (with_reducible refine Kd.C_drewN ?_ _) | (with_reducible refine Kd.C_drew ?_))); (case side2 => exact HC0.out); rintro e w' ⟨rfl, ⟨nd, rfl⟩⟩; (try first | exact ⟨rfl, _, World.drewN_drewN _ _ _⟩ | exact ⟨rfl, _, Eq.trans (World.drewN_drewN _ _ _) (congrArg (World.drewN _) (Nat.add_assoc _ _ _))⟩)))
              repeat (go_quiet (first | (go_at_call 29; (with_reducible refine (utf_more.calls _ _ l0 (wrap64 (a1 + 1)) t103 _ ?side1 ?side2 A9.out).mono ?_); (case side1 => repeat (first | exact HR0.out | (with_reducible refine Kd.C_alloc ?_ _) | (with_reducible refine Kd.C_drewN ?_ _) | (with_reducible refine Kd.C_drew ?_))); (case side2 => exact HC0.out); rintro e w' ⟨rfl, ⟨nd, rfl⟩⟩; (try first | exact ⟨rfl, _, World.drewN_drewN _ _ _⟩ | exact ⟨rfl, _, Eq.trans (World.drewN_drewN _ _ _) (congrArg (World.drewN _) (Nat.add_assoc _ _ _))⟩))); try go_wp2_with (first | (go_at_call 29; (with_reducible refine (utf_more.calls _ _ l0 (wrap64 (a1 + 1)) t103 _ ?side1 ?side2 A9.out).mono ?_); (case side1 => repeat (first | exact HR0.out | (with_reducible refine Kd.C_alloc ?_ _) | (with_reducible refine Kd.C_drewN ?_ _) | (with_reducible refine Kd.C_drew ?_))); (case side2 => exact HC0.out); rintro e w' ⟨rfl, ⟨nd, rfl⟩⟩; (try first | exact ⟨rfl, _, World.drewN_drewN _ _ _⟩ | exact ⟨rfl, _, Eq.trans (World.drewN_drewN _ _ _) (congrArg (World.drewN _) (Nat.add_assoc _ _ _))⟩))))
              go_meet
              case rel => exact ⟨_, (t103), (by first | rfl | (simp; done) | (simp [*]; done)), H', ⟨by first | omega | exact Nat.le_refl _⟩, by repeat (first | exact Drawn0.refl _ | apply Drawn0.step)⟩
            · rw [if_neg c8] at H
              have c8b0 : decide ((wrap32 (rd l0 a1)) ≤ 223) = false := decide_eq_false c8
              clear c8
              have H' := Aside0.mk H
              clear H
              go_wp2
              repeat (go_quiet (fail); try go_wp2)
              go_meet
              case rel => exact ⟨_, (false), (by first | rfl | (simp; done) | (simp [*]; done)), H', ⟨by first | omega | exact Nat.le_refl _⟩, by repeat (first | exact Drawn0.refl _ | apply Drawn0.step)⟩
          · rw [if_neg c7] at H
            have c7b0 : decide (194 ≤ (wrap32 (rd l0 a1))) = false := decide_eq_false c7
            clear c7
            (first | rw [c7b0] | rw [c7b1] | (simp only [i64_w, i32_w]; rw [c7b0]) | skip)
            have H' := Aside0.mk H
            clear H
            go_wp2
            repeat (go_quiet (fail); try go_wp2)
            go_meet
            case rel => exact ⟨_, (false), (by first | rfl | (simp; done) | (simp [*]; done)), H', ⟨by first | omega | exact Nat.le_refl _⟩, by repeat (first | exact Drawn0.refl _ | apply Drawn0.step)⟩
        case rest =>
          clear HC6
          try clear p1
          try clear q1
          try clear hx1
          try clear c2
          try clear p2
          try clear c3
          try clear c3b0
          try clear p3
          try clear c4
          try clear c4b0
          try clear c5
          try clear c5b0
          try clear p6
          try clear c7
          try clear c7b0
          try clear c8
          try clear c8b0
          try clear hx102_0
          try clear p102
          try clear q102
          obtain ⟨kq, x18_5, rfl, HA, HJ5, ⟨mc5, rfl⟩⟩ := hcut
          cases kq with
          | zero => exact absurd HA.out (by simp [utf_letter.j0])
          | succ kj5 =>
            have H := HA.out
            clear HA
            simp only [utf_letter.j0] at H
            by_cases c10 : x18_5 = true
            · subst c10
              have H1 : (if 0 ≤ (wrap64 (a1 + 1)) then (if (wrap64 (a1 + 1)) < (l0.length : Int) then (some (Go.bits .or .i32 (wrap32 ((Go.bits .and .i32 (wrap32 (rd l0 a1)) 31) * 64)) (wrap32 (Go.bits .and .u8 (rd l0 (wrap64 (a1 + 1))) 63)), 2)) else (none)) else (none)) = some (r1, r2) := by rw [if_pos rfl] at H; exact H
              clear H
              have H := H1
              clear H1
              obtain ⟨ji11, hji11⟩ : ∃ j_ : Int, (wrap64 (a1 + 1)) = j_ := ⟨_, rfl⟩
              replace H : (if 0 ≤ (ji11) then (if (ji11) < (l0.length : Int) then (some (Go.bits .or .i32 (wrap32 ((Go.bits .and .i32 (wrap32 (rd l0 a1)) 31) * 64)) (wrap32 (Go.bits .and .u8 (rd l0 (ji11)) 63)), 2)) else (none)) else (none)) = some (r1, r2) := by first | (rw [hji11] at H; exact H) | (simp only [hji11] at H ⊢; exact H)
              have hji11w : (IntKind.i64.wrap (a1 + 1)) = ji11 := (i64_w _).trans hji11
              by_cases c12 : 0 ≤ (ji11)
              · rw [if_pos c12] at H
                have c12b0 : decide (0 ≤ (ji11)) = true := decide_eq_true c12
                clear c12
                by_cases c13 : (ji11) < (l0.length : Int)
                · rw [if_pos c13] at H
                  have c13b0 : decide ((ji11) < (l0.length : Int)) = true := decide_eq_true c13
                  clear c13
                  simp only [Option.some.injEq, Prod.mk.injEq] at H
                  obtain ⟨rfl, rfl⟩ := H
                  have p104 : 0 ≤ ((ji11) : Int) := of_decide_eq_true (by first | (with_reducible assumption) | assumption)
                  have q104 : (ji11) < (l0.length : Int) := of_decide_eq_true (by first | (with_reducible assumption) | assumption)
                  obtain ⟨ad104, e104, hx104_0⟩ := Kd.at_int HR0.out (ji11) p104 q104
                  obtain rfl : ad102 = ad104 := (by injection e104)
                  replace p104 := eq_true p104
                  replace q104 := eq_true q104
                  go_wp2
                  repeat (go_quiet (fail); try go_wp2)
                  go_ret2
                  exact ⟨by first | rfl | (simp; done) | (simp only [← hji11] <;> (first | rfl | simp)) | (simp [*]; done), by repeat (first | exact Drawn0.refl _ | apply Drawn0.step)⟩
                · rw [if_neg c13] at H
                  exact absurd H (by simp)
              · rw [if_neg c12] at H
                exact absurd H (by simp)
            · replace c10 := Bool.eq_false_iff.mpr c10
              subst c10
              have H1 : (if (wrap32 (rd l0 a1)) ≥ 224 then (if (wrap32 (rd l0 a1)) ≤ 239 then ((utf_more.f l0 (wrap64 (a1 + 1))).bind fun t105 => (if t105 = true then ((utf_more.f l0 (wrap64 (a1 + 2))).bind fun t106 => (utf_letter.j1 kj5 l0 a1 (wrap32 (rd l0 a1)) t106)) else (utf_letter.j1 kj5 l0 a1 (wrap32 (rd l0 a1)) false))) else (utf_letter.j1 kj5 l0 a1 (wrap32 (rd l0 a1)) false)) else (utf_letter.j1 kj5 l0 a1 (wrap32 (rd l0 a1)) false)) = some (r1, r2) := by rw [if_neg (show ¬ (false = true) by decide)] at H; exact H
              clear H
              have H := H1
              clear H1
              have HC14 := Aside0.mk H
              clear H
              go_upto_region 6 with (fail)
              repeat (go_quiet (fail); go_upto_region 6 with (fail))
              go_cut [42] from 1 to 0 (fun v42 wc => ∃ (kq : Nat) (x42_13 : Bool), v42 = .bool x42_13 ∧ Aside0 (utf_letter.j1 kq l0 a1 (wrap32 (rd l0 a1)) x42_13 = some (r1, r2)) ∧ Aside0 (kq ≤ kj5) ∧ Drawn0 w wc)
              case first =>
                have H := HC14.out
                clear HC14
                by_cases c15 : (wrap32 (rd l0 a1)) ≥ 224
                · rw [if_pos c15] at H
                  have c15b0 : decide (224 ≤ (wrap32 (rd l0 a1))) = true := decide_eq_true c15
                  clear c15
                  (first | rw [c15b0] | rw [c15b1] | (simp only [i64_w, i32_w]; rw [c15b0]) | skip)
                  by_cases c16 : (wrap32 (rd l0 a1)) ≤ 239
                  · rw [if_pos c16] at H
                    have c16b0 : decide ((wrap32 (rd l0 a1)) ≤ 239) = true := decide_eq_true c16
                    clear c16
                    replace H := Option.bind_eq_some_iff.mp H
                    obtain ⟨t105, A170, H⟩ := H
                    replace H : (if t105 = true then ((utf_more.f l0 (wrap64 (a1 + 2))).bind fun t106 => (utf_letter.j1 kj5 l0 a1 (wrap32 (rd l0 a1)) t106)) else (utf_letter.j1 kj5 l0 a1 (wrap32 (rd l0 a1)) false)) = some (r1, r2) := H
                    have A17 := Aside0.mk A170
                    clear A170
                    by_cases c18 : t105 = true
                    · subst c18
                      have H1 : ((utf_more.f l0 (wrap64 (a1 + 2))).bind fun t106 => (utf_letter.j1 kj5 l0 a1 (wrap32 (rd l0 a1)) t106)) = some (r1, r2) := by rw [if_pos rfl] at H; exact H
                      clear H
                      have H := H1
                      clear H1
                      replace H := Option.bind_eq_some_iff.mp H
                      obtain ⟨t106, A190, H⟩ := H
                      replace H : (utf_letter.j1 kj5 l0 a1 (wrap32 (rd l0 a1)) t106) = some (r1, r2) := H
                      have A19 := Aside0.mk A190
                      clear A190
                      have H' := Aside0.mk H
                      clear H
                      go_wp2_with (first | (go_at_call 29; (with_reducible refine (utf_more.calls _ _ l0 (wrap64 (a1 + 1)) true _ ?side1 ?side2 A17.out).mono ?_); (case side1 => repeat (first | exact HR0.out | (with_reducible refine Kd.C_alloc ?_ _) | (with_reducible refine Kd.C_drewN ?_ _) | (with_reducible refine Kd.C_drew ?_))); (case side2 => exact HC0.out); rintro e w' ⟨rfl, ⟨nd, rfl⟩⟩; (try first | exact ⟨rfl, _, World.drewN_drewN _ _ _⟩ | exact ⟨rfl, _, Eq.trans (World.drewN_drewN _ _ _) (congrArg (World.drewN _) (Nat.add_assoc _ _ _))⟩)) | (go_at_call 29; (with_reducible refine (utf_more.calls _ _ l0 (wrap64 (a1 + 2)) t106 _ ?side1 ?side2 A19.out).mono ?_); (case side1 => repeat (first | exact HR0.out | (with_reducible refine Kd.C_alloc ?_ _) | (with_reducible refine Kd.C_drewN ?_ _) | (with_reducible refine Kd.C_drew ?_))); (case side2 => exact HC0.out); rintro e w' ⟨rfl, ⟨nd, rfl⟩⟩; (try first | exact ⟨rfl, _, World.drewN_drewN _ _ _⟩ | exact ⟨rfl, _, Eq.trans (World.drewN_drewN _ _ _) (congrArg (World.drewN _) (Nat.add_assoc _ _ _))⟩)))
                      repeat (go_quiet (first | (go_at_call 29; (with_reducible refine (utf_more.calls _ _ l0 (wrap64 (a1 + 1)) true _ ?side1 ?side2 A17.out).mono ?_); (case side1 => repeat (first | exact HR0.out | (with_reducible refine Kd.C_alloc ?_ _) | (with_reducible refine Kd.C_drewN ?_ _) | (with_reducible refine Kd.C_drew ?_))); (case side2 => exact HC0.out); rintro e w' ⟨rfl, ⟨nd, rfl⟩⟩; (try first | exact ⟨rfl, _, World.drewN_drewN _ _ _⟩ | exact ⟨rfl, _, Eq.trans (World.drewN_drewN _ _ _) (congrArg (World.drewN _) (Nat.add_assoc _ _ _))⟩)) | (go_at_call 29; (with_reducible refine (utf_more.calls _ _ l0 (wrap64 (a1 + 2)) t106 _ ?side1 ?side2 A19.out).mono ?_); (case side1 => repeat (first | exact HR0.out | (with_reducible refine Kd.C_alloc ?_ _) | (with_reducible refine Kd.C_drewN ?_ _) | (with_reducible refine Kd.C_drew ?_))); (case side2 => exact HC0.out); rintro e w' ⟨rfl, ⟨nd, rfl⟩⟩; (try first | exact ⟨rfl, _, World.drewN_drewN _ _ _⟩ | exact ⟨rfl, _, Eq.trans (World.drewN_drewN _ _ _) (congrArg (World.drewN _) (Nat.add_assoc _ _ _))⟩))); try go_wp2_with (first | (go_at_call 29; (with_reducible refine (utf_more.calls _ _ l0 (wrap64 (a1 + 1)) true _ ?side1 ?side2 A17.out).mono ?_); (case side1 => repeat (first | exact HR0.out | (with_reducible refine Kd.C_alloc ?_ _) | (with_reducible refine Kd.C_drewN ?_ _) | (with_reducible refine Kd.C_drew ?_))); (case side2 => exact HC0.out); rintro e w' ⟨rfl, ⟨nd, rfl⟩⟩; (try first | exact ⟨rfl, _, World.drewN_drewN _ _ _⟩ | exact ⟨rfl, _, Eq.trans (World.drewN_drewN _ _ _) (congrArg (World.drewN _) (Nat.add_assoc _ _ _))⟩)) | (go_at_call 29; (with_reducible refine (utf_more.calls _ _ l0 (wrap64 (a1 + 2)) t106 _ ?side1 ?side2 A19.out).mono ?_); (case side1 => repeat (first | exact HR0.out | (with_reducible refine Kd.C_alloc ?_ _) | (with_reducible refine Kd.C_drewN ?_ _) | (with_reducible refine Kd.C_drew ?_))); (case side2 => exact HC0.out); rintro e w' ⟨rfl, ⟨nd, rfl⟩⟩; (try first | exact ⟨rfl, _, World.drewN_drewN _ _ _⟩ | exact ⟨rfl, _, Eq.trans (World.drewN_drewN _ _ _) (congrArg (World.drewN _) (Nat.add_assoc _ _ _))⟩))))
                      go_meet
                      case rel => exact ⟨_, (t106), (by first | rfl | (simp; done) | (simp [*]; done)), H', ⟨by have := HJ5.out; first | omega | exact Nat.le_refl _⟩, by repeat (first | exact Drawn0.refl _ | apply Drawn0.step)⟩
                    · replace c18 := Bool.eq_false_iff.mpr c18
                      subst c18
                      have H1 : (utf_letter.j1 kj5 l0 a1 (wrap32 (rd l0 a1)) false) = some (r1, r2) := by rw [if_neg (show ¬ (false = true) by decide)] at H; exact H
                      clear H
                      have H := H1
                      clear H1
                      have H' := Aside0.mk H
                      clear H
                      go_wp2_with (first | (go_at_call 29; (with_reducible refine (utf_more.calls _ _ l0 (wrap64 (a1 + 1)) false _ ?side1 ?side2 A17.out).mono ?_); (case side1 => repeat (first | exact HR0.out | (with_reducible refine Kd.C_alloc ?_ _) | (with_reducible refine Kd.C_drewN ?_ _) | (with_reducible refine Kd.C_drew ?_))); (case side2 => exact HC0.out); rintro e w' ⟨rfl, ⟨nd, rfl⟩⟩; (try first | exact ⟨rfl, _, World.drewN_drewN _ _ _⟩ | exact ⟨rfl, _, Eq.trans (World.drewN_drewN _ _ _) (congrArg (World.drewN _) (Nat.add_assoc _ _ _))⟩)))
                      repeat (go_quiet (first | (go_at_call 29; (with_reducible refine (utf_more.calls _ _ l0 (wrap64 (a1 + 1)) false _ ?side1 ?side2 A17.out).mono ?_); (case side1 => repeat (first | exact HR0.out | (with_reducible refine Kd.C_alloc ?_ _) | (with_reducible refine Kd.C_drewN ?_ _) | (with_reducible refine Kd.C_drew ?_))); (case side2 => exact HC0.out); rintro e w' ⟨rfl, ⟨nd, rfl⟩⟩; (try first | exact ⟨rfl, _, World.drewN_drewN _ _ _⟩ | exact ⟨rfl, _, Eq.trans (World.drewN_drewN _ _ _) (congrArg (World.drewN _) (Nat.add_assoc _ _ _))⟩))); try go_wp2_with (first | (go_at_call 29; (with_reducible refine (utf_more.calls _ _ l0 (wrap64 (a1 + 1)) false _ ?side1 ?side2 A17.out).mono ?_); (case side1 => repeat (first | exact HR0.out | (with_reducible refine Kd.C_alloc ?_ _) | (with_reducible refine Kd.C_drewN ?_ _) | (with_reducible refine Kd.C_drew ?_))); (case side2 => exact HC0.out); rintro e w' ⟨rfl, ⟨nd, rfl⟩⟩; (try first | exact ⟨rfl, _, World.drewN_drewN _ _ _⟩ | exact ⟨rfl, _, Eq.trans (World.drewN_drewN _ _ _) (congrArg (World.drewN _) (Nat.add_assoc _ _ _))⟩))))
                      go_meet
                      case rel => exact ⟨_, (false), (by first | rfl | (simp; done) | (simp [*]; done)), H', ⟨by have := HJ5.out; first | omega | exact Nat.le_refl _⟩, by repeat (first | exact Drawn0.refl _ | apply Drawn0.step)⟩
                  · rw [if_neg c16] at H
                    have c16b0 : decide ((wrap32 (rd l0 a1)) ≤ 239) = false := decide_eq_false c16
                    clear c16
                    have H' := Aside0.mk H
                    clear H
                    go_wp2
                    repeat (go_quiet (fail); try go_wp2)
                    go_meet
                    case rel => exact ⟨_, (false), (by first | rfl | (simp; done) | (simp [*]; done)), H', ⟨by have := HJ5.out; first | omega | exact Nat.le_refl _⟩, by repeat (first | exact Drawn0.refl _ | apply Drawn0.step)⟩
                · rw [if_neg c15] at H
                  have c15b0 : decide (224 ≤ (wrap32 (rd l0 a1))) = false := decide_eq_false c15
                  clear c15
                  (first | rw [c15b0] | rw [c15b1] | (simp only [i64_w, i32_w]; rw [c15b0]) | skip)
                  have H' := Aside0.mk H
                  clear H
                  go_wp2
                  repeat (go_quiet (fail); try go_wp2)
                  go_meet
                  case rel => exact ⟨_, (false), (by first | rfl | (simp; done) | (simp [*]; done)), H', ⟨by have := HJ5.out; first | omega | exact Nat.le_refl _⟩, by repeat (first | exact Drawn0.refl _ | apply Drawn0.step)⟩
              case rest =>
                clear HC14
                try clear c1
                try clear p1
                try clear q1
                try clear hx1
                try clear c2
                try clear p2
                try clear c3
                try clear c3b0
                try clear p3
                try clear c4
                try clear c4b0
                try clear c5
                try clear c5b0
                try clear p6
                try clear c7
                try clear c7b0
                try clear c8
                try clear c8b0
                try clear c10
                try clear p10
                try clear q10
                try clear hx10
                try clear c12
                try clear c12b0
                try clear c13
                try clear c13b0
                try clear c15
                try clear c15b0
                try clear c16
                try clear c16b0
                try clear c18
                try clear hx102_0
                try clear hx104_0
                try clear p1
                try clear p102
                try clear p104
                try clear p2
                try clear p3
                try clear p6
                try clear q1
                try clear q102
                try clear q104
                obtain ⟨kq, x42_13, rfl, HA, HJ13, ⟨mc13, rfl⟩⟩ := hcut
                cases kq with
                | zero => exact absurd HA.out (by simp [utf_letter.j1])
                | succ kj13 =>
                  have H := HA.out
                  clear HA
                  simp only [utf_letter.j1] at H
                  by_cases c20 : x42_13 = true
                  · subst c20
                    have H1 : (if 0 ≤ (wrap64 (a1 + 1)) then (if (wrap64 (a1 + 1)) < (l0.length : Int) then (if 0 ≤ (wrap64 (a1 + 2)) then (if (wrap64 (a1 + 2)) < (l0.length : Int) then (if (Go.bits .or .i32 (Go.bits .or .i32 (wrap32 ((Go.bits .and .i32 (wrap32 (rd l0 a1)) 15) * 4096)) (wrap32 ((wrap32 (Go.bits .and .u8 (rd l0 (wrap64 (a1 + 1))) 63)) * 64))) (wrap32 (Go.bits .and .u8 (rd l0 (wrap64 (a1 + 2))) 63))) ≥ 2048 then (if (Go.bits .or .i32 (Go.bits .or .i32 (wrap32 ((Go.bits .and .i32 (wrap32 (rd l0 a1)) 15) * 4096)) (wrap32 ((wrap32 (Go.bits .and .u8 (rd l0 (wrap64 (a1 + 1))) 63)) * 64))) (wrap32 (Go.bits .and .u8 (rd l0 (wrap64 (a1 + 2))) 63))) < 55296 then (some (Go.bits .or .i32 (Go.bits .or .i32 (wrap32 ((Go.bits .and .i32 (wrap32 (rd l0 a1)) 15) * 4096)) (wrap32 ((wrap32 (Go.bits .and .u8 (rd l0 (wrap64 (a1 + 1))) 63)) * 64))) (wrap32 (Go.bits .and .u8 (rd l0 (wrap64 (a1 + 2))) 63)), 3)) else (if (Go.bits .or .i32 (Go.bits .or .i32 (wrap32 ((Go.bits .and .i32 (wrap32 (rd l0 a1)) 15) * 4096)) (wrap32 ((wrap32 (Go.bits .and .u8 (rd l0 (wrap64 (a1 + 1))) 63)) * 64))) (wrap32 (Go.bits .and .u8 (rd l0 (wrap64 (a1 + 2))) 63))) > 57343 then (some (Go.bits .or .i32 (Go.bits .or .i32 (wrap32 ((Go.bits .and .i32 (wrap32 (rd l0 a1)) 15) * 4096)) (wrap32 ((wrap32 (Go.bits .and .u8 (rd l0 (wrap64 (a1 + 1))) 63)) * 64))) (wrap32 (Go.bits .and .u8 (rd l0 (wrap64 (a1 + 2))) 63)), 3)) else (some (0, 0)))) else (some (0, 0))) else (none)) else (none)) else (none)) else (none)) = some (r1, r2) := by rw [if_pos rfl] at H; exact H
                    clear H
                    have H := H1
                    clear H1
                    obtain ⟨ji21, hji21⟩ : ∃ j_ : Int, (wrap64 (a1 + 1)) = j_ := ⟨_, rfl⟩
                    replace H : (if 0 ≤ (ji21) then (if (ji21) < (l0.length : Int) then (if 0 ≤ (wrap64 (a1 + 2)) then (if (wrap64 (a1 + 2)) < (l0.length : Int) then (if (Go.bits .or .i32 (Go.bits .or .i32 (wrap32 ((Go.bits .and .i32 (wrap32 (rd l0 a1)) 15) * 4096)) (wrap32 ((wrap32 (Go.bits .and .u8 (rd l0 (ji21)) 63)) * 64))) (wrap32 (Go.bits .and .u8 (rd l0 (wrap64 (a1 + 2))) 63))) ≥ 2048 then (if (Go.bits .or .i32 (Go.bits .or .i32 (wrap32 ((Go.bits .and .i32 (wrap32 (rd l0 a1)) 15) * 4096)) (wrap32 ((wrap32 (Go.bits .and .u8 (rd l0 (ji21)) 63)) * 64))) (wrap32 (Go.bits .and .u8 (rd l0 (wrap64 (a1 + 2))) 63))) < 55296 then (some (Go.bits .or .i32 (Go.bits .or .i32 (wrap32 ((Go.bits .and .i32 (wrap32 (rd l0 a1)) 15) * 4096)) (wrap32 ((wrap32 (Go.bits .and .u8 (rd l0 (ji21)) 63)) * 64))) (wrap32 (Go.bits .and .u8 (rd l0 (wrap64 (a1 + 2))) 63)), 3)) else (if (Go.bits .or .i32 (Go.bits .or .i32 (wrap32 ((Go.bits .and .i32 (wrap32 (rd l0 a1)) 15) * 4096)) (wrap32 ((wrap32 (Go.bits .and .u8 (rd l0 (ji21)) 63)) * 64))) (wrap32 (Go.bits .and .u8 (rd l0 (wrap64 (a1 + 2))) 63))) > 57343 then (some (Go.bits .or .i32 (Go.bits .or .i32 (wrap32 ((Go.bits .and .i32 (wrap32 (rd l0 a1)) 15) * 4096)) (wrap32 ((wrap32 (Go.bits .and .u8 (rd l0 (ji21)) 63)) * 64))) (wrap32 (Go.bits .and .u8 (rd l0 (wrap64 (a1 + 2))) 63)), 3)) else (some (0, 0)))) else (some (0, 0))) else (none)) else (none)) else (none)) else (none)) = some (r1, r2) := by first | (rw [hji21] at H; exact H) | (simp only [hji21] at H ⊢; exact H)
                    have hji21w : (IntKind.i64.wrap (a1 + 1)) = ji21 := (i64_w _).trans hji21
                    by_cases c22 : 0 ≤ (ji21)
                    · rw [if_pos c22] at H
                      have c22b0 : decide (0 ≤ (ji21)) = true := decide_eq_true c22
                      clear c22
                      by_cases c23 : (ji21) < (l0.length : Int)
                      · rw [if_pos c23] at H
                        have c23b0 : decide ((ji21) < (l0.length : Int)) = true := decide_eq_true c23
                        clear c23
                        obtain ⟨ji24, hji24⟩ : ∃ j_ : Int, (wrap64 (a1 + 2)) = j_ := ⟨_, rfl⟩
                        replace H : (if 0 ≤ (ji24) then (if (ji24) < (l0.length : Int) then (if (Go.bits .or .i32 (Go.bits .or .i32 (wrap32 ((Go.bits .and .i32 (wrap32 (rd l0 a1)) 15) * 4096)) (wrap32 ((wrap32 (Go.bits .and .u8 (rd l0 (ji21)) 63)) * 64))) (wrap32 (Go.bits .and .u8 (rd l0 (ji24)) 63))) ≥ 2048 then (if (Go.bits .or .i32 (Go.bits .or .i32 (wrap32 ((Go.bits .and .i32 (wrap32 (rd l0 a1)) 15) * 4096)) (wrap32 ((wrap32 (Go.bits .and .u8 (rd l0 (ji21)) 63)) * 64))) (wrap32 (Go.bits .and .u8 (rd l0 (ji24)) 63))) < 55296 then (some (Go.bits .or .i32 (Go.bits .or .i32 (wrap32 ((Go.bits .and .i32 (wrap32 (rd l0 a1)) 15) * 4096)) (wrap32 ((wrap32 (Go.bits .and .u8 (rd l0 (ji21)) 63)) * 64))) (wrap32 (Go.bits .and .u8 (rd l0 (ji24)) 63)), 3)) else (if (Go.bits .or .i32 (Go.bits .or .i32 (wrap32 ((Go.bits .and .i32 (wrap32 (rd l0 a1)) 15) * 4096)) (wrap32 ((wrap32 (Go.bits .and .u8 (rd l0 (ji21)) 63)) * 64))) (wrap32 (Go.bits .and .u8 (rd l0 (ji24)) 63))) > 57343 then (some (Go.bits .or .i32 (Go.bits .or .i32 (wrap32 ((Go.bits .and .i32 (wrap32 (rd l0 a1)) 15) * 4096)) (wrap32 ((wrap32 (Go.bits .and .u8 (rd l0 (ji21)) 63)) * 64))) (wrap32 (Go.bits .and .u8 (rd l0 (ji24)) 63)), 3)) else (some (0, 0)))) else (some (0, 0))) else (none)) else (none)) = some (r1, r2) := by first | (rw [hji24] at H; exact H) | (simp only [hji24] at H ⊢; exact H)
                        have hji24w : (IntKind.i64.wrap (a1 + 2)) = ji24 := (i64_w _).trans hji24
                        by_cases c25 : 0 ≤ (ji24)
                        · rw [if_pos c25] at H
                          have c25b0 : decide (0 ≤ (ji24)) = true := decide_eq_true c25
                          clear c25
                          by_cases c26 : (ji24) < (l0.length : Int)
                          · rw [if_pos c26] at H
                            have c26b0 : decide ((ji24) < (l0.length : Int)) = true := decide_eq_true c26
                            clear c26
                            by_cases c27 : (Go.bits .or .i32 (Go.bits .or .i32 (wrap32 ((Go.bits .and .i32 (wrap32 (rd l0 a1)) 15) * 4096)) (wrap32 ((wrap32 (Go.bits .and .u8 (rd l0 (ji21)) 63)) * 64))) (wrap32 (Go.bits .and .u8 (rd l0 (ji24)) 63))) ≥ 2048
                            · rw [if_pos c27] at H
                              have c27b0 : decide (2048 ≤ (Go.bits .or .i32 (Go.bits .or .i32 (wrap32 ((Go.bits .and .i32 (wrap32 (rd l0 a1)) 15) * 4096)) (wrap32 ((wrap32 (Go.bits .and .u8 (rd l0 (ji21)) 63)) * 64))) (wrap32 (Go.bits .and .u8 (rd l0 (ji24)) 63)))) = true := decide_eq_true c27
                              clear c27
                              by_cases c28 : (Go.bits .or .i32 (Go.bits .or .i32 (wrap32 ((Go.bits .and .i32 (wrap32 (rd l0 a1)) 15) * 4096)) (wrap32 ((wrap32 (Go.bits .and .u8 (rd l0 (ji21)) 63)) * 64))) (wrap32 (Go.bits .and .u8 (rd l0 (ji24)) 63))) < 55296
                              · rw [if_pos c28] at H
                                have c28b0 : decide ((Go.bits .or .i32 (Go.bits .or .i32 (wrap32 ((Go.bits .and .i32 (wrap32 (rd l0 a1)) 15) * 4096)) (wrap32 ((wrap32 (Go.bits .and .u8 (rd l0 (ji21)) 63)) * 64))) (wrap32 (Go.bits .and .u8 (rd l0 (ji24)) 63))) < 55296) = true := decide_eq_true c28
                                clear c28
                                simp only [Option.some.injEq, Prod.mk.injEq] at H
                                obtain ⟨rfl, rfl⟩ := H
                                have p107 : 0 ≤ ((ji21) : Int) := of_decide_eq_true (by first | (with_reducible assumption) | assumption)
                                have q107 : (ji21) < (l0.length : Int) := of_decide_eq_true (by first | (with_reducible assumption) | assumption)
                                obtain ⟨ad107, e107, hx107_0⟩ := Kd.at_int HR0.out (ji21) p107 q107
                                obtain rfl : ad102 = ad107 := (by injection e107)
                                replace p107 := eq_true p107
                                replace q107 := eq_true q107
                                have p108 : 0 ≤ ((ji24) : Int) := of_decide_eq_true (by first | (with_reducible assumption) | assumption)
                                have q108 : (ji24) < (l0.length : Int) := of_decide_eq_true (by first | (with_reducible assumption) | assumption)
                                obtain ⟨ad108, e108, hx108_0⟩ := Kd.at_int HR0.out (ji24) p108 q108
                                obtain rfl : ad102 = ad108 := (by injection e108)
                                replace p108 := eq_true p108
                                replace q108 := eq_true q108
                                go_wp2
                                repeat (go_quiet (fail); try go_wp2)
                                go_ret2
                                exact ⟨by first | rfl | (simp; done) | (simp only [← hji21, ← hji24] <;> (first | rfl | simp)) | (simp [*]; done), by repeat (first | exact Drawn0.refl _ | apply Drawn0.step)⟩
                              · rw [if_neg c28] at H
                                have c28b0 : decide ((Go.bits .or .i32 (Go.bits .or .i32 (wrap32 ((Go.bits .and .i32 (wrap32 (rd l0 a1)) 15) * 4096)) (wrap32 ((wrap32 (Go.bits .and .u8 (rd l0 (ji21)) 63)) * 64))) (wrap32 (Go.bits .and .u8 (rd l0 (ji24)) 63))) < 55296) = false := decide_eq_false c28
                                clear c28
                                by_cases c29 : (Go.bits .or .i32 (Go.bits .or .i32 (wrap32 ((Go.bits .and .i32 (wrap32 (rd l0 a1)) 15) * 4096)) (wrap32 ((wrap32 (Go.bits .and .u8 (rd l0 (ji21)) 63)) * 64))) (wrap32 (Go.bits .and .u8 (rd l0 (ji24)) 63))) > 57343
                                · rw [if_pos c29] at H
                                  have c29b0 : decide (57343 < (Go.bits .or .i32 (Go.bits .or .i32 (wrap32 ((Go.bits .and .i32 (wrap32 (rd l0 a1)) 15) * 4096)) (wrap32 ((wrap32 (Go.bits .and .u8 (rd l0 (ji21)) 63)) * 64))) (wrap32 (Go.bits .and .u8 (rd l0 (ji24)) 63)))) = true := decide_eq_true c29
                                  clear c29
                                  simp only [Option.some.injEq, Prod.mk.injEq] at H
                                  obtain ⟨rfl, rfl⟩ := H
                                  have p107 : 0 ≤ ((ji21) : Int) := of_decide_eq_true (by first | (with_reducible assumption) | assumption)
                                  have q107 : (ji21) < (l0.length : Int) := of_decide_eq_true (by first | (with_reducible assumption) | assumption)
                                  obtain ⟨ad107, e107, hx107_0⟩ := Kd.at_int HR0.out (ji21) p107 q107
                                  obtain rfl : ad102 = ad107 := (by injection e107)
                                  replace p107 := eq_true p107
                                  replace q107 := eq_true q107
                                  have p108 : 0 ≤ ((ji24) : Int) := of_decide_eq_true (by first | (with_reducible assumption) | assumption)
                                  have q108 : (ji24) < (l0.length : Int) := of_decide_eq_true (by first | (with_reducible assumption) | assumption)
                                  obtain ⟨ad108, e108, hx108_0⟩ := Kd.at_int HR0.out (ji24) p108 q108
                                  obtain rfl : ad102 = ad108 := (by injection e108)
                                  replace p108 := eq_true p108
                                  replace q108 := eq_true q108
                                  go_wp2
                                  repeat (go_quiet (fail); try go_wp2)
                                  go_ret2
                                  exact ⟨by first | rfl | (simp; done) | (simp only [← hji21, ← hji24] <;> (first | rfl | simp)) | (simp [*]; done), by repeat (first | exact Drawn0.refl _ | apply Drawn0.step)⟩
                                · rw [if_neg c29] at H
                                  have c29b0 : decide (57343 < (Go.bits .or .i32 (Go.bits .or .i32 (wrap32 ((Go.bits .and .i32 (wrap32 (rd l0 a1)) 15) * 4096)) (wrap32 ((wrap32 (Go.bits .and .u8 (rd l0 (ji21)) 63)) * 64))) (wrap32 (Go.bits .and .u8 (rd l0 (ji24)) 63)))) = false := decide_eq_false c29
                                  clear c29
                                  simp only [Option.some.injEq, Prod.mk.injEq] at H
                                  obtain ⟨rfl, rfl⟩ := H
                                  have p107 : 0 ≤ ((ji21) : Int) := of_decide_eq_true (by first | (with_reducible assumption) | assumption)
                                  have q107 : (ji21) < (l0.length : Int) := of_decide_eq_true (by first | (with_reducible assumption) | assumption)
                                  obtain ⟨ad107, e107, hx107_0⟩ := Kd.at_int HR0.out (ji21) p107 q107
                                  obtain rfl : ad102 = ad107 := (by injection e107)
                                  replace p107 := eq_true p107
                                  replace q107 := eq_true q107
                                  have p108 : 0 ≤ ((ji24) : Int) := of_decide_eq_true (by first | (with_reducible assumption) | assumption)
                                  have q108 : (ji24) < (l0.length : Int) := of_decide_eq_true (by first | (with_reducible assumption) | assumption)
                                  obtain ⟨ad108, e108, hx108_0⟩ := Kd.at_int HR0.out (ji24) p108 q108
                                  obtain rfl : ad102 = ad108 := (by injection e108)
                                  replace p108 := eq_true p108
                                  replace q108 := eq_true q108
                                  go_wp2
                                  repeat (go_quiet (fail); try go_wp2)
                                  go_ret2
                                  exact ⟨by first | rfl | (simp; done) | (simp only [← hji21, ← hji24] <;> (first | rfl | simp)) | (simp [*]; done), by repeat (first | exact Drawn0.refl _ | apply Drawn0.step)⟩
                            · rw [if_neg c27] at H
                              have c27b0 : decide (2048 ≤ (Go.bits .or .i32 (Go.bits .or .i32 (wrap32 ((Go.bits .and .i32 (wrap32 (rd l0 a1)) 15) * 4096)) (wrap32 ((wrap32 (Go.bits .and .u8 (rd l0 (ji21)) 63)) * 64))) (wrap32 (Go.bits .and .u8 (rd l0 (ji24)) 63)))) = false := decide_eq_false c27
                              clear c27
                              simp only [Option.some.injEq, Prod.mk.injEq] at H
                              obtain ⟨rfl, rfl⟩ := H
                              have p107 : 0 ≤ ((ji21) : Int) := of_decide_eq_true (by first | (with_reducible assumption) | assumption)
                              have q107 : (ji21) < (l0.length : Int) := of_decide_eq_true (by first | (with_reducible assumption) | assumption)
                              obtain ⟨ad107, e107, hx107_0⟩ := Kd.at_int HR0.out (ji21) p107 q107
                              obtain rfl : ad102 = ad107 := (by injection e107)
                              replace p107 := eq_true p107
                              replace q107 := eq_true q107
                              have p108 : 0 ≤ ((ji24) : Int) := of_decide_eq_true (by first | (with_reducible assumption) | assumption)
                              have q108 : (ji24) < (l0.length : Int) := of_decide_eq_true (by first | (with_reducible assumption) | assumption)
                              obtain ⟨ad108, e108, hx108_0⟩ := Kd.at_int HR0.out (ji24) p108 q108
                              obtain rfl : ad102 = ad108 := (by injection e108)
                              replace p108 := eq_true p108
                              replace q108 := eq_true q108
                              go_wp2
                              repeat (go_quiet (fail); try go_wp2)
                              go_ret2
                              exact ⟨by first | rfl | (simp; done) | (simp only [← hji21, ← hji24] <;> (first | rfl | simp)) | (simp [*]; done), by repeat (first | exact Drawn0.refl _ | apply Drawn0.step)⟩
                          · rw [if_neg c26] at H
                            exact absurd H (by simp)
                        · rw [if_neg c25] at H
                          exact absurd H (by simp)
                      · rw [if_neg c23] at H
                        exact absurd H (by simp)
                    · rw [if_neg c22] at H
                      exact absurd H (by simp)
                  · replace c20 := Bool.eq_false_iff.mpr c20
                    subst c20
                    have H1 : (if (wrap32 (rd l0 a1)) ≥ 240 then (if (wrap32 (rd l0 a1)) ≤ 244 then ((utf_more.f l0 (wrap64 (a1 + 1))).bind fun t109 => (if t109 = true then ((utf_more.f l0 (wrap64 (a1 + 2))).bind fun t110 => (if t110 = true then ((utf_more.f l0 (wrap64 (a1 + 3))).bind fun t111 => (utf_letter.j2 kj13 l0 a1 (wrap32 (rd l0 a1)) t111)) else (utf_letter.j2 kj13 l0 a1 (wrap32 (rd l0 a1)) false))) else (utf_letter.j2 kj13 l0 a1 (wrap32 (rd l0 a1)) false))) else (utf_letter.j2 kj13 l0 a1 (wrap32 (rd l0 a1)) false)) else (utf_letter.j2 kj13 l0 a1 (wrap32 (rd l0 a1)) false)) = some (r1, r2) := by rw [if_neg (show ¬ (false = true) by decide)] at H; exact H
                    clear H
                    have H := H1
                    clear H1
                    have HC30 := Aside0.mk H
                    clear H
                    go_upto_region 10 with (fail)
                    repeat (go_quiet (fail); go_upto_region 10 with (fail))
                    go_cut [92] from 1 to 0 (fun v92 wc => ∃ (kq : Nat) (x92_29 : Bool), v92 = .bool x92_29 ∧ Aside0 (utf_letter.j2 kq l0 a1 (wrap32 (rd l0 a1)) x92_29 = some (r1, r2)) ∧ Aside0 (kq ≤ kj13) ∧ Drawn0 w wc)
                    case first =>
                      have H := HC30.out
                      clear HC30
                      by_cases c31 : (wrap32 (rd l0 a1)) ≥ 240
                      · rw [if_pos c31] at H
                        have c31b0 : decide (240 ≤ (wrap32 (rd l0 a1))) = true := decide_eq_true c31
                        clear c31
                        (first | rw [c31b0] | rw [c31b1] | (simp only [i64_w, i32_w]; rw [c31b0]) | skip)
                        by_cases c32 : (wrap32 (rd l0 a1)) ≤ 244
                        · rw [if_pos c32] at H
                          have c32b0 : decide ((wrap32 (rd l0 a1)) ≤ 244) = true := decide_eq_true c32
                          clear c32
                          replace H := Option.bind_eq_some_iff.mp H
                          obtain ⟨t109, A330, H⟩ := H
                          replace H : (if t109 = true then ((utf_more.f l0 (wrap64 (a1 + 2))).bind fun t110 => (if t110 = true then ((utf_more.f l0 (wrap64 (a1 + 3))).bind fun t111 => (utf_letter.j2 kj13 l0 a1 (wrap32 (rd l0 a1)) t111)) else (utf_letter.j2 kj13 l0 a1 (wrap32 (rd l0 a1)) false))) else (utf_letter.j2 kj13 l0 a1 (wrap32 (rd l0 a1)) false)) = some (r1, r2) := H
                          have A33 := Aside0.mk A330
                          clear A330
                          by_cases c34 : t109 = true
                          · subst c34
                            have H1 : ((utf_more.f l0 (wrap64 (a1 + 2))).bind fun t110 => (if t110 = true then ((utf_more.f l0 (wrap64 (a1 + 3))).bind fun t111 => (utf_letter.j2 kj13 l0 a1 (wrap32 (rd l0 a1)) t111)) else (utf_letter.j2 kj13 l0 a1 (wrap32 (rd l0 a1)) false))) = some (r1, r2) := by rw [if_pos rfl] at H; exact H
                            clear H
                            have H := H1
                            clear H1
                            replace H := Option.bind_eq_some_iff.mp H
                            obtain ⟨t110, A350, H⟩ := H
                            replace H : (if t110 = true then ((utf_more.f l0 (wrap64 (a1 + 3))).bind fun t111 => (utf_letter.j2 kj13 l0 a1 (wrap32 (rd l0 a1)) t111)) else (utf_letter.j2 kj13 l0 a1 (wrap32 (rd l0 a1)) false)) = some (r1, r2) := H
                            have A35 := Aside0.mk A350
                            clear A350
                            by_cases c36 : t110 = true
                            · subst c36
                              have H1 : ((utf_more.f l0 (wrap64 (a1 + 3))).bind fun t111 => (utf_letter.j2 kj13 l0 a1 (wrap32 (rd l0 a1)) t111)) = some (r1, r2) := by rw [if_pos rfl] at H; exact H
                              clear H
                              have H := H1
                              clear H1
                              replace H := Option.bind_eq_some_iff.mp H
                              obtain ⟨t111, A370, H⟩ := H
                              replace H : (utf_letter.j2 kj13 l0 a1 (wrap32 (rd l0 a1)) t111) = some (r1, r2) := H
                              have A37 := Aside0.mk A370
                              clear A370
                              have H' := Aside0.mk H
                              clear H
                              go_wp2_with (first | (go_at_call 29; (with_reducible refine (utf_more.calls _ _ l0 (wrap64 (a1 + 1)) true _ ?side1 ?side2 A33.out).mono ?_); (case side1 => repeat (first | exact HR0.out | (with_reducible refine Kd.C_alloc ?_ _) | (with_reducible refine Kd.C_drewN ?_ _) | (with_reducible refine Kd.C_drew ?_))); (case side2 => exact HC0.out); rintro e w' ⟨rfl, ⟨nd, rfl⟩⟩; (try first | exact ⟨rfl, _, World.drewN_drewN _ _ _⟩ | exact ⟨rfl, _, Eq.trans (World.drewN_drewN _ _ _) (congrArg (World.drewN _) (Nat.add_assoc _ _ _))⟩)) | (go_at_call 29; (with_reducible refine (utf_more.calls _ _ l0 (wrap64 (a1 + 2)) true _ ?side1 ?side2 A35.out).mono ?_); (case side1 => repeat (first | exact HR0.out | (with_reducible refine Kd.C_alloc ?_ _) | (with_reducible refine Kd.C_drewN ?_ _) | (with_reducible refine Kd.C_drew ?_))); (case side2 => exact HC0.out); rintro e w' ⟨rfl, ⟨nd, rfl⟩⟩; (try first | exact ⟨rfl, _, World.drewN_drewN _ _ _⟩ | exact ⟨rfl, _, Eq.trans (World.drewN_drewN _ _ _) (congrArg (World.drewN _) (Nat.add_assoc _ _ _))⟩)) | (go_at_call 29; (with_reducible refine (utf_more.calls _ _ l0 (wrap64 (a1 + 3)) t111 _ ?side1 ?side2 A37.out).mono ?_); (case side1 => repeat (first | exact HR0.out | (with_reducible refine Kd.C_alloc ?_ _) | (with_reducible refine Kd.C_drewN ?_ _) | (with_reducible refine Kd.C_drew ?_))); (case side2 => exact HC0.out); rintro e w' ⟨rfl, ⟨nd, rfl⟩⟩; (try first | exact ⟨rfl, _, World.drewN_drewN _ _ _⟩ | exact ⟨rfl, _, Eq.trans (World.drewN_drewN _ _ _) (congrArg (World.drewN _) (Nat.add_assoc _ _ _))⟩)))
                              repeat (go_quiet (first | (go_at_call 29; (with_reducible refine (utf_more.calls _ _ l0 (wrap64 (a1 + 1)) true _ ?side1 ?side2 A33.out).mono ?_); (case side1 => repeat (first | exact HR0.out | (with_reducible refine Kd.C_alloc ?_ _) | (with_reducible refine Kd.C_drewN ?_ _) | (with_reducible refine Kd.C_drew ?_))); (case side2 => exact HC0.out); rintro e w' ⟨rfl, ⟨nd, rfl⟩⟩; (try first | exact ⟨rfl, _, World.drewN_drewN _ _ _⟩ | exact ⟨rfl, _, Eq.trans (World.drewN_drewN _ _ _) (congrArg (World.drewN _) (Nat.add_assoc _ _ _))⟩)) | (go_at_call 29; (with_reducible refine (utf_more.calls _ _ l0 (wrap64 (a1 + 2)) true _ ?side1 ?side2 A35.out).mono ?_); (case side1 => repeat (first | exact HR0.out | (with_reducible refine Kd.C_alloc ?_ _) | (with_reducible refine Kd.C_drewN ?_ _) | (with_reducible refine Kd.C_drew ?_))); (case side2 => exact HC0.out); rintro e w' ⟨rfl, ⟨nd, rfl⟩⟩; (try first | exact ⟨rfl, _, World.drewN_drewN _ _ _⟩ | exact ⟨rfl, _, Eq.trans (World.drewN_drewN _ _ _) (congrArg (World.drewN _) (Nat.add_assoc _ _ _))⟩)) | (go_at_call 29; (with_reducible refine (utf_more.calls _ _ l0 (wrap64 (a1 + 3)) t111 _ ?side1 ?side2 A37.out).mono ?_); (case side1 => repeat (first | exact HR0.out | (with_reducible refine Kd.C_alloc ?_ _) | (with_reducible refine Kd.C_drewN ?_ _) | (with_reducible refine Kd.C_drew ?_))); (case side2 => exact HC0.out); rintro e w' ⟨rfl, ⟨nd, rfl⟩⟩; (try first | exact ⟨rfl, _, World.drewN_drewN _ _ _⟩ | exact ⟨rfl, _, Eq.trans (World.drewN_drewN _ _ _) (congrArg (World.drewN _) (Nat.add_assoc _ _ _))⟩))); try go_wp2_with (first | (go_at_call 29; (with_reducible refine (utf_more.calls _ _ l0 (wrap64 (a1 + 1)) true _ ?side1 ?side2 A33.out).mono ?_); (case side1 => repeat (first | exact HR0.out | (with_reducible refine Kd.C_alloc ?_ _) | (with_reducible refine Kd.C_drewN ?_ _) | (with_reducible refine Kd.C_drew ?_))); (case side2 => exact HC0.out); rintro e w' ⟨rfl, ⟨nd, rfl⟩⟩; (try first | exact ⟨rfl, _, World.drewN_drewN _ _ _⟩ | exact ⟨rfl, _, Eq.trans (World.drewN_drewN _ _ _) (congrArg (World.drewN _) (Nat.add_assoc _ _ _))⟩)) | (go_at_call 29; (with_reducible refine (utf_more.calls _ _ l0 (wrap64 (a1 + 2)) true _ ?side1 ?side2 A35.out).mono ?_); (case side1 => repeat (first | exact HR0.out | (with_reducible refine Kd.C_alloc ?_ _) | (with_reducible refine Kd.C_drewN ?_ _) | (with_reducible refine Kd.C_drew ?_))); (case side2 => exact HC0.out); rintro e w' ⟨rfl, ⟨nd, rfl⟩⟩; (try first | exact ⟨rfl, _, World.drewN_drewN _ _ _⟩ | exact ⟨rfl, _, Eq.trans (World.drewN_drewN _ _ _) (congrArg (World.drewN _) (Nat.add_assoc _ _ _))⟩)) | (go_at_call 29; (with_reducible refine (utf_more.calls _ _ l0 (wrap64 (a1 + 3)) t111 _ ?side1 ?side2 A37.out).mono ?_); (case side1 => repeat (first | exact HR0.out | (with_reducible refine Kd.C_alloc ?_ _) | (with_reducible refine Kd.C_drewN ?_ _) | (with_reducible refine Kd.C_drew ?_))); (case side2 => exact HC0.out); rintro e w' ⟨rfl, ⟨nd, rfl⟩⟩; (try first | exact ⟨rfl, _, World.drewN_drewN _ _ _⟩ | exact ⟨rfl, _, Eq.trans (World.drewN_drewN _ _ _) (congrArg (World.drewN _) (Nat.add_assoc _ _ _))⟩))))
                              go_meet
                              case rel => exact ⟨_, (t111), (by first | rfl | (simp; done) | (simp [*]; done)), H', ⟨by have := HJ5.out; have := HJ13.out; first | omega | exact Nat.le_refl _⟩, by repeat (first | exact Drawn0.refl _ | apply Drawn0.step)⟩
                            · replace c36 := Bool.eq_false_iff.mpr c36
                              subst c36
                              have H1 : (utf_letter.j2 kj13 l0 a1 (wrap32 (rd l0 a1)) false) = some (r1, r2) := by rw [if_neg (show ¬ (false = true) by decide)] at H; exact H
                              clear H
                              have H := H1
                              clear H1
                              have H' := Aside0.mk H
                              clear H
                              go_wp2_with (first | (go_at_call 29; (with_reducible refine (utf_more.calls _ _ l0 (wrap64 (a1 + 1)) true _ ?side1 ?side2 A33.out).mono ?_); (case side1 => repeat (first | exact HR0.out | (with_reducible refine Kd.C_alloc ?_ _) | (with_reducible refine Kd.C_drewN ?_ _) | (with_reducible refine Kd.C_drew ?_))); (case side2 => exact HC0.out); rintro e w' ⟨rfl, ⟨nd, rfl⟩⟩; (try first | exact ⟨rfl, _, World.drewN_drewN _ _ _⟩ | exact ⟨rfl, _, Eq.trans (World.drewN_drewN _ _ _) (congrArg (World.drewN _) (Nat.add_assoc _ _ _))⟩)) | (go_at_call 29; (with_reducible refine (utf_more.calls _ _ l0 (wrap64 (a1 + 2)) false _ ?side1 ?side2 A35.out).mono ?_); (case side1 => repeat (first | exact HR0.out | (with_reducible refine Kd.C_alloc ?_ _) | (with_reducible refine Kd.C_drewN ?_ _) | (with_reducible refine Kd.C_drew ?_))); (case side2 => exact HC0.out); rintro e w' ⟨rfl, ⟨nd, rfl⟩⟩; (try first | exact ⟨rfl, _, World.drewN_drewN _ _ _⟩ | exact ⟨rfl, _, Eq.trans (World.drewN_drewN _ _ _) (congrArg (World.drewN _) (Nat.add_assoc _ _ _))⟩)))
                              repeat (go_quiet (first | (go_at_call 29; (with_reducible refine (utf_more.calls _ _ l0 (wrap64 (a1 + 1)) true _ ?side1 ?side2 A33.out).mono ?_); (case side1 => repeat (first | exact HR0.out | (with_reducible refine Kd.C_alloc ?_ _) | (with_reducible refine Kd.C_drewN ?_ _) | (with_reducible refine Kd.C_drew ?_))); (case side2 => exact HC0.out); rintro e w' ⟨rfl, ⟨nd, rfl⟩⟩; (try first | exact ⟨rfl, _, World.drewN_drewN _ _ _⟩ | exact ⟨rfl, _, Eq.trans (World.drewN_drewN _ _ _) (congrArg (World.drewN _) (Nat.add_assoc _ _ _))⟩)) | (go_at_call 29; (with_reducible refine (utf_more.calls _ _ l0 (wrap64 (a1 + 2)) false _ ?side1 ?side2 A35.out).mono ?_); (case side1 => repeat (first | exact HR0.out | (with_reducible refine Kd.C_alloc ?_ _) | (with_reducible refine Kd.C_drewN ?_ _) | (with_reducible refine Kd.C_drew ?_))); (case side2 => exact HC0.out); rintro e w' ⟨rfl, ⟨nd, rfl⟩⟩; (try first | exact ⟨rfl, _, World.drewN_drewN _ _ _⟩ | exact ⟨rfl, _, Eq.trans (World.drewN_drewN _ _ _) (congrArg (World.drewN _) (Nat.add_assoc _ _ _))⟩))); try go_wp2_with (first | (go_at_call 29; (with_reducible refine (utf_more.calls _ _ l0 (wrap64 (a1 + 1)) true _ ?side1 ?side2 A33.out).mono ?_); (case side1 => repeat (first | exact HR0.out | (with_reducible refine Kd.C_alloc ?_ _) | (with_reducible refine Kd.C_drewN ?_ _) | (with_reducible refine Kd.C_drew ?_))); (case side2 => exact HC0.out); rintro e w' ⟨rfl, ⟨nd, rfl⟩⟩; (try first | exact ⟨rfl, _, World.drewN_drewN _ _ _⟩ | exact ⟨rfl, _, Eq.trans (World.drewN_drewN _ _ _) (congrArg (World.drewN _) (Nat.add_assoc _ _ _))⟩)) | (go_at_call 29; (with_reducible refine (utf_more.calls _ _ l0 (wrap64 (a1 + 2)) false _ ?side1 ?side2 A35.out).mono ?_); (case side1 => repeat (first | exact HR0.out | (with_reducible refine Kd.C_alloc ?_ _) | (with_reducible refine Kd.C_drewN ?_ _) | (with_reducible refine Kd.C_drew ?_))); (case side2 => exact HC0.out); rintro e w' ⟨rfl, ⟨nd, rfl⟩⟩; (try first | exact ⟨rfl, _, World.drewN_drewN _ _ _⟩ | exact ⟨rfl, _, Eq.trans (World.drewN_drewN _ _ _) (congrArg (World.drewN _) (Nat.add_assoc _ _ _))⟩))))
                              go_meet
                              case rel => exact ⟨_, (false), (by first | rfl | (simp; done) | (simp [*]; done)), H', ⟨by have := HJ5.out; have := HJ13.out; first | omega | exact Nat.le_refl _⟩, by repeat (first | exact Drawn0.refl _ | apply Drawn0.step)⟩
                          · replace c34 := Bool.eq_false_iff.mpr c34
                            subst c34
                            have H1 : (utf_letter.j2 kj13 l0 a1 (wrap32 (rd l0 a1)) false) = some (r1, r2) := by rw [if_neg (show ¬ (false = true) by decide)] at H; exact H
                            clear H
                            have H := H1
                            clear H1
                            have H' := Aside0.mk H
                            clear H
                            go_wp2_with (first | (go_at_call 29; (with_reducible refine (utf_more.calls _ _ l0 (wrap64 (a1 + 1)) false _ ?side1 ?side2 A33.out).mono ?_); (case side1 => repeat (first | exact HR0.out | (with_reducible refine Kd.C_alloc ?_ _) | (with_reducible refine Kd.C_drewN ?_ _) | (with_reducible refine Kd.C_drew ?_))); (case side2 => exact HC0.out); rintro e w' ⟨rfl, ⟨nd, rfl⟩⟩; (try first | exact ⟨rfl, _, World.drewN_drewN _ _ _⟩ | exact ⟨rfl, _, Eq.trans (World.drewN_drewN _ _ _) (congrArg (World.drewN _) (Nat.add_assoc _ _ _))⟩)))
                            repeat (go_quiet (first | (go_at_call 29; (with_reducible refine (utf_more.calls _ _ l0 (wrap64 (a1 + 1)) false _ ?side1 ?side2 A33.out).mono ?_); (case side1 => repeat (first | exact HR0.out | (with_reducible refine Kd.C_alloc ?_ _) | (with_reducible refine Kd.C_drewN ?_ _) | (with_reducible refine Kd.C_drew ?_))); (case side2 => exact HC0.out); rintro e w' ⟨rfl, ⟨nd, rfl⟩⟩; (try first | exact ⟨rfl, _, World.drewN_drewN _ _ _⟩ | exact ⟨rfl, _, Eq.trans (World.drewN_drewN _ _ _) (congrArg (World.drewN _) (Nat.add_assoc _ _ _))⟩))); try go_wp2_with (first | (go_at_call 29; (with_reducible refine (utf_more.calls _ _ l0 (wrap64 (a1 + 1)) false _ ?side1 ?side2 A33.out).mono ?_); (case side1 => repeat (first | exact HR0.out | (with_reducible refine Kd.C_alloc ?_ _) | (with_reducible refine Kd.C_drewN ?_ _) | (with_reducible refine Kd.C_drew ?_))); (case side2 => exact HC0.out); rintro e w' ⟨rfl, ⟨nd, rfl⟩⟩; (try first | exact ⟨rfl, _, World.drewN_drewN _ _ _⟩ | exact ⟨rfl, _, Eq.trans (World.drewN_drewN _ _ _) (congrArg (World.drewN _) (Nat.add_assoc _ _ _))⟩))))
                            go_meet
                            case rel => exact ⟨_, (false), (by first | rfl | (simp; done) | (simp [*]; done)), H', ⟨by have := HJ5.out; have := HJ13.out; first | omega | exact Nat.le_refl _⟩, by repeat (first | exact Drawn0.refl _ | apply Drawn0.step)⟩
                        · rw [if_neg c32] at H
                          have c32b0 : decide ((wrap32 (rd l0 a1)) ≤ 244) = false := decide_eq_false c32
                          clear c32
                          have H' := Aside0.mk H
                          clear H
                          go_wp2
                          repeat (go_quiet (fail); try go_wp2)
                          go_meet
                          case rel => exact ⟨_, (false), (by first | rfl | (simp; done) | (simp [*]; done)), H', ⟨by have := HJ5.out; have := HJ13.out; first | omega | exact Nat.le_refl _⟩, by repeat (first | exact Drawn0.refl _ | apply Drawn0.step)⟩
                      · rw [if_neg c31] at H
                        have c31b0 : decide (240 ≤ (wrap32 (rd l0 a1))) = false := decide_eq_false c31
                        clear c31
                        (first | rw [c31b0] | rw [c31b1] | (simp only [i64_w, i32_w]; rw [c31b0]) | skip)
                        have H' := Aside0.mk H
                        clear H
                        go_wp2
                        repeat (go_quiet (fail); try go_wp2)
                        go_meet
                        case rel => exact ⟨_, (false), (by first | rfl | (simp; done) | (simp [*]; done)), H', ⟨by have := HJ5.out; have := HJ13.out; first | omega | exact Nat.le_refl _⟩, by repeat (first | exact Drawn0.refl _ | apply Drawn0.step)⟩
                    case rest =>
                      clear HC30
                      try clear c1
                      try clear p1
                      try clear q1
                      try clear hx1
                      try clear c2
                      try clear p2
                      try clear c3
                      try clear c3b0
                      try clear p3
                      try clear c4
                      try clear c4b0
                      try clear c5
                      try clear c5b0
                      try clear p6
                      try clear c7
                      try clear c7b0
                      try clear c8
                      try clear c8b0
                      try clear c10
                      try clear p10
                      try clear q10
                      try clear hx10
                      try clear c12
                      try clear c12b0
                      try clear c13
                      try clear c13b0
                      try clear c15
                      try clear c15b0
                      try clear c16
                      try clear c16b0
                      try clear c18
                      try clear c20
                      try clear c22
                      try clear c22b0
                      try clear c23
                      try clear c23b0
                      try clear c25
                      try clear c25b0
                      try clear c26
                      try clear c26b0
                      try clear c27
                      try clear c27b0
                      try clear c28
                      try clear c28b0
                      try clear c29
                      try clear c29b0
                      try clear c31
                      try clear c31b0
                      try clear c32
                      try clear c32b0
                      try clear p32
                      try clear c34
                      try clear c36
                      try clear hx102_0
                      try clear hx104_0
                      try clear hx107_0
                      try clear hx108_0
                      try clear p1
                      try clear p10
                      try clear p102
                      try clear p104
                      try clear p107
                      try clear p108
                      try clear p2
                      try clear p3
                      try clear p6
                      try clear q1
                      try clear q10
                      try clear q102
                      try clear q104
                      try clear q107
                      try clear q108
                      obtain ⟨kq, x92_29, rfl, HA, HJ29, ⟨mc29, rfl⟩⟩ := hcut
                      cases kq with
                      | zero => exact absurd HA.out (by simp [utf_letter.j2])
                      | succ kj29 =>
                        have H := HA.out
                        clear HA
                        simp only [utf_letter.j2] at H
                        by_cases c38 : x92_29 = true
                        · subst c38
                          have H1 : (if 0 ≤ (wrap64 (a1 + 1)) then (if (wrap64 (a1 + 1)) < (l0.length : Int) then (if 0 ≤ (wrap64 (a1 + 2)) then (if (wrap64 (a1 + 2)) < (l0.length : Int) then (if 0 ≤ (wrap64 (a1 + 3)) then (if (wrap64 (a1 + 3)) < (l0.length : Int) then (if (Go.bits .or .i32 (Go.bits .or .i32 (Go.bits .or .i32 (wrap32 ((Go.bits .and .i32 (wrap32 (rd l0 a1)) 7) * 262144)) (wrap32 ((wrap32 (Go.bits .and .u8 (rd l0 (wrap64 (a1 + 1))) 63)) * 4096))) (wrap32 ((wrap32 (Go.bits .and .u8 (rd l0 (wrap64 (a1 + 2))) 63)) * 64))) (wrap32 (Go.bits .and .u8 (rd l0 (wrap64 (a1 + 3))) 63))) ≥ 65536 then (if (Go.bits .or .i32 (Go.bits .or .i32 (Go.bits .or .i32 (wrap32 ((Go.bits .and .i32 (wrap32 (rd l0 a1)) 7) * 262144)) (wrap32 ((wrap32 (Go.bits .and .u8 (rd l0 (wrap64 (a1 + 1))) 63)) * 4096))) (wrap32 ((wrap32 (Go.bits .and .u8 (rd l0 (wrap64 (a1 + 2))) 63)) * 64))) (wrap32 (Go.bits .and .u8 (rd l0 (wrap64 (a1 + 3))) 63))) ≤ 1114111 then (some (Go.bits .or .i32 (Go.bits .or .i32 (Go.bits .or .i32 (wrap32 ((Go.bits .and .i32 (wrap32 (rd l0 a1)) 7) * 262144)) (wrap32 ((wrap32 (Go.bits .and .u8 (rd l0 (wrap64 (a1 + 1))) 63)) * 4096))) (wrap32 ((wrap32 (Go.bits .and .u8 (rd l0 (wrap64 (a1 + 2))) 63)) * 64))) (wrap32 (Go.bits .and .u8 (rd l0 (wrap64 (a1 + 3))) 63)), 4)) else (some (0, 0))) else (some (0, 0))) else (none)) else (none)) else (none)) else (none)) else (none)) else (none)) = some (r1, r2) := by rw [if_pos rfl] at H; exact H
                          clear H
                          have H := H1
                          clear H1
                          obtain ⟨ji39, hji39⟩ : ∃ j_ : Int, (wrap64 (a1 + 1)) = j_ := ⟨_, rfl⟩
                          replace H : (if 0 ≤ (ji39) then (if (ji39) < (l0.length : Int) then (if 0 ≤ (wrap64 (a1 + 2)) then (if (wrap64 (a1 + 2)) < (l0.length : Int) then (if 0 ≤ (wrap64 (a1 + 3)) then (if (wrap64 (a1 + 3)) < (l0.length : Int) then (if (Go.bits .or .i32 (Go.bits .or .i32 (Go.bits .or .i32 (wrap32 ((Go.bits .and .i32 (wrap32 (rd l0 a1)) 7) * 262144)) (wrap32 ((wrap32 (Go.bits .and .u8 (rd l0 (ji39)) 63)) * 4096))) (wrap32 ((wrap32 (Go.bits .and .u8 (rd l0 (wrap64 (a1 + 2))) 63)) * 64))) (wrap32 (Go.bits .and .u8 (rd l0 (wrap64 (a1 + 3))) 63))) ≥ 65536 then (if (Go.bits .or .i32 (Go.bits .or .i32 (Go.bits .or .i32 (wrap32 ((Go.bits .and .i32 (wrap32 (rd l0 a1)) 7) * 262144)) (wrap32 ((wrap32 (Go.bits .and .u8 (rd l0 (ji39)) 63)) * 4096))) (wrap32 ((wrap32 (Go.bits .and .u8 (rd l0 (wrap64 (a1 + 2))) 63)) * 64))) (wrap32 (Go.bits .and .u8 (rd l0 (wrap64 (a1 + 3))) 63))) ≤ 1114111 then (some (Go.bits .or .i32 (Go.bits .or .i32 (Go.bits .or .i32 (wrap32 ((Go.bits .and .i32 (wrap32 (rd l0 a1)) 7) * 262144)) (wrap32 ((wrap32 (Go.bits .and .u8 (rd l0 (ji39)) 63)) * 4096))) (wrap32 ((wrap32 (Go.bits .and .u8 (rd l0 (wrap64 (a1 + 2))) 63)) * 64))) (wrap32 (Go.bits .and .u8 (rd l0 (wrap64 (a1 + 3))) 63)), 4)) else (some (0, 0))) else (some (0, 0))) else (none)) else (none)) else (none)) else (none)) else (none)) else (none)) = some (r1, r2) := by first | (rw [hji39] at H; exact H) | (simp only [hji39] at H ⊢; exact H)
                          have hji39w : (IntKind.i64.wrap (a1 + 1)) = ji39 := (i64_w _).trans hji39
                          by_cases c40 : 0 ≤ (ji39)
                          · rw [if_pos c40] at H
                            have c40b0 : decide (0 ≤ (ji39)) = true := decide_eq_true c40
                            clear c40
                            by_cases c41 : (ji39) < (l0.length : Int)
                            · rw [if_pos c41] at H
                              have c41b0 : decide ((ji39) < (l0.length : Int)) = true := decide_eq_true c41
                              clear c41
                              obtain ⟨ji42, hji42⟩ : ∃ j_ : Int, (wrap64 (a1 + 2)) = j_ := ⟨_, rfl⟩
                              replace H : (if 0 ≤ (ji42) then (if (ji42) < (l0.length : Int) then (if 0 ≤ (wrap64 (a1 + 3)) then (if (wrap64 (a1 + 3)) < (l0.length : Int) then (if (Go.bits .or .i32 (Go.bits .or .i32 (Go.bits .or .i32 (wrap32 ((Go.bits .and .i32 (wrap32 (rd l0 a1)) 7) * 262144)) (wrap32 ((wrap32 (Go.bits .and .u8 (rd l0 (ji39)) 63)) * 4096))) (wrap32 ((wrap32 (Go.bits .and .u8 (rd l0 (ji42)) 63)) * 64))) (wrap32 (Go.bits .and .u8 (rd l0 (wrap64 (a1 + 3))) 63))) ≥ 65536 then (if (Go.bits .or .i32 (Go.bits .or .i32 (Go.bits .or .i32 (wrap32 ((Go.bits .and .i32 (wrap32 (rd l0 a1)) 7) * 262144)) (wrap32 ((wrap32 (Go.bits .and .u8 (rd l0 (ji39)) 63)) * 4096))) (wrap32 ((wrap32 (Go.bits .and .u8 (rd l0 (ji42)) 63)) * 64))) (wrap32 (Go.bits .and .u8 (rd l0 (wrap64 (a1 + 3))) 63))) ≤ 1114111 then (some (Go.bits .or .i32 (Go.bits .or .i32 (Go.bits .or .i32 (wrap32 ((Go.bits .and .i32 (wrap32 (rd l0 a1)) 7) * 262144)) (wrap32 ((wrap32 (Go.bits .and .u8 (rd l0 (ji39)) 63)) * 4096))) (wrap32 ((wrap32 (Go.bits .and .u8 (rd l0 (ji42)) 63)) * 64))) (wrap32 (Go.bits .and .u8 (rd l0 (wrap64 (a1 + 3))) 63)), 4)) else (some (0, 0))) else (some (0, 0))) else (none)) else (none)) else (none)) else (none)) = some (r1, r2) := by first | (rw [hji42] at H; exact H) | (simp only [hji42] at H ⊢; exact H)
                              have hji42w : (IntKind.i64.wrap (a1 + 2)) = ji42 := (i64_w _).trans hji42
                              by_cases c43 : 0 ≤ (ji42)
                              · rw [if_pos c43] at H
                                have c43b0 : decide (0 ≤ (ji42)) = true := decide_eq_true c43
                                clear c43
                                by_cases c44 : (ji42) < (l0.length : Int)
                                · rw [if_pos c44] at H
                                  have c44b0 : decide ((ji42) < (l0.length : Int)) = true := decide_eq_true c44
                                  clear c44
                                  obtain ⟨ji45, hji45⟩ : ∃ j_ : Int, (wrap64 (a1 + 3)) = j_ := ⟨_, rfl⟩
                                  replace H : (if 0 ≤ (ji45) then (if (ji45) < (l0.length : Int) then (if (Go.bits .or .i32 (Go.bits .or .i32 (Go.bits .or .i32 (wrap32 ((Go.bits .and .i32 (wrap32 (rd l0 a1)) 7) * 262144)) (wrap32 ((wrap32 (Go.bits .and .u8 (rd l0 (ji39)) 63)) * 4096))) (wrap32 ((wrap32 (Go.bits .and .u8 (rd l0 (ji42)) 63)) * 64))) (wrap32 (Go.bits .and .u8 (rd l0 (ji45)) 63))) ≥ 65536 then (if (Go.bits .or .i32 (Go.bits .or .i32 (Go.bits .or .i32 (wrap32 ((Go.bits .and .i32 (wrap32 (rd l0 a1)) 7) * 262144)) (wrap32 ((wrap32 (Go.bits .and .u8 (rd l0 (ji39)) 63)) * 4096))) (wrap32 ((wrap32 (Go.bits .and .u8 (rd l0 (ji42)) 63)) * 64))) (wrap32 (Go.bits .and .u8 (rd l0 (ji45)) 63))) ≤ 1114111 then (some (Go.bits .or .i32 (Go.bits .or .i32 (Go.bits .or .i32 (wrap32 ((Go.bits .and .i32 (wrap32 (rd l0 a1)) 7) * 262144)) (wrap32 ((wrap32 (Go.bits .and .u8 (rd l0 (ji39)) 63)) * 4096))) (wrap32 ((wrap32 (Go.bits .and .u8 (rd l0 (ji42)) 63)) * 64))) (wrap32 (Go.bits .and .u8 (rd l0 (ji45)) 63)), 4)) else (some (0, 0))) else (some (0, 0))) else (none)) else (none)) = some (r1, r2) := by first | (rw [hji45] at H; exact H) | (simp only [hji45] at H ⊢; exact H)
                                  have hji45w : (IntKind.i64.wrap (a1 + 3)) = ji45 := (i64_w _).trans hji45
                                  by_cases c46 : 0 ≤ (ji45)
                                  · rw [if_pos c46] at H
                                    have c46b0 : decide (0 ≤ (ji45)) = true := decide_eq_true c46
                                    clear c46
                                    by_cases c47 : (ji45) < (l0.length : Int)
                                    · rw [if_pos c47] at H
                                      have c47b0 : decide ((ji45) < (l0.length : Int)) = true := decide_eq_true c47
                                      clear c47
                                      by_cases c48 : (Go.bits .or .i32 (Go.bits .or .i32 (Go.bits .or .i32 (wrap32 ((Go.bits .and .i32 (wrap32 (rd l0 a1)) 7) * 262144)) (wrap32 ((wrap32 (Go.bits .and .u8 (rd l0 (ji39)) 63)) * 4096))) (wrap32 ((wrap32 (Go.bits .and .u8 (rd l0 (ji42)) 63)) * 64))) (wrap32 (Go.bits .and .u8 (rd l0 (ji45)) 63))) ≥ 65536
                                      · rw [if_pos c48] at H
                                        have c48b0 : decide (65536 ≤ (Go.bits .or .i32 (Go.bits .or .i32 (Go.bits .or .i32 (wrap32 ((Go.bits .and .i32 (wrap32 (rd l0 a1)) 7) * 262144)) (wrap32 ((wrap32 (Go.bits .and .u8 (rd l0 (ji39)) 63)) * 4096))) (wrap32 ((wrap32 (Go.bits .and .u8 (rd l0 (ji42)) 63)) * 64))) (wrap32 (Go.bits .and .u8 (rd l0 (ji45)) 63)))) = true := decide_eq_true c48
                                        clear c48
                                        by_cases c49 : (Go.bits .or .i32 (Go.bits .or .i32 (Go.bits .or .i32 (wrap32 ((Go.bits .and .i32 (wrap32 (rd l0 a1)) 7) * 262144)) (wrap32 ((wrap32 (Go.bits .and .u8 (rd l0 (ji39)) 63)) * 4096))) (wrap32 ((wrap32 (Go.bits .and .u8 (rd l0 (ji42)) 63)) * 64))) (wrap32 (Go.bits .and .u8 (rd l0 (ji45)) 63))) ≤ 1114111
                                        · rw [if_pos c49] at H
                                          have c49b0 : decide ((Go.bits .or .i32 (Go.bits .or .i32 (Go.bits .or .i32 (wrap32 ((Go.bits .and .i32 (wrap32 (rd l0 a1)) 7) * 262144)) (wrap32 ((wrap32 (Go.bits .and .u8 (rd l0 (ji39)) 63)) * 4096))) (wrap32 ((wrap32 (Go.bits .and .u8 (rd l0 (ji42)) 63)) * 64))) (wrap32 (Go.bits .and .u8 (rd l0 (ji45)) 63))) ≤ 1114111) = true := decide_eq_true c49
                                          clear c49
                                          simp only [Option.some.injEq, Prod.mk.injEq] at H
                                          obtain ⟨rfl, rfl⟩ := H
                                          have p112 : 0 ≤ ((ji39) : Int) := of_decide_eq_true (by first | (with_reducible assumption) | assumption)
                                          have q112 : (ji39) < (l0.length : Int) := of_decide_eq_true (by first | (with_reducible assumption) | assumption)
                                          obtain ⟨ad112, e112, hx112_0⟩ := Kd.at_int HR0.out (ji39) p112 q112
                                          obtain rfl : ad102 = ad112 := (by injection e112)
                                          replace p112 := eq_true p112
                                          replace q112 := eq_true q112
                                          have p113 : 0 ≤ ((ji42) : Int) := of_decide_eq_true (by first | (with_reducible assumption) | assumption)
                                          have q113 : (ji42) < (l0.length : Int) := of_decide_eq_true (by first | (with_reducible assumption) | assumption)
                                          obtain ⟨ad113, e113, hx113_0⟩ := Kd.at_int HR0.out (ji42) p113 q113
                                          obtain rfl : ad102 = ad113 := (by injection e113)
                                          replace p113 := eq_true p113
                                          replace q113 := eq_true q113
                                          have p114 : 0 ≤ ((ji45) : Int) := of_decide_eq_true (by first | (with_reducible assumption) | assumption)
                                          have q114 : (ji45) < (l0.length : Int) := of_decide_eq_true (by first | (with_reducible assumption) | assumption)
                                          obtain ⟨ad114, e114, hx114_0⟩ := Kd.at_int HR0.out (ji45) p114 q114
                                          obtain rfl : ad102 = ad114 := (by injection e114)
                                          replace p114 := eq_true p114
                                          replace q114 := eq_true q114
                                          go_wp2
                                          repeat (go_quiet (fail); try go_wp2)
                                          go_ret2
                                          exact ⟨by first | rfl | (simp; done) | (simp only [← hji39, ← hji42, ← hji45] <;> (first | rfl | simp)) | (simp [*]; done), by repeat (first | exact Drawn0.refl _ | apply Drawn0.step)⟩
                                        · rw [if_neg c49] at H
                                          have c49b0 : decide ((Go.bits .or .i32 (Go.bits .or .i32 (Go.bits .or .i32 (wrap32 ((Go.bits .and .i32 (wrap32 (rd l0 a1)) 7) * 262144)) (wrap32 ((wrap32 (Go.bits .and .u8 (rd l0 (ji39)) 63)) * 4096))) (wrap32 ((wrap32 (Go.bits .and .u8 (rd l0 (ji42)) 63)) * 64))) (wrap32 (Go.bits .and .u8 (rd l0 (ji45)) 63))) ≤ 1114111) = false := decide_eq_false c49
                                          clear c49
                                          simp only [Option.some.injEq, Prod.mk.injEq] at H
                                          obtain ⟨rfl, rfl⟩ := H
                                          have p112 : 0 ≤ ((ji39) : Int) := of_decide_eq_true (by first | (with_reducible assumption) | assumption)
                                          have q112 : (ji39) < (l0.length : Int) := of_decide_eq_true (by first | (with_reducible assumption) | assumption)
                                          obtain ⟨ad112, e112, hx112_0⟩ := Kd.at_int HR0.out (ji39) p112 q112
                                          obtain rfl : ad102 = ad112 := (by injection e112)
                                          replace p112 := eq_true p112
                                          replace q112 := eq_true q112
                                          have p113 : 0 ≤ ((ji42) : Int) := of_decide_eq_true (by first | (with_reducible assumption) | assumption)
                                          have q113 : (ji42) < (l0.length : Int) := of_decide_eq_true (by first | (with_reducible assumption) | assumption)
                                          obtain ⟨ad113, e113, hx113_0⟩ := Kd.at_int HR0.out (ji42) p113 q113
                                          obtain rfl : ad102 = ad113 := (by injection e113)
                                          replace p113 := eq_true p113
                                          replace q113 := eq_true q113
                                          have p114 : 0 ≤ ((ji45) : Int) := of_decide_eq_true (by first | (with_reducible assumption) | assumption)
                                          have q114 : (ji45) < (l0.length : Int) := of_decide_eq_true (by first | (with_reducible assumption) | assumption)
                                          obtain ⟨ad114, e114, hx114_0⟩ := Kd.at_int HR0.out (ji45) p114 q114
                                          obtain rfl : ad102 = ad114 := (by injection e114)
                                          replace p114 := eq_true p114
                                          replace q114 := eq_true q114
                                          go_wp2
                                          repeat (go_quiet (fail); try go_wp2)
                                          go_ret2
                                          exact ⟨by first | rfl | (simp; done) | (simp only [← hji39, ← hji42, ← hji45] <;> (first | rfl | simp)) | (simp [*]; done), by repeat (first | exact Drawn0.refl _ | apply Drawn0.step)⟩
                                      · rw [if_neg c48] at H
                                        have c48b0 : decide (65536 ≤ (Go.bits .or .i32 (Go.bits .or .i32 (Go.bits .or .i32 (wrap32 ((Go.bits .and .i32 (wrap32 (rd l0 a1)) 7) * 262144)) (wrap32 ((wrap32 (Go.bits .and .u8 (rd l0 (ji39)) 63)) * 4096))) (wrap32 ((wrap32 (Go.bits .and .u8 (rd l0 (ji42)) 63)) * 64))) (wrap32 (Go.bits .and .u8 (rd l0 (ji45)) 63)))) = false := decide_eq_false c48
                                        clear c48
                                        simp only [Option.some.injEq, Prod.mk.injEq] at H
                                        obtain ⟨rfl, rfl⟩ := H
                                        have p112 : 0 ≤ ((ji39) : Int) := of_decide_eq_true (by first | (with_reducible assumption) | assumption)
                                        have q112 : (ji39) < (l0.length : Int) := of_decide_eq_true (by first | (with_reducible assumption) | assumption)
                                        obtain ⟨ad112, e112, hx112_0⟩ := Kd.at_int HR0.out (ji39) p112 q112
                                        obtain rfl : ad102 = ad112 := (by injection e112)
                                        replace p112 := eq_true p112
                                        replace q112 := eq_true q112
                                        have p113 : 0 ≤ ((ji42) : Int) := of_decide_eq_true (by first | (with_reducible assumption) | assumption)
                                        have q113 : (ji42) < (l0.length : Int) := of_decide_eq_true (by first | (with_reducible assumption) | assumption)
                                        obtain ⟨ad113, e113, hx113_0⟩ := Kd.at_int HR0.out (ji42) p113 q113
                                        obtain rfl : ad102 = ad113 := (by injection e113)
                                        replace p113 := eq_true p113
                                        replace q113 := eq_true q113
                                        have p114 : 0 ≤ ((ji45) : Int) := of_decide_eq_true (by first | (with_reducible assumption) | assumption)
                                        have q114 : (ji45) < (l0.length : Int) := of_decide_eq_true (by first | (with_reducible assumption) | assumption)
                                        obtain ⟨ad114, e114, hx114_0⟩ := Kd.at_int HR0.out (ji45) p114 q114
                                        obtain rfl : ad102 = ad114 := (by injection e114)
                                        replace p114 := eq_true p114
                                        replace q114 := eq_true q114
                                        go_wp2
                                        repeat (go_quiet (fail); try go_wp2)
                                        go_ret2
                                        exact ⟨by first | rfl | (simp; done) | (simp only [← hji39, ← hji42, ← hji45] <;> (first | rfl | simp)) | (simp [*]; done), by repeat (first | exact Drawn0.refl _ | apply Drawn0.step)⟩
                                    · rw [if_neg c47] at H
                                      exact absurd H (by simp)
                                  · rw [if_neg c46] at H
                                    exact absurd H (by simp)
                                · rw [if_neg c44] at H
                                  exact absurd H (by simp)
                              · rw [if_neg c43] at H
                                exact absurd H (by simp)
                            · rw [if_neg c41] at H
                              exact absurd H (by simp)
                          · rw [if_neg c40] at H
                            exact absurd H (by simp)
                        · replace c38 := Bool.eq_false_iff.mpr c38
                          subst c38
                          have H1 : (some (0, 0)) = some (r1, r2) := by rw [if_neg (show ¬ (false = true) by decide)] at H; exact H
                          clear H
                          have H := H1
                          clear H1
                          simp only [Option.some.injEq, Prod.mk.injEq] at H
                          obtain ⟨rfl, rfl⟩ := H
                          go_wp2
                          repeat (go_quiet (fail); try go_wp2)
                          go_ret2
                          exact ⟨by first | rfl | (simp; done) | (simp [*]; done), by repeat (first | exact Drawn0.refl _ | apply Drawn0.step)⟩
    · rw [if_neg c4] at H
      exact absurd H (by simp)
  · rw [if_neg c3] at H
    exact absurd H (by simp)

end Go.Proofs.Ytpphijljdoojdaa.QUtfLetters
