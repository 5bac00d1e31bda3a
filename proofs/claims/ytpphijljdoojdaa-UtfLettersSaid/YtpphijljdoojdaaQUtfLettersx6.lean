-- written by wip/wprint, a program of this session
import Derived.Test.YtpphijljdoojdaaQUtfLettersx0
import Derived.Test.YtpphijljdoojdaaQUtfLettersx5
namespace Go.Proofs.Ytpphijljdoojdaa.QUtfLetters
open Go.RowKit Go.Proofs.YtpphijljdoojdaaW.PrintWords Go.Proofs.YtpphijljdoojdaaW.PrintLast Go.Proofs.YtpphijljdoojdaaW.PrintMore
attribute [local go_sem] max2_int min2_int max_two min_two max_three min_three max_four min_four   -- for this text's walks alone
set_option linter.unusedVariables false
set_option linter.unusedSimpArgs false

/-! ### whetstoneref03_One: function 26 -/
mutual
def whetstoneref03_One.l0 : Nat → List Int → Int → Int → Option (Int × Int)
  | 0, _, _, _ => none
  | k + 1, x0, x1, x6 => if x6 ≤ 4 then (whetstoneref03_One.j1 k x0 x1 x6 (decide ((wrap64 (x1 + x6)) ≤ (x0.length : Int)))) else (whetstoneref03_One.j1 k x0 x1 x6 false)
def whetstoneref03_One.j1 : Nat → List Int → Int → Int → Bool → Option (Int × Int)
  | 0, _, _, _, _ => none
  | k + 1, x0, x1, x6, x20 => if x20 = true then (if 0 ≤ x1 then (if x1 < (x0.length : Int) then (if x6 = 2 then (whetstoneref03_One.j2 k x0 x1 x6 (wrap64 ((wrap64 (rd x0 x1)) - 192))) else (whetstoneref03_One.j2 k x0 x1 x6 (wrap64 (rd x0 x1)))) else (none)) else (none)) else (some ((-1), 0))
def whetstoneref03_One.j2 : Nat → List Int → Int → Int → Int → Option (Int × Int)
  | 0, _, _, _, _ => none
  | k + 1, x0, x1, x6, x7 => if x6 = 3 then (whetstoneref03_One.j3 k x0 x1 x6 (wrap64 (x7 - 224))) else (whetstoneref03_One.j3 k x0 x1 x6 x7)
def whetstoneref03_One.j3 : Nat → List Int → Int → Int → Int → Option (Int × Int)
  | 0, _, _, _, _ => none
  | k + 1, x0, x1, x6, x7 => if x6 = 4 then (whetstoneref03_One.j4 k x0 x1 x6 (wrap64 (x7 - 240))) else (whetstoneref03_One.j4 k x0 x1 x6 x7)
def whetstoneref03_One.j4 : Nat → List Int → Int → Int → Int → Option (Int × Int)
  | 0, _, _, _, _ => none
  | k + 1, x0, x1, x6, x7 => whetstoneref03_One.l1 k x0 x1 x6 x7 1
def whetstoneref03_One.l1 : Nat → List Int → Int → Int → Int → Int → Option (Int × Int)
  | 0, _, _, _, _, _ => none
  | k + 1, x0, x1, x6, x7, x8 => if x8 < x6 then (if 0 ≤ (wrap64 (x1 + x8)) then (if (wrap64 (x1 + x8)) < (x0.length : Int) then (whetstoneref03_One.l1 k x0 x1 x6 (wrap64 ((wrap64 ((wrap64 (x7 * 64)) + (wrap64 (rd x0 (wrap64 (x1 + x8)))))) - 128)) (wrap64 (x8 + 1))) else (none)) else (none)) else ((whetstoneref03_Encode.f k x7).bind fun bt178 => (if bt178.2 = 0 then (if 0 ≤ x1 then (if x1 ≤ (wrap64 (x1 + x6)) then (if (wrap64 (x1 + x6)) ≤ (x0.length : Int) then (if (strOfNums bt178.1).toList = (strOfNums ((x0.take ((wrap64 (x1 + x6)) : Int).toNat).drop (x1 : Int).toNat)).toList then (some (x7, x6)) else (whetstoneref03_One.l0 k x0 x1 (wrap64 (x6 + 1)))) else (none)) else (none)) else (none)) else (whetstoneref03_One.l0 k x0 x1 (wrap64 (x6 + 1)))))
end
def whetstoneref03_One.f (k : Nat) (l0 : List Int) (a1 : Int) : Option (Int × Int) := whetstoneref03_One.l0 k l0 a1 1
theorem whetstoneref03_One.mono_l : ∀ k, (∀ y0 y1 y2, LeO (whetstoneref03_One.l0 k y0 y1 y2) (whetstoneref03_One.l0 (k + 1) y0 y1 y2)) ∧ (∀ y0 y1 y2 y3, LeO (whetstoneref03_One.j1 k y0 y1 y2 y3) (whetstoneref03_One.j1 (k + 1) y0 y1 y2 y3)) ∧ (∀ y0 y1 y2 y3, LeO (whetstoneref03_One.j2 k y0 y1 y2 y3) (whetstoneref03_One.j2 (k + 1) y0 y1 y2 y3)) ∧ (∀ y0 y1 y2 y3, LeO (whetstoneref03_One.j3 k y0 y1 y2 y3) (whetstoneref03_One.j3 (k + 1) y0 y1 y2 y3)) ∧ (∀ y0 y1 y2 y3, LeO (whetstoneref03_One.j4 k y0 y1 y2 y3) (whetstoneref03_One.j4 (k + 1) y0 y1 y2 y3)) ∧ (∀ y0 y1 y2 y3 y4, LeO (whetstoneref03_One.l1 k y0 y1 y2 y3 y4) (whetstoneref03_One.l1 (k + 1) y0 y1 y2 y3 y4))
  | 0 => ⟨fun _ _ _ r h => by simp [whetstoneref03_One.l0] at h, fun _ _ _ _ r h => by simp [whetstoneref03_One.j1] at h, fun _ _ _ _ r h => by simp [whetstoneref03_One.j2] at h, fun _ _ _ _ r h => by simp [whetstoneref03_One.j3] at h, fun _ _ _ _ r h => by simp [whetstoneref03_One.j4] at h, fun _ _ _ _ _ r h => by simp [whetstoneref03_One.l1] at h⟩
  | k + 1 => by
    obtain ⟨ih0, ih1, ih2, ih3, ih4, ih5⟩ := whetstoneref03_One.mono_l k
    refine ⟨?_, ?_, ?_, ?_, ?_, ?_⟩
    · intro y0 y1 y2
      unfold whetstoneref03_One.l0
      repeat' first
      | (with_reducible exact ih0 _ _ _)
      | (with_reducible exact ih1 _ _ _ _)
      | (with_reducible exact ih2 _ _ _ _)
      | (with_reducible exact ih3 _ _ _ _)
      | (with_reducible exact ih4 _ _ _ _)
      | (with_reducible exact ih5 _ _ _ _ _)
      | (with_reducible exact whetstoneref03_Encode.mono _ _)
      | (with_reducible exact LeO.refl _)
      | (with_reducible exact LeO.none _)
      | (with_reducible refine LeO.ite ?_ ?_)
      | (with_reducible refine LeO.bind ?_ (fun _ => ?_))
      | exact ih0 _ _ _
      | exact ih1 _ _ _ _
      | exact ih2 _ _ _ _
      | exact ih3 _ _ _ _
      | exact ih4 _ _ _ _
      | exact ih5 _ _ _ _ _
      | exact whetstoneref03_Encode.mono _ _
      | exact LeO.none _
      | refine LeO.ite ?_ ?_
      | refine LeO.bind ?_ (fun _ => ?_)
    · intro y0 y1 y2 y3
      unfold whetstoneref03_One.j1
      repeat' first
      | (with_reducible exact ih0 _ _ _)
      | (with_reducible exact ih1 _ _ _ _)
      | (with_reducible exact ih2 _ _ _ _)
      | (with_reducible exact ih3 _ _ _ _)
      | (with_reducible exact ih4 _ _ _ _)
      | (with_reducible exact ih5 _ _ _ _ _)
      | (with_reducible exact whetstoneref03_Encode.mono _ _)
      | (with_reducible exact LeO.refl _)
      | (with_reducible exact LeO.none _)
      | (with_reducible refine LeO.ite ?_ ?_)
      | (with_reducible refine LeO.bind ?_ (fun _ => ?_))
      | exact ih0 _ _ _
      | exact ih1 _ _ _ _
      | exact ih2 _ _ _ _
      | exact ih3 _ _ _ _
      | exact ih4 _ _ _ _
      | exact ih5 _ _ _ _ _
      | exact whetstoneref03_Encode.mono _ _
      | exact LeO.none _
      | refine LeO.ite ?_ ?_
      | refine LeO.bind ?_ (fun _ => ?_)
    · intro y0 y1 y2 y3
      unfold whetstoneref03_One.j2
      repeat' first
      | (with_reducible exact ih0 _ _ _)
      | (with_reducible exact ih1 _ _ _ _)
      | (with_reducible exact ih2 _ _ _ _)
      | (with_reducible exact ih3 _ _ _ _)
      | (with_reducible exact ih4 _ _ _ _)
      | (with_reducible exact ih5 _ _ _ _ _)
      | (with_reducible exact whetstoneref03_Encode.mono _ _)
      | (with_reducible exact LeO.refl _)
      | (with_reducible exact LeO.none _)
      | (with_reducible refine LeO.ite ?_ ?_)
      | (with_reducible refine LeO.bind ?_ (fun _ => ?_))
      | exact ih0 _ _ _
      | exact ih1 _ _ _ _
      | exact ih2 _ _ _ _
      | exact ih3 _ _ _ _
      | exact ih4 _ _ _ _
      | exact ih5 _ _ _ _ _
      | exact whetstoneref03_Encode.mono _ _
      | exact LeO.none _
      | refine LeO.ite ?_ ?_
      | refine LeO.bind ?_ (fun _ => ?_)
    · intro y0 y1 y2 y3
      unfold whetstoneref03_One.j3
      repeat' first
      | (with_reducible exact ih0 _ _ _)
      | (with_reducible exact ih1 _ _ _ _)
      | (with_reducible exact ih2 _ _ _ _)
      | (with_reducible exact ih3 _ _ _ _)
      | (with_reducible exact ih4 _ _ _ _)
      | (with_reducible exact ih5 _ _ _ _ _)
      | (with_reducible exact whetstoneref03_Encode.mono _ _)
      | (with_reducible exact LeO.refl _)
      | (with_reducible exact LeO.none _)
      | (with_reducible refine LeO.ite ?_ ?_)
      | (with_reducible refine LeO.bind ?_ (fun _ => ?_))
      | exact ih0 _ _ _
      | exact ih1 _ _ _ _
      | exact ih2 _ _ _ _
      | exact ih3 _ _ _ _
      | exact ih4 _ _ _ _
      | exact ih5 _ _ _ _ _
      | exact whetstoneref03_Encode.mono _ _
      | exact LeO.none _
      | refine LeO.ite ?_ ?_
      | refine LeO.bind ?_ (fun _ => ?_)
    · intro y0 y1 y2 y3
      unfold whetstoneref03_One.j4
      repeat' first
      | (with_reducible exact ih0 _ _ _)
      | (with_reducible exact ih1 _ _ _ _)
      | (with_reducible exact ih2 _ _ _ _)
      | (with_reducible exact ih3 _ _ _ _)
      | (with_reducible exact ih4 _ _ _ _)
      | (with_reducible exact ih5 _ _ _ _ _)
      | (with_reducible exact whetstoneref03_Encode.mono _ _)
      | (with_reducible exact LeO.refl _)
      | (with_reducible exact LeO.none _)
      | (with_reducible refine LeO.ite ?_ ?_)
      | (with_reducible refine LeO.bind ?_ (fun _ => ?_))
      | exact ih0 _ _ _
      | exact ih1 _ _ _ _
      | exact ih2 _ _ _ _
      | exact ih3 _ _ _ _
      | exact ih4 _ _ _ _
      | exact ih5 _ _ _ _ _
      | exact whetstoneref03_Encode.mono _ _
      | exact LeO.none _
      | refine LeO.ite ?_ ?_
      | refine LeO.bind ?_ (fun _ => ?_)
    · intro y0 y1 y2 y3 y4
      unfold whetstoneref03_One.l1
      repeat' first
      | (with_reducible exact ih0 _ _ _)
      | (with_reducible exact ih1 _ _ _ _)
      | (with_reducible exact ih2 _ _ _ _)
      | (with_reducible exact ih3 _ _ _ _)
      | (with_reducible exact ih4 _ _ _ _)
      | (with_reducible exact ih5 _ _ _ _ _)
      | (with_reducible exact whetstoneref03_Encode.mono _ _)
      | (with_reducible exact LeO.refl _)
      | (with_reducible exact LeO.none _)
      | (with_reducible refine LeO.ite ?_ ?_)
      | (with_reducible refine LeO.bind ?_ (fun _ => ?_))
      | exact ih0 _ _ _
      | exact ih1 _ _ _ _
      | exact ih2 _ _ _ _
      | exact ih3 _ _ _ _
      | exact ih4 _ _ _ _
      | exact ih5 _ _ _ _ _
      | exact whetstoneref03_Encode.mono _ _
      | exact LeO.none _
      | refine LeO.ite ?_ ?_
      | refine LeO.bind ?_ (fun _ => ?_)
theorem whetstoneref03_One.mono : ∀ a0 a1 k, LeO (whetstoneref03_One.f k a0 a1) (whetstoneref03_One.f (k + 1) a0 a1) := by
  intro a0 a1 k
  obtain ⟨ih0, ih1, ih2, ih3, ih4, ih5⟩ := whetstoneref03_One.mono_l k
  unfold whetstoneref03_One.f
  repeat' first
      | (with_reducible exact ih0 _ _ _)
      | (with_reducible exact ih1 _ _ _ _)
      | (with_reducible exact ih2 _ _ _ _)
      | (with_reducible exact ih3 _ _ _ _)
      | (with_reducible exact ih4 _ _ _ _)
      | (with_reducible exact ih5 _ _ _ _ _)
      | (with_reducible exact whetstoneref03_Encode.mono _ _)
      | (with_reducible exact LeO.refl _)
      | (with_reducible exact LeO.none _)
      | (with_reducible refine LeO.ite ?_ ?_)
      | (with_reducible refine LeO.bind ?_ (fun _ => ?_))
      | exact ih0 _ _ _
      | exact ih1 _ _ _ _
      | exact ih2 _ _ _ _
      | exact ih3 _ _ _ _
      | exact ih4 _ _ _ _
      | exact ih5 _ _ _ _ _
      | exact whetstoneref03_Encode.mono _ _
      | exact LeO.none _
      | refine LeO.ite ?_ ?_
      | refine LeO.bind ?_ (fun _ => ?_)
set_option maxHeartbeats 8000000 in
set_option maxRecDepth 100000 in
theorem whetstoneref03_One.calls (k : Nat) (A0 : Option Addr) (c0 : Nat) (l0 : List Int) (a1 : Int) (r1 : Int) (r2 : Int) (w : World) (hr0 : Kd.C (Kd.int .u8) w A0 l0.length l0) (hc0 : l0.length ≤ c0) (h : whetstoneref03_One.f k l0 a1 = some (r1, r2)) :
    Calls Try.prog 26 #[.slice A0 l0.length c0, .int .i64 a1] w fun e w' => e = .returned (.tuple #[.int .i64 r1, .int .i64 r2]) ∧ Below w.heap.size w w' := by
  have HR0 := Aside0.mk hr0
  have HC0 := Aside0.mk hc0
  clear hr0 hc0
  have HB := Aside0.mk (Below.refl w.heap.size w)
  have H : (whetstoneref03_One.l0 k l0 a1 1) = some (r1, r2) := h
  clear h
  have H' := Aside0.mk H
  clear H
  go_enter Try.func26, Try.ntmps26
  go_wp2
  repeat (go_quiet (fail); try go_wp2)
  go_loopg [6] k (fun kq v6 w' => ∃ (x6_1 : Int), v6 = .int .i64 x6_1 ∧ Aside0 (whetstoneref03_One.l0 kq l0 a1 x6_1 = some (r1, r2)) ∧ Aside0 (kq ≤ k) ∧ Aside0 (Below w.heap.size w w'))
  case atStart => exact ⟨(1), (by first | rfl | (simp; done) | (simp [*]; done)), H', ⟨Nat.le_refl _⟩, ⟨by repeat (first | (with_reducible first | exact HB.out | apply below_alloc | apply pw_below_drewN | apply below_drew1) | exact HB.out)⟩⟩
  case round =>
    clear H'
    try clear c2
    try clear p2
    obtain ⟨x6_1, rfl, HA, HK1, HB⟩ := hrel
    cases gk with
    | zero => exact absurd HA.out (by simp [whetstoneref03_One.l0])
    | succ k1 =>
      have H := HA.out
      clear HA
      simp only [whetstoneref03_One.l0] at H
      have HC3 := Aside0.mk H
      clear H
      go_upto_region 2 with (fail)
      repeat (go_quiet (fail); go_upto_region 2 with (fail))
      go_cut [20] from 1 to 0 (fun v20 wc => ∃ (kq : Nat) (x20_2 : Bool), v20 = .bool x20_2 ∧ Aside0 (whetstoneref03_One.j1 kq l0 a1 x6_1 x20_2 = some (r1, r2)) ∧ Aside0 (kq ≤ k1) ∧ Aside0 (Below w.heap.size w wc))
      case first =>
        have H := HC3.out
        clear HC3
        by_cases c4 : x6_1 ≤ 4
        · rw [if_pos c4] at H
          have c4b0 : decide (x6_1 ≤ 4) = true := decide_eq_true c4
          clear c4
          (first | rw [c4b0] | rw [c4b1] | (simp only [i64_w, i32_w]; rw [c4b0]) | skip)
          have H' := Aside0.mk H
          clear H
          go_wp2
          repeat (go_quiet (fail); try go_wp2)
          go_meet
          case rel => exact ⟨_, (decide ((wrap64 (a1 + x6_1)) ≤ (l0.length : Int))), (by first | rfl | (simp; done) | (simp [*]; done)), H', ⟨by have := HK1.out; first | omega | exact Nat.le_refl _⟩, ⟨by repeat (first | (with_reducible first | exact HB.out | apply below_alloc | apply pw_below_drewN | apply below_drew1) | exact HB.out)⟩⟩
        · rw [if_neg c4] at H
          have c4b0 : decide (x6_1 ≤ 4) = false := decide_eq_false c4
          clear c4
          (first | rw [c4b0] | rw [c4b1] | (simp only [i64_w, i32_w]; rw [c4b0]) | skip)
          have H' := Aside0.mk H
          clear H
          go_wp2
          repeat (go_quiet (fail); try go_wp2)
          go_meet
          case rel => exact ⟨_, (false), (by first | rfl | (simp; done) | (simp [*]; done)), H', ⟨by have := HK1.out; first | omega | exact Nat.le_refl _⟩, ⟨by repeat (first | (with_reducible first | exact HB.out | apply below_alloc | apply pw_below_drewN | apply below_drew1) | exact HB.out)⟩⟩
      case rest =>
        clear HC3
        try clear c2
        try clear p2
        try clear c4
        try clear c4b0
        try clear p2
        obtain ⟨kq, x20_2, rfl, HA, HJ2, HB⟩ := hcut
        cases kq with
        | zero => exact absurd HA.out (by simp [whetstoneref03_One.j1])
        | succ kj2 =>
          have H := HA.out
          clear HA
          simp only [whetstoneref03_One.j1] at H
          by_cases c5 : x20_2 = true
          · subst c5
            have H1 : (if 0 ≤ a1 then (if a1 < (l0.length : Int) then (if x6_1 = 2 then (whetstoneref03_One.j2 kj2 l0 a1 x6_1 (wrap64 ((wrap64 (rd l0 a1)) - 192))) else (whetstoneref03_One.j2 kj2 l0 a1 x6_1 (wrap64 (rd l0 a1)))) else (none)) else (none)) = some (r1, r2) := by rw [if_pos rfl] at H; exact H
            clear H
            have H := H1
            clear H1
            by_cases c6 : 0 ≤ a1
            · rw [if_pos c6] at H
              have c6b0 : decide (0 ≤ a1) = true := decide_eq_true c6
              clear c6
              by_cases c7 : a1 < (l0.length : Int)
              · rw [if_pos c7] at H
                have c7b0 : decide (a1 < (l0.length : Int)) = true := decide_eq_true c7
                clear c7
                have HC8 := Aside0.mk H
                clear H
                have p176 : 0 ≤ (a1 : Int) := of_decide_eq_true (by first | (with_reducible assumption) | assumption)
                have q176 : a1 < (l0.length : Int) := of_decide_eq_true (by first | (with_reducible assumption) | assumption)
                obtain ⟨ad176, e176, hx176_0⟩ := Kd.at_int HR0.out a1 p176 q176
                cases e176
                replace hx176_0 := (HB.out.cell (World.block_lt_of_cell? w _ hx176_0)).trans hx176_0
                replace p176 := eq_true p176
                replace q176 := eq_true q176
                go_upto_if 29 with (fail)
                repeat (go_quiet (fail); go_upto_if 29 with (fail))
                go_cut [7] from 29 to 29 (fun v7 wc => ∃ (kq : Nat) (x7_7 : Int), v7 = .int .i64 x7_7 ∧ Aside0 (whetstoneref03_One.j2 kq l0 a1 x6_1 x7_7 = some (r1, r2)) ∧ Aside0 (kq ≤ kj2) ∧ Aside0 (Below w.heap.size w wc))
                case first =>
                  have H := HC8.out
                  clear HC8
                  by_cases c9 : x6_1 = 2
                  · rw [if_pos c9] at H
                    have c9b0 : (x6_1 == 2) = true := beq_iff_eq.mpr c9
                    have c9b1 : (x6_1 != 2) = false := bne_eq_false_iff_eq.mpr c9
                    clear c9
                    (first | rw [c9b0] | rw [c9b1] | (simp only [i64_w, i32_w]; rw [c9b0]) | skip)
                    have H' := Aside0.mk H
                    clear H
                    go_wp2
                    repeat (go_quiet (fail); try go_wp2)
                    go_meet
                    case rel => exact ⟨_, (wrap64 ((wrap64 (rd l0 a1)) - 192)), (by first | rfl | (simp; done) | (simp [*]; done)), H', ⟨by have := HK1.out; have := HJ2.out; first | omega | exact Nat.le_refl _⟩, ⟨by repeat (first | (with_reducible first | exact HB.out | apply below_alloc | apply pw_below_drewN | apply below_drew1) | exact HB.out)⟩⟩
                  · rw [if_neg c9] at H
                    have c9b0 : (x6_1 == 2) = false := beq_eq_false_iff_ne.mpr c9
                    have c9b1 : (x6_1 != 2) = true := bne_iff_ne.mpr c9
                    (first | rw [c9b0] | rw [c9b1] | (simp only [i64_w, i32_w]; rw [c9b0]) | skip)
                    have H' := Aside0.mk H
                    clear H
                    go_wp2
                    repeat (go_quiet (fail); try go_wp2)
                    go_meet
                    case rel => exact ⟨_, (wrap64 (rd l0 a1)), (by first | rfl | (simp; done) | (simp [*]; done)), H', ⟨by have := HK1.out; have := HJ2.out; first | omega | exact Nat.le_refl _⟩, ⟨by repeat (first | (with_reducible first | exact HB.out | apply below_alloc | apply pw_below_drewN | apply below_drew1) | exact HB.out)⟩⟩
                case rest =>
                  clear HC8
                  try clear p1
                  try clear q1
                  try clear hx1
                  try clear c2
                  try clear p2
                  try clear c4
                  try clear c4b0
                  try clear c5
                  try clear c6
                  try clear c6b0
                  try clear p6
                  try clear c7
                  try clear c7b0
                  try clear c9
                  try clear c9b0
                  try clear c9b1
                  try clear hx176_0
                  try clear p176
                  try clear p2
                  try clear q176
                  obtain ⟨kq, x7_7, rfl, HA, HJ7, HB⟩ := hcut
                  cases kq with
                  | zero => exact absurd HA.out (by simp [whetstoneref03_One.j2])
                  | succ kj7 =>
                    have H := HA.out
                    clear HA
                    simp only [whetstoneref03_One.j2] at H
                    have HC10 := Aside0.mk H
                    clear H
                    go_upto_if 33 with (fail)
                    repeat (go_quiet (fail); go_upto_if 33 with (fail))
                    go_cut [7] from 33 to 33 (fun v7 wc => ∃ (kq : Nat) (x7_9 : Int), v7 = .int .i64 x7_9 ∧ Aside0 (whetstoneref03_One.j3 kq l0 a1 x6_1 x7_9 = some (r1, r2)) ∧ Aside0 (kq ≤ kj7) ∧ Aside0 (Below w.heap.size w wc))
                    case first =>
                      have H := HC10.out
                      clear HC10
                      by_cases c11 : x6_1 = 3
                      · rw [if_pos c11] at H
                        have c11b0 : (x6_1 == 3) = true := beq_iff_eq.mpr c11
                        have c11b1 : (x6_1 != 3) = false := bne_eq_false_iff_eq.mpr c11
                        clear c11
                        (first | rw [c11b0] | rw [c11b1] | (simp only [i64_w, i32_w]; rw [c11b0]) | skip)
                        have H' := Aside0.mk H
                        clear H
                        go_wp2
                        repeat (go_quiet (fail); try go_wp2)
                        go_meet
                        case rel => exact ⟨_, (wrap64 (x7_7 - 224)), (by first | rfl | (simp; done) | (simp [*]; done)), H', ⟨by have := HK1.out; have := HJ2.out; have := HJ7.out; first | omega | exact Nat.le_refl _⟩, ⟨by repeat (first | (with_reducible first | exact HB.out | apply below_alloc | apply pw_below_drewN | apply below_drew1) | exact HB.out)⟩⟩
                      · rw [if_neg c11] at H
                        have c11b0 : (x6_1 == 3) = false := beq_eq_false_iff_ne.mpr c11
                        have c11b1 : (x6_1 != 3) = true := bne_iff_ne.mpr c11
                        (first | rw [c11b0] | rw [c11b1] | (simp only [i64_w, i32_w]; rw [c11b0]) | skip)
                        have H' := Aside0.mk H
                        clear H
                        go_wp2
                        repeat (go_quiet (fail); try go_wp2)
                        go_meet
                        case rel => exact ⟨_, (x7_7), (by first | rfl | (simp; done) | (simp [*]; done)), H', ⟨by have := HK1.out; have := HJ2.out; have := HJ7.out; first | omega | exact Nat.le_refl _⟩, ⟨by repeat (first | (with_reducible first | exact HB.out | apply below_alloc | apply pw_below_drewN | apply below_drew1) | exact HB.out)⟩⟩
                    case rest =>
                      clear HC10
                      try clear c1
                      try clear p1
                      try clear q1
                      try clear hx1
                      try clear c2
                      try clear p2
                      try clear c4
                      try clear c4b0
                      try clear c5
                      try clear c6
                      try clear c6b0
                      try clear p6
                      try clear c7
                      try clear c7b0
                      try clear c9
                      try clear c9b0
                      try clear c9b1
                      try clear c11
                      try clear c11b0
                      try clear c11b1
                      try clear hx176_0
                      try clear p1
                      try clear p176
                      try clear p2
                      try clear p6
                      try clear q1
                      try clear q176
                      obtain ⟨kq, x7_9, rfl, HA, HJ9, HB⟩ := hcut
                      cases kq with
                      | zero => exact absurd HA.out (by simp [whetstoneref03_One.j3])
                      | succ kj9 =>
                        have H := HA.out
                        clear HA
                        simp only [whetstoneref03_One.j3] at H
                        have HC12 := Aside0.mk H
                        clear H
                        go_upto_if 37 with (fail)
                        repeat (go_quiet (fail); go_upto_if 37 with (fail))
                        go_cut [7] from 37 to 37 (fun v7 wc => ∃ (kq : Nat) (x7_11 : Int), v7 = .int .i64 x7_11 ∧ Aside0 (whetstoneref03_One.j4 kq l0 a1 x6_1 x7_11 = some (r1, r2)) ∧ Aside0 (kq ≤ kj9) ∧ Aside0 (Below w.heap.size w wc))
                        case first =>
                          have H := HC12.out
                          clear HC12
                          by_cases c13 : x6_1 = 4
                          · rw [if_pos c13] at H
                            have c13b0 : (x6_1 == 4) = true := beq_iff_eq.mpr c13
                            have c13b1 : (x6_1 != 4) = false := bne_eq_false_iff_eq.mpr c13
                            clear c13
                            (first | rw [c13b0] | rw [c13b1] | (simp only [i64_w, i32_w]; rw [c13b0]) | skip)
                            have H' := Aside0.mk H
                            clear H
                            go_wp2
                            repeat (go_quiet (fail); try go_wp2)
                            go_meet
                            case rel => exact ⟨_, (wrap64 (x7_9 - 240)), (by first | rfl | (simp; done) | (simp [*]; done)), H', ⟨by have := HK1.out; have := HJ2.out; have := HJ7.out; have := HJ9.out; first | omega | exact Nat.le_refl _⟩, ⟨by repeat (first | (with_reducible first | exact HB.out | apply below_alloc | apply pw_below_drewN | apply below_drew1) | exact HB.out)⟩⟩
                          · rw [if_neg c13] at H
                            have c13b0 : (x6_1 == 4) = false := beq_eq_false_iff_ne.mpr c13
                            have c13b1 : (x6_1 != 4) = true := bne_iff_ne.mpr c13
                            (first | rw [c13b0] | rw [c13b1] | (simp only [i64_w, i32_w]; rw [c13b0]) | skip)
                            have H' := Aside0.mk H
                            clear H
                            go_wp2
                            repeat (go_quiet (fail); try go_wp2)
                            go_meet
                            case rel => exact ⟨_, (x7_9), (by first | rfl | (simp; done) | (simp [*]; done)), H', ⟨by have := HK1.out; have := HJ2.out; have := HJ7.out; have := HJ9.out; first | omega | exact Nat.le_refl _⟩, ⟨by repeat (first | (with_reducible first | exact HB.out | apply below_alloc | apply pw_below_drewN | apply below_drew1) | exact HB.out)⟩⟩
                        case rest =>
                          clear HC12
                          try clear c1
                          try clear p1
                          try clear q1
                          try clear hx1
                          try clear c2
                          try clear p2
                          try clear c4
                          try clear c4b0
                          try clear c5
                          try clear c6
                          try clear c6b0
                          try clear p6
                          try clear c7
                          try clear c7b0
                          try clear c9
                          try clear c9b0
                          try clear c9b1
                          try clear c11
                          try clear c11b0
                          try clear c11b1
                          try clear c13
                          try clear c13b0
                          try clear c13b1
                          try clear hx176_0
                          try clear p1
                          try clear p176
                          try clear p2
                          try clear p6
                          try clear q1
                          try clear q176
                          obtain ⟨kq, x7_11, rfl, HA, HJ11, HB⟩ := hcut
                          cases kq with
                          | zero => exact absurd HA.out (by simp [whetstoneref03_One.j4])
                          | succ kj11 =>
                            have H := HA.out
                            clear HA
                            simp only [whetstoneref03_One.j4] at H
                            have H' := Aside0.mk H
                            clear H
                            go_wp2
                            repeat (go_quiet (fail); try go_wp2)
                            go_loopg [7, 8] kj11 (fun kq v7 v8 w' => ∃ (x7_6 : Int) (x8_6 : Int), v7 = .int .i64 x7_6 ∧ v8 = .int .i64 x8_6 ∧ Aside0 (whetstoneref03_One.l1 kq l0 a1 x6_1 x7_6 x8_6 = some (r1, r2)) ∧ Aside0 (kq ≤ kj11) ∧ Aside0 (Below w.heap.size w w'))
                            case atStart => exact ⟨(x7_11), (1), (by first | rfl | (simp; done) | (simp [*]; done)), (by first | rfl | (simp; done) | (simp [*]; done)), H', ⟨Nat.le_refl _⟩, ⟨by repeat (first | (with_reducible first | exact HB.out | apply below_alloc | apply pw_below_drewN | apply below_drew1) | exact HB.out)⟩⟩
                            case round =>
                              clear H'
                              try clear c1
                              try clear p1
                              try clear q1
                              try clear hx1
                              try clear c2
                              try clear p2
                              try clear c4
                              try clear c4b0
                              try clear c5
                              try clear c6
                              try clear c6b0
                              try clear p6
                              try clear c7
                              try clear c7b0
                              try clear c9
                              try clear c9b0
                              try clear c9b1
                              try clear c11
                              try clear c11b0
                              try clear c11b1
                              try clear c13
                              try clear c13b0
                              try clear c13b1
                              try clear hx176_0
                              try clear p1
                              try clear p176
                              try clear p2
                              try clear p6
                              try clear q1
                              try clear q176
                              obtain ⟨x7_6, x8_6, rfl, rfl, HA, HK6, HB⟩ := hrel
                              cases gk with
                              | zero => exact absurd HA.out (by simp [whetstoneref03_One.l1])
                              | succ k6 =>
                                have H := HA.out
                                clear HA
                                simp only [whetstoneref03_One.l1] at H
                                by_cases c14 : x8_6 < x6_1
                                · rw [if_pos c14] at H
                                  have c14b0 : decide (x8_6 < x6_1) = true := decide_eq_true c14
                                  clear c14
                                  obtain ⟨ji15, hji15⟩ : ∃ j_ : Int, (wrap64 (a1 + x8_6)) = j_ := ⟨_, rfl⟩
                                  replace H : (if 0 ≤ (ji15) then (if (ji15) < (l0.length : Int) then (whetstoneref03_One.l1 k6 l0 a1 x6_1 (wrap64 ((wrap64 ((wrap64 (x7_6 * 64)) + (wrap64 (rd l0 (ji15))))) - 128)) (wrap64 (x8_6 + 1))) else (none)) else (none)) = some (r1, r2) := by first | (rw [hji15] at H; exact H) | (simp only [hji15] at H ⊢; exact H)
                                  have hji15w : (IntKind.i64.wrap (a1 + x8_6)) = ji15 := (i64_w _).trans hji15
                                  by_cases c16 : 0 ≤ (ji15)
                                  · rw [if_pos c16] at H
                                    have c16b0 : decide (0 ≤ (ji15)) = true := decide_eq_true c16
                                    clear c16
                                    by_cases c17 : (ji15) < (l0.length : Int)
                                    · rw [if_pos c17] at H
                                      have c17b0 : decide ((ji15) < (l0.length : Int)) = true := decide_eq_true c17
                                      clear c17
                                      have H' := Aside0.mk H
                                      clear H
                                      have p177 : 0 ≤ ((ji15) : Int) := of_decide_eq_true (by first | (with_reducible assumption) | assumption)
                                      have q177 : (ji15) < (l0.length : Int) := of_decide_eq_true (by first | (with_reducible assumption) | assumption)
                                      obtain ⟨ad177, e177, hx177_0⟩ := Kd.at_int HR0.out (ji15) p177 q177
                                      obtain rfl : ad176 = ad177 := (by injection e177)
                                      replace hx177_0 := (HB.out.cell (World.block_lt_of_cell? w _ hx177_0)).trans hx177_0
                                      replace p177 := eq_true p177
                                      replace q177 := eq_true q177
                                      go_wp2
                                      repeat (go_quiet (fail); try go_wp2)
                                      go_roundg k6
                                      case measure => have := HK1.out; have := HJ2.out; have := HJ7.out; have := HJ9.out; have := HJ11.out; have := HK6.out; omega
                                      case rel => exact ⟨(wrap64 ((wrap64 ((wrap64 (x7_6 * 64)) + (wrap64 (rd l0 (ji15))))) - 128)), (wrap64 (x8_6 + 1)), (by first | rfl | (simp; done) | (simp only [← hji15] <;> (first | rfl | simp)) | (simp [*]; done)), (by first | rfl | (simp; done) | (simp [*]; done)), H', ⟨by have := HK1.out; have := HJ2.out; have := HJ7.out; have := HJ9.out; have := HJ11.out; have := HK6.out; omega⟩, ⟨by repeat (first | (with_reducible first | exact HB.out | apply below_alloc | apply pw_below_drewN | apply below_drew1) | exact HB.out)⟩⟩
                                    · rw [if_neg c17] at H
                                      exact absurd H (by simp)
                                  · rw [if_neg c16] at H
                                    exact absurd H (by simp)
                                · rw [if_neg c14] at H
                                  have c14b0 : decide (x8_6 < x6_1) = false := decide_eq_false c14
                                  clear c14
                                  replace H := Option.bind_eq_some_iff.mp H
                                  obtain ⟨⟨t178, t179⟩, A180, H⟩ := H
                                  replace H : (if t179 = 0 then (if 0 ≤ a1 then (if a1 ≤ (wrap64 (a1 + x6_1)) then (if (wrap64 (a1 + x6_1)) ≤ (l0.length : Int) then (if (strOfNums t178).toList = (strOfNums ((l0.take ((wrap64 (a1 + x6_1)) : Int).toNat).drop (a1 : Int).toNat)).toList then (some (x7_6, x6_1)) else (whetstoneref03_One.l0 k6 l0 a1 (wrap64 (x6_1 + 1)))) else (none)) else (none)) else (none)) else (whetstoneref03_One.l0 k6 l0 a1 (wrap64 (x6_1 + 1)))) = some (r1, r2) := H
                                  have A18 := Aside0.mk A180
                                  clear A180
                                  by_cases c19 : t179 = 0
                                  · rw [if_pos c19] at H
                                    have c19b0 : (t179 == 0) = true := beq_iff_eq.mpr c19
                                    have c19b1 : (t179 != 0) = false := bne_eq_false_iff_eq.mpr c19
                                    clear c19
                                    by_cases c20 : 0 ≤ a1
                                    · rw [if_pos c20] at H
                                      have c20b0 := eq_true c20
                                      have c20b1 : decide (0 ≤ a1) = true := decide_eq_true c20
                                      clear c20
                                      by_cases c21 : a1 ≤ (wrap64 (a1 + x6_1))
                                      · rw [if_pos c21] at H
                                        have c21b0 := eq_true c21
                                        have c21b1 : decide (a1 ≤ (wrap64 (a1 + x6_1))) = true := decide_eq_true c21
                                        by_cases c22 : (wrap64 (a1 + x6_1)) ≤ (l0.length : Int)
                                        · rw [if_pos c22] at H
                                          have c22b0 := eq_true c22
                                          have c22b1 : decide ((wrap64 (a1 + x6_1)) ≤ (l0.length : Int)) = true := decide_eq_true c22
                                          by_cases c23 : (strOfNums t178).toList = (strOfNums ((l0.take ((wrap64 (a1 + x6_1)) : Int).toNat).drop (a1 : Int).toNat)).toList
                                          · rw [if_pos c23] at H
                                            have c23b0 : ((strOfNums t178).toList == (strOfNums ((l0.take ((wrap64 (a1 + x6_1)) : Int).toNat).drop (a1 : Int).toNat)).toList) = true := beq_iff_eq.mpr c23
                                            have c23b1 : ((strOfNums t178).toList != (strOfNums ((l0.take ((wrap64 (a1 + x6_1)) : Int).toNat).drop (a1 : Int).toNat)).toList) = false := bne_eq_false_iff_eq.mpr c23
                                            clear c23
                                            simp only [Option.some.injEq, Prod.mk.injEq] at H
                                            obtain ⟨rfl, rfl⟩ := H
                                            go_wp2_with (first | (go_at_call 17; (with_reducible refine (whetstoneref03_Encode.calls k6 x7_6 t178 t179 _ A18.out).mono ?_); rintro e w24 ⟨v180, rfl, ho0, hb⟩; have n0_ := Aside0.mk (Kd.R_lower ho0 (below_size (by repeat (first | (with_reducible first | exact HB.out | apply below_alloc | apply pw_below_drewN | apply below_drew1) | exact HB.out)))); have n1_ := Aside0.mk (below_step (by repeat (first | (with_reducible first | exact HB.out | apply below_alloc | apply pw_below_drewN | apply below_drew1) | exact HB.out)) hb); clear HB; have HO181 := n0_; have HB := n1_; clear n0_ n1_; (try clear hb); (try clear hb2); (try clear hk); (try clear hi); (try clear ho0); have hcv25 := own_string (P := Try.prog) Try.underlying22 Try.underlying5 Try.underlying9 (Kd.own_of_R HO181.out); have hcvd25_ := fun m_ : Nat => own_string (P := Try.prog) Try.underlying22 Try.underlying5 Try.underlying9 (Kd.own_of_R (Kd.R_drewN HO181.out m_)); obtain ⟨i026, hi026, _, hsz26, _⟩ := info_parts info5; obtain ⟨A26, hcut26, hA26, hC26⟩ := print_mid_of (P := Try.prog) (Value.int .u8) 0 22 5 .i64 .i64 Try.underlying22 hi026 hsz26 (some ad176) c0 l0 a1 (wrap64 (a1 + x6_1)) (of_decide_eq_true (by first | (with_reducible assumption) | assumption)) (by first | omega | exact of_decide_eq_true (by first | (with_reducible assumption) | assumption)) (of_decide_eq_true (by first | (with_reducible assumption) | assumption)) HC0.out; have HR182 := Aside0.mk (Kd.C_of_reads (h1 := fun _ => rfl) (hA26 _ (Kd.reads_of_C HR0.out))); have HC182 := Aside0.mk hC26; clear hA26 hC26 hi026 hsz26; have hcv27 := Kd.C_string (P := Try.prog) (A := A26) (c := (c0 - a1.toNat)) Try.underlying22 Try.underlying5 Try.underlying9 (Kd.C_below HR182.out HB.out); (try (have hcvs27_ := hcv27; rw [(show ((l0.take ((wrap64 (a1 + x6_1)) : Int).toNat).drop (a1 : Int).toNat).length = ((wrap64 (a1 + x6_1)) : Int).toNat - (a1 : Int).toNat from by rw [List.length_drop, List.length_take, Nat.min_eq_left (by have h_ : (wrap64 (a1 + x6_1)) ≤ (l0.length : Int) := (by first | (with_reducible assumption) | assumption | omega | exact of_decide_eq_true (by first | (with_reducible assumption) | assumption)); omega)])] at hcvs27_)); (try (have hcvd27_ := fun m_ : Nat => Kd.C_string (P := Try.prog) (A := A26) (c := (c0 - a1.toNat)) Try.underlying22 Try.underlying5 Try.underlying9 (Kd.C_below (Kd.C_below HR182.out HB.out) (pw_below_drewN (Below.refl _ _) m_)); rw [(show ((l0.take ((wrap64 (a1 + x6_1)) : Int).toNat).drop (a1 : Int).toNat).length = ((wrap64 (a1 + x6_1)) : Int).toNat - (a1 : Int).toNat from by rw [List.length_drop, List.length_take, Nat.min_eq_left (by have h_ : (wrap64 (a1 + x6_1)) ≤ (l0.length : Int) := (by first | (with_reducible assumption) | assumption | omega | exact of_decide_eq_true (by first | (with_reducible assumption) | assumption)); omega)])] at hcvd27_))))
                                            repeat (go_quiet (first | (go_at_call 17; (with_reducible refine (whetstoneref03_Encode.calls k6 x7_6 t178 t179 _ A18.out).mono ?_); rintro e w24 ⟨v180, rfl, ho0, hb⟩; have n0_ := Aside0.mk (Kd.R_lower ho0 (below_size (by repeat (first | (with_reducible first | exact HB.out | apply below_alloc | apply pw_below_drewN | apply below_drew1) | exact HB.out)))); have n1_ := Aside0.mk (below_step (by repeat (first | (with_reducible first | exact HB.out | apply below_alloc | apply pw_below_drewN | apply below_drew1) | exact HB.out)) hb); clear HB; have HO181 := n0_; have HB := n1_; clear n0_ n1_; (try clear hb); (try clear hb2); (try clear hk); (try clear hi); (try clear ho0); have hcv25 := own_string (P := Try.prog) Try.underlying22 Try.underlying5 Try.underlying9 (Kd.own_of_R HO181.out); have hcvd25_ := fun m_ : Nat => own_string (P := Try.prog) Try.underlying22 Try.underlying5 Try.underlying9 (Kd.own_of_R (Kd.R_drewN HO181.out m_)); obtain ⟨i026, hi026, _, hsz26, _⟩ := info_parts info5; obtain ⟨A26, hcut26, hA26, hC26⟩ := print_mid_of (P := Try.prog) (Value.int .u8) 0 22 5 .i64 .i64 Try.underlying22 hi026 hsz26 (some ad176) c0 l0 a1 (wrap64 (a1 + x6_1)) (of_decide_eq_true (by first | (with_reducible assumption) | assumption)) (by first | omega | exact of_decide_eq_true (by first | (with_reducible assumption) | assumption)) (of_decide_eq_true (by first | (with_reducible assumption) | assumption)) HC0.out; have HR182 := Aside0.mk (Kd.C_of_reads (h1 := fun _ => rfl) (hA26 _ (Kd.reads_of_C HR0.out))); have HC182 := Aside0.mk hC26; clear hA26 hC26 hi026 hsz26; have hcv27 := Kd.C_string (P := Try.prog) (A := A26) (c := (c0 - a1.toNat)) Try.underlying22 Try.underlying5 Try.underlying9 (Kd.C_below HR182.out HB.out); (try (have hcvs27_ := hcv27; rw [(show ((l0.take ((wrap64 (a1 + x6_1)) : Int).toNat).drop (a1 : Int).toNat).length = ((wrap64 (a1 + x6_1)) : Int).toNat - (a1 : Int).toNat from by rw [List.length_drop, List.length_take, Nat.min_eq_left (by have h_ : (wrap64 (a1 + x6_1)) ≤ (l0.length : Int) := (by first | (with_reducible assumption) | assumption | omega | exact of_decide_eq_true (by first | (with_reducible assumption) | assumption)); omega)])] at hcvs27_)); (try (have hcvd27_ := fun m_ : Nat => Kd.C_string (P := Try.prog) (A := A26) (c := (c0 - a1.toNat)) Try.underlying22 Try.underlying5 Try.underlying9 (Kd.C_below (Kd.C_below HR182.out HB.out) (pw_below_drewN (Below.refl _ _) m_)); rw [(show ((l0.take ((wrap64 (a1 + x6_1)) : Int).toNat).drop (a1 : Int).toNat).length = ((wrap64 (a1 + x6_1)) : Int).toNat - (a1 : Int).toNat from by rw [List.length_drop, List.length_take, Nat.min_eq_left (by have h_ : (wrap64 (a1 + x6_1)) ≤ (l0.length : Int) := (by first | (with_reducible assumption) | assumption | omega | exact of_decide_eq_true (by first | (with_reducible assumption) | assumption)); omega)])] at hcvd27_)))); try go_wp2_with (first | (go_at_call 17; (with_reducible refine (whetstoneref03_Encode.calls k6 x7_6 t178 t179 _ A18.out).mono ?_); rintro e w24 ⟨v180, rfl, ho0, hb⟩; have n0_ := Aside0.mk (Kd.R_lower ho0 (below_size (by repeat (first | (with_reducible first | exact HB.out | apply below_alloc | apply pw_below_drewN | apply below_drew1) | exact HB.out)))); have n1_ := Aside0.mk (below_step (by repeat (first | (with_reducible first | exact HB.out | apply below_alloc | apply pw_below_drewN | apply below_drew1) | exact HB.out)) hb); clear HB; have HO181 := n0_; have HB := n1_; clear n0_ n1_; (try clear hb); (try clear hb2); (try clear hk); (try clear hi); (try clear ho0); have hcv25 := own_string (P := Try.prog) Try.underlying22 Try.underlying5 Try.underlying9 (Kd.own_of_R HO181.out); have hcvd25_ := fun m_ : Nat => own_string (P := Try.prog) Try.underlying22 Try.underlying5 Try.underlying9 (Kd.own_of_R (Kd.R_drewN HO181.out m_)); obtain ⟨i026, hi026, _, hsz26, _⟩ := info_parts info5; obtain ⟨A26, hcut26, hA26, hC26⟩ := print_mid_of (P := Try.prog) (Value.int .u8) 0 22 5 .i64 .i64 Try.underlying22 hi026 hsz26 (some ad176) c0 l0 a1 (wrap64 (a1 + x6_1)) (of_decide_eq_true (by first | (with_reducible assumption) | assumption)) (by first | omega | exact of_decide_eq_true (by first | (with_reducible assumption) | assumption)) (of_decide_eq_true (by first | (with_reducible assumption) | assumption)) HC0.out; have HR182 := Aside0.mk (Kd.C_of_reads (h1 := fun _ => rfl) (hA26 _ (Kd.reads_of_C HR0.out))); have HC182 := Aside0.mk hC26; clear hA26 hC26 hi026 hsz26; have hcv27 := Kd.C_string (P := Try.prog) (A := A26) (c := (c0 - a1.toNat)) Try.underlying22 Try.underlying5 Try.underlying9 (Kd.C_below HR182.out HB.out); (try (have hcvs27_ := hcv27; rw [(show ((l0.take ((wrap64 (a1 + x6_1)) : Int).toNat).drop (a1 : Int).toNat).length = ((wrap64 (a1 + x6_1)) : Int).toNat - (a1 : Int).toNat from by rw [List.length_drop, List.length_take, Nat.min_eq_left (by have h_ : (wrap64 (a1 + x6_1)) ≤ (l0.length : Int) := (by first | (with_reducible assumption) | assumption | omega | exact of_decide_eq_true (by first | (with_reducible assumption) | assumption)); omega)])] at hcvs27_)); (try (have hcvd27_ := fun m_ : Nat => Kd.C_string (P := Try.prog) (A := A26) (c := (c0 - a1.toNat)) Try.underlying22 Try.underlying5 Try.underlying9 (Kd.C_below (Kd.C_below HR182.out HB.out) (pw_below_drewN (Below.refl _ _) m_)); rw [(show ((l0.take ((wrap64 (a1 + x6_1)) : Int).toNat).drop (a1 : Int).toNat).length = ((wrap64 (a1 + x6_1)) : Int).toNat - (a1 : Int).toNat from by rw [List.length_drop, List.length_take, Nat.min_eq_left (by have h_ : (wrap64 (a1 + x6_1)) ≤ (l0.length : Int) := (by first | (with_reducible assumption) | assumption | omega | exact of_decide_eq_true (by first | (with_reducible assumption) | assumption)); omega)])] at hcvd27_)))))
                                            go_ret2
                                            exact ⟨by first | rfl | (simp [errW_none, errW_some] <;> rfl) | (simp [*, errW_none, errW_some] <;> rfl), by repeat (first | (with_reducible first | exact HB.out | apply below_alloc | apply pw_below_drewN | apply below_drew1) | exact HB.out)⟩
                                          · rw [if_neg c23] at H
                                            have c23b0 : ((strOfNums t178).toList == (strOfNums ((l0.take ((wrap64 (a1 + x6_1)) : Int).toNat).drop (a1 : Int).toNat)).toList) = false := beq_eq_false_iff_ne.mpr c23
                                            have c23b1 : ((strOfNums t178).toList != (strOfNums ((l0.take ((wrap64 (a1 + x6_1)) : Int).toNat).drop (a1 : Int).toNat)).toList) = true := bne_iff_ne.mpr c23
                                            have H' := Aside0.mk H
                                            clear H
                                            go_wp2_with (first | (go_at_call 17; (with_reducible refine (whetstoneref03_Encode.calls k6 x7_6 t178 t179 _ A18.out).mono ?_); rintro e w28 ⟨v180, rfl, ho0, hb⟩; have n0_ := Aside0.mk (Kd.R_lower ho0 (below_size (by repeat (first | (with_reducible first | exact HB.out | apply below_alloc | apply pw_below_drewN | apply below_drew1) | exact HB.out)))); have n1_ := Aside0.mk (below_step (by repeat (first | (with_reducible first | exact HB.out | apply below_alloc | apply pw_below_drewN | apply below_drew1) | exact HB.out)) hb); clear HB; have HO181 := n0_; have HB := n1_; clear n0_ n1_; (try clear hb); (try clear hb2); (try clear hk); (try clear hi); (try clear ho0); have hcv29 := own_string (P := Try.prog) Try.underlying22 Try.underlying5 Try.underlying9 (Kd.own_of_R HO181.out); have hcvd29_ := fun m_ : Nat => own_string (P := Try.prog) Try.underlying22 Try.underlying5 Try.underlying9 (Kd.own_of_R (Kd.R_drewN HO181.out m_)); obtain ⟨i030, hi030, _, hsz30, _⟩ := info_parts info5; obtain ⟨A30, hcut30, hA30, hC30⟩ := print_mid_of (P := Try.prog) (Value.int .u8) 0 22 5 .i64 .i64 Try.underlying22 hi030 hsz30 (some ad176) c0 l0 a1 (wrap64 (a1 + x6_1)) (of_decide_eq_true (by first | (with_reducible assumption) | assumption)) (by first | omega | exact of_decide_eq_true (by first | (with_reducible assumption) | assumption)) (of_decide_eq_true (by first | (with_reducible assumption) | assumption)) HC0.out; have HR182 := Aside0.mk (Kd.C_of_reads (h1 := fun _ => rfl) (hA30 _ (Kd.reads_of_C HR0.out))); have HC182 := Aside0.mk hC30; clear hA30 hC30 hi030 hsz30; have hcv31 := Kd.C_string (P := Try.prog) (A := A30) (c := (c0 - a1.toNat)) Try.underlying22 Try.underlying5 Try.underlying9 (Kd.C_below HR182.out HB.out); (try (have hcvs31_ := hcv31; rw [(show ((l0.take ((wrap64 (a1 + x6_1)) : Int).toNat).drop (a1 : Int).toNat).length = ((wrap64 (a1 + x6_1)) : Int).toNat - (a1 : Int).toNat from by rw [List.length_drop, List.length_take, Nat.min_eq_left (by have h_ : (wrap64 (a1 + x6_1)) ≤ (l0.length : Int) := (by first | (with_reducible assumption) | assumption | omega | exact of_decide_eq_true (by first | (with_reducible assumption) | assumption)); omega)])] at hcvs31_)); (try (have hcvd31_ := fun m_ : Nat => Kd.C_string (P := Try.prog) (A := A30) (c := (c0 - a1.toNat)) Try.underlying22 Try.underlying5 Try.underlying9 (Kd.C_below (Kd.C_below HR182.out HB.out) (pw_below_drewN (Below.refl _ _) m_)); rw [(show ((l0.take ((wrap64 (a1 + x6_1)) : Int).toNat).drop (a1 : Int).toNat).length = ((wrap64 (a1 + x6_1)) : Int).toNat - (a1 : Int).toNat from by rw [List.length_drop, List.length_take, Nat.min_eq_left (by have h_ : (wrap64 (a1 + x6_1)) ≤ (l0.length : Int) := (by first | (with_reducible assumption) | assumption | omega | exact of_decide_eq_true (by first | (with_reducible assumption) | assumption)); omega)])] at hcvd31_))))
                                            repeat (go_quiet (first | (go_at_call 17; (with_reducible refine (whetstoneref03_Encode.calls k6 x7_6 t178 t179 _ A18.out).mono ?_); rintro e w28 ⟨v180, rfl, ho0, hb⟩; have n0_ := Aside0.mk (Kd.R_lower ho0 (below_size (by repeat (first | (with_reducible first | exact HB.out | apply below_alloc | apply pw_below_drewN | apply below_drew1) | exact HB.out)))); have n1_ := Aside0.mk (below_step (by repeat (first | (with_reducible first | exact HB.out | apply below_alloc | apply pw_below_drewN | apply below_drew1) | exact HB.out)) hb); clear HB; have HO181 := n0_; have HB := n1_; clear n0_ n1_; (try clear hb); (try clear hb2); (try clear hk); (try clear hi); (try clear ho0); have hcv29 := own_string (P := Try.prog) Try.underlying22 Try.underlying5 Try.underlying9 (Kd.own_of_R HO181.out); have hcvd29_ := fun m_ : Nat => own_string (P := Try.prog) Try.underlying22 Try.underlying5 Try.underlying9 (Kd.own_of_R (Kd.R_drewN HO181.out m_)); obtain ⟨i030, hi030, _, hsz30, _⟩ := info_parts info5; obtain ⟨A30, hcut30, hA30, hC30⟩ := print_mid_of (P := Try.prog) (Value.int .u8) 0 22 5 .i64 .i64 Try.underlying22 hi030 hsz30 (some ad176) c0 l0 a1 (wrap64 (a1 + x6_1)) (of_decide_eq_true (by first | (with_reducible assumption) | assumption)) (by first | omega | exact of_decide_eq_true (by first | (with_reducible assumption) | assumption)) (of_decide_eq_true (by first | (with_reducible assumption) | assumption)) HC0.out; have HR182 := Aside0.mk (Kd.C_of_reads (h1 := fun _ => rfl) (hA30 _ (Kd.reads_of_C HR0.out))); have HC182 := Aside0.mk hC30; clear hA30 hC30 hi030 hsz30; have hcv31 := Kd.C_string (P := Try.prog) (A := A30) (c := (c0 - a1.toNat)) Try.underlying22 Try.underlying5 Try.underlying9 (Kd.C_below HR182.out HB.out); (try (have hcvs31_ := hcv31; rw [(show ((l0.take ((wrap64 (a1 + x6_1)) : Int).toNat).drop (a1 : Int).toNat).length = ((wrap64 (a1 + x6_1)) : Int).toNat - (a1 : Int).toNat from by rw [List.length_drop, List.length_take, Nat.min_eq_left (by have h_ : (wrap64 (a1 + x6_1)) ≤ (l0.length : Int) := (by first | (with_reducible assumption) | assumption | omega | exact of_decide_eq_true (by first | (with_reducible assumption) | assumption)); omega)])] at hcvs31_)); (try (have hcvd31_ := fun m_ : Nat => Kd.C_string (P := Try.prog) (A := A30) (c := (c0 - a1.toNat)) Try.underlying22 Try.underlying5 Try.underlying9 (Kd.C_below (Kd.C_below HR182.out HB.out) (pw_below_drewN (Below.refl _ _) m_)); rw [(show ((l0.take ((wrap64 (a1 + x6_1)) : Int).toNat).drop (a1 : Int).toNat).length = ((wrap64 (a1 + x6_1)) : Int).toNat - (a1 : Int).toNat from by rw [List.length_drop, List.length_take, Nat.min_eq_left (by have h_ : (wrap64 (a1 + x6_1)) ≤ (l0.length : Int) := (by first | (with_reducible assumption) | assumption | omega | exact of_decide_eq_true (by first | (with_reducible assumption) | assumption)); omega)])] at hcvd31_)))); try go_wp2_with (first | (go_at_call 17; (with_reducible refine (whetstoneref03_Encode.calls k6 x7_6 t178 t179 _ A18.out).mono ?_); rintro e w28 ⟨v180, rfl, ho0, hb⟩; have n0_ := Aside0.mk (Kd.R_lower ho0 (below_size (by repeat (first | (with_reducible first | exact HB.out | apply below_alloc | apply pw_below_drewN | apply below_drew1) | exact HB.out)))); have n1_ := Aside0.mk (below_step (by repeat (first | (with_reducible first | exact HB.out | apply below_alloc | apply pw_below_drewN | apply below_drew1) | exact HB.out)) hb); clear HB; have HO181 := n0_; have HB := n1_; clear n0_ n1_; (try clear hb); (try clear hb2); (try clear hk); (try clear hi); (try clear ho0); have hcv29 := own_string (P := Try.prog) Try.underlying22 Try.underlying5 Try.underlying9 (Kd.own_of_R HO181.out); have hcvd29_ := fun m_ : Nat => own_string (P := Try.prog) Try.underlying22 Try.underlying5 Try.underlying9 (Kd.own_of_R (Kd.R_drewN HO181.out m_)); obtain ⟨i030, hi030, _, hsz30, _⟩ := info_parts info5; obtain ⟨A30, hcut30, hA30, hC30⟩ := print_mid_of (P := Try.prog) (Value.int .u8) 0 22 5 .i64 .i64 Try.underlying22 hi030 hsz30 (some ad176) c0 l0 a1 (wrap64 (a1 + x6_1)) (of_decide_eq_true (by first | (with_reducible assumption) | assumption)) (by first | omega | exact of_decide_eq_true (by first | (with_reducible assumption) | assumption)) (of_decide_eq_true (by first | (with_reducible assumption) | assumption)) HC0.out; have HR182 := Aside0.mk (Kd.C_of_reads (h1 := fun _ => rfl) (hA30 _ (Kd.reads_of_C HR0.out))); have HC182 := Aside0.mk hC30; clear hA30 hC30 hi030 hsz30; have hcv31 := Kd.C_string (P := Try.prog) (A := A30) (c := (c0 - a1.toNat)) Try.underlying22 Try.underlying5 Try.underlying9 (Kd.C_below HR182.out HB.out); (try (have hcvs31_ := hcv31; rw [(show ((l0.take ((wrap64 (a1 + x6_1)) : Int).toNat).drop (a1 : Int).toNat).length = ((wrap64 (a1 + x6_1)) : Int).toNat - (a1 : Int).toNat from by rw [List.length_drop, List.length_take, Nat.min_eq_left (by have h_ : (wrap64 (a1 + x6_1)) ≤ (l0.length : Int) := (by first | (with_reducible assumption) | assumption | omega | exact of_decide_eq_true (by first | (with_reducible assumption) | assumption)); omega)])] at hcvs31_)); (try (have hcvd31_ := fun m_ : Nat => Kd.C_string (P := Try.prog) (A := A30) (c := (c0 - a1.toNat)) Try.underlying22 Try.underlying5 Try.underlying9 (Kd.C_below (Kd.C_below HR182.out HB.out) (pw_below_drewN (Below.refl _ _) m_)); rw [(show ((l0.take ((wrap64 (a1 + x6_1)) : Int).toNat).drop (a1 : Int).toNat).length = ((wrap64 (a1 + x6_1)) : Int).toNat - (a1 : Int).toNat from by rw [List.length_drop, List.length_take, Nat.min_eq_left (by have h_ : (wrap64 (a1 + x6_1)) ≤ (l0.length : Int) := (by first | (with_reducible assumption) | assumption | omega | exact of_decide_eq_true (by first | (with_reducible assumption) | assumption)); omega)])] at hcvd31_)))))
                                            go_roundg k6
                                            case measure => have := HK1.out; have := HJ2.out; have := HJ7.out; have := HJ9.out; have := HJ11.out; have := HK6.out; omega
                                            case rel => exact ⟨(wrap64 (x6_1 + 1)), (by first | rfl | (simp; done) | (simp [*]; done)), H', ⟨by have := HK1.out; have := HJ2.out; have := HJ7.out; have := HJ9.out; have := HJ11.out; have := HK6.out; omega⟩, ⟨by repeat (first | (with_reducible first | exact HB.out | apply below_alloc | apply pw_below_drewN | apply below_drew1) | exact HB.out)⟩⟩
                                        · rw [if_neg c22] at H
                                          exact absurd H (by simp)
                                      · rw [if_neg c21] at H
                                        exact absurd H (by simp)
                                    · rw [if_neg c20] at H
                                      exact absurd H (by simp)
                                  · rw [if_neg c19] at H
                                    have c19b0 : (t179 == 0) = false := beq_eq_false_iff_ne.mpr c19
                                    have c19b1 : (t179 != 0) = true := bne_iff_ne.mpr c19
                                    have H' := Aside0.mk H
                                    clear H
                                    go_wp2_with (first | (go_at_call 17; (with_reducible refine (whetstoneref03_Encode.calls k6 x7_6 t178 t179 _ A18.out).mono ?_); rintro e w32 ⟨v180, rfl, ho0, hb⟩; have n0_ := Aside0.mk (Kd.R_lower ho0 (below_size (by repeat (first | (with_reducible first | exact HB.out | apply below_alloc | apply pw_below_drewN | apply below_drew1) | exact HB.out)))); have n1_ := Aside0.mk (below_step (by repeat (first | (with_reducible first | exact HB.out | apply below_alloc | apply pw_below_drewN | apply below_drew1) | exact HB.out)) hb); clear HB; have HO181 := n0_; have HB := n1_; clear n0_ n1_; (try clear hb); (try clear hb2); (try clear hk); (try clear hi); (try clear ho0)))
                                    repeat (go_quiet (first | (go_at_call 17; (with_reducible refine (whetstoneref03_Encode.calls k6 x7_6 t178 t179 _ A18.out).mono ?_); rintro e w32 ⟨v180, rfl, ho0, hb⟩; have n0_ := Aside0.mk (Kd.R_lower ho0 (below_size (by repeat (first | (with_reducible first | exact HB.out | apply below_alloc | apply pw_below_drewN | apply below_drew1) | exact HB.out)))); have n1_ := Aside0.mk (below_step (by repeat (first | (with_reducible first | exact HB.out | apply below_alloc | apply pw_below_drewN | apply below_drew1) | exact HB.out)) hb); clear HB; have HO181 := n0_; have HB := n1_; clear n0_ n1_; (try clear hb); (try clear hb2); (try clear hk); (try clear hi); (try clear ho0))); try go_wp2_with (first | (go_at_call 17; (with_reducible refine (whetstoneref03_Encode.calls k6 x7_6 t178 t179 _ A18.out).mono ?_); rintro e w32 ⟨v180, rfl, ho0, hb⟩; have n0_ := Aside0.mk (Kd.R_lower ho0 (below_size (by repeat (first | (with_reducible first | exact HB.out | apply below_alloc | apply pw_below_drewN | apply below_drew1) | exact HB.out)))); have n1_ := Aside0.mk (below_step (by repeat (first | (with_reducible first | exact HB.out | apply below_alloc | apply pw_below_drewN | apply below_drew1) | exact HB.out)) hb); clear HB; have HO181 := n0_; have HB := n1_; clear n0_ n1_; (try clear hb); (try clear hb2); (try clear hk); (try clear hi); (try clear ho0))))
                                    go_roundg k6
                                    case measure => have := HK1.out; have := HJ2.out; have := HJ7.out; have := HJ9.out; have := HJ11.out; have := HK6.out; omega
                                    case rel => exact ⟨(wrap64 (x6_1 + 1)), (by first | rfl | (simp; done) | (simp [*]; done)), H', ⟨by have := HK1.out; have := HJ2.out; have := HJ7.out; have := HJ9.out; have := HJ11.out; have := HK6.out; omega⟩, ⟨by repeat (first | (with_reducible first | exact HB.out | apply below_alloc | apply pw_below_drewN | apply below_drew1) | exact HB.out)⟩⟩
              · rw [if_neg c7] at H
                exact absurd H (by simp)
            · rw [if_neg c6] at H
              exact absurd H (by simp)
          · replace c5 := Bool.eq_false_iff.mpr c5
            subst c5
            have H1 : (some ((-1), 0)) = some (r1, r2) := by rw [if_neg (show ¬ (false = true) by decide)] at H; exact H
            clear H
            have H := H1
            clear H1
            simp only [Option.some.injEq, Prod.mk.injEq] at H
            obtain ⟨rfl, rfl⟩ := H
            go_wp2
            repeat (go_quiet (fail); try go_wp2)
            go_ret2
            exact ⟨by first | rfl | (simp [errW_none, errW_some] <;> rfl) | (simp [*, errW_none, errW_some] <;> rfl), by repeat (first | (with_reducible first | exact HB.out | apply below_alloc | apply pw_below_drewN | apply below_drew1) | exact HB.out)⟩

/-! ### whetstoneref03_Letters: function 14 -/
def whetstoneref03_Letters.l0 : Nat → List Int → List (S38) → Int → Option ((List (S38)))
  | 0, _, _, _ => none
  | k + 1, x0, x3, x4 => if x4 < (x0.length : Int) then ((whetstoneref03_One.f k x0 x4).bind fun bt183 => (if bt183.2 = 0 then (if x3.length < 5864062014805 then (whetstoneref03_Letters.l0 k x0 (x3 ++ [(⟨x4, (-1), 1⟩ : S38)]) (wrap64 (x4 + 1))) else (none)) else (if x3.length < 5864062014805 then (whetstoneref03_Letters.l0 k x0 (x3 ++ [(⟨x4, bt183.1, bt183.2⟩ : S38)]) (wrap64 (x4 + bt183.2))) else (none)))) else (some x3)
def whetstoneref03_Letters.f (k : Nat) (l0 : List Int) : Option ((List (S38))) := whetstoneref03_Letters.l0 k l0 ([] : List (S38)) 0
theorem whetstoneref03_Letters.mono_l : ∀ k, (∀ y0 y1 y2, LeO (whetstoneref03_Letters.l0 k y0 y1 y2) (whetstoneref03_Letters.l0 (k + 1) y0 y1 y2))
  | 0 => fun _ _ _ r h => by simp [whetstoneref03_Letters.l0] at h
  | k + 1 => by
    have ih0 := whetstoneref03_Letters.mono_l k
    · intro y0 y1 y2
      unfold whetstoneref03_Letters.l0
      repeat' first
      | (with_reducible exact ih0 _ _ _)
      | (with_reducible exact whetstoneref03_One.mono _ _ _)
      | (with_reducible exact LeO.refl _)
      | (with_reducible exact LeO.none _)
      | (with_reducible refine LeO.ite ?_ ?_)
      | (with_reducible refine LeO.bind ?_ (fun _ => ?_))
      | exact ih0 _ _ _
      | exact whetstoneref03_One.mono _ _ _
      | exact LeO.none _
      | refine LeO.ite ?_ ?_
      | refine LeO.bind ?_ (fun _ => ?_)
theorem whetstoneref03_Letters.mono : ∀ a0 k, LeO (whetstoneref03_Letters.f k a0) (whetstoneref03_Letters.f (k + 1) a0) := by
  intro a0 k
  have ih0 := whetstoneref03_Letters.mono_l k
  unfold whetstoneref03_Letters.f
  repeat' first
      | (with_reducible exact ih0 _ _ _)
      | (with_reducible exact whetstoneref03_One.mono _ _ _)
      | (with_reducible exact LeO.refl _)
      | (with_reducible exact LeO.none _)
      | (with_reducible refine LeO.ite ?_ ?_)
      | (with_reducible refine LeO.bind ?_ (fun _ => ?_))
      | exact ih0 _ _ _
      | exact whetstoneref03_One.mono _ _ _
      | exact LeO.none _
      | refine LeO.ite ?_ ?_
      | refine LeO.bind ?_ (fun _ => ?_)
set_option maxHeartbeats 8000000 in
set_option maxRecDepth 100000 in
theorem whetstoneref03_Letters.calls (k : Nat) (A0 : Option Addr) (c0 : Nat) (l0 : List Int) (r : List (S38)) (w : World) (hr0 : Kd.C (Kd.int .u8) w A0 l0.length l0) (hc0 : l0.length ≤ c0) (h : whetstoneref03_Letters.f k l0 = some r) :
    Calls Try.prog 14 #[.slice A0 l0.length c0] w fun e w' => ∃ v0_ : Value, e = .returned (v0_) ∧ Kd.R k38 38 w' w.heap.size (fun _ => True) v0_ r ∧ Below w.heap.size w w' := by
  have hu38 := Try.underlying38
  have HR0 := Aside0.mk hr0
  have HC0 := Aside0.mk hc0
  clear hr0 hc0
  have HB := Aside0.mk (Below.refl w.heap.size w)
  have H : (whetstoneref03_Letters.l0 k l0 ([] : List (S38)) 0) = some r := h
  clear h
  have H' := Aside0.mk H
  clear H
  go_enter Try.func14, Try.ntmps14
  go_wp2
  go_loopg [3, 4] k (fun kq v3 v4 w' => ∃ (x3_1 : List (S38)) (x4_1 : Int), v4 = .int .i64 x4_1 ∧ Aside0 (whetstoneref03_Letters.l0 kq l0 x3_1 x4_1 = some r) ∧ Aside0 (kq ≤ k) ∧ Aside0 (Kd.R k38 38 w' w.heap.size (fun _ => True) v3 x3_1) ∧ Aside0 (Below w.heap.size w w'))
  case atStart => exact ⟨(([] : List (S38))), (0), (by first | rfl | (simp; done) | (simp [*]; done)), H', ⟨Nat.le_refl _⟩, ⟨by first | exact Kd.R_nil _ _ _ _ _ | exact Kd.N_nil _ _ _ _ _ | exact Kd.V_nil _ _ _ _ _ | exact Kd.Q_nil _ _ _ _ _ | exact Kd.S_nil _ _ _ _ _⟩, ⟨by repeat (first | (with_reducible first | exact HB.out | apply below_alloc | apply pw_below_drewN | apply below_drew1) | exact HB.out)⟩⟩
  case round =>
    clear H'
    try clear c1
    obtain ⟨x3_1, x4_1, rfl, HA, HK1, HO_3, HB⟩ := hrel
    cases gk with
    | zero => exact absurd HA.out (by simp [whetstoneref03_Letters.l0])
    | succ k1 =>
      have H := HA.out
      clear HA
      simp only [whetstoneref03_Letters.l0] at H
      by_cases c2 : x4_1 < (l0.length : Int)
      · rw [if_pos c2] at H
        have c2b0 : decide (x4_1 < (l0.length : Int)) = true := decide_eq_true c2
        clear c2
        replace H := Option.bind_eq_some_iff.mp H
        obtain ⟨⟨t183, t184⟩, A30, H⟩ := H
        replace H : (if t184 = 0 then (if x3_1.length < 5864062014805 then (whetstoneref03_Letters.l0 k1 l0 (x3_1 ++ [(⟨x4_1, (-1), 1⟩ : S38)]) (wrap64 (x4_1 + 1))) else (none)) else (if x3_1.length < 5864062014805 then (whetstoneref03_Letters.l0 k1 l0 (x3_1 ++ [(⟨x4_1, t183, t184⟩ : S38)]) (wrap64 (x4_1 + t184))) else (none))) = some r := H
        have A3 := Aside0.mk A30
        clear A30
        by_cases c4 : t184 = 0
        · rw [if_pos c4] at H
          have c4b0 : (t184 == 0) = true := beq_iff_eq.mpr c4
          have c4b1 : (t184 != 0) = false := bne_eq_false_iff_eq.mpr c4
          clear c4
          by_cases c5 : x3_1.length < 5864062014805
          · rw [if_pos c5] at H
            have LMc5 := Aside0.mk c5
            clear c5
            obtain ⟨y185, hy185⟩ : ∃ y_ : List (S38), y_ = (x3_1 ++ [(⟨x4_1, (-1), 1⟩ : S38)]) := ⟨_, rfl⟩
            replace H : (whetstoneref03_Letters.l0 k1 l0 y185 (wrap64 (x4_1 + 1))) = some r := by first | (rw [hy185]; with_reducible exact H) | (have H2_ := (Option.bind_some _ _).symm.trans H; rw [hy185]; with_reducible exact H2_) | (have H2_ := (Option.bind_some _ _).symm.trans H; with_reducible exact H2_) | with_reducible exact H | (rw [hy185]; exact H) | exact H
            have Ny185 := Aside0.mk hy185
            clear hy185
            have H' := Aside0.mk H
            clear H
            go_wp2_with (first | ((with_reducible refine gate_callee (f := 26) rfl ?_); refine goesL_ (some 14) rfl rfl Try.func26 (by kernel_rfl) rfl #[.slice A0 l0.length c0, .int .i64 x4_1] rfl (by (try simp only [List.map_toArray, List.map_cons, List.map_nil]); first | done | rfl | (simp only [List.length_drop, List.length_take]; rfl)) ?_; (with_reducible refine (whetstoneref03_One.calls k1 _ _ l0 x4_1 t183 t184 _ ?side1 ?side2 A3.out).mono ?_); (case side1 => repeat (first | exact (Kd.C_below HR0.out HB.out) | (with_reducible refine Kd.C_alloc ?_ _) | (with_reducible refine Kd.C_drewN ?_ _) | (with_reducible refine Kd.C_drew ?_))); (case side2 => exact HC0.out); rintro e w6 ⟨rfl, hb⟩; refine ⟨_, rfl, ?_⟩; have n0_ := Aside0.mk (Kd.R_below (by (with_reducible repeat (first | apply Kd.R_alloc | apply Kd.R_drewN | apply Kd.R_drew)); exact HO_3.out) hb); have n1_ := Aside0.mk (below_step (by repeat (first | (with_reducible first | exact HB.out | apply below_alloc | apply pw_below_drewN | apply below_drew1) | exact HB.out)) hb); clear HO_3; clear HB; have HO_3 := n0_; have HB := n1_; clear n0_ n1_; (try clear hb); (try clear hb2); (try clear hk); (try clear hi)) | ((with_reducible refine gate_builtin (b := .append) (xs := #[.tmp 19, .tmp 22]) rfl ?_); at_builtin; refine Kd.R_append k38 (w0 := w) w.heap.size rfl (.tmp 19) (.tmp 22) 32 38 (.agg #[(.int .i64 0), (.int .i64 0), (.int .i64 0)]) 24 rfl Try.underlying32 info38 rfl (by decide) (by omega) u3 x3_1 (⟨x4_1, (-1), 1⟩ : S38) [.int .i64 x4_1, .int .i64 (-1), .int .i64 1] (fun _ => True) (fun _ => False) rfl rfl ?aP (fun _ hk => hk.elim) ?aF ?aO ?aB ?aS ?aL ?_; (case aP => exact k38_mkM _ _ _ (⟨x4_1, (-1), 1⟩ : S38)); (case aB => exact (by repeat (first | (with_reducible first | exact HB.out | apply below_alloc | apply pw_below_drewN | apply below_drew1) | exact HB.out))); (case aF => exact (fun _ _ => trivial)); (case aO => exact (by (with_reducible repeat (first | apply Kd.R_alloc | apply Kd.R_drewN | apply Kd.R_drew)); exact HO_3.out)); (case aS => exact (below_size (by repeat (first | (with_reducible first | exact HB.out | apply below_alloc | apply pw_below_drewN | apply below_drew1) | exact HB.out)))); (case aL => have := LMc5.out; omega); intro v186 w7 ho hb hg hat; rw [← Ny185.out] at ho; have n0_ := Aside0.mk (hb); have n1_ := Aside0.mk (ho); clear HB; clear HO_3; have HB := n0_; have HO187 := n1_; clear n0_ n1_; clear ho hb hg hat))
            go_roundg k1
            case measure => have := HK1.out; omega
            case rel => exact ⟨(y185), (wrap64 (x4_1 + 1)), (by first | rfl | (simp; done) | (simp [*]; done)), H', ⟨by have := HK1.out; omega⟩, ⟨by (with_reducible repeat (first | apply Kd.R_alloc | apply Kd.R_drewN | apply Kd.R_drew)); exact HO187.out⟩, ⟨by repeat (first | (with_reducible first | exact HB.out | apply below_alloc | apply pw_below_drewN | apply below_drew1) | exact HB.out)⟩⟩
          · rw [if_neg c5] at H
            exact absurd H (by simp)
        · rw [if_neg c4] at H
          have c4b0 : (t184 == 0) = false := beq_eq_false_iff_ne.mpr c4
          have c4b1 : (t184 != 0) = true := bne_iff_ne.mpr c4
          by_cases c8 : x3_1.length < 5864062014805
          · rw [if_pos c8] at H
            have LMc8 := Aside0.mk c8
            clear c8
            obtain ⟨y188, hy188⟩ : ∃ y_ : List (S38), y_ = (x3_1 ++ [(⟨x4_1, t183, t184⟩ : S38)]) := ⟨_, rfl⟩
            replace H : (whetstoneref03_Letters.l0 k1 l0 y188 (wrap64 (x4_1 + t184))) = some r := by first | (rw [hy188]; with_reducible exact H) | (have H2_ := (Option.bind_some _ _).symm.trans H; rw [hy188]; with_reducible exact H2_) | (have H2_ := (Option.bind_some _ _).symm.trans H; with_reducible exact H2_) | with_reducible exact H | (rw [hy188]; exact H) | exact H
            have Ny188 := Aside0.mk hy188
            clear hy188
            have H' := Aside0.mk H
            clear H
            go_wp2_with (first | ((with_reducible refine gate_callee (f := 26) rfl ?_); refine goesL_ (some 14) rfl rfl Try.func26 (by kernel_rfl) rfl #[.slice A0 l0.length c0, .int .i64 x4_1] rfl (by (try simp only [List.map_toArray, List.map_cons, List.map_nil]); first | done | rfl | (simp only [List.length_drop, List.length_take]; rfl)) ?_; (with_reducible refine (whetstoneref03_One.calls k1 _ _ l0 x4_1 t183 t184 _ ?side1 ?side2 A3.out).mono ?_); (case side1 => repeat (first | exact (Kd.C_below HR0.out HB.out) | (with_reducible refine Kd.C_alloc ?_ _) | (with_reducible refine Kd.C_drewN ?_ _) | (with_reducible refine Kd.C_drew ?_))); (case side2 => exact HC0.out); rintro e w9 ⟨rfl, hb⟩; refine ⟨_, rfl, ?_⟩; have n0_ := Aside0.mk (Kd.R_below (by (with_reducible repeat (first | apply Kd.R_alloc | apply Kd.R_drewN | apply Kd.R_drew)); exact HO_3.out) hb); have n1_ := Aside0.mk (below_step (by repeat (first | (with_reducible first | exact HB.out | apply below_alloc | apply pw_below_drewN | apply below_drew1) | exact HB.out)) hb); clear HO_3; clear HB; have HO_3 := n0_; have HB := n1_; clear n0_ n1_; (try clear hb); (try clear hb2); (try clear hk); (try clear hi)) | ((with_reducible refine gate_builtin (b := .append) (xs := #[.tmp 26, .tmp 31]) rfl ?_); at_builtin; refine Kd.R_append k38 (w0 := w) w.heap.size rfl (.tmp 26) (.tmp 31) 32 38 (.agg #[(.int .i64 0), (.int .i64 0), (.int .i64 0)]) 24 rfl Try.underlying32 info38 rfl (by decide) (by omega) u3 x3_1 (⟨x4_1, t183, t184⟩ : S38) [.int .i64 x4_1, .int .i64 t183, .int .i64 t184] (fun _ => True) (fun _ => False) rfl rfl ?aP (fun _ hk => hk.elim) ?aF ?aO ?aB ?aS ?aL ?_; (case aP => exact k38_mkM _ _ _ (⟨x4_1, t183, t184⟩ : S38)); (case aB => exact (by repeat (first | (with_reducible first | exact HB.out | apply below_alloc | apply pw_below_drewN | apply below_drew1) | exact HB.out))); (case aF => exact (fun _ _ => trivial)); (case aO => exact (by (with_reducible repeat (first | apply Kd.R_alloc | apply Kd.R_drewN | apply Kd.R_drew)); exact HO_3.out)); (case aS => exact (below_size (by repeat (first | (with_reducible first | exact HB.out | apply below_alloc | apply pw_below_drewN | apply below_drew1) | exact HB.out)))); (case aL => have := LMc8.out; omega); intro v189 w10 ho hb hg hat; rw [← Ny188.out] at ho; have n0_ := Aside0.mk (hb); have n1_ := Aside0.mk (ho); clear HB; clear HO_3; have HB := n0_; have HO190 := n1_; clear n0_ n1_; clear ho hb hg hat))
            go_roundg k1
            case measure => have := HK1.out; omega
            case rel => exact ⟨(y188), (wrap64 (x4_1 + t184)), (by first | rfl | (simp; done) | (simp [*]; done)), H', ⟨by have := HK1.out; omega⟩, ⟨by (with_reducible repeat (first | apply Kd.R_alloc | apply Kd.R_drewN | apply Kd.R_drew)); exact HO190.out⟩, ⟨by repeat (first | (with_reducible first | exact HB.out | apply below_alloc | apply pw_below_drewN | apply below_drew1) | exact HB.out)⟩⟩
          · rw [if_neg c8] at H
            exact absurd H (by simp)
      · rw [if_neg c2] at H
        have c2b0 : decide (x4_1 < (l0.length : Int)) = false := decide_eq_false c2
        clear c2
        obtain rfl := Option.some.inj H
        go_wp2
        go_ret
        exact ⟨_, by first | rfl | (simp [errW_none, errW_some] <;> rfl) | (simp [*, errW_none, errW_some] <;> rfl), by (with_reducible repeat (first | apply Kd.R_alloc | apply Kd.R_drewN | apply Kd.R_drew)); exact HO_3.out, by repeat (first | (with_reducible first | exact HB.out | apply below_alloc | apply pw_below_drewN | apply below_drew1) | exact HB.out)⟩

end Go.Proofs.Ytpphijljdoojdaa.QUtfLetters
