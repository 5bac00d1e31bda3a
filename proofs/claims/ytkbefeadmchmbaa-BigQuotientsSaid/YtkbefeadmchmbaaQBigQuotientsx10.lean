-- written by wip/wprint, a program of this session
import Derived.Test.YtkbefeadmchmbaaQBigQuotientsx0
import Derived.Test.YtkbefeadmchmbaaQBigQuotientsx9
namespace Go.Proofs.Ytkbefeadmchmbaa.QBigQuotients
open Go.RowKit Go.Proofs.YtkbefeadmchmbaaW.PrintWords Go.Proofs.YtkbefeadmchmbaaW.PrintLast Go.Proofs.YtkbefeadmchmbaaW.PrintMore
open Go.Proofs.YtkbefeadmchmbaaW.PrintWords.Kd renaming R_alloc → qa, R_drewN → qn, R_drew → qd
open Go.Proofs.YtkbefeadmchmbaaW.PrintWords renaming below_alloc → ba, pw_below_drewN → bn, below_drew1 → bd
attribute [local go_sem] max2_int min2_int max_two min_two max_three min_three max_four min_four   -- for this text's walks alone
set_option linter.unusedVariables false
set_option linter.unusedSimpArgs false

/-! ### whetstoneref01_Times: function 53 -/
mutual
def whetstoneref01_Times.l0 : Nat → List Int → Int → List Int → Int → Int → Option (List Int)
 | 0, _, _, _, _, _ => none
 | k + 1, x0, x1, x5, x6, x7 => if x7 < (x0.length : Int) then (whetstoneref01_Times.j1 k x0 x1 x5 x6 x7 true) else (whetstoneref01_Times.j1 k x0 x1 x5 x6 x7 (decide (x6 > 0)))
def whetstoneref01_Times.j1 : Nat → List Int → Int → List Int → Int → Int → Bool → Option (List Int)
 | 0, _, _, _, _, _, _ => none
 | k + 1, x0, x1, x5, x6, x7, x16 => if x16 = true then (if x7 < (x0.length : Int) then (if 0 ≤ x7 then (if x5.length < 17592186044416 then (whetstoneref01_Times.l0 k x0 x1 (x5 ++ [Int.tmod (wrap64 (x6 + (wrap64 ((rd x0 x7) * x1)))) 10]) (wrap64 (Int.tdiv (wrap64 (x6 + (wrap64 ((rd x0 x7) * x1)))) 10)) (wrap64 (x7 + 1))) else (none)) else (none)) else (if x5.length < 17592186044416 then (whetstoneref01_Times.l0 k x0 x1 (x5 ++ [Int.tmod x6 10]) (wrap64 (Int.tdiv x6 10)) (wrap64 (x7 + 1))) else (none))) else ((whetstoneref01_Trim.f k x5).bind fun t401 => (some t401))
end
def whetstoneref01_Times.f (k : Nat) (l0 : List Int) (a1 : Int) : Option (List Int) := whetstoneref01_Times.l0 k l0 a1 ([] : List Int) 0 0
theorem whetstoneref01_Times.mono_l : ∀ k, (∀ y0 y1 y2 y3 y4, LeO (whetstoneref01_Times.l0 k y0 y1 y2 y3 y4) (whetstoneref01_Times.l0 (k + 1) y0 y1 y2 y3 y4)) ∧ (∀ y0 y1 y2 y3 y4 y5, LeO (whetstoneref01_Times.j1 k y0 y1 y2 y3 y4 y5) (whetstoneref01_Times.j1 (k + 1) y0 y1 y2 y3 y4 y5))
 | 0 => ⟨fun _ _ _ _ _ r h => by simp [whetstoneref01_Times.l0] at h, fun _ _ _ _ _ _ r h => by simp [whetstoneref01_Times.j1] at h⟩
 | k + 1 => by
  obtain ⟨ih0, ih1⟩ := whetstoneref01_Times.mono_l k; refine ⟨?_, ?_⟩
  ·intro y0 y1 y2 y3 y4
   unfold whetstoneref01_Times.l0
   repeat' with_reducible first | exact ih0 _ _ _ _ _ | exact ih1 _ _ _ _ _ _ | exact whetstoneref01_Trim.mono _ _ | exact LeO.refl _ | exact LeO.none _ | refine LeO.ite ?_ ?_ | refine LeO.bind ?_ (fun _ => ?_)
  ·intro y0 y1 y2 y3 y4 y5
   unfold whetstoneref01_Times.j1
   repeat' with_reducible first | exact ih0 _ _ _ _ _ | exact ih1 _ _ _ _ _ _ | exact whetstoneref01_Trim.mono _ _ | exact LeO.refl _ | exact LeO.none _ | refine LeO.ite ?_ ?_ | refine LeO.bind ?_ (fun _ => ?_)
theorem whetstoneref01_Times.mono : ∀ a0 a1 k, LeO (whetstoneref01_Times.f k a0 a1) (whetstoneref01_Times.f (k + 1) a0 a1) := by
 intro a0 a1 k; obtain ⟨ih0, ih1⟩ := whetstoneref01_Times.mono_l k
 unfold whetstoneref01_Times.f
 repeat' with_reducible first | exact ih0 _ _ _ _ _ | exact ih1 _ _ _ _ _ _ | exact whetstoneref01_Trim.mono _ _ | exact LeO.refl _ | exact LeO.none _ | refine LeO.ite ?_ ?_ | refine LeO.bind ?_ (fun _ => ?_)
set_option maxHeartbeats 8000000 in
set_option maxRecDepth 100000 in
theorem whetstoneref01_Times.calls (k : Nat) (A0 : Option Addr) (c0 : Nat) (l0 : List Int) (a1 : Int) (r : List Int) (w : World) (hr0 : Kd.C (Kd.int .i64) w A0 l0.length l0) (hc0 : l0.length ≤ c0) (h : whetstoneref01_Times.f k l0 a1 = some r) :
  Calls Try.prog 53 #[.slice A0 l0.length c0, .int .i64 a1] w fun e w' => ∃ v0_ : Value, e = .returned (v0_) ∧ Kd.R (Kd.int .i64) 3 w' w.heap.size (fun _ => True) v0_ r ∧ Below w.heap.size w w' := by
 have HR0 := Aside0.mk hr0; have HC0 := Aside0.mk hc0; clear hr0 hc0; have HB := Aside0.mk (Below.refl w.heap.size w); have H : (whetstoneref01_Times.l0 k l0 a1 ([] : List Int) 0 0) = some r := h; clear h; have H' := Aside0.mk H; clear H
 go_enter Try.func53, Try.ntmps53
 go_wp2
 go_loopg [5, 6, 7] k (fun kq v5 v6 v7 w' => ∃ (x5_1 : List Int) (x6_1 : Int) (x7_1 : Int), v6 = .int .i64 x6_1 ∧ v7 = .int .i64 x7_1 ∧ Aside0 (whetstoneref01_Times.l0 kq l0 a1 x5_1 x6_1 x7_1 = some r) ∧ Aside0 (kq ≤ k) ∧ Aside0 (Kd.R (Kd.int .i64) 3 w' w.heap.size (fun _ => True) v5 x5_1) ∧ Aside0 (Below w.heap.size w w'))
 case atStart => exact ⟨(([] : List Int)), (0), (0), (by first | rfl | (simp; done) | (simp [*]; done)), (by first | rfl | (simp; done) | (simp [*]; done)), H', ⟨Nat.le_refl _⟩, ⟨by first | exact Kd.R_nil _ _ _ _ _ | exact Kd.N_nil _ _ _ _ _ | exact Kd.V_nil _ _ _ _ _ | exact Kd.Q_nil _ _ _ _ _ | exact Kd.S_nil _ _ _ _ _⟩, ⟨tb HB⟩⟩
 case round =>
  clear H'; (try clear p2); obtain ⟨x5_1, x6_1, x7_1, rfl, rfl, HA, HK1, HO_5, HB⟩ := hrel
  cases gk with
  | zero => exact absurd HA.out (by simp [whetstoneref01_Times.l0])
  | succ k1 =>
   have H := HA.out; clear HA; simp only [whetstoneref01_Times.l0] at H; have HC3 := Aside0.mk H; clear H
   go_upto_region 4 with (fail)
   go_cut [16] from 1 to 0 (fun v16 wc => ∃ (kq : Nat) (x16_2 : Bool), v16 = .bool x16_2 ∧ Aside0 (whetstoneref01_Times.j1 kq l0 a1 x5_1 x6_1 x7_1 x16_2 = some r) ∧ Aside0 (kq ≤ k1) ∧ Aside0 (Kd.R (Kd.int .i64) 3 wc w.heap.size (fun _ => True) u5 x5_1) ∧ Aside0 (Below w.heap.size w wc))
   case first =>
    have H := HC3.out; clear HC3
    by_cases c4 : x7_1 < (l0.length : Int)
    ·rw [if_pos c4] at H
     have c4b0 : decide (x7_1 < (l0.length : Int)) = true := decide_eq_true c4; clear c4; (first | rw [c4b0] | rw [c4b1] | (simp only [i64_w, i32_w]; rw [c4b0]) | skip); have H' := Aside0.mk H; clear H
     go_wp2
     go_meet
     case rel => exact ⟨_, (true), (by first | rfl | (simp; done) | (simp [*]; done)), H', ⟨by have := HK1.out; first | omega | exact Nat.le_refl _⟩, ⟨tq HO_5⟩, ⟨tb HB⟩⟩
    ·rw [if_neg c4] at H
     have c4b0 : decide (x7_1 < (l0.length : Int)) = false := decide_eq_false c4; clear c4; (first | rw [c4b0] | rw [c4b1] | (simp only [i64_w, i32_w]; rw [c4b0]) | skip); have H' := Aside0.mk H; clear H
     go_wp2
     go_meet
     case rel => exact ⟨_, (decide (x6_1 > 0)), (by first | rfl | (simp; done) | (simp [*]; done)), H', ⟨by have := HK1.out; first | omega | exact Nat.le_refl _⟩, ⟨tq HO_5⟩, ⟨tb HB⟩⟩
   case rest =>
    clear HC3; (try clear p2); (try clear c4); (try clear c4b0); (try clear p2); obtain ⟨kq, x16_2, rfl, HA, HJ2, HO_5, HB⟩ := hcut
    cases kq with
    | zero => exact absurd HA.out (by simp [whetstoneref01_Times.j1])
    | succ kj2 =>
     have H := HA.out; clear HA; simp only [whetstoneref01_Times.j1] at H
     by_cases c5 : x16_2 = true
     ·subst c5
      have H1 : (if x7_1 < (l0.length : Int) then (if 0 ≤ x7_1 then (if x5_1.length < 17592186044416 then (whetstoneref01_Times.l0 kj2 l0 a1 (x5_1 ++ [Int.tmod (wrap64 (x6_1 + (wrap64 ((rd l0 x7_1) * a1)))) 10]) (wrap64 (Int.tdiv (wrap64 (x6_1 + (wrap64 ((rd l0 x7_1) * a1)))) 10)) (wrap64 (x7_1 + 1))) else (none)) else (none)) else (if x5_1.length < 17592186044416 then (whetstoneref01_Times.l0 kj2 l0 a1 (x5_1 ++ [Int.tmod x6_1 10]) (wrap64 (Int.tdiv x6_1 10)) (wrap64 (x7_1 + 1))) else (none))) = some r := by rw [if_pos rfl] at H; exact H
      clear H; have H := H1; clear H1
      by_cases c6 : x7_1 < (l0.length : Int)
      ·rw [if_pos c6] at H
       have c6b0 : decide (x7_1 < (l0.length : Int)) = true := decide_eq_true c6; clear c6
       by_cases c7 : 0 ≤ x7_1
       ·rw [if_pos c7] at H
        have c7b0 : decide (0 ≤ x7_1) = true := decide_eq_true c7; clear c7
        by_cases c8 : x5_1.length < 17592186044416
        ·rw [if_pos c8] at H
         have LMc8 := Aside0.mk c8; clear c8; obtain ⟨y395, hy395⟩ : ∃ y_ : List Int, y_ = (x5_1 ++ [Int.tmod (wrap64 (x6_1 + (wrap64 ((rd l0 x7_1) * a1)))) 10]) := ⟨_, rfl⟩; replace H : (whetstoneref01_Times.l0 kj2 l0 a1 y395 (wrap64 (Int.tdiv (wrap64 (x6_1 + (wrap64 ((rd l0 x7_1) * a1)))) 10)) (wrap64 (x7_1 + 1))) = some r := ti hy395 H; have Ny395 := Aside0.mk hy395; clear hy395; have H' := Aside0.mk H; clear H; have p394 : 0 ≤ (x7_1 : Int) := td; have q394 : x7_1 < (l0.length : Int) := td; obtain ⟨ad394, e394, hx394_0⟩ := Kd.at_int HR0.out x7_1 p394 q394
         cases e394
         replace hx394_0 := (HB.out.cell (World.block_lt_of_cell? w _ hx394_0)).trans hx394_0; replace p394 := eq_true p394; replace q394 := eq_true q394
         go_wp2_with (first | ((with_reducible refine gate_builtin (b := .append) (xs := #[.tmp 32, .tmp 35]) rfl ?_); at_builtin; refine Kd.R_append (Kd.int .i64) (w0 := w) w.heap.size rfl (.tmp 32) (.tmp 35) 30 3 (.int .i64 0) 8 rfl Try.underlying30 info3 rfl (by decide) (by omega) u5 x5_1 (Int.tmod (wrap64 (x6_1 + (wrap64 ((rd l0 x7_1) * a1)))) 10) [.int .i64 (Int.tmod (wrap64 (x6_1 + (wrap64 ((rd l0 x7_1) * a1)))) 10)] (fun _ => True) (fun _ => False) rfl rfl ?aP (fun _ hk => hk.elim) ?aF ?aO ?aB ?aS ?aL ?_; (case aP => exact rfl); (case aB => exact (tb HB)); (case aF => exact (fun _ _ => trivial)); (case aO => exact (tq HO_5)); (case aS => exact (below_size (tb HB))); (case aL => have := LMc8.out; omega); intro v396 w9 ho hb hg hat; rw [← Ny395.out] at ho; replace HB := Aside0.mk (hb); have HO397 := Aside0.mk (ho); clear HO_5 ho hb hg hat))
         go_roundg kj2
         case measure => have := HK1.out; have := HJ2.out; omega
         case rel => exact ⟨(y395), (wrap64 (Int.tdiv (wrap64 (x6_1 + (wrap64 ((rd l0 x7_1) * a1)))) 10)), (wrap64 (x7_1 + 1)), (by first | rfl | (simp; done) | (simp [*]; done)), (by first | rfl | (simp; done) | (simp [*]; done)), H', ⟨by have := HK1.out; have := HJ2.out; omega⟩, ⟨tq HO397⟩, ⟨tb HB⟩⟩
        ·rw [if_neg c8] at H
         exact absurd H (by simp)
       ·rw [if_neg c7] at H
        exact absurd H (by simp)
      ·rw [if_neg c6] at H
       have c6b0 : decide (x7_1 < (l0.length : Int)) = false := decide_eq_false c6; clear c6
       by_cases c10 : x5_1.length < 17592186044416
       ·rw [if_pos c10] at H
        have LMc10 := Aside0.mk c10; clear c10; obtain ⟨y398, hy398⟩ : ∃ y_ : List Int, y_ = (x5_1 ++ [Int.tmod x6_1 10]) := ⟨_, rfl⟩; replace H : (whetstoneref01_Times.l0 kj2 l0 a1 y398 (wrap64 (Int.tdiv x6_1 10)) (wrap64 (x7_1 + 1))) = some r := ti hy398 H; have Ny398 := Aside0.mk hy398; clear hy398; have H' := Aside0.mk H; clear H
        go_wp2_with (first | ((with_reducible refine gate_builtin (b := .append) (xs := #[.tmp 32, .tmp 35]) rfl ?_); at_builtin; refine Kd.R_append (Kd.int .i64) (w0 := w) w.heap.size rfl (.tmp 32) (.tmp 35) 30 3 (.int .i64 0) 8 rfl Try.underlying30 info3 rfl (by decide) (by omega) u5 x5_1 (Int.tmod x6_1 10) [.int .i64 (Int.tmod x6_1 10)] (fun _ => True) (fun _ => False) rfl rfl ?aP (fun _ hk => hk.elim) ?aF ?aO ?aB ?aS ?aL ?_; (case aP => exact rfl); (case aB => exact (tb HB)); (case aF => exact (fun _ _ => trivial)); (case aO => exact (tq HO_5)); (case aS => exact (below_size (tb HB))); (case aL => have := LMc10.out; omega); intro v399 w11 ho hb hg hat; rw [← Ny398.out] at ho; replace HB := Aside0.mk (hb); have HO400 := Aside0.mk (ho); clear HO_5 ho hb hg hat))
        go_roundg kj2
        case measure => have := HK1.out; have := HJ2.out; omega
        case rel => exact ⟨(y398), (wrap64 (Int.tdiv x6_1 10)), (wrap64 (x7_1 + 1)), (by first | rfl | (simp; done) | (simp [*]; done)), (by first | rfl | (simp; done) | (simp [*]; done)), H', ⟨by have := HK1.out; have := HJ2.out; omega⟩, ⟨tq HO400⟩, ⟨tb HB⟩⟩
       ·rw [if_neg c10] at H
        exact absurd H (by simp)
     ·replace c5 := Bool.eq_false_iff.mpr c5
      subst c5
      have H1 : ((whetstoneref01_Trim.f kj2 x5_1).bind fun t401 => (some t401)) = some r := by rw [if_neg (show ¬ (false = true) by decide)] at H; exact H
      clear H; have H := H1; clear H1; replace H := bi H; obtain ⟨t401, A120, H⟩ := H; have A12 := Aside0.mk A120; clear A120; obtain rfl := Option.some.inj H; obtain ⟨Ao13, co13, eo13⟩ := Kd.R_slice HO_5.out; subst eo13
      go_wp2_with (first | ((with_reducible refine gate_callee (f := 26) rfl ?_); refine gL (N := some 40) Try.func26 #[.slice Ao13 x5_1.length co13] ?_; (with_reducible refine (whetstoneref01_Trim.calls kj2 _ _ x5_1 t401 _ ?side1 ?side2 A12.out).mono ?_); (case side1 => exact tc (Kd.R_reads' HO_5.out).2.2); (case side2 => exact (Kd.R_reads' HO_5.out).2.1); rintro e w14 ⟨v402, rfl, ho0, hb⟩; refine ⟨_, rfl, ?_⟩; have HO403 := rl (rn ho0 HO_5) HB; replace HB := bs HB hb; (try clear hb); (try clear ho0)))
      go_ret
      exact ⟨_, ee, by (with_reducible repeat first | apply qa | apply qn | apply qd); exact Kd.R_mono HO403.out (fun _ hk => trivial), tb HB⟩

/-! ### whetstoneref01_Cmp: function 54 -/
def whetstoneref01_Cmp.l0 : Nat → List Int → List Int → Int → Option (Int)
 | 0, _, _, _ => none
 | k + 1, x5, x6, x7 => if x7 ≥ 0 then (if 0 ≤ x7 then (if x7 < (x5.length : Int) then (if x7 < (x6.length : Int) then (if (rd x5 x7) < (rd x6 x7) then (some (-1)) else (if (rd x5 x7) > (rd x6 x7) then (some 1) else (whetstoneref01_Cmp.l0 k x5 x6 (wrap64 (x7 - 1))))) else (none)) else (none)) else (none)) else (some 0)
def whetstoneref01_Cmp.f (k : Nat) (l0 : List Int) (l1 : List Int) : Option (Int) := (whetstoneref01_Trim.f k l0).bind fun t404 => ((whetstoneref01_Trim.f k l1).bind fun t407 => (if (t404.length : Int) = (t407.length : Int) then (whetstoneref01_Cmp.l0 k t404 t407 (wrap64 ((t404.length : Int) - 1))) else (if (t404.length : Int) < (t407.length : Int) then (some (-1)) else (some 1))))
theorem whetstoneref01_Cmp.mono_l : ∀ k, (∀ y0 y1 y2, LeO (whetstoneref01_Cmp.l0 k y0 y1 y2) (whetstoneref01_Cmp.l0 (k + 1) y0 y1 y2))
 | 0 => fun _ _ _ r h => by simp [whetstoneref01_Cmp.l0] at h
 | k + 1 => by
  have ih0 := whetstoneref01_Cmp.mono_l k
  ·intro y0 y1 y2
   unfold whetstoneref01_Cmp.l0
   repeat' with_reducible first | exact ih0 _ _ _ | exact whetstoneref01_Trim.mono _ _ | exact LeO.refl _ | exact LeO.none _ | refine LeO.ite ?_ ?_ | refine LeO.bind ?_ (fun _ => ?_)
theorem whetstoneref01_Cmp.mono : ∀ a0 a1 k, LeO (whetstoneref01_Cmp.f k a0 a1) (whetstoneref01_Cmp.f (k + 1) a0 a1) := by
 intro a0 a1 k; have ih0 := whetstoneref01_Cmp.mono_l k
 unfold whetstoneref01_Cmp.f
 repeat' with_reducible first | exact ih0 _ _ _ | exact whetstoneref01_Trim.mono _ _ | exact LeO.refl _ | exact LeO.none _ | refine LeO.ite ?_ ?_ | refine LeO.bind ?_ (fun _ => ?_)
set_option maxHeartbeats 8000000 in
set_option maxRecDepth 100000 in
theorem whetstoneref01_Cmp.calls (k : Nat) (A0 : Option Addr) (c0 : Nat) (l0 : List Int) (A1 : Option Addr) (c1 : Nat) (l1 : List Int) (r : Int) (w : World) (hr0 : Kd.C (Kd.int .i64) w A0 l0.length l0) (hc0 : l0.length ≤ c0) (hr1 : Kd.C (Kd.int .i64) w A1 l1.length l1) (hc1 : l1.length ≤ c1) (h : whetstoneref01_Cmp.f k l0 l1 = some r) :
  Calls Try.prog 54 #[.slice A0 l0.length c0, .slice A1 l1.length c1] w fun e w' => e = .returned (.int .i64 r) ∧ Below w.heap.size w w' := by
 have HR0 := Aside0.mk hr0; have HC0 := Aside0.mk hc0; clear hr0 hc0; have HR1 := Aside0.mk hr1; have HC1 := Aside0.mk hc1; clear hr1 hc1; have HB := Aside0.mk (Below.refl w.heap.size w); have H : ((whetstoneref01_Trim.f k l0).bind fun t404 => ((whetstoneref01_Trim.f k l1).bind fun t407 => (if (t404.length : Int) = (t407.length : Int) then (whetstoneref01_Cmp.l0 k t404 t407 (wrap64 ((t404.length : Int) - 1))) else (if (t404.length : Int) < (t407.length : Int) then (some (-1)) else (some 1))))) = some r := h; clear h; replace H := bi H; obtain ⟨t404, A30, H⟩ := H; have A3 := Aside0.mk A30; clear A30; replace H := bi H; obtain ⟨t407, A40, H⟩ := H; have A4 := Aside0.mk A40; clear A40
 by_cases c5 : (t404.length : Int) = (t407.length : Int)
 ·rw [if_pos c5] at H
  have c5b0 : ((t404.length : Int) == (t407.length : Int)) = true := beq_iff_eq.mpr c5; have c5b1 : ((t404.length : Int) != (t407.length : Int)) = false := bne_eq_false_iff_eq.mpr c5
  have c5b2 : (t404.length == t407.length) = true := by first | simpa using c5 | (simp at c5 ⊢; omega)
  clear c5; have H' := Aside0.mk H; clear H
  go_enter Try.func54, Try.ntmps54
  go_wp2_with (first | (go_at_call 26; (with_reducible refine (whetstoneref01_Trim.calls k _ _ l0 t404 _ ?side1 ?side2 A3.out).mono ?_); (case side1 => repeat (first | exact HR0.out | (with_reducible refine Kd.C_alloc ?_ _) | (with_reducible refine Kd.C_drewN ?_ _) | (with_reducible refine Kd.C_drew ?_))); (case side2 => exact HC0.out); rintro e w6 ⟨v405, rfl, ho0, hb⟩; have HO406 := rl ho0 HB; replace HB := bs HB hb; (try clear hb); (try clear ho0)) | (go_at_call 26; (with_reducible refine (whetstoneref01_Trim.calls k _ _ l1 t407 _ ?side1 ?side2 A4.out).mono ?_); (case side1 => exact tc (Kd.C_below HR1.out HB.out)); (case side2 => exact HC1.out); rintro e w7 ⟨v408, rfl, ho0, hb⟩; have HO409 := rl (rn ho0 HO406) HB; replace HO406 := re HO406 (Kd.R_base ho0) hb; replace HB := bs HB hb; (try clear hb); (try clear ho0); obtain ⟨Ao8, co8, eo8⟩ := Kd.R_slice HO406.out; subst eo8; obtain ⟨Ao9, co9, eo9⟩ := Kd.R_slice HO409.out; subst eo9))
  repeat (go_quiet (first | (go_at_call 26; (with_reducible refine (whetstoneref01_Trim.calls k _ _ l0 t404 _ ?side1 ?side2 A3.out).mono ?_); (case side1 => repeat (first | exact HR0.out | (with_reducible refine Kd.C_alloc ?_ _) | (with_reducible refine Kd.C_drewN ?_ _) | (with_reducible refine Kd.C_drew ?_))); (case side2 => exact HC0.out); rintro e w6 ⟨v405, rfl, ho0, hb⟩; have n0_ := rl ho0 HB; have n1_ := bs HB hb; clear HB; have HO406 := n0_; have HB := n1_; clear n0_ n1_; (try clear hb); (try clear ho0)) | (go_at_call 26; (with_reducible refine (whetstoneref01_Trim.calls k _ _ l1 t407 _ ?side1 ?side2 A4.out).mono ?_); (case side1 => exact tc (Kd.C_below HR1.out HB.out)); (case side2 => exact HC1.out); rintro e w7 ⟨v408, rfl, ho0, hb⟩; have n0_ := re HO406 (Kd.R_base ho0) hb; have n1_ := rl (rn ho0 HO406) HB; have n2_ := bs HB hb; clear HO406; clear HB; have HO406 := n0_; have HO409 := n1_; have HB := n2_; clear n0_ n1_ n2_; (try clear hb); (try clear ho0); obtain ⟨Ao8, co8, eo8⟩ := Kd.R_slice HO406.out; subst eo8; obtain ⟨Ao9, co9, eo9⟩ := Kd.R_slice HO409.out; subst eo9)); try go_wp2_with (first | (go_at_call 26; (with_reducible refine (whetstoneref01_Trim.calls k _ _ l0 t404 _ ?side1 ?side2 A3.out).mono ?_); (case side1 => repeat (first | exact HR0.out | (with_reducible refine Kd.C_alloc ?_ _) | (with_reducible refine Kd.C_drewN ?_ _) | (with_reducible refine Kd.C_drew ?_))); (case side2 => exact HC0.out); rintro e w6 ⟨v405, rfl, ho0, hb⟩; have n0_ := rl ho0 HB; have n1_ := bs HB hb; clear HB; have HO406 := n0_; have HB := n1_; clear n0_ n1_; (try clear hb); (try clear ho0)) | (go_at_call 26; (with_reducible refine (whetstoneref01_Trim.calls k _ _ l1 t407 _ ?side1 ?side2 A4.out).mono ?_); (case side1 => exact tc (Kd.C_below HR1.out HB.out)); (case side2 => exact HC1.out); rintro e w7 ⟨v408, rfl, ho0, hb⟩; have n0_ := re HO406 (Kd.R_base ho0) hb; have n1_ := rl (rn ho0 HO406) HB; have n2_ := bs HB hb; clear HO406; clear HB; have HO406 := n0_; have HO409 := n1_; have HB := n2_; clear n0_ n1_ n2_; (try clear hb); (try clear ho0); obtain ⟨Ao8, co8, eo8⟩ := Kd.R_slice HO406.out; subst eo8; obtain ⟨Ao9, co9, eo9⟩ := Kd.R_slice HO409.out; subst eo9)))
  go_loopg [7] k (fun kq v7 w' => ∃ (x7_1 : Int), v7 = .int .i64 x7_1 ∧ Aside0 (whetstoneref01_Cmp.l0 kq t404 t407 x7_1 = some r) ∧ Aside0 (kq ≤ k) ∧ Aside0 (Kd.R (Kd.int .i64) 3 w' w.heap.size (fun k_ => some k_ ≠ ((.slice Ao9 t407.length co9) : Value).ownBlock) (.slice Ao8 t404.length co8) t404) ∧ Aside0 (Kd.R (Kd.int .i64) 3 w' w.heap.size (fun k_ => some k_ ≠ ((.slice Ao8 t404.length co8) : Value).ownBlock) (.slice Ao9 t407.length co9) t407) ∧ Aside0 (Below w.heap.size w w'))
  case atStart => exact ⟨(wrap64 ((t404.length : Int) - 1)), (by first | rfl | (simp; done) | (simp [*]; done)), H', ⟨Nat.le_refl _⟩, ⟨tm HO406⟩, ⟨tm HO409⟩, ⟨tb HB⟩⟩
  case round =>
   clear H'; (try clear c1); (try clear p2); (try clear c5); (try clear c5b0); (try clear c5b1); (try clear c5b2); (try clear p6); obtain ⟨x7_1, rfl, HA, HK1, HO_5, HO_6, HB⟩ := hrel
   cases gk with
   | zero => exact absurd HA.out (by simp [whetstoneref01_Cmp.l0])
   | succ k1 =>
    have H := HA.out; clear HA; simp only [whetstoneref01_Cmp.l0] at H
    by_cases c10 : x7_1 ≥ 0
    ·rw [if_pos c10] at H
     have c10b0 : decide (0 ≤ x7_1) = true := decide_eq_true c10; clear c10
     by_cases c11 : 0 ≤ x7_1
     ·rw [if_pos c11] at H
      have c11b0 : decide (0 ≤ x7_1) = true := decide_eq_true c11; clear c11
      by_cases c12 : x7_1 < (t404.length : Int)
      ·rw [if_pos c12] at H
       have c12b0 : decide (x7_1 < (t404.length : Int)) = true := decide_eq_true c12; clear c12
       by_cases c13 : x7_1 < (t407.length : Int)
       ·rw [if_pos c13] at H
        have c13b0 : decide (x7_1 < (t407.length : Int)) = true := decide_eq_true c13; clear c13
        by_cases c14 : (rd t404 x7_1) < (rd t407 x7_1)
        ·rw [if_pos c14] at H
         have c14b0 : decide ((rd t404 x7_1) < (rd t407 x7_1)) = true := decide_eq_true c14; clear c14; obtain rfl := Option.some.inj H; have p410 : 0 ≤ (x7_1 : Int) := td; have q410 : x7_1 < (t404.length : Int) := td; obtain ⟨ad410, e410, hx410_0⟩ := Kd.at_int (Kd.R_reads' HO_5.out).2.2 x7_1 p410 q410
         cases e410
         replace p410 := eq_true p410; replace q410 := eq_true q410; have p411 : 0 ≤ (x7_1 : Int) := td; have q411 : x7_1 < (t407.length : Int) := td; obtain ⟨ad411, e411, hx411_0⟩ := Kd.at_int (Kd.R_reads' HO_6.out).2.2 x7_1 p411 q411
         cases e411
         replace p411 := eq_true p411; replace q411 := eq_true q411
         go_wp2
         repeat (go_quiet (fail); try go_wp2)
         go_ret
         exact ⟨ee, tb HB⟩
        ·rw [if_neg c14] at H
         have c14b0 : decide ((rd t404 x7_1) < (rd t407 x7_1)) = false := decide_eq_false c14; clear c14
         by_cases c15 : (rd t404 x7_1) > (rd t407 x7_1)
         ·rw [if_pos c15] at H
          have c15b0 : decide ((rd t407 x7_1) < (rd t404 x7_1)) = true := decide_eq_true c15; clear c15; obtain rfl := Option.some.inj H; have p410 : 0 ≤ (x7_1 : Int) := td; have q410 : x7_1 < (t404.length : Int) := td; obtain ⟨ad410, e410, hx410_0⟩ := Kd.at_int (Kd.R_reads' HO_5.out).2.2 x7_1 p410 q410
          cases e410
          replace p410 := eq_true p410; replace q410 := eq_true q410; have p411 : 0 ≤ (x7_1 : Int) := td; have q411 : x7_1 < (t407.length : Int) := td; obtain ⟨ad411, e411, hx411_0⟩ := Kd.at_int (Kd.R_reads' HO_6.out).2.2 x7_1 p411 q411
          cases e411
          replace p411 := eq_true p411; replace q411 := eq_true q411; have p412 : 0 ≤ (x7_1 : Int) := td; have q412 : x7_1 < (t404.length : Int) := td; obtain ⟨ad412, e412, hx412_0⟩ := Kd.at_int (Kd.R_reads' HO_5.out).2.2 x7_1 p412 q412; obtain rfl : ad410 = ad412 := (by injection e412); replace p412 := eq_true p412; replace q412 := eq_true q412; have p413 : 0 ≤ (x7_1 : Int) := td; have q413 : x7_1 < (t407.length : Int) := td; obtain ⟨ad413, e413, hx413_0⟩ := Kd.at_int (Kd.R_reads' HO_6.out).2.2 x7_1 p413 q413; obtain rfl : ad411 = ad413 := (by injection e413); replace p413 := eq_true p413; replace q413 := eq_true q413
          go_wp2
          repeat (go_quiet (fail); try go_wp2)
          go_ret
          exact ⟨ee, tb HB⟩
         ·rw [if_neg c15] at H
          have c15b0 : decide ((rd t407 x7_1) < (rd t404 x7_1)) = false := decide_eq_false c15; clear c15; have H' := Aside0.mk H; clear H; have p410 : 0 ≤ (x7_1 : Int) := td; have q410 : x7_1 < (t404.length : Int) := td; obtain ⟨ad410, e410, hx410_0⟩ := Kd.at_int (Kd.R_reads' HO_5.out).2.2 x7_1 p410 q410
          cases e410
          replace p410 := eq_true p410; replace q410 := eq_true q410; have p411 : 0 ≤ (x7_1 : Int) := td; have q411 : x7_1 < (t407.length : Int) := td; obtain ⟨ad411, e411, hx411_0⟩ := Kd.at_int (Kd.R_reads' HO_6.out).2.2 x7_1 p411 q411
          cases e411
          replace p411 := eq_true p411; replace q411 := eq_true q411; have p412 : 0 ≤ (x7_1 : Int) := td; have q412 : x7_1 < (t404.length : Int) := td; obtain ⟨ad412, e412, hx412_0⟩ := Kd.at_int (Kd.R_reads' HO_5.out).2.2 x7_1 p412 q412; obtain rfl : ad410 = ad412 := (by injection e412); replace p412 := eq_true p412; replace q412 := eq_true q412; have p413 : 0 ≤ (x7_1 : Int) := td; have q413 : x7_1 < (t407.length : Int) := td; obtain ⟨ad413, e413, hx413_0⟩ := Kd.at_int (Kd.R_reads' HO_6.out).2.2 x7_1 p413 q413; obtain rfl : ad411 = ad413 := (by injection e413); replace p413 := eq_true p413; replace q413 := eq_true q413
          go_wp2
          repeat (go_quiet (fail); try go_wp2)
          go_roundg k1
          case measure => have := HK1.out; omega
          case rel => exact ⟨(wrap64 (x7_1 - 1)), (by first | rfl | (simp; done) | (simp [*]; done)), H', ⟨by have := HK1.out; omega⟩, ⟨tq HO_5⟩, ⟨tq HO_6⟩, ⟨tb HB⟩⟩
       ·rw [if_neg c13] at H
        exact absurd H (by simp)
      ·rw [if_neg c12] at H
       exact absurd H (by simp)
     ·rw [if_neg c11] at H
      exact absurd H (by simp)
    ·rw [if_neg c10] at H
     have c10b0 : decide (0 ≤ x7_1) = false := decide_eq_false c10; clear c10; obtain rfl := Option.some.inj H
     go_wp2
     repeat (go_quiet (fail); try go_wp2)
     go_ret
     exact ⟨ee, tb HB⟩
 ·rw [if_neg c5] at H
  have c5b0 : ((t404.length : Int) == (t407.length : Int)) = false := beq_eq_false_iff_ne.mpr c5; have c5b1 : ((t404.length : Int) != (t407.length : Int)) = true := bne_iff_ne.mpr c5
  have c5b2 : (t404.length == t407.length) = false := by first | simpa using c5 | (simp at c5 ⊢; omega)
  by_cases c16 : (t404.length : Int) < (t407.length : Int)
  ·rw [if_pos c16] at H
   have c16b0 : decide ((t404.length : Int) < (t407.length : Int)) = true := decide_eq_true c16; have c16b1 : decide (t404.length < t407.length) = true := decide_eq_true (Int.ofNat_lt.mp c16); clear c16; obtain rfl := Option.some.inj H
   go_enter Try.func54, Try.ntmps54
   go_wp2_with (first | (go_at_call 26; (with_reducible refine (whetstoneref01_Trim.calls k _ _ l0 t404 _ ?side1 ?side2 A3.out).mono ?_); (case side1 => repeat (first | exact HR0.out | (with_reducible refine Kd.C_alloc ?_ _) | (with_reducible refine Kd.C_drewN ?_ _) | (with_reducible refine Kd.C_drew ?_))); (case side2 => exact HC0.out); rintro e w17 ⟨v405, rfl, ho0, hb⟩; have HO406 := rl ho0 HB; replace HB := bs HB hb; (try clear hb); (try clear ho0)) | (go_at_call 26; (with_reducible refine (whetstoneref01_Trim.calls k _ _ l1 t407 _ ?side1 ?side2 A4.out).mono ?_); (case side1 => exact tc (Kd.C_below HR1.out HB.out)); (case side2 => exact HC1.out); rintro e w18 ⟨v408, rfl, ho0, hb⟩; have HO409 := rl (rn ho0 HO406) HB; replace HO406 := re HO406 (Kd.R_base ho0) hb; replace HB := bs HB hb; (try clear hb); (try clear ho0); obtain ⟨Ao19, co19, eo19⟩ := Kd.R_slice HO406.out; subst eo19; obtain ⟨Ao20, co20, eo20⟩ := Kd.R_slice HO409.out; subst eo20))
   repeat (go_quiet (first | (go_at_call 26; (with_reducible refine (whetstoneref01_Trim.calls k _ _ l0 t404 _ ?side1 ?side2 A3.out).mono ?_); (case side1 => repeat (first | exact HR0.out | (with_reducible refine Kd.C_alloc ?_ _) | (with_reducible refine Kd.C_drewN ?_ _) | (with_reducible refine Kd.C_drew ?_))); (case side2 => exact HC0.out); rintro e w17 ⟨v405, rfl, ho0, hb⟩; have n0_ := rl ho0 HB; have n1_ := bs HB hb; clear HB; have HO406 := n0_; have HB := n1_; clear n0_ n1_; (try clear hb); (try clear ho0)) | (go_at_call 26; (with_reducible refine (whetstoneref01_Trim.calls k _ _ l1 t407 _ ?side1 ?side2 A4.out).mono ?_); (case side1 => exact tc (Kd.C_below HR1.out HB.out)); (case side2 => exact HC1.out); rintro e w18 ⟨v408, rfl, ho0, hb⟩; have n0_ := re HO406 (Kd.R_base ho0) hb; have n1_ := rl (rn ho0 HO406) HB; have n2_ := bs HB hb; clear HO406; clear HB; have HO406 := n0_; have HO409 := n1_; have HB := n2_; clear n0_ n1_ n2_; (try clear hb); (try clear ho0); obtain ⟨Ao19, co19, eo19⟩ := Kd.R_slice HO406.out; subst eo19; obtain ⟨Ao20, co20, eo20⟩ := Kd.R_slice HO409.out; subst eo20)); try go_wp2_with (first | (go_at_call 26; (with_reducible refine (whetstoneref01_Trim.calls k _ _ l0 t404 _ ?side1 ?side2 A3.out).mono ?_); (case side1 => repeat (first | exact HR0.out | (with_reducible refine Kd.C_alloc ?_ _) | (with_reducible refine Kd.C_drewN ?_ _) | (with_reducible refine Kd.C_drew ?_))); (case side2 => exact HC0.out); rintro e w17 ⟨v405, rfl, ho0, hb⟩; have n0_ := rl ho0 HB; have n1_ := bs HB hb; clear HB; have HO406 := n0_; have HB := n1_; clear n0_ n1_; (try clear hb); (try clear ho0)) | (go_at_call 26; (with_reducible refine (whetstoneref01_Trim.calls k _ _ l1 t407 _ ?side1 ?side2 A4.out).mono ?_); (case side1 => exact tc (Kd.C_below HR1.out HB.out)); (case side2 => exact HC1.out); rintro e w18 ⟨v408, rfl, ho0, hb⟩; have n0_ := re HO406 (Kd.R_base ho0) hb; have n1_ := rl (rn ho0 HO406) HB; have n2_ := bs HB hb; clear HO406; clear HB; have HO406 := n0_; have HO409 := n1_; have HB := n2_; clear n0_ n1_ n2_; (try clear hb); (try clear ho0); obtain ⟨Ao19, co19, eo19⟩ := Kd.R_slice HO406.out; subst eo19; obtain ⟨Ao20, co20, eo20⟩ := Kd.R_slice HO409.out; subst eo20)))
   go_ret
   exact ⟨ee, tb HB⟩
  ·rw [if_neg c16] at H
   have c16b0 : decide ((t404.length : Int) < (t407.length : Int)) = false := decide_eq_false c16; have c16b1 : decide (t404.length < t407.length) = false := decide_eq_false (fun h => c16 (Int.ofNat_lt.mpr h)); clear c16; obtain rfl := Option.some.inj H
   go_enter Try.func54, Try.ntmps54
   go_wp2_with (first | (go_at_call 26; (with_reducible refine (whetstoneref01_Trim.calls k _ _ l0 t404 _ ?side1 ?side2 A3.out).mono ?_); (case side1 => repeat (first | exact HR0.out | (with_reducible refine Kd.C_alloc ?_ _) | (with_reducible refine Kd.C_drewN ?_ _) | (with_reducible refine Kd.C_drew ?_))); (case side2 => exact HC0.out); rintro e w21 ⟨v405, rfl, ho0, hb⟩; have HO406 := rl ho0 HB; replace HB := bs HB hb; (try clear hb); (try clear ho0)) | (go_at_call 26; (with_reducible refine (whetstoneref01_Trim.calls k _ _ l1 t407 _ ?side1 ?side2 A4.out).mono ?_); (case side1 => exact tc (Kd.C_below HR1.out HB.out)); (case side2 => exact HC1.out); rintro e w22 ⟨v408, rfl, ho0, hb⟩; have HO409 := rl (rn ho0 HO406) HB; replace HO406 := re HO406 (Kd.R_base ho0) hb; replace HB := bs HB hb; (try clear hb); (try clear ho0); obtain ⟨Ao23, co23, eo23⟩ := Kd.R_slice HO406.out; subst eo23; obtain ⟨Ao24, co24, eo24⟩ := Kd.R_slice HO409.out; subst eo24))
   repeat (go_quiet (first | (go_at_call 26; (with_reducible refine (whetstoneref01_Trim.calls k _ _ l0 t404 _ ?side1 ?side2 A3.out).mono ?_); (case side1 => repeat (first | exact HR0.out | (with_reducible refine Kd.C_alloc ?_ _) | (with_reducible refine Kd.C_drewN ?_ _) | (with_reducible refine Kd.C_drew ?_))); (case side2 => exact HC0.out); rintro e w21 ⟨v405, rfl, ho0, hb⟩; have n0_ := rl ho0 HB; have n1_ := bs HB hb; clear HB; have HO406 := n0_; have HB := n1_; clear n0_ n1_; (try clear hb); (try clear ho0)) | (go_at_call 26; (with_reducible refine (whetstoneref01_Trim.calls k _ _ l1 t407 _ ?side1 ?side2 A4.out).mono ?_); (case side1 => exact tc (Kd.C_below HR1.out HB.out)); (case side2 => exact HC1.out); rintro e w22 ⟨v408, rfl, ho0, hb⟩; have n0_ := re HO406 (Kd.R_base ho0) hb; have n1_ := rl (rn ho0 HO406) HB; have n2_ := bs HB hb; clear HO406; clear HB; have HO406 := n0_; have HO409 := n1_; have HB := n2_; clear n0_ n1_ n2_; (try clear hb); (try clear ho0); obtain ⟨Ao23, co23, eo23⟩ := Kd.R_slice HO406.out; subst eo23; obtain ⟨Ao24, co24, eo24⟩ := Kd.R_slice HO409.out; subst eo24)); try go_wp2_with (first | (go_at_call 26; (with_reducible refine (whetstoneref01_Trim.calls k _ _ l0 t404 _ ?side1 ?side2 A3.out).mono ?_); (case side1 => repeat (first | exact HR0.out | (with_reducible refine Kd.C_alloc ?_ _) | (with_reducible refine Kd.C_drewN ?_ _) | (with_reducible refine Kd.C_drew ?_))); (case side2 => exact HC0.out); rintro e w21 ⟨v405, rfl, ho0, hb⟩; have n0_ := rl ho0 HB; have n1_ := bs HB hb; clear HB; have HO406 := n0_; have HB := n1_; clear n0_ n1_; (try clear hb); (try clear ho0)) | (go_at_call 26; (with_reducible refine (whetstoneref01_Trim.calls k _ _ l1 t407 _ ?side1 ?side2 A4.out).mono ?_); (case side1 => exact tc (Kd.C_below HR1.out HB.out)); (case side2 => exact HC1.out); rintro e w22 ⟨v408, rfl, ho0, hb⟩; have n0_ := re HO406 (Kd.R_base ho0) hb; have n1_ := rl (rn ho0 HO406) HB; have n2_ := bs HB hb; clear HO406; clear HB; have HO406 := n0_; have HO409 := n1_; have HB := n2_; clear n0_ n1_ n2_; (try clear hb); (try clear ho0); obtain ⟨Ao23, co23, eo23⟩ := Kd.R_slice HO406.out; subst eo23; obtain ⟨Ao24, co24, eo24⟩ := Kd.R_slice HO409.out; subst eo24)))
   go_ret
   exact ⟨ee, tb HB⟩

/-! ### whetstoneref01_Sub: function 55 -/
def whetstoneref01_Sub.l0 : Nat → List Int → List Int → List Int → Int → Int → Option (List Int)
 | 0, _, _, _, _, _ => none
 | k + 1, x0, x1, x5, x6, x7 => if x7 < (x0.length : Int) then (if 0 ≤ x7 then (if x7 < (x1.length : Int) then (if (wrap64 ((wrap64 ((rd x0 x7) - x6)) - (rd x1 x7))) < 0 then (if x5.length < 17592186044416 then (whetstoneref01_Sub.l0 k x0 x1 (x5 ++ [wrap64 ((wrap64 ((wrap64 ((rd x0 x7) - x6)) - (rd x1 x7))) + 10)]) 1 (wrap64 (x7 + 1))) else (none)) else (if x5.length < 17592186044416 then (whetstoneref01_Sub.l0 k x0 x1 (x5 ++ [wrap64 ((wrap64 ((rd x0 x7) - x6)) - (rd x1 x7))]) 0 (wrap64 (x7 + 1))) else (none))) else (if (wrap64 ((rd x0 x7) - x6)) < 0 then (if x5.length < 17592186044416 then (whetstoneref01_Sub.l0 k x0 x1 (x5 ++ [wrap64 ((wrap64 ((rd x0 x7) - x6)) + 10)]) 1 (wrap64 (x7 + 1))) else (none)) else (if x5.length < 17592186044416 then (whetstoneref01_Sub.l0 k x0 x1 (x5 ++ [wrap64 ((rd x0 x7) - x6)]) 0 (wrap64 (x7 + 1))) else (none)))) else (none)) else ((whetstoneref01_Trim.f k x5).bind fun t414 => (some t414))
def whetstoneref01_Sub.f (k : Nat) (l0 : List Int) (l1 : List Int) : Option (List Int) := whetstoneref01_Sub.l0 k l0 l1 ([] : List Int) 0 0
theorem whetstoneref01_Sub.mono_l : ∀ k, (∀ y0 y1 y2 y3 y4, LeO (whetstoneref01_Sub.l0 k y0 y1 y2 y3 y4) (whetstoneref01_Sub.l0 (k + 1) y0 y1 y2 y3 y4))
 | 0 => fun _ _ _ _ _ r h => by simp [whetstoneref01_Sub.l0] at h
 | k + 1 => by
  have ih0 := whetstoneref01_Sub.mono_l k
  ·intro y0 y1 y2 y3 y4
   unfold whetstoneref01_Sub.l0
   repeat' with_reducible first | exact ih0 _ _ _ _ _ | exact whetstoneref01_Trim.mono _ _ | exact LeO.refl _ | exact LeO.none _ | refine LeO.ite ?_ ?_ | refine LeO.bind ?_ (fun _ => ?_)
theorem whetstoneref01_Sub.mono : ∀ a0 a1 k, LeO (whetstoneref01_Sub.f k a0 a1) (whetstoneref01_Sub.f (k + 1) a0 a1) := by
 intro a0 a1 k; have ih0 := whetstoneref01_Sub.mono_l k
 unfold whetstoneref01_Sub.f
 repeat' with_reducible first | exact ih0 _ _ _ _ _ | exact whetstoneref01_Trim.mono _ _ | exact LeO.refl _ | exact LeO.none _ | refine LeO.ite ?_ ?_ | refine LeO.bind ?_ (fun _ => ?_)
set_option maxHeartbeats 8000000 in
set_option maxRecDepth 100000 in
theorem whetstoneref01_Sub.calls (k : Nat) (A0 : Option Addr) (c0 : Nat) (l0 : List Int) (A1 : Option Addr) (c1 : Nat) (l1 : List Int) (r : List Int) (w : World) (hr0 : Kd.C (Kd.int .i64) w A0 l0.length l0) (hc0 : l0.length ≤ c0) (hr1 : Kd.C (Kd.int .i64) w A1 l1.length l1) (hc1 : l1.length ≤ c1) (h : whetstoneref01_Sub.f k l0 l1 = some r) :
  Calls Try.prog 55 #[.slice A0 l0.length c0, .slice A1 l1.length c1] w fun e w' => ∃ v0_ : Value, e = .returned (v0_) ∧ Kd.R (Kd.int .i64) 3 w' w.heap.size (fun _ => True) v0_ r ∧ Below w.heap.size w w' := by
 have HR0 := Aside0.mk hr0; have HC0 := Aside0.mk hc0; clear hr0 hc0; have HR1 := Aside0.mk hr1; have HC1 := Aside0.mk hc1; clear hr1 hc1; have HB := Aside0.mk (Below.refl w.heap.size w); have H : (whetstoneref01_Sub.l0 k l0 l1 ([] : List Int) 0 0) = some r := h; clear h; have H' := Aside0.mk H; clear H
 go_enter Try.func55, Try.ntmps55
 go_wp2
 go_loopg [5, 6, 7] k (fun kq v5 v6 v7 w' => ∃ (x5_1 : List Int) (x6_1 : Int) (x7_1 : Int), v6 = .int .i64 x6_1 ∧ v7 = .int .i64 x7_1 ∧ Aside0 (whetstoneref01_Sub.l0 kq l0 l1 x5_1 x6_1 x7_1 = some r) ∧ Aside0 (kq ≤ k) ∧ Aside0 (Kd.R (Kd.int .i64) 3 w' w.heap.size (fun _ => True) v5 x5_1) ∧ Aside0 (Below w.heap.size w w'))
 case atStart => exact ⟨(([] : List Int)), (0), (0), (by first | rfl | (simp; done) | (simp [*]; done)), (by first | rfl | (simp; done) | (simp [*]; done)), H', ⟨Nat.le_refl _⟩, ⟨by first | exact Kd.R_nil _ _ _ _ _ | exact Kd.N_nil _ _ _ _ _ | exact Kd.V_nil _ _ _ _ _ | exact Kd.Q_nil _ _ _ _ _ | exact Kd.S_nil _ _ _ _ _⟩, ⟨tb HB⟩⟩
 case round =>
  clear H'; (try clear c1); (try clear p2); obtain ⟨x5_1, x6_1, x7_1, rfl, rfl, HA, HK1, HO_5, HB⟩ := hrel
  cases gk with
  | zero => exact absurd HA.out (by simp [whetstoneref01_Sub.l0])
  | succ k1 =>
   have H := HA.out; clear HA; simp only [whetstoneref01_Sub.l0] at H
   by_cases c3 : x7_1 < (l0.length : Int)
   ·rw [if_pos c3] at H
    have c3b0 : decide (x7_1 < (l0.length : Int)) = true := decide_eq_true c3; clear c3
    by_cases c4 : 0 ≤ x7_1
    ·rw [if_pos c4] at H
     have c4b0 : decide (0 ≤ x7_1) = true := decide_eq_true c4; clear c4
     by_cases c5 : x7_1 < (l1.length : Int)
     ·rw [if_pos c5] at H
      have c5b0 : decide (x7_1 < (l1.length : Int)) = true := decide_eq_true c5; clear c5
      by_cases c6 : (wrap64 ((wrap64 ((rd l0 x7_1) - x6_1)) - (rd l1 x7_1))) < 0
      ·rw [if_pos c6] at H
       have c6b0 : decide ((wrap64 ((wrap64 ((rd l0 x7_1) - x6_1)) - (rd l1 x7_1))) < 0) = true := decide_eq_true c6; clear c6
       by_cases c7 : x5_1.length < 17592186044416
       ·rw [if_pos c7] at H
        have LMc7 := Aside0.mk c7; clear c7; obtain ⟨y419, hy419⟩ : ∃ y_ : List Int, y_ = (x5_1 ++ [wrap64 ((wrap64 ((wrap64 ((rd l0 x7_1) - x6_1)) - (rd l1 x7_1))) + 10)]) := ⟨_, rfl⟩; replace H : (whetstoneref01_Sub.l0 k1 l0 l1 y419 1 (wrap64 (x7_1 + 1))) = some r := ti hy419 H; have Ny419 := Aside0.mk hy419; clear hy419; have H' := Aside0.mk H; clear H; have p417 : 0 ≤ (x7_1 : Int) := td; have q417 : x7_1 < (l0.length : Int) := td; obtain ⟨ad417, e417, hx417_0⟩ := Kd.at_int HR0.out x7_1 p417 q417
        cases e417
        replace hx417_0 := (HB.out.cell (World.block_lt_of_cell? w _ hx417_0)).trans hx417_0; replace p417 := eq_true p417; replace q417 := eq_true q417; have p418 : 0 ≤ (x7_1 : Int) := td; have q418 : x7_1 < (l1.length : Int) := td; obtain ⟨ad418, e418, hx418_0⟩ := Kd.at_int HR1.out x7_1 p418 q418
        cases e418
        replace hx418_0 := (HB.out.cell (World.block_lt_of_cell? w _ hx418_0)).trans hx418_0; replace p418 := eq_true p418; replace q418 := eq_true q418
        go_wp2_with (first | ((with_reducible refine gate_builtin (b := .append) (xs := #[.tmp 35, .tmp 37]) rfl ?_); at_builtin; refine Kd.R_append (Kd.int .i64) (w0 := w) w.heap.size rfl (.tmp 35) (.tmp 37) 30 3 (.int .i64 0) 8 rfl Try.underlying30 info3 rfl (by decide) (by omega) u5 x5_1 (wrap64 ((wrap64 ((wrap64 ((rd l0 x7_1) - x6_1)) - (rd l1 x7_1))) + 10)) [.int .i64 (wrap64 ((wrap64 ((wrap64 ((rd l0 x7_1) - x6_1)) - (rd l1 x7_1))) + 10))] (fun _ => True) (fun _ => False) rfl rfl ?aP (fun _ hk => hk.elim) ?aF ?aO ?aB ?aS ?aL ?_; (case aP => exact rfl); (case aB => exact (tb HB)); (case aF => exact (fun _ _ => trivial)); (case aO => exact (tq HO_5)); (case aS => exact (below_size (tb HB))); (case aL => have := LMc7.out; omega); intro v420 w8 ho hb hg hat; rw [← Ny419.out] at ho; replace HB := Aside0.mk (hb); have HO421 := Aside0.mk (ho); clear HO_5 ho hb hg hat))
        go_roundg k1
        case measure => have := HK1.out; omega
        case rel => exact ⟨(y419), (1), (wrap64 (x7_1 + 1)), (by first | rfl | (simp; done) | (simp [*]; done)), (by first | rfl | (simp; done) | (simp [*]; done)), H', ⟨by have := HK1.out; omega⟩, ⟨tq HO421⟩, ⟨tb HB⟩⟩
       ·rw [if_neg c7] at H
        exact absurd H (by simp)
      ·rw [if_neg c6] at H
       have c6b0 : decide ((wrap64 ((wrap64 ((rd l0 x7_1) - x6_1)) - (rd l1 x7_1))) < 0) = false := decide_eq_false c6; clear c6
       by_cases c9 : x5_1.length < 17592186044416
       ·rw [if_pos c9] at H
        have LMc9 := Aside0.mk c9; clear c9; obtain ⟨y422, hy422⟩ : ∃ y_ : List Int, y_ = (x5_1 ++ [wrap64 ((wrap64 ((rd l0 x7_1) - x6_1)) - (rd l1 x7_1))]) := ⟨_, rfl⟩; replace H : (whetstoneref01_Sub.l0 k1 l0 l1 y422 0 (wrap64 (x7_1 + 1))) = some r := ti hy422 H; have Ny422 := Aside0.mk hy422; clear hy422; have H' := Aside0.mk H; clear H; have p417 : 0 ≤ (x7_1 : Int) := td; have q417 : x7_1 < (l0.length : Int) := td; obtain ⟨ad417, e417, hx417_0⟩ := Kd.at_int HR0.out x7_1 p417 q417
        cases e417
        replace hx417_0 := (HB.out.cell (World.block_lt_of_cell? w _ hx417_0)).trans hx417_0; replace p417 := eq_true p417; replace q417 := eq_true q417; have p418 : 0 ≤ (x7_1 : Int) := td; have q418 : x7_1 < (l1.length : Int) := td; obtain ⟨ad418, e418, hx418_0⟩ := Kd.at_int HR1.out x7_1 p418 q418
        cases e418
        replace hx418_0 := (HB.out.cell (World.block_lt_of_cell? w _ hx418_0)).trans hx418_0; replace p418 := eq_true p418; replace q418 := eq_true q418
        go_wp2_with (first | ((with_reducible refine gate_builtin (b := .append) (xs := #[.tmp 35, .tmp 37]) rfl ?_); at_builtin; refine Kd.R_append (Kd.int .i64) (w0 := w) w.heap.size rfl (.tmp 35) (.tmp 37) 30 3 (.int .i64 0) 8 rfl Try.underlying30 info3 rfl (by decide) (by omega) u5 x5_1 (wrap64 ((wrap64 ((rd l0 x7_1) - x6_1)) - (rd l1 x7_1))) [.int .i64 (wrap64 ((wrap64 ((rd l0 x7_1) - x6_1)) - (rd l1 x7_1)))] (fun _ => True) (fun _ => False) rfl rfl ?aP (fun _ hk => hk.elim) ?aF ?aO ?aB ?aS ?aL ?_; (case aP => exact rfl); (case aB => exact (tb HB)); (case aF => exact (fun _ _ => trivial)); (case aO => exact (tq HO_5)); (case aS => exact (below_size (tb HB))); (case aL => have := LMc9.out; omega); intro v423 w10 ho hb hg hat; rw [← Ny422.out] at ho; replace HB := Aside0.mk (hb); have HO424 := Aside0.mk (ho); clear HO_5 ho hb hg hat))
        go_roundg k1
        case measure => have := HK1.out; omega
        case rel => exact ⟨(y422), (0), (wrap64 (x7_1 + 1)), (by first | rfl | (simp; done) | (simp [*]; done)), (by first | rfl | (simp; done) | (simp [*]; done)), H', ⟨by have := HK1.out; omega⟩, ⟨tq HO424⟩, ⟨tb HB⟩⟩
       ·rw [if_neg c9] at H
        exact absurd H (by simp)
     ·rw [if_neg c5] at H
      have c5b0 : decide (x7_1 < (l1.length : Int)) = false := decide_eq_false c5; clear c5
      by_cases c11 : (wrap64 ((rd l0 x7_1) - x6_1)) < 0
      ·rw [if_pos c11] at H
       have c11b0 : decide ((wrap64 ((rd l0 x7_1) - x6_1)) < 0) = true := decide_eq_true c11; clear c11
       by_cases c12 : x5_1.length < 17592186044416
       ·rw [if_pos c12] at H
        have LMc12 := Aside0.mk c12; clear c12; obtain ⟨y425, hy425⟩ : ∃ y_ : List Int, y_ = (x5_1 ++ [wrap64 ((wrap64 ((rd l0 x7_1) - x6_1)) + 10)]) := ⟨_, rfl⟩; replace H : (whetstoneref01_Sub.l0 k1 l0 l1 y425 1 (wrap64 (x7_1 + 1))) = some r := ti hy425 H; have Ny425 := Aside0.mk hy425; clear hy425; have H' := Aside0.mk H; clear H; have p417 : 0 ≤ (x7_1 : Int) := td; have q417 : x7_1 < (l0.length : Int) := td; obtain ⟨ad417, e417, hx417_0⟩ := Kd.at_int HR0.out x7_1 p417 q417
        cases e417
        replace hx417_0 := (HB.out.cell (World.block_lt_of_cell? w _ hx417_0)).trans hx417_0; replace p417 := eq_true p417; replace q417 := eq_true q417
        go_wp2_with (first | ((with_reducible refine gate_builtin (b := .append) (xs := #[.tmp 35, .tmp 37]) rfl ?_); at_builtin; refine Kd.R_append (Kd.int .i64) (w0 := w) w.heap.size rfl (.tmp 35) (.tmp 37) 30 3 (.int .i64 0) 8 rfl Try.underlying30 info3 rfl (by decide) (by omega) u5 x5_1 (wrap64 ((wrap64 ((rd l0 x7_1) - x6_1)) + 10)) [.int .i64 (wrap64 ((wrap64 ((rd l0 x7_1) - x6_1)) + 10))] (fun _ => True) (fun _ => False) rfl rfl ?aP (fun _ hk => hk.elim) ?aF ?aO ?aB ?aS ?aL ?_; (case aP => exact rfl); (case aB => exact (tb HB)); (case aF => exact (fun _ _ => trivial)); (case aO => exact (tq HO_5)); (case aS => exact (below_size (tb HB))); (case aL => have := LMc12.out; omega); intro v426 w13 ho hb hg hat; rw [← Ny425.out] at ho; replace HB := Aside0.mk (hb); have HO427 := Aside0.mk (ho); clear HO_5 ho hb hg hat))
        go_roundg k1
        case measure => have := HK1.out; omega
        case rel => exact ⟨(y425), (1), (wrap64 (x7_1 + 1)), (by first | rfl | (simp; done) | (simp [*]; done)), (by first | rfl | (simp; done) | (simp [*]; done)), H', ⟨by have := HK1.out; omega⟩, ⟨tq HO427⟩, ⟨tb HB⟩⟩
       ·rw [if_neg c12] at H
        exact absurd H (by simp)
      ·rw [if_neg c11] at H
       have c11b0 : decide ((wrap64 ((rd l0 x7_1) - x6_1)) < 0) = false := decide_eq_false c11; clear c11
       by_cases c14 : x5_1.length < 17592186044416
       ·rw [if_pos c14] at H
        have LMc14 := Aside0.mk c14; clear c14; obtain ⟨y428, hy428⟩ : ∃ y_ : List Int, y_ = (x5_1 ++ [wrap64 ((rd l0 x7_1) - x6_1)]) := ⟨_, rfl⟩; replace H : (whetstoneref01_Sub.l0 k1 l0 l1 y428 0 (wrap64 (x7_1 + 1))) = some r := ti hy428 H; have Ny428 := Aside0.mk hy428; clear hy428; have H' := Aside0.mk H; clear H; have p417 : 0 ≤ (x7_1 : Int) := td; have q417 : x7_1 < (l0.length : Int) := td; obtain ⟨ad417, e417, hx417_0⟩ := Kd.at_int HR0.out x7_1 p417 q417
        cases e417
        replace hx417_0 := (HB.out.cell (World.block_lt_of_cell? w _ hx417_0)).trans hx417_0; replace p417 := eq_true p417; replace q417 := eq_true q417
        go_wp2_with (first | ((with_reducible refine gate_builtin (b := .append) (xs := #[.tmp 35, .tmp 37]) rfl ?_); at_builtin; refine Kd.R_append (Kd.int .i64) (w0 := w) w.heap.size rfl (.tmp 35) (.tmp 37) 30 3 (.int .i64 0) 8 rfl Try.underlying30 info3 rfl (by decide) (by omega) u5 x5_1 (wrap64 ((rd l0 x7_1) - x6_1)) [.int .i64 (wrap64 ((rd l0 x7_1) - x6_1))] (fun _ => True) (fun _ => False) rfl rfl ?aP (fun _ hk => hk.elim) ?aF ?aO ?aB ?aS ?aL ?_; (case aP => exact rfl); (case aB => exact (tb HB)); (case aF => exact (fun _ _ => trivial)); (case aO => exact (tq HO_5)); (case aS => exact (below_size (tb HB))); (case aL => have := LMc14.out; omega); intro v429 w15 ho hb hg hat; rw [← Ny428.out] at ho; replace HB := Aside0.mk (hb); have HO430 := Aside0.mk (ho); clear HO_5 ho hb hg hat))
        go_roundg k1
        case measure => have := HK1.out; omega
        case rel => exact ⟨(y428), (0), (wrap64 (x7_1 + 1)), (by first | rfl | (simp; done) | (simp [*]; done)), (by first | rfl | (simp; done) | (simp [*]; done)), H', ⟨by have := HK1.out; omega⟩, ⟨tq HO430⟩, ⟨tb HB⟩⟩
       ·rw [if_neg c14] at H
        exact absurd H (by simp)
    ·rw [if_neg c4] at H
     exact absurd H (by simp)
   ·rw [if_neg c3] at H
    have c3b0 : decide (x7_1 < (l0.length : Int)) = false := decide_eq_false c3; clear c3; replace H := bi H; obtain ⟨t414, A160, H⟩ := H; have A16 := Aside0.mk A160; clear A160; obtain rfl := Option.some.inj H; obtain ⟨Ao17, co17, eo17⟩ := Kd.R_slice HO_5.out; subst eo17
    go_wp2_with (first | ((with_reducible refine gate_callee (f := 26) rfl ?_); refine gL (N := some 40) Try.func26 #[.slice Ao17 x5_1.length co17] ?_; (with_reducible refine (whetstoneref01_Trim.calls k1 _ _ x5_1 t414 _ ?side1 ?side2 A16.out).mono ?_); (case side1 => exact tc (Kd.R_reads' HO_5.out).2.2); (case side2 => exact (Kd.R_reads' HO_5.out).2.1); rintro e w18 ⟨v415, rfl, ho0, hb⟩; refine ⟨_, rfl, ?_⟩; have HO416 := rl (rn ho0 HO_5) HB; replace HB := bs HB hb; (try clear hb); (try clear ho0)))
    go_ret
    exact ⟨_, ee, by (with_reducible repeat first | apply qa | apply qn | apply qd); exact Kd.R_mono HO416.out (fun _ hk => trivial), tb HB⟩

end Go.Proofs.Ytkbefeadmchmbaa.QBigQuotients
