-- written by wip/wprint, a program of this session
import Derived.Test.YthodpjgmecnalaaQNatShiftsx0
import Derived.Test.YthodpjgmecnalaaQNatShiftsx1
import Derived.Test.YthodpjgmecnalaaQNatShiftsx6
import Derived.Test.YthodpjgmecnalaaQNatShiftsx9
import Derived.Test.YthodpjgmecnalaaQNatShiftsx10
namespace Go.Proofs.Ythodpjgmecnalaa.QNatShifts
open Go.RowKit Go.Proofs.YthodpjgmecnalaaW.PrintWords Go.Proofs.YthodpjgmecnalaaW.PrintLast Go.Proofs.YthodpjgmecnalaaW.PrintMore
open Go.Proofs.YthodpjgmecnalaaW.PrintWords.Kd renaming R_alloc → qa, R_drewN → qn, R_drew → qd, V_alloc → va, V_drewN → vn, V_drew → vd
open Go.Proofs.YthodpjgmecnalaaW.PrintWords renaming below_alloc → ba, pw_below_drewN → bn, below_drew1 → bd
attribute [local go_sem] max2_int min2_int max_two min_two max_three min_three max_four min_four   -- for this text's walks alone
set_option linter.unusedVariables false
set_option linter.unusedSimpArgs false

/-! ### whetstonelaw01_NatShifts: function 7 -/
mutual
def whetstonelaw01_NatShifts.j0 : Nat → List Int → Int → Bool → Option (Bool)
 | 0, _, _, _ => none
 | k + 1, x0, x1, x18 => if x18 = true then ((whetstonelaw01_counted.f k).bind fun t452 => (some t452)) else ((nat_Shift.f k x0 x1).bind fun bt453 => (if x1 < 0 then (whetstonelaw01_NatShifts.j1 k x0 x1 bt453.1 bt453.2 true) else (whetstonelaw01_NatShifts.j1 k x0 x1 bt453.1 bt453.2 (decide (x1 > 65536)))))
def whetstonelaw01_NatShifts.j1 : Nat → List Int → Int → List Int → Int → Bool → Option (Bool)
 | 0, _, _, _, _, _ => none
 | k + 1, x0, x1, x5, x6, x31 => if x31 = true then ((whetstonelaw01_counted.f k).bind fun t457 => (if t457 = true then (if x6 = 1 then (some ((x5.length : Int) == 0)) else (some false)) else (some false))) else ((whetstoneref01_From.f k x0).bind fun t458 => ((whetstonelaw01_counted.f k).bind fun t461 => (if t461 = true then (if x6 = 0 then ((whetstoneref01_Shift.f k t458 x1).bind fun t462 => ((whetstoneref01_Limbs.f k t462).bind fun t465 => ((whetstoneref01_Words.f k x5 t465).bind fun t468 => (if t468 = true then ((nat_Bits.f k x0).bind fun t469 => ((whetstoneref01_Bits.f k t458).bind fun t470 => (some (t469 == t470)))) else (some false))))) else (some false)) else (some false))))
end
def whetstonelaw01_NatShifts.f (k : Nat) (l0 : List Int) (a1 : Int) : Option (Bool) := if (l0.length : Int) > 12 then (whetstonelaw01_NatShifts.j0 k l0 a1 true) else (if a1 > 300 then (whetstonelaw01_NatShifts.j0 k l0 a1 (decide (a1 ≤ 65536))) else (whetstonelaw01_NatShifts.j0 k l0 a1 false))
theorem whetstonelaw01_NatShifts.mono_l : ∀ k, (∀ y0 y1 y2, LeO (whetstonelaw01_NatShifts.j0 k y0 y1 y2) (whetstonelaw01_NatShifts.j0 (k + 1) y0 y1 y2)) ∧ (∀ y0 y1 y2 y3 y4, LeO (whetstonelaw01_NatShifts.j1 k y0 y1 y2 y3 y4) (whetstonelaw01_NatShifts.j1 (k + 1) y0 y1 y2 y3 y4))
 | 0 => ⟨fun _ _ _ r h => by simp [whetstonelaw01_NatShifts.j0] at h, fun _ _ _ _ _ r h => by simp [whetstonelaw01_NatShifts.j1] at h⟩
 | k + 1 => by
  obtain ⟨ih0, ih1⟩ := whetstonelaw01_NatShifts.mono_l k
  refine ⟨?_, ?_⟩
  ·intro y0 y1 y2
   unfold whetstonelaw01_NatShifts.j0
   repeat' first
   | (with_reducible exact ih0 _ _ _)
   | (with_reducible exact ih1 _ _ _ _ _)
   | (with_reducible exact nat_Bits.mono _ _)
   | (with_reducible exact nat_Shift.mono _ _ _)
   | (with_reducible exact whetstonelaw01_counted.mono _)
   | (with_reducible exact whetstoneref01_Bits.mono _ _)
   | (with_reducible exact whetstoneref01_From.mono _ _)
   | (with_reducible exact whetstoneref01_Limbs.mono _ _)
   | (with_reducible exact whetstoneref01_Shift.mono _ _ _)
   | (with_reducible exact whetstoneref01_Words.mono _ _ _)
   | (with_reducible exact LeO.refl _)
   | (with_reducible exact LeO.none _)
   | (with_reducible refine LeO.ite ?_ ?_)
   | (with_reducible refine LeO.bind ?_ (fun _ => ?_))
   | exact ih0 _ _ _
   | exact ih1 _ _ _ _ _
   | exact nat_Bits.mono _ _
   | exact nat_Shift.mono _ _ _
   | exact whetstonelaw01_counted.mono _
   | exact whetstoneref01_Bits.mono _ _
   | exact whetstoneref01_From.mono _ _
   | exact whetstoneref01_Limbs.mono _ _
   | exact whetstoneref01_Shift.mono _ _ _
   | exact whetstoneref01_Words.mono _ _ _
   | exact LeO.none _
   | refine LeO.ite ?_ ?_
   | refine LeO.bind ?_ (fun _ => ?_)
  ·intro y0 y1 y2 y3 y4
   unfold whetstonelaw01_NatShifts.j1
   repeat' first
   | (with_reducible exact ih0 _ _ _)
   | (with_reducible exact ih1 _ _ _ _ _)
   | (with_reducible exact nat_Bits.mono _ _)
   | (with_reducible exact nat_Shift.mono _ _ _)
   | (with_reducible exact whetstonelaw01_counted.mono _)
   | (with_reducible exact whetstoneref01_Bits.mono _ _)
   | (with_reducible exact whetstoneref01_From.mono _ _)
   | (with_reducible exact whetstoneref01_Limbs.mono _ _)
   | (with_reducible exact whetstoneref01_Shift.mono _ _ _)
   | (with_reducible exact whetstoneref01_Words.mono _ _ _)
   | (with_reducible exact LeO.refl _)
   | (with_reducible exact LeO.none _)
   | (with_reducible refine LeO.ite ?_ ?_)
   | (with_reducible refine LeO.bind ?_ (fun _ => ?_))
   | exact ih0 _ _ _
   | exact ih1 _ _ _ _ _
   | exact nat_Bits.mono _ _
   | exact nat_Shift.mono _ _ _
   | exact whetstonelaw01_counted.mono _
   | exact whetstoneref01_Bits.mono _ _
   | exact whetstoneref01_From.mono _ _
   | exact whetstoneref01_Limbs.mono _ _
   | exact whetstoneref01_Shift.mono _ _ _
   | exact whetstoneref01_Words.mono _ _ _
   | exact LeO.none _
   | refine LeO.ite ?_ ?_
   | refine LeO.bind ?_ (fun _ => ?_)
theorem whetstonelaw01_NatShifts.mono : ∀ a0 a1 k, LeO (whetstonelaw01_NatShifts.f k a0 a1) (whetstonelaw01_NatShifts.f (k + 1) a0 a1) := by
 intro a0 a1 k
 obtain ⟨ih0, ih1⟩ := whetstonelaw01_NatShifts.mono_l k
 unfold whetstonelaw01_NatShifts.f
 repeat' first
   | (with_reducible exact ih0 _ _ _)
   | (with_reducible exact ih1 _ _ _ _ _)
   | (with_reducible exact nat_Bits.mono _ _)
   | (with_reducible exact nat_Shift.mono _ _ _)
   | (with_reducible exact whetstonelaw01_counted.mono _)
   | (with_reducible exact whetstoneref01_Bits.mono _ _)
   | (with_reducible exact whetstoneref01_From.mono _ _)
   | (with_reducible exact whetstoneref01_Limbs.mono _ _)
   | (with_reducible exact whetstoneref01_Shift.mono _ _ _)
   | (with_reducible exact whetstoneref01_Words.mono _ _ _)
   | (with_reducible exact LeO.refl _)
   | (with_reducible exact LeO.none _)
   | (with_reducible refine LeO.ite ?_ ?_)
   | (with_reducible refine LeO.bind ?_ (fun _ => ?_))
   | exact ih0 _ _ _
   | exact ih1 _ _ _ _ _
   | exact nat_Bits.mono _ _
   | exact nat_Shift.mono _ _ _
   | exact whetstonelaw01_counted.mono _
   | exact whetstoneref01_Bits.mono _ _
   | exact whetstoneref01_From.mono _ _
   | exact whetstoneref01_Limbs.mono _ _
   | exact whetstoneref01_Shift.mono _ _ _
   | exact whetstoneref01_Words.mono _ _ _
   | exact LeO.none _
   | refine LeO.ite ?_ ?_
   | refine LeO.bind ?_ (fun _ => ?_)
set_option maxHeartbeats 8000000 in
set_option maxRecDepth 100000 in
theorem whetstonelaw01_NatShifts.calls (k : Nat) (A0 : Option Addr) (c0 : Nat) (l0 : List Int) (a1 : Int) (r : Bool) (w : World) (hr0 : Kd.C (Kd.int .u32) w A0 l0.length l0) (hc0 : l0.length ≤ c0) (h : whetstonelaw01_NatShifts.f k l0 a1 = some r) :
  Calls Try.prog 7 #[.slice A0 l0.length c0, .int .i64 a1] w fun e w' => e = .returned (.bool r) ∧ Below w.heap.size w w' := by
 have HR0 := Aside0.mk hr0
 have HC0 := Aside0.mk hc0
 clear hr0 hc0
 have HB := Aside0.mk (Below.refl w.heap.size w)
 have H : (if (l0.length : Int) > 12 then (whetstonelaw01_NatShifts.j0 k l0 a1 true) else (if a1 > 300 then (whetstonelaw01_NatShifts.j0 k l0 a1 (decide (a1 ≤ 65536))) else (whetstonelaw01_NatShifts.j0 k l0 a1 false))) = some r := h
 clear h
 have HC3 := Aside0.mk H
 clear H
 go_enter Try.func7, Try.ntmps7
 go_upto_region 1 with (fail)
 go_cut [18] from 1 to 0 (fun v18 wc => ∃ (kq : Nat) (x18_2 : Bool), v18 = .bool x18_2 ∧ Aside0 (whetstonelaw01_NatShifts.j0 kq l0 a1 x18_2 = some r) ∧ Aside0 (kq ≤ k) ∧ Aside0 (Below w.heap.size w wc))
 case first =>
  have H := HC3.out
  clear HC3
  by_cases c4 : (l0.length : Int) > 12
  ·rw [if_pos c4] at H
   have c4b0 : decide (12 < (l0.length : Int)) = true := decide_eq_true c4
   have c4b1 : decide (12 < l0.length) = true := decide_eq_true (by omega)
   clear c4
   (first | rw [c4b0] | rw [c4b1] | (simp only [i64_w, i32_w]; rw [c4b0]) | skip)
   have H' := Aside0.mk H
   clear H
   go_wp2
   go_meet
   case rel => exact ⟨_, (true), (by first | rfl | (simp; done) | (simp [*]; done)), H', ⟨by first | omega | exact Nat.le_refl _⟩, ⟨by repeat (first | (with_reducible first | exact HB.out | apply ba | apply bn | apply bd) | exact HB.out)⟩⟩
  ·rw [if_neg c4] at H
   have c4b0 : decide (12 < (l0.length : Int)) = false := decide_eq_false c4
   have c4b1 : decide (12 < l0.length) = false := decide_eq_false (by omega)
   clear c4
   (first | rw [c4b0] | rw [c4b1] | (simp only [i64_w, i32_w]; rw [c4b0]) | skip)
   by_cases c5 : a1 > 300
   ·rw [if_pos c5] at H
    have c5b0 : decide (300 < a1) = true := decide_eq_true c5
    clear c5
    have H' := Aside0.mk H
    clear H
    go_wp2
    go_meet
    case rel => exact ⟨_, (decide (a1 ≤ 65536)), (by first | rfl | (simp; done) | (simp [*]; done)), H', ⟨by first | omega | exact Nat.le_refl _⟩, ⟨by repeat (first | (with_reducible first | exact HB.out | apply ba | apply bn | apply bd) | exact HB.out)⟩⟩
   ·rw [if_neg c5] at H
    have c5b0 : decide (300 < a1) = false := decide_eq_false c5
    clear c5
    have H' := Aside0.mk H
    clear H
    go_wp2
    go_meet
    case rel => exact ⟨_, (false), (by first | rfl | (simp; done) | (simp [*]; done)), H', ⟨by first | omega | exact Nat.le_refl _⟩, ⟨by repeat (first | (with_reducible first | exact HB.out | apply ba | apply bn | apply bd) | exact HB.out)⟩⟩
 case rest =>
  clear HC3; (try clear p2); (try clear c4); (try clear c4b0); (try clear c4b1); (try clear c5); (try clear c5b0)
  obtain ⟨kq, x18_2, rfl, HA, HJ2, HB⟩ := hcut
  cases kq with
  | zero => exact absurd HA.out (by simp [whetstonelaw01_NatShifts.j0])
  | succ kj2 =>
   have H := HA.out
   clear HA
   simp only [whetstonelaw01_NatShifts.j0] at H
   by_cases c6 : x18_2 = true
   ·subst c6
    have H1 : ((whetstonelaw01_counted.f kj2).bind fun t452 => (some t452)) = some r := by rw [if_pos rfl] at H; exact H
    clear H
    have H := H1
    clear H1
    replace H := Option.bind_eq_some_iff.mp H
    obtain ⟨t452, A70, H⟩ := H
    have A7 := Aside0.mk A70
    clear A70
    obtain rfl := Option.some.inj H
    go_wp2_with (first | ((with_reducible refine gate_callee (f := 12) rfl ?_); refine goesL_ (some 19) rfl rfl Try.func12 (by kernel_rfl) rfl #[] rfl (by (try simp only [List.map_toArray, List.map_cons, List.map_nil]); first | done | rfl | (simp only [List.length_drop, List.length_take]; rfl)) ?_; (with_reducible refine (whetstonelaw01_counted.calls kj2  t452 _ A7.out).mono ?_); rintro e w8 ⟨rfl, hb⟩; refine ⟨_, rfl, ?_⟩; replace HB := Aside0.mk (below_step (by repeat (first | (with_reducible first | exact HB.out | apply ba | apply bn | apply bd) | exact HB.out)) hb); (try clear hb); (try clear hb2); (try clear hk); (try clear hi)))
    go_ret
    exact ⟨by first | rfl | (simp [errW_none, errW_some] <;> rfl) | (simp [*, errW_none, errW_some] <;> rfl), by repeat (first | (with_reducible first | exact HB.out | apply ba | apply bn | apply bd) | exact HB.out)⟩
   ·replace c6 := Bool.eq_false_iff.mpr c6
    subst c6
    have H1 : ((nat_Shift.f kj2 l0 a1).bind fun bt453 => (if a1 < 0 then (whetstonelaw01_NatShifts.j1 kj2 l0 a1 bt453.1 bt453.2 true) else (whetstonelaw01_NatShifts.j1 kj2 l0 a1 bt453.1 bt453.2 (decide (a1 > 65536))))) = some r := by rw [if_neg (show ¬ (false = true) by decide)] at H; exact H
    clear H
    have H := H1
    clear H1
    replace H := Option.bind_eq_some_iff.mp H
    obtain ⟨⟨t453, t456⟩, A90, H⟩ := H
    replace H : (if a1 < 0 then (whetstonelaw01_NatShifts.j1 kj2 l0 a1 t453 t456 true) else (whetstonelaw01_NatShifts.j1 kj2 l0 a1 t453 t456 (decide (a1 > 65536)))) = some r := H
    have A9 := Aside0.mk A90
    clear A90
    have HC10 := Aside0.mk H
    clear H
    go_upto_region 4 with (first | ((with_reducible refine gate_callee (f := 23) rfl ?_); refine goesL_ (some 23) rfl rfl Try.func23 (by kernel_rfl) rfl #[.slice A0 l0.length c0, .int .i64 a1] rfl (by (try simp only [List.map_toArray, List.map_cons, List.map_nil]); first | done | rfl | (simp only [List.length_drop, List.length_take]; rfl)) ?_; (with_reducible refine (nat_Shift.calls kj2 (fun k_ => k_ < w.heap.size) _ _ l0 a1 t453 t456 _ ?side1 A9.out).mono ?_); (case side1 => exact Kd.V_mk HC0.out (Kd.F_below (Kd.C_F (Kd.heap_int .u32) HR0.out) (by repeat (first | (with_reducible first | exact HB.out | apply ba | apply bn | apply bd) | exact HB.out)))); rintro e w11 ⟨v454, rfl, ho0, hb⟩; refine ⟨_, rfl, ?_⟩; have n0_ := Aside0.mk (Kd.V_lower (Kd.V_mono (ok' := fun k_ => True) ho0 (fun k_ hk_ => trivial)) (below_size (by repeat (first | (with_reducible first | exact HB.out | apply ba | apply bn | apply bd) | exact HB.out)))); have n1_ := Aside0.mk (below_step (by repeat (first | (with_reducible first | exact HB.out | apply ba | apply bn | apply bd) | exact HB.out)) hb); clear HB; have HO455 := n0_; have HB := n1_; clear n0_ n1_; (try clear hb); (try clear hb2); (try clear hk); (try clear hi); (try clear ho0)))
    (try simp only [Act.put, List.setIfInBounds_toArray, List.set_cons_zero, List.set_cons_succ])
    go_cut [31] from 1 to 0 (fun v31 wc => ∃ (kq : Nat) (x31_9 : Bool), v31 = .bool x31_9 ∧ Aside0 (whetstonelaw01_NatShifts.j1 kq l0 a1 t453 t456 x31_9 = some r) ∧ Aside0 (kq ≤ kj2) ∧ Aside0 (Kd.V (Kd.int .u32) 42 wc w.heap.size (fun _ => True) v454 t453) ∧ Aside0 (Below w.heap.size w wc))
    case first =>
     have H := HC10.out
     clear HC10
     by_cases c12 : a1 < 0
     ·rw [if_pos c12] at H
      have c12b0 : decide (a1 < 0) = true := decide_eq_true c12
      clear c12
      (first | rw [c12b0] | rw [c12b1] | (simp only [i64_w, i32_w]; rw [c12b0]) | skip)
      have H' := Aside0.mk H
      clear H
      go_wp2
      go_meet
      case rel => exact ⟨_, (true), (by first | rfl | (simp; done) | (simp [*]; done)), H', ⟨by have := HJ2.out; first | omega | exact Nat.le_refl _⟩, ⟨by (with_reducible repeat first | apply va | apply vn | apply vd); exact HO455.out⟩, ⟨by repeat (first | (with_reducible first | exact HB.out | apply ba | apply bn | apply bd) | exact HB.out)⟩⟩
     ·rw [if_neg c12] at H
      have c12b0 : decide (a1 < 0) = false := decide_eq_false c12
      clear c12
      (first | rw [c12b0] | rw [c12b1] | (simp only [i64_w, i32_w]; rw [c12b0]) | skip)
      have H' := Aside0.mk H
      clear H
      go_wp2
      go_meet
      case rel => exact ⟨_, (decide (a1 > 65536)), (by first | rfl | (simp; done) | (simp [*]; done)), H', ⟨by have := HJ2.out; first | omega | exact Nat.le_refl _⟩, ⟨by (with_reducible repeat first | apply va | apply vn | apply vd); exact HO455.out⟩, ⟨by repeat (first | (with_reducible first | exact HB.out | apply ba | apply bn | apply bd) | exact HB.out)⟩⟩
    case rest =>
     clear HC10; (try clear c1); (try clear c2); (try clear p2); (try clear c4); (try clear c4b0); (try clear c4b1); (try clear c5); (try clear c5b0); (try clear c6); (try clear c7); (try clear c12); (try clear c12b0); (try clear p2)
     obtain ⟨kq, x31_9, rfl, HA, HJ9, HO_5, HB⟩ := hcut
     cases kq with
     | zero => exact absurd HA.out (by simp [whetstonelaw01_NatShifts.j1])
     | succ kj9 =>
      have H := HA.out
      clear HA
      simp only [whetstonelaw01_NatShifts.j1] at H
      by_cases c13 : x31_9 = true
      ·subst c13
       have H1 : ((whetstonelaw01_counted.f kj9).bind fun t457 => (if t457 = true then (if t456 = 1 then (some ((t453.length : Int) == 0)) else (some false)) else (some false))) = some r := by rw [if_pos rfl] at H; exact H
       clear H
       have H := H1
       clear H1
       replace H := Option.bind_eq_some_iff.mp H
       obtain ⟨t457, A140, H⟩ := H
       have A14 := Aside0.mk A140
       clear A140
       by_cases c15 : t457 = true
       ·subst c15
        have H1 : (if t456 = 1 then (some ((t453.length : Int) == 0)) else (some false)) = some r := by rw [if_pos rfl] at H; exact H
        clear H
        have H := H1
        clear H1
        by_cases c16 : t456 = 1
        ·rw [if_pos c16] at H
         have c16b0 : (t456 == 1) = true := beq_iff_eq.mpr c16
         have c16b1 : (t456 != 1) = false := bne_eq_false_iff_eq.mpr c16
         clear c16
         obtain rfl := Option.some.inj H
         go_wp2_with (first | ((with_reducible refine gate_callee (f := 12) rfl ?_); refine goesL_ (some 32) rfl rfl Try.func12 (by kernel_rfl) rfl #[] rfl (by (try simp only [List.map_toArray, List.map_cons, List.map_nil]); first | done | rfl | (simp only [List.length_drop, List.length_take]; rfl)) ?_; (with_reducible refine (whetstonelaw01_counted.calls kj9  true _ A14.out).mono ?_); rintro e w17 ⟨rfl, hb⟩; refine ⟨_, rfl, ?_⟩; replace HO_5 := Aside0.mk (Kd.V_below (by (with_reducible repeat first | apply va | apply vn | apply vd); exact HO_5.out) hb); replace HB := Aside0.mk (below_step (by repeat (first | (with_reducible first | exact HB.out | apply ba | apply bn | apply bd) | exact HB.out)) hb); (try clear hb); (try clear hb2); (try clear hk); (try clear hi); obtain ⟨Ao18, co18, eo18⟩ := Kd.V_slice HO_5.out; subst eo18))
         go_ret
         exact ⟨by first | rfl | (simp [errW_none, errW_some] <;> rfl) | (simp [*, errW_none, errW_some] <;> rfl), by repeat (first | (with_reducible first | exact HB.out | apply ba | apply bn | apply bd) | exact HB.out)⟩
        ·rw [if_neg c16] at H
         have c16b0 : (t456 == 1) = false := beq_eq_false_iff_ne.mpr c16
         have c16b1 : (t456 != 1) = true := bne_iff_ne.mpr c16
         obtain rfl := Option.some.inj H
         go_wp2_with (first | ((with_reducible refine gate_callee (f := 12) rfl ?_); refine goesL_ (some 32) rfl rfl Try.func12 (by kernel_rfl) rfl #[] rfl (by (try simp only [List.map_toArray, List.map_cons, List.map_nil]); first | done | rfl | (simp only [List.length_drop, List.length_take]; rfl)) ?_; (with_reducible refine (whetstonelaw01_counted.calls kj9  true _ A14.out).mono ?_); rintro e w19 ⟨rfl, hb⟩; refine ⟨_, rfl, ?_⟩; replace HO_5 := Aside0.mk (Kd.V_below (by (with_reducible repeat first | apply va | apply vn | apply vd); exact HO_5.out) hb); replace HB := Aside0.mk (below_step (by repeat (first | (with_reducible first | exact HB.out | apply ba | apply bn | apply bd) | exact HB.out)) hb); (try clear hb); (try clear hb2); (try clear hk); (try clear hi)))
         go_ret
         exact ⟨by first | rfl | (simp [errW_none, errW_some] <;> rfl) | (simp [*, errW_none, errW_some] <;> rfl), by repeat (first | (with_reducible first | exact HB.out | apply ba | apply bn | apply bd) | exact HB.out)⟩
       ·replace c15 := Bool.eq_false_iff.mpr c15
        subst c15
        have H1 : (some false) = some r := by rw [if_neg (show ¬ (false = true) by decide)] at H; exact H
        clear H
        have H := H1
        clear H1
        obtain rfl := Option.some.inj H
        go_wp2_with (first | ((with_reducible refine gate_callee (f := 12) rfl ?_); refine goesL_ (some 32) rfl rfl Try.func12 (by kernel_rfl) rfl #[] rfl (by (try simp only [List.map_toArray, List.map_cons, List.map_nil]); first | done | rfl | (simp only [List.length_drop, List.length_take]; rfl)) ?_; (with_reducible refine (whetstonelaw01_counted.calls kj9  false _ A14.out).mono ?_); rintro e w20 ⟨rfl, hb⟩; refine ⟨_, rfl, ?_⟩; replace HO_5 := Aside0.mk (Kd.V_below (by (with_reducible repeat first | apply va | apply vn | apply vd); exact HO_5.out) hb); replace HB := Aside0.mk (below_step (by repeat (first | (with_reducible first | exact HB.out | apply ba | apply bn | apply bd) | exact HB.out)) hb); (try clear hb); (try clear hb2); (try clear hk); (try clear hi)))
        go_ret
        exact ⟨by first | rfl | (simp [errW_none, errW_some] <;> rfl) | (simp [*, errW_none, errW_some] <;> rfl), by repeat (first | (with_reducible first | exact HB.out | apply ba | apply bn | apply bd) | exact HB.out)⟩
      ·replace c13 := Bool.eq_false_iff.mpr c13
       subst c13
       have H1 : ((whetstoneref01_From.f kj9 l0).bind fun t458 => ((whetstonelaw01_counted.f kj9).bind fun t461 => (if t461 = true then (if t456 = 0 then ((whetstoneref01_Shift.f kj9 t458 a1).bind fun t462 => ((whetstoneref01_Limbs.f kj9 t462).bind fun t465 => ((whetstoneref01_Words.f kj9 t453 t465).bind fun t468 => (if t468 = true then ((nat_Bits.f kj9 l0).bind fun t469 => ((whetstoneref01_Bits.f kj9 t458).bind fun t470 => (some (t469 == t470)))) else (some false))))) else (some false)) else (some false)))) = some r := by rw [if_neg (show ¬ (false = true) by decide)] at H; exact H
       clear H
       have H := H1
       clear H1
       replace H := Option.bind_eq_some_iff.mp H
       obtain ⟨t458, A210, H⟩ := H
       have A21 := Aside0.mk A210
       clear A210
       replace H := Option.bind_eq_some_iff.mp H
       obtain ⟨t461, A220, H⟩ := H
       have A22 := Aside0.mk A220
       clear A220
       by_cases c23 : t461 = true
       ·subst c23
        have H1 : (if t456 = 0 then ((whetstoneref01_Shift.f kj9 t458 a1).bind fun t462 => ((whetstoneref01_Limbs.f kj9 t462).bind fun t465 => ((whetstoneref01_Words.f kj9 t453 t465).bind fun t468 => (if t468 = true then ((nat_Bits.f kj9 l0).bind fun t469 => ((whetstoneref01_Bits.f kj9 t458).bind fun t470 => (some (t469 == t470)))) else (some false))))) else (some false)) = some r := by rw [if_pos rfl] at H; exact H
        clear H
        have H := H1
        clear H1
        by_cases c24 : t456 = 0
        ·rw [if_pos c24] at H
         have c24b0 : (t456 == 0) = true := beq_iff_eq.mpr c24
         have c24b1 : (t456 != 0) = false := bne_eq_false_iff_eq.mpr c24
         clear c24
         replace H := Option.bind_eq_some_iff.mp H
         obtain ⟨t462, A250, H⟩ := H
         have A25 := Aside0.mk A250
         clear A250
         replace H := Option.bind_eq_some_iff.mp H
         obtain ⟨t465, A260, H⟩ := H
         have A26 := Aside0.mk A260
         clear A260
         replace H := Option.bind_eq_some_iff.mp H
         obtain ⟨t468, A270, H⟩ := H
         have A27 := Aside0.mk A270
         clear A270
         by_cases c28 : t468 = true
         ·subst c28
          have H1 : ((nat_Bits.f kj9 l0).bind fun t469 => ((whetstoneref01_Bits.f kj9 t458).bind fun t470 => (some (t469 == t470)))) = some r := by rw [if_pos rfl] at H; exact H
          clear H
          have H := H1
          clear H1
          replace H := Option.bind_eq_some_iff.mp H
          obtain ⟨t469, A290, H⟩ := H
          have A29 := Aside0.mk A290
          clear A290
          replace H := Option.bind_eq_some_iff.mp H
          obtain ⟨t470, A300, H⟩ := H
          have A30 := Aside0.mk A300
          clear A300
          obtain rfl := Option.some.inj H
          go_wp2_with (first | ((with_reducible refine gate_callee (f := 17) rfl ?_); refine goesL_ (some 43) rfl rfl Try.func17 (by kernel_rfl) rfl #[.slice A0 l0.length c0] rfl (by (try simp only [List.map_toArray, List.map_cons, List.map_nil]); first | done | rfl | (simp only [List.length_drop, List.length_take]; rfl)) ?_; (with_reducible refine (whetstoneref01_From.calls kj9 _ _ l0 t458 _ ?side1 ?side2 A21.out).mono ?_); (case side1 => repeat (first | exact (Kd.C_below HR0.out HB.out) | (with_reducible refine Kd.C_alloc ?_ _) | (with_reducible refine Kd.C_drewN ?_ _) | (with_reducible refine Kd.C_drew ?_))); (case side2 => exact HC0.out); rintro e w31 ⟨v459, rfl, ho0, hb⟩; refine ⟨_, rfl, ?_⟩; have HO460 := Aside0.mk (Kd.R_lower ho0 (below_size (by repeat (first | (with_reducible first | exact HB.out | apply ba | apply bn | apply bd) | exact HB.out)))); replace HO_5 := Aside0.mk (Kd.V_elder' (by (with_reducible repeat first | apply va | apply vn | apply vd); exact HO_5.out) (Kd.R_base ho0) hb); replace HB := Aside0.mk (below_step (by repeat (first | (with_reducible first | exact HB.out | apply ba | apply bn | apply bd) | exact HB.out)) hb); (try clear hb); (try clear hb2); (try clear hk); (try clear hi); (try clear ho0)) | ((with_reducible refine gate_callee (f := 12) rfl ?_); refine goesL_ (some 44) rfl rfl Try.func12 (by kernel_rfl) rfl #[] rfl (by (try simp only [List.map_toArray, List.map_cons, List.map_nil]); first | done | rfl | (simp only [List.length_drop, List.length_take]; rfl)) ?_; (with_reducible refine (whetstonelaw01_counted.calls kj9  true _ A22.out).mono ?_); rintro e w32 ⟨rfl, hb⟩; refine ⟨_, rfl, ?_⟩; replace HO_5 := Aside0.mk (Kd.V_below (by (with_reducible repeat first | apply va | apply vn | apply vd); exact HO_5.out) hb); replace HO460 := Aside0.mk (Kd.R_below (by (with_reducible repeat first | apply qa | apply qn | apply qd); exact HO460.out) hb); replace HB := Aside0.mk (below_step (by repeat (first | (with_reducible first | exact HB.out | apply ba | apply bn | apply bd) | exact HB.out)) hb); (try clear hb); (try clear hb2); (try clear hk); (try clear hi); obtain ⟨Ao33, co33, eo33⟩ := Kd.R_slice HO460.out; subst eo33) | (go_at_call 24; (with_reducible refine (whetstoneref01_Shift.calls kj9 _ _ t458 a1 t462 _ ?side1 ?side2 A25.out).mono ?_); (case side1 => repeat (first | exact (Kd.R_reads' HO460.out).2.2 | (with_reducible refine Kd.C_alloc ?_ _) | (with_reducible refine Kd.C_drewN ?_ _) | (with_reducible refine Kd.C_drew ?_))); (case side2 => exact (Kd.R_reads' HO460.out).2.1); rintro e w34 ⟨v463, rfl, ho0, hb⟩; have HO464 := Aside0.mk (Kd.R_lower (Kd.R_new' ho0 (Kd.R_lt (by (with_reducible repeat first | apply qa | apply qn | apply qd); exact HO460.out))) (below_size (by repeat (first | (with_reducible first | exact HB.out | apply ba | apply bn | apply bd) | exact HB.out)))); replace HO_5 := Aside0.mk (Kd.V_elder' (by (with_reducible repeat first | apply va | apply vn | apply vd); exact HO_5.out) (Kd.R_base ho0) hb); replace HO460 := Aside0.mk (Kd.R_elder' (by (with_reducible repeat first | apply qa | apply qn | apply qd); exact HO460.out) (Kd.R_base ho0) hb); replace HB := Aside0.mk (below_step (by repeat (first | (with_reducible first | exact HB.out | apply ba | apply bn | apply bd) | exact HB.out)) hb); (try clear hb); (try clear hb2); (try clear hk); (try clear hi); (try clear ho0); obtain ⟨Ao35, co35, eo35⟩ := Kd.R_slice HO464.out; subst eo35) | (go_at_call 15; (with_reducible refine (whetstoneref01_Limbs.calls kj9 _ _ t462 t465 _ ?side1 ?side2 A26.out).mono ?_); (case side1 => repeat (first | exact (Kd.R_reads' HO464.out).2.2 | (with_reducible refine Kd.C_alloc ?_ _) | (with_reducible refine Kd.C_drewN ?_ _) | (with_reducible refine Kd.C_drew ?_))); (case side2 => exact (Kd.R_reads' HO464.out).2.1); rintro e w36 ⟨v466, rfl, ho0, hb⟩; have HO467 := Aside0.mk (Kd.R_lower ho0 (below_size (by repeat (first | (with_reducible first | exact HB.out | apply ba | apply bn | apply bd) | exact HB.out)))); replace HO_5 := Aside0.mk (Kd.V_elder' (by (with_reducible repeat first | apply va | apply vn | apply vd); exact HO_5.out) (Kd.R_base ho0) hb); replace HO460 := Aside0.mk (Kd.R_below (by (with_reducible repeat first | apply qa | apply qn | apply qd); exact HO460.out) hb); replace HO464 := Aside0.mk (Kd.R_below (by (with_reducible repeat first | apply qa | apply qn | apply qd); exact HO464.out) hb); replace HB := Aside0.mk (below_step (by repeat (first | (with_reducible first | exact HB.out | apply ba | apply bn | apply bd) | exact HB.out)) hb); (try clear hb); (try clear hb2); (try clear hk); (try clear hi); (try clear ho0); obtain ⟨Ao37, co37, eo37⟩ := Kd.V_slice HO_5.out; subst eo37; obtain ⟨Ao38, co38, eo38⟩ := Kd.R_slice HO467.out; subst eo38) | (go_at_call 13; (with_reducible refine (whetstoneref01_Words.calls kj9 _ _ t453 _ _ t465 true _ ?side1 ?side2 ?side3 ?side4 A27.out).mono ?_); (case side1 => repeat (first | exact (Kd.V_reads' HO_5.out).2.2 | (with_reducible refine Kd.C_alloc ?_ _) | (with_reducible refine Kd.C_drewN ?_ _) | (with_reducible refine Kd.C_drew ?_))); (case side2 => exact (Kd.V_reads' HO_5.out).2.1); (case side3 => repeat (first | exact (Kd.R_reads' HO467.out).2.2 | (with_reducible refine Kd.C_alloc ?_ _) | (with_reducible refine Kd.C_drewN ?_ _) | (with_reducible refine Kd.C_drew ?_))); (case side4 => exact (Kd.R_reads' HO467.out).2.1); rintro e w' ⟨rfl, ⟨nd, rfl⟩⟩) | (go_at_call 25; (with_reducible refine (nat_Bits.calls kj9 _ _ l0 t469 _ ?side1 ?side2 A29.out).mono ?_); (case side1 => repeat (first | exact (Kd.C_below HR0.out (by repeat (first | (with_reducible first | exact HB.out | apply ba | apply bn | apply bd) | exact HB.out))) | (with_reducible refine Kd.C_alloc ?_ _) | (with_reducible refine Kd.C_drewN ?_ _) | (with_reducible refine Kd.C_drew ?_))); (case side2 => exact HC0.out); rintro e w39 ⟨rfl, hb⟩; replace HO_5 := Aside0.mk (Kd.V_below (by (with_reducible repeat first | apply va | apply vn | apply vd); exact HO_5.out) hb); replace HO460 := Aside0.mk (Kd.R_below (by (with_reducible repeat first | apply qa | apply qn | apply qd); exact HO460.out) hb); replace HO464 := Aside0.mk (Kd.R_below (by (with_reducible repeat first | apply qa | apply qn | apply qd); exact HO464.out) hb); replace HO467 := Aside0.mk (Kd.R_below (by (with_reducible repeat first | apply qa | apply qn | apply qd); exact HO467.out) hb); replace HB := Aside0.mk (below_step (by repeat (first | (with_reducible first | exact HB.out | apply ba | apply bn | apply bd) | exact HB.out)) hb); (try clear hb); (try clear hb2); (try clear hk); (try clear hi)) | (go_at_call 26; (with_reducible refine (whetstoneref01_Bits.calls kj9 _ _ t458 t470 _ ?side1 ?side2 A30.out).mono ?_); (case side1 => repeat (first | exact (Kd.R_reads' HO460.out).2.2 | (with_reducible refine Kd.C_alloc ?_ _) | (with_reducible refine Kd.C_drewN ?_ _) | (with_reducible refine Kd.C_drew ?_))); (case side2 => exact (Kd.R_reads' HO460.out).2.1); rintro e w40 ⟨rfl, hb⟩; replace HO_5 := Aside0.mk (Kd.V_below (by (with_reducible repeat first | apply va | apply vn | apply vd); exact HO_5.out) hb); replace HO460 := Aside0.mk (Kd.R_below (by (with_reducible repeat first | apply qa | apply qn | apply qd); exact HO460.out) hb); replace HO464 := Aside0.mk (Kd.R_below (by (with_reducible repeat first | apply qa | apply qn | apply qd); exact HO464.out) hb); replace HO467 := Aside0.mk (Kd.R_below (by (with_reducible repeat first | apply qa | apply qn | apply qd); exact HO467.out) hb); replace HB := Aside0.mk (below_step (by repeat (first | (with_reducible first | exact HB.out | apply ba | apply bn | apply bd) | exact HB.out)) hb); (try clear hb); (try clear hb2); (try clear hk); (try clear hi)))
          go_ret
          exact ⟨by first | rfl | (simp [errW_none, errW_some] <;> rfl) | (simp [*, errW_none, errW_some] <;> rfl), by repeat (first | (with_reducible first | exact HB.out | apply ba | apply bn | apply bd) | exact HB.out)⟩
         ·replace c28 := Bool.eq_false_iff.mpr c28
          subst c28
          have H1 : (some false) = some r := by rw [if_neg (show ¬ (false = true) by decide)] at H; exact H
          clear H
          have H := H1
          clear H1
          obtain rfl := Option.some.inj H
          go_wp2_with (first | ((with_reducible refine gate_callee (f := 17) rfl ?_); refine goesL_ (some 43) rfl rfl Try.func17 (by kernel_rfl) rfl #[.slice A0 l0.length c0] rfl (by (try simp only [List.map_toArray, List.map_cons, List.map_nil]); first | done | rfl | (simp only [List.length_drop, List.length_take]; rfl)) ?_; (with_reducible refine (whetstoneref01_From.calls kj9 _ _ l0 t458 _ ?side1 ?side2 A21.out).mono ?_); (case side1 => repeat (first | exact (Kd.C_below HR0.out HB.out) | (with_reducible refine Kd.C_alloc ?_ _) | (with_reducible refine Kd.C_drewN ?_ _) | (with_reducible refine Kd.C_drew ?_))); (case side2 => exact HC0.out); rintro e w41 ⟨v459, rfl, ho0, hb⟩; refine ⟨_, rfl, ?_⟩; have HO460 := Aside0.mk (Kd.R_lower ho0 (below_size (by repeat (first | (with_reducible first | exact HB.out | apply ba | apply bn | apply bd) | exact HB.out)))); replace HO_5 := Aside0.mk (Kd.V_elder' (by (with_reducible repeat first | apply va | apply vn | apply vd); exact HO_5.out) (Kd.R_base ho0) hb); replace HB := Aside0.mk (below_step (by repeat (first | (with_reducible first | exact HB.out | apply ba | apply bn | apply bd) | exact HB.out)) hb); (try clear hb); (try clear hb2); (try clear hk); (try clear hi); (try clear ho0)) | ((with_reducible refine gate_callee (f := 12) rfl ?_); refine goesL_ (some 44) rfl rfl Try.func12 (by kernel_rfl) rfl #[] rfl (by (try simp only [List.map_toArray, List.map_cons, List.map_nil]); first | done | rfl | (simp only [List.length_drop, List.length_take]; rfl)) ?_; (with_reducible refine (whetstonelaw01_counted.calls kj9  true _ A22.out).mono ?_); rintro e w42 ⟨rfl, hb⟩; refine ⟨_, rfl, ?_⟩; replace HO_5 := Aside0.mk (Kd.V_below (by (with_reducible repeat first | apply va | apply vn | apply vd); exact HO_5.out) hb); replace HO460 := Aside0.mk (Kd.R_below (by (with_reducible repeat first | apply qa | apply qn | apply qd); exact HO460.out) hb); replace HB := Aside0.mk (below_step (by repeat (first | (with_reducible first | exact HB.out | apply ba | apply bn | apply bd) | exact HB.out)) hb); (try clear hb); (try clear hb2); (try clear hk); (try clear hi); obtain ⟨Ao43, co43, eo43⟩ := Kd.R_slice HO460.out; subst eo43) | (go_at_call 24; (with_reducible refine (whetstoneref01_Shift.calls kj9 _ _ t458 a1 t462 _ ?side1 ?side2 A25.out).mono ?_); (case side1 => repeat (first | exact (Kd.R_reads' HO460.out).2.2 | (with_reducible refine Kd.C_alloc ?_ _) | (with_reducible refine Kd.C_drewN ?_ _) | (with_reducible refine Kd.C_drew ?_))); (case side2 => exact (Kd.R_reads' HO460.out).2.1); rintro e w44 ⟨v463, rfl, ho0, hb⟩; have HO464 := Aside0.mk (Kd.R_lower (Kd.R_new' ho0 (Kd.R_lt (by (with_reducible repeat first | apply qa | apply qn | apply qd); exact HO460.out))) (below_size (by repeat (first | (with_reducible first | exact HB.out | apply ba | apply bn | apply bd) | exact HB.out)))); replace HO_5 := Aside0.mk (Kd.V_elder' (by (with_reducible repeat first | apply va | apply vn | apply vd); exact HO_5.out) (Kd.R_base ho0) hb); replace HO460 := Aside0.mk (Kd.R_elder' (by (with_reducible repeat first | apply qa | apply qn | apply qd); exact HO460.out) (Kd.R_base ho0) hb); replace HB := Aside0.mk (below_step (by repeat (first | (with_reducible first | exact HB.out | apply ba | apply bn | apply bd) | exact HB.out)) hb); (try clear hb); (try clear hb2); (try clear hk); (try clear hi); (try clear ho0); obtain ⟨Ao45, co45, eo45⟩ := Kd.R_slice HO464.out; subst eo45) | (go_at_call 15; (with_reducible refine (whetstoneref01_Limbs.calls kj9 _ _ t462 t465 _ ?side1 ?side2 A26.out).mono ?_); (case side1 => repeat (first | exact (Kd.R_reads' HO464.out).2.2 | (with_reducible refine Kd.C_alloc ?_ _) | (with_reducible refine Kd.C_drewN ?_ _) | (with_reducible refine Kd.C_drew ?_))); (case side2 => exact (Kd.R_reads' HO464.out).2.1); rintro e w46 ⟨v466, rfl, ho0, hb⟩; have HO467 := Aside0.mk (Kd.R_lower ho0 (below_size (by repeat (first | (with_reducible first | exact HB.out | apply ba | apply bn | apply bd) | exact HB.out)))); replace HO_5 := Aside0.mk (Kd.V_elder' (by (with_reducible repeat first | apply va | apply vn | apply vd); exact HO_5.out) (Kd.R_base ho0) hb); replace HO460 := Aside0.mk (Kd.R_below (by (with_reducible repeat first | apply qa | apply qn | apply qd); exact HO460.out) hb); replace HO464 := Aside0.mk (Kd.R_below (by (with_reducible repeat first | apply qa | apply qn | apply qd); exact HO464.out) hb); replace HB := Aside0.mk (below_step (by repeat (first | (with_reducible first | exact HB.out | apply ba | apply bn | apply bd) | exact HB.out)) hb); (try clear hb); (try clear hb2); (try clear hk); (try clear hi); (try clear ho0); obtain ⟨Ao47, co47, eo47⟩ := Kd.V_slice HO_5.out; subst eo47; obtain ⟨Ao48, co48, eo48⟩ := Kd.R_slice HO467.out; subst eo48) | (go_at_call 13; (with_reducible refine (whetstoneref01_Words.calls kj9 _ _ t453 _ _ t465 false _ ?side1 ?side2 ?side3 ?side4 A27.out).mono ?_); (case side1 => repeat (first | exact (Kd.V_reads' HO_5.out).2.2 | (with_reducible refine Kd.C_alloc ?_ _) | (with_reducible refine Kd.C_drewN ?_ _) | (with_reducible refine Kd.C_drew ?_))); (case side2 => exact (Kd.V_reads' HO_5.out).2.1); (case side3 => repeat (first | exact (Kd.R_reads' HO467.out).2.2 | (with_reducible refine Kd.C_alloc ?_ _) | (with_reducible refine Kd.C_drewN ?_ _) | (with_reducible refine Kd.C_drew ?_))); (case side4 => exact (Kd.R_reads' HO467.out).2.1); rintro e w' ⟨rfl, ⟨nd, rfl⟩⟩))
          go_ret
          exact ⟨by first | rfl | (simp [errW_none, errW_some] <;> rfl) | (simp [*, errW_none, errW_some] <;> rfl), by repeat (first | (with_reducible first | exact HB.out | apply ba | apply bn | apply bd) | exact HB.out)⟩
        ·rw [if_neg c24] at H
         have c24b0 : (t456 == 0) = false := beq_eq_false_iff_ne.mpr c24
         have c24b1 : (t456 != 0) = true := bne_iff_ne.mpr c24
         obtain rfl := Option.some.inj H
         go_wp2_with (first | ((with_reducible refine gate_callee (f := 17) rfl ?_); refine goesL_ (some 43) rfl rfl Try.func17 (by kernel_rfl) rfl #[.slice A0 l0.length c0] rfl (by (try simp only [List.map_toArray, List.map_cons, List.map_nil]); first | done | rfl | (simp only [List.length_drop, List.length_take]; rfl)) ?_; (with_reducible refine (whetstoneref01_From.calls kj9 _ _ l0 t458 _ ?side1 ?side2 A21.out).mono ?_); (case side1 => repeat (first | exact (Kd.C_below HR0.out HB.out) | (with_reducible refine Kd.C_alloc ?_ _) | (with_reducible refine Kd.C_drewN ?_ _) | (with_reducible refine Kd.C_drew ?_))); (case side2 => exact HC0.out); rintro e w49 ⟨v459, rfl, ho0, hb⟩; refine ⟨_, rfl, ?_⟩; have HO460 := Aside0.mk (Kd.R_lower ho0 (below_size (by repeat (first | (with_reducible first | exact HB.out | apply ba | apply bn | apply bd) | exact HB.out)))); replace HO_5 := Aside0.mk (Kd.V_elder' (by (with_reducible repeat first | apply va | apply vn | apply vd); exact HO_5.out) (Kd.R_base ho0) hb); replace HB := Aside0.mk (below_step (by repeat (first | (with_reducible first | exact HB.out | apply ba | apply bn | apply bd) | exact HB.out)) hb); (try clear hb); (try clear hb2); (try clear hk); (try clear hi); (try clear ho0)) | ((with_reducible refine gate_callee (f := 12) rfl ?_); refine goesL_ (some 44) rfl rfl Try.func12 (by kernel_rfl) rfl #[] rfl (by (try simp only [List.map_toArray, List.map_cons, List.map_nil]); first | done | rfl | (simp only [List.length_drop, List.length_take]; rfl)) ?_; (with_reducible refine (whetstonelaw01_counted.calls kj9  true _ A22.out).mono ?_); rintro e w50 ⟨rfl, hb⟩; refine ⟨_, rfl, ?_⟩; replace HO_5 := Aside0.mk (Kd.V_below (by (with_reducible repeat first | apply va | apply vn | apply vd); exact HO_5.out) hb); replace HO460 := Aside0.mk (Kd.R_below (by (with_reducible repeat first | apply qa | apply qn | apply qd); exact HO460.out) hb); replace HB := Aside0.mk (below_step (by repeat (first | (with_reducible first | exact HB.out | apply ba | apply bn | apply bd) | exact HB.out)) hb); (try clear hb); (try clear hb2); (try clear hk); (try clear hi)))
         go_ret
         exact ⟨by first | rfl | (simp [errW_none, errW_some] <;> rfl) | (simp [*, errW_none, errW_some] <;> rfl), by repeat (first | (with_reducible first | exact HB.out | apply ba | apply bn | apply bd) | exact HB.out)⟩
       ·replace c23 := Bool.eq_false_iff.mpr c23
        subst c23
        have H1 : (some false) = some r := by rw [if_neg (show ¬ (false = true) by decide)] at H; exact H
        clear H
        have H := H1
        clear H1
        obtain rfl := Option.some.inj H
        go_wp2_with (first | ((with_reducible refine gate_callee (f := 17) rfl ?_); refine goesL_ (some 43) rfl rfl Try.func17 (by kernel_rfl) rfl #[.slice A0 l0.length c0] rfl (by (try simp only [List.map_toArray, List.map_cons, List.map_nil]); first | done | rfl | (simp only [List.length_drop, List.length_take]; rfl)) ?_; (with_reducible refine (whetstoneref01_From.calls kj9 _ _ l0 t458 _ ?side1 ?side2 A21.out).mono ?_); (case side1 => repeat (first | exact (Kd.C_below HR0.out HB.out) | (with_reducible refine Kd.C_alloc ?_ _) | (with_reducible refine Kd.C_drewN ?_ _) | (with_reducible refine Kd.C_drew ?_))); (case side2 => exact HC0.out); rintro e w51 ⟨v459, rfl, ho0, hb⟩; refine ⟨_, rfl, ?_⟩; have HO460 := Aside0.mk (Kd.R_lower ho0 (below_size (by repeat (first | (with_reducible first | exact HB.out | apply ba | apply bn | apply bd) | exact HB.out)))); replace HO_5 := Aside0.mk (Kd.V_elder' (by (with_reducible repeat first | apply va | apply vn | apply vd); exact HO_5.out) (Kd.R_base ho0) hb); replace HB := Aside0.mk (below_step (by repeat (first | (with_reducible first | exact HB.out | apply ba | apply bn | apply bd) | exact HB.out)) hb); (try clear hb); (try clear hb2); (try clear hk); (try clear hi); (try clear ho0)) | ((with_reducible refine gate_callee (f := 12) rfl ?_); refine goesL_ (some 44) rfl rfl Try.func12 (by kernel_rfl) rfl #[] rfl (by (try simp only [List.map_toArray, List.map_cons, List.map_nil]); first | done | rfl | (simp only [List.length_drop, List.length_take]; rfl)) ?_; (with_reducible refine (whetstonelaw01_counted.calls kj9  false _ A22.out).mono ?_); rintro e w52 ⟨rfl, hb⟩; refine ⟨_, rfl, ?_⟩; replace HO_5 := Aside0.mk (Kd.V_below (by (with_reducible repeat first | apply va | apply vn | apply vd); exact HO_5.out) hb); replace HO460 := Aside0.mk (Kd.R_below (by (with_reducible repeat first | apply qa | apply qn | apply qd); exact HO460.out) hb); replace HB := Aside0.mk (below_step (by repeat (first | (with_reducible first | exact HB.out | apply ba | apply bn | apply bd) | exact HB.out)) hb); (try clear hb); (try clear hb2); (try clear hk); (try clear hi)))
        go_ret
        exact ⟨by first | rfl | (simp [errW_none, errW_some] <;> rfl) | (simp [*, errW_none, errW_some] <;> rfl), by repeat (first | (with_reducible first | exact HB.out | apply ba | apply bn | apply bd) | exact HB.out)⟩

/-- THE ONE PURE STATEMENT of whetstonelaw01_NatShifts: yours. -/
def whetstonelaw01_NatShifts.Pure : Prop := ∀ (l0 : List Int) (a1 : Int), l0.length ≤ maxLen → l0.length * 4 ≤ 140737488351232 → (∀ x ∈ l0, (Lit.int .u32 x).wf = true) → (Lit.int .i64 a1).wf = true → ∃ k, whetstonelaw01_NatShifts.f k l0 a1 = some true
theorem whetstonelaw01_NatShifts.walk (P : whetstonelaw01_NatShifts.Pure) (a0 : Option Addr) (len0 cap0 : Nat) (z0 : List Int) (a1 : Int) (w : World) (w0 : (a0 = none ∧ len0 = 0 ∧ cap0 = 0 ∧ z0 = []) ∨ ∃ x, a0 = some x ∧ len0 ≤ cap0 ∧ cap0 ≤ maxLen ∧ z0.length = cap0 ∧ (∀ i, i < z0.length → w.cell? (x.add i) = some (.int .u32 (z0.getD i 0))) ∧ ∀ n ∈ z0, (Lit.int .u32 n).wf = true) (y0 : len0 * 4 ≤ 140737488351232) (w1 : (Lit.int .i64 a1).wf = true) :
  Calls Try.prog 7 #[.slice a0 len0 cap0, .int .i64 a1] w fun e w' => e = .returned (.bool true) ∧ Below w.heap.size w w' := by
 obtain ⟨l0, rfl, hr0, hm0, hw0, hc0⟩ := ReadsInt.ofRowC w0
 obtain ⟨k, h⟩ := P l0 a1 hm0 y0 hw0 w1
 refine (whetstonelaw01_NatShifts.calls k _ _ l0 a1 true w (Kd.C_of_reads (d := (0 : Int)) (h1 := fun _ => rfl) hr0) hc0 h).mono ?_
 rintro e w' ⟨rfl, hd⟩
 exact ⟨rfl, hd⟩

end Go.Proofs.Ythodpjgmecnalaa.QNatShifts
