-- written by wip/wprint, a program of this session
import Derived.Test.YtkngkfjjgkfcnaaQLexBlanksx0
namespace Go.Proofs.Ytkngkfjjgkfcnaa.QLexBlanks
open Go.RowKit Go.Proofs.YtkngkfjjgkfcnaaW.PrintWords Go.Proofs.YtkngkfjjgkfcnaaW.PrintLast Go.Proofs.YtkngkfjjgkfcnaaW.PrintMore
attribute [local go_sem] max2_int min2_int max_two min_two max_three min_three max_four min_four   -- for this text's walks alone
set_option linter.unusedVariables false
set_option linter.unusedSimpArgs false

/-! ### lex_sign: function 31 -/
def lex_sign.j0 : Nat → List Int → Int → Option (Int)
  | 0, _, _ => none
  | k + 1, x0, x1 => if 0 ≤ x1 then (if x1 < (x0.length : Int) then (if (rd x0 x1) = 40 then (some 1) else (if (rd x0 x1) = 41 then (some 1) else (if (rd x0 x1) = 123 then (some 1) else (if (rd x0 x1) = 125 then (some 1) else (if (rd x0 x1) = 44 then (some 1) else (if (rd x0 x1) = 58 then (some 1) else (if (rd x0 x1) = 61 then (some 1) else (if (rd x0 x1) = 59 then (some 1) else (if (rd x0 x1) = 43 then (some 1) else (if (rd x0 x1) = 45 then (some 1) else (if (rd x0 x1) = 42 then (some 1) else (if (rd x0 x1) = 47 then (some 1) else (if (rd x0 x1) = 37 then (some 1) else (if (rd x0 x1) = 60 then (some 1) else (if (rd x0 x1) = 62 then (some 1) else (some 0)))))))))))))))) else (none)) else (none)
def lex_sign.f (k : Nat) (l0 : List Int) (a1 : Int) : Option (Int) := if (wrap64 (a1 + 1)) < (l0.length : Int) then (if 0 ≤ a1 then (if a1 ≤ (wrap64 (a1 + 2)) then (if (wrap64 (a1 + 2)) ≤ (l0.length : Int) then (if (strOfNums ((l0.take ((wrap64 (a1 + 2)) : Int).toNat).drop (a1 : Int).toNat)).toList = ([45, 62] : List UInt8) then (some 2) else (if (strOfNums ((l0.take ((wrap64 (a1 + 2)) : Int).toNat).drop (a1 : Int).toNat)).toList = ([60, 61] : List UInt8) then (some 2) else (if (strOfNums ((l0.take ((wrap64 (a1 + 2)) : Int).toNat).drop (a1 : Int).toNat)).toList = ([62, 61] : List UInt8) then (some 2) else (if (strOfNums ((l0.take ((wrap64 (a1 + 2)) : Int).toNat).drop (a1 : Int).toNat)).toList = ([33, 61] : List UInt8) then (some 2) else (lex_sign.j0 k l0 a1))))) else (none)) else (none)) else (none)) else (lex_sign.j0 k l0 a1)
theorem lex_sign.mono_l : ∀ k, (∀ y0 y1, LeO (lex_sign.j0 k y0 y1) (lex_sign.j0 (k + 1) y0 y1))
  | 0 => fun _ _ r h => by simp [lex_sign.j0] at h
  | k + 1 => by
    have ih0 := lex_sign.mono_l k
    · intro y0 y1
      unfold lex_sign.j0
      repeat' first
      | (with_reducible exact ih0 _ _)
      | (with_reducible exact LeO.refl _)
      | (with_reducible exact LeO.none _)
      | (with_reducible refine LeO.ite ?_ ?_)
      | (with_reducible refine LeO.bind ?_ (fun _ => ?_))
      | exact ih0 _ _
      | exact LeO.none _
      | refine LeO.ite ?_ ?_
      | refine LeO.bind ?_ (fun _ => ?_)
theorem lex_sign.mono : ∀ a0 a1 k, LeO (lex_sign.f k a0 a1) (lex_sign.f (k + 1) a0 a1) := by
  intro a0 a1 k
  have ih0 := lex_sign.mono_l k
  unfold lex_sign.f
  repeat' first
      | (with_reducible exact ih0 _ _)
      | (with_reducible exact LeO.refl _)
      | (with_reducible exact LeO.none _)
      | (with_reducible refine LeO.ite ?_ ?_)
      | (with_reducible refine LeO.bind ?_ (fun _ => ?_))
      | exact ih0 _ _
      | exact LeO.none _
      | refine LeO.ite ?_ ?_
      | refine LeO.bind ?_ (fun _ => ?_)
set_option maxHeartbeats 8000000 in
set_option maxRecDepth 100000 in
theorem lex_sign.calls (k : Nat) (A0 : Option Addr) (c0 : Nat) (l0 : List Int) (a1 : Int) (r : Int) (w : World) (hr0 : Kd.C (Kd.int .u8) w A0 l0.length l0) (hc0 : l0.length ≤ c0) (h : lex_sign.f k l0 a1 = some r) :
    Calls Try.prog 31 #[.slice A0 l0.length c0, .int .i64 a1] w fun e w' => e = .returned (.int .i64 r) ∧ Drawn0 w w' := by
  have HR0 := Aside0.mk hr0
  have HC0 := Aside0.mk hc0
  clear hr0 hc0
  have H : (if (wrap64 (a1 + 1)) < (l0.length : Int) then (if 0 ≤ a1 then (if a1 ≤ (wrap64 (a1 + 2)) then (if (wrap64 (a1 + 2)) ≤ (l0.length : Int) then (if (strOfNums ((l0.take ((wrap64 (a1 + 2)) : Int).toNat).drop (a1 : Int).toNat)).toList = ([45, 62] : List UInt8) then (some 2) else (if (strOfNums ((l0.take ((wrap64 (a1 + 2)) : Int).toNat).drop (a1 : Int).toNat)).toList = ([60, 61] : List UInt8) then (some 2) else (if (strOfNums ((l0.take ((wrap64 (a1 + 2)) : Int).toNat).drop (a1 : Int).toNat)).toList = ([62, 61] : List UInt8) then (some 2) else (if (strOfNums ((l0.take ((wrap64 (a1 + 2)) : Int).toNat).drop (a1 : Int).toNat)).toList = ([33, 61] : List UInt8) then (some 2) else (lex_sign.j0 k l0 a1))))) else (none)) else (none)) else (none)) else (lex_sign.j0 k l0 a1)) = some r := h
  clear h
  have HC3 := Aside0.mk H
  clear H
  go_enter Try.func31, Try.ntmps31
  go_upto_if 9 with (fail)
  go_cut [] from 9 to 9 (fun wc => ∃ (kq : Nat), Aside0 (lex_sign.j0 kq l0 a1 = some r) ∧ Aside0 (kq ≤ k) ∧ Drawn0 w wc)
  case first =>
    have H := HC3.out
    clear HC3
    by_cases c4 : (wrap64 (a1 + 1)) < (l0.length : Int)
    · rw [if_pos c4] at H
      have c4b0 : decide ((wrap64 (a1 + 1)) < (l0.length : Int)) = true := decide_eq_true c4
      clear c4
      (first | rw [c4b0] | (simp only [i64_w, i32_w]; rw [c4b0]) | skip)
      by_cases c5 : 0 ≤ a1
      · rw [if_pos c5] at H
        have c5b0 := eq_true c5
        have c5b1 : decide (0 ≤ a1) = true := decide_eq_true c5
        clear c5
        by_cases c6 : a1 ≤ (wrap64 (a1 + 2))
        · rw [if_pos c6] at H
          have c6b0 := eq_true c6
          have c6b1 : decide (a1 ≤ (wrap64 (a1 + 2))) = true := decide_eq_true c6
          by_cases c7 : (wrap64 (a1 + 2)) ≤ (l0.length : Int)
          · rw [if_pos c7] at H
            have c7b0 := eq_true c7
            have c7b1 : decide ((wrap64 (a1 + 2)) ≤ (l0.length : Int)) = true := decide_eq_true c7
            by_cases c8 : (strOfNums ((l0.take ((wrap64 (a1 + 2)) : Int).toNat).drop (a1 : Int).toNat)).toList = ([45, 62] : List UInt8)
            · rw [if_pos c8] at H
              have c8b0 : ((strOfNums ((l0.take ((wrap64 (a1 + 2)) : Int).toNat).drop (a1 : Int).toNat)).toList == ([45, 62] : List UInt8)) = true := beq_iff_eq.mpr c8
              have c8b1 : ((strOfNums ((l0.take ((wrap64 (a1 + 2)) : Int).toNat).drop (a1 : Int).toNat)).toList != ([45, 62] : List UInt8)) = false := bne_eq_false_iff_eq.mpr c8
              clear c8
              obtain rfl := Option.some.inj H
              obtain ⟨i09, hi09, _, hsz9, _⟩ := info_parts info5
              obtain ⟨A9, hcut9, hA9, hC9⟩ := print_mid_of (P := Try.prog) (Value.int .u8) 0 22 5 .i64 .i64 Try.underlying22 hi09 hsz9 A0 c0 l0 a1 (wrap64 (a1 + 2)) (of_decide_eq_true (by first | (with_reducible assumption) | assumption)) (by first | omega | exact of_decide_eq_true (by first | (with_reducible assumption) | assumption)) (of_decide_eq_true (by first | (with_reducible assumption) | assumption)) HC0.out
              have HR109 := Aside0.mk (Kd.C_of_reads (h1 := fun _ => rfl) (hA9 _ (Kd.reads_of_C HR0.out)))
              have HC109 := Aside0.mk hC9
              clear hA9 hC9 hi09 hsz9
              have hcv10 := Kd.C_string (P := Try.prog) (A := A9) (c := (c0 - a1.toNat)) Try.underlying22 Try.underlying5 Try.underlying9 HR109.out
              (try (have hcvs10_ := hcv10; rw [(show ((l0.take ((wrap64 (a1 + 2)) : Int).toNat).drop (a1 : Int).toNat).length = ((wrap64 (a1 + 2)) : Int).toNat - (a1 : Int).toNat from by rw [List.length_drop, List.length_take, Nat.min_eq_left (by have h_ : (wrap64 (a1 + 2)) ≤ (l0.length : Int) := (by first | (with_reducible assumption) | assumption | omega | exact of_decide_eq_true (by first | (with_reducible assumption) | assumption)); omega)])] at hcvs10_))
              (try (have hcvd10_ := fun m_ : Nat => Kd.C_string (P := Try.prog) (A := A9) (c := (c0 - a1.toNat)) Try.underlying22 Try.underlying5 Try.underlying9 (Kd.C_below HR109.out (pw_below_drewN (Below.refl _ _) m_)); rw [(show ((l0.take ((wrap64 (a1 + 2)) : Int).toNat).drop (a1 : Int).toNat).length = ((wrap64 (a1 + 2)) : Int).toNat - (a1 : Int).toNat from by rw [List.length_drop, List.length_take, Nat.min_eq_left (by have h_ : (wrap64 (a1 + 2)) ≤ (l0.length : Int) := (by first | (with_reducible assumption) | assumption | omega | exact of_decide_eq_true (by first | (with_reducible assumption) | assumption)); omega)])] at hcvd10_))
              go_wp2
              go_ret
              exact ⟨by first | rfl | (simp; done) | (simp [*]; done), by repeat (first | exact Drawn0.refl _ | apply Drawn0.step)⟩
            · rw [if_neg c8] at H
              have c8b0 : ((strOfNums ((l0.take ((wrap64 (a1 + 2)) : Int).toNat).drop (a1 : Int).toNat)).toList == ([45, 62] : List UInt8)) = false := beq_eq_false_iff_ne.mpr c8
              have c8b1 : ((strOfNums ((l0.take ((wrap64 (a1 + 2)) : Int).toNat).drop (a1 : Int).toNat)).toList != ([45, 62] : List UInt8)) = true := bne_iff_ne.mpr c8
              by_cases c11 : (strOfNums ((l0.take ((wrap64 (a1 + 2)) : Int).toNat).drop (a1 : Int).toNat)).toList = ([60, 61] : List UInt8)
              · rw [if_pos c11] at H
                have c11b0 : ((strOfNums ((l0.take ((wrap64 (a1 + 2)) : Int).toNat).drop (a1 : Int).toNat)).toList == ([60, 61] : List UInt8)) = true := beq_iff_eq.mpr c11
                have c11b1 : ((strOfNums ((l0.take ((wrap64 (a1 + 2)) : Int).toNat).drop (a1 : Int).toNat)).toList != ([60, 61] : List UInt8)) = false := bne_eq_false_iff_eq.mpr c11
                clear c11
                obtain rfl := Option.some.inj H
                obtain ⟨i012, hi012, _, hsz12, _⟩ := info_parts info5
                obtain ⟨A12, hcut12, hA12, hC12⟩ := print_mid_of (P := Try.prog) (Value.int .u8) 0 22 5 .i64 .i64 Try.underlying22 hi012 hsz12 A0 c0 l0 a1 (wrap64 (a1 + 2)) (of_decide_eq_true (by first | (with_reducible assumption) | assumption)) (by first | omega | exact of_decide_eq_true (by first | (with_reducible assumption) | assumption)) (of_decide_eq_true (by first | (with_reducible assumption) | assumption)) HC0.out
                have HR109 := Aside0.mk (Kd.C_of_reads (h1 := fun _ => rfl) (hA12 _ (Kd.reads_of_C HR0.out)))
                have HC109 := Aside0.mk hC12
                clear hA12 hC12 hi012 hsz12
                have hcv13 := Kd.C_string (P := Try.prog) (A := A12) (c := (c0 - a1.toNat)) Try.underlying22 Try.underlying5 Try.underlying9 HR109.out
                (try (have hcvs13_ := hcv13; rw [(show ((l0.take ((wrap64 (a1 + 2)) : Int).toNat).drop (a1 : Int).toNat).length = ((wrap64 (a1 + 2)) : Int).toNat - (a1 : Int).toNat from by rw [List.length_drop, List.length_take, Nat.min_eq_left (by have h_ : (wrap64 (a1 + 2)) ≤ (l0.length : Int) := (by first | (with_reducible assumption) | assumption | omega | exact of_decide_eq_true (by first | (with_reducible assumption) | assumption)); omega)])] at hcvs13_))
                (try (have hcvd13_ := fun m_ : Nat => Kd.C_string (P := Try.prog) (A := A12) (c := (c0 - a1.toNat)) Try.underlying22 Try.underlying5 Try.underlying9 (Kd.C_below HR109.out (pw_below_drewN (Below.refl _ _) m_)); rw [(show ((l0.take ((wrap64 (a1 + 2)) : Int).toNat).drop (a1 : Int).toNat).length = ((wrap64 (a1 + 2)) : Int).toNat - (a1 : Int).toNat from by rw [List.length_drop, List.length_take, Nat.min_eq_left (by have h_ : (wrap64 (a1 + 2)) ≤ (l0.length : Int) := (by first | (with_reducible assumption) | assumption | omega | exact of_decide_eq_true (by first | (with_reducible assumption) | assumption)); omega)])] at hcvd13_))
                go_wp2
                go_ret
                exact ⟨by first | rfl | (simp; done) | (simp [*]; done), by repeat (first | exact Drawn0.refl _ | apply Drawn0.step)⟩
              · rw [if_neg c11] at H
                have c11b0 : ((strOfNums ((l0.take ((wrap64 (a1 + 2)) : Int).toNat).drop (a1 : Int).toNat)).toList == ([60, 61] : List UInt8)) = false := beq_eq_false_iff_ne.mpr c11
                have c11b1 : ((strOfNums ((l0.take ((wrap64 (a1 + 2)) : Int).toNat).drop (a1 : Int).toNat)).toList != ([60, 61] : List UInt8)) = true := bne_iff_ne.mpr c11
                by_cases c14 : (strOfNums ((l0.take ((wrap64 (a1 + 2)) : Int).toNat).drop (a1 : Int).toNat)).toList = ([62, 61] : List UInt8)
                · rw [if_pos c14] at H
                  have c14b0 : ((strOfNums ((l0.take ((wrap64 (a1 + 2)) : Int).toNat).drop (a1 : Int).toNat)).toList == ([62, 61] : List UInt8)) = true := beq_iff_eq.mpr c14
                  have c14b1 : ((strOfNums ((l0.take ((wrap64 (a1 + 2)) : Int).toNat).drop (a1 : Int).toNat)).toList != ([62, 61] : List UInt8)) = false := bne_eq_false_iff_eq.mpr c14
                  clear c14
                  obtain rfl := Option.some.inj H
                  obtain ⟨i015, hi015, _, hsz15, _⟩ := info_parts info5
                  obtain ⟨A15, hcut15, hA15, hC15⟩ := print_mid_of (P := Try.prog) (Value.int .u8) 0 22 5 .i64 .i64 Try.underlying22 hi015 hsz15 A0 c0 l0 a1 (wrap64 (a1 + 2)) (of_decide_eq_true (by first | (with_reducible assumption) | assumption)) (by first | omega | exact of_decide_eq_true (by first | (with_reducible assumption) | assumption)) (of_decide_eq_true (by first | (with_reducible assumption) | assumption)) HC0.out
                  have HR109 := Aside0.mk (Kd.C_of_reads (h1 := fun _ => rfl) (hA15 _ (Kd.reads_of_C HR0.out)))
                  have HC109 := Aside0.mk hC15
                  clear hA15 hC15 hi015 hsz15
                  have hcv16 := Kd.C_string (P := Try.prog) (A := A15) (c := (c0 - a1.toNat)) Try.underlying22 Try.underlying5 Try.underlying9 HR109.out
                  (try (have hcvs16_ := hcv16; rw [(show ((l0.take ((wrap64 (a1 + 2)) : Int).toNat).drop (a1 : Int).toNat).length = ((wrap64 (a1 + 2)) : Int).toNat - (a1 : Int).toNat from by rw [List.length_drop, List.length_take, Nat.min_eq_left (by have h_ : (wrap64 (a1 + 2)) ≤ (l0.length : Int) := (by first | (with_reducible assumption) | assumption | omega | exact of_decide_eq_true (by first | (with_reducible assumption) | assumption)); omega)])] at hcvs16_))
                  (try (have hcvd16_ := fun m_ : Nat => Kd.C_string (P := Try.prog) (A := A15) (c := (c0 - a1.toNat)) Try.underlying22 Try.underlying5 Try.underlying9 (Kd.C_below HR109.out (pw_below_drewN (Below.refl _ _) m_)); rw [(show ((l0.take ((wrap64 (a1 + 2)) : Int).toNat).drop (a1 : Int).toNat).length = ((wrap64 (a1 + 2)) : Int).toNat - (a1 : Int).toNat from by rw [List.length_drop, List.length_take, Nat.min_eq_left (by have h_ : (wrap64 (a1 + 2)) ≤ (l0.length : Int) := (by first | (with_reducible assumption) | assumption | omega | exact of_decide_eq_true (by first | (with_reducible assumption) | assumption)); omega)])] at hcvd16_))
                  go_wp2
                  go_ret
                  exact ⟨by first | rfl | (simp; done) | (simp [*]; done), by repeat (first | exact Drawn0.refl _ | apply Drawn0.step)⟩
                · rw [if_neg c14] at H
                  have c14b0 : ((strOfNums ((l0.take ((wrap64 (a1 + 2)) : Int).toNat).drop (a1 : Int).toNat)).toList == ([62, 61] : List UInt8)) = false := beq_eq_false_iff_ne.mpr c14
                  have c14b1 : ((strOfNums ((l0.take ((wrap64 (a1 + 2)) : Int).toNat).drop (a1 : Int).toNat)).toList != ([62, 61] : List UInt8)) = true := bne_iff_ne.mpr c14
                  by_cases c17 : (strOfNums ((l0.take ((wrap64 (a1 + 2)) : Int).toNat).drop (a1 : Int).toNat)).toList = ([33, 61] : List UInt8)
                  · rw [if_pos c17] at H
                    have c17b0 : ((strOfNums ((l0.take ((wrap64 (a1 + 2)) : Int).toNat).drop (a1 : Int).toNat)).toList == ([33, 61] : List UInt8)) = true := beq_iff_eq.mpr c17
                    have c17b1 : ((strOfNums ((l0.take ((wrap64 (a1 + 2)) : Int).toNat).drop (a1 : Int).toNat)).toList != ([33, 61] : List UInt8)) = false := bne_eq_false_iff_eq.mpr c17
                    clear c17
                    obtain rfl := Option.some.inj H
                    obtain ⟨i018, hi018, _, hsz18, _⟩ := info_parts info5
                    obtain ⟨A18, hcut18, hA18, hC18⟩ := print_mid_of (P := Try.prog) (Value.int .u8) 0 22 5 .i64 .i64 Try.underlying22 hi018 hsz18 A0 c0 l0 a1 (wrap64 (a1 + 2)) (of_decide_eq_true (by first | (with_reducible assumption) | assumption)) (by first | omega | exact of_decide_eq_true (by first | (with_reducible assumption) | assumption)) (of_decide_eq_true (by first | (with_reducible assumption) | assumption)) HC0.out
                    have HR109 := Aside0.mk (Kd.C_of_reads (h1 := fun _ => rfl) (hA18 _ (Kd.reads_of_C HR0.out)))
                    have HC109 := Aside0.mk hC18
                    clear hA18 hC18 hi018 hsz18
                    have hcv19 := Kd.C_string (P := Try.prog) (A := A18) (c := (c0 - a1.toNat)) Try.underlying22 Try.underlying5 Try.underlying9 HR109.out
                    (try (have hcvs19_ := hcv19; rw [(show ((l0.take ((wrap64 (a1 + 2)) : Int).toNat).drop (a1 : Int).toNat).length = ((wrap64 (a1 + 2)) : Int).toNat - (a1 : Int).toNat from by rw [List.length_drop, List.length_take, Nat.min_eq_left (by have h_ : (wrap64 (a1 + 2)) ≤ (l0.length : Int) := (by first | (with_reducible assumption) | assumption | omega | exact of_decide_eq_true (by first | (with_reducible assumption) | assumption)); omega)])] at hcvs19_))
                    (try (have hcvd19_ := fun m_ : Nat => Kd.C_string (P := Try.prog) (A := A18) (c := (c0 - a1.toNat)) Try.underlying22 Try.underlying5 Try.underlying9 (Kd.C_below HR109.out (pw_below_drewN (Below.refl _ _) m_)); rw [(show ((l0.take ((wrap64 (a1 + 2)) : Int).toNat).drop (a1 : Int).toNat).length = ((wrap64 (a1 + 2)) : Int).toNat - (a1 : Int).toNat from by rw [List.length_drop, List.length_take, Nat.min_eq_left (by have h_ : (wrap64 (a1 + 2)) ≤ (l0.length : Int) := (by first | (with_reducible assumption) | assumption | omega | exact of_decide_eq_true (by first | (with_reducible assumption) | assumption)); omega)])] at hcvd19_))
                    go_wp2
                    go_ret
                    exact ⟨by first | rfl | (simp; done) | (simp [*]; done), by repeat (first | exact Drawn0.refl _ | apply Drawn0.step)⟩
                  · rw [if_neg c17] at H
                    have c17b0 : ((strOfNums ((l0.take ((wrap64 (a1 + 2)) : Int).toNat).drop (a1 : Int).toNat)).toList == ([33, 61] : List UInt8)) = false := beq_eq_false_iff_ne.mpr c17
                    have c17b1 : ((strOfNums ((l0.take ((wrap64 (a1 + 2)) : Int).toNat).drop (a1 : Int).toNat)).toList != ([33, 61] : List UInt8)) = true := bne_iff_ne.mpr c17
                    have H' := Aside0.mk H
                    clear H
                    obtain ⟨i020, hi020, _, hsz20, _⟩ := info_parts info5
                    obtain ⟨A20, hcut20, hA20, hC20⟩ := print_mid_of (P := Try.prog) (Value.int .u8) 0 22 5 .i64 .i64 Try.underlying22 hi020 hsz20 A0 c0 l0 a1 (wrap64 (a1 + 2)) (of_decide_eq_true (by first | (with_reducible assumption) | assumption)) (by first | omega | exact of_decide_eq_true (by first | (with_reducible assumption) | assumption)) (of_decide_eq_true (by first | (with_reducible assumption) | assumption)) HC0.out
                    have HR109 := Aside0.mk (Kd.C_of_reads (h1 := fun _ => rfl) (hA20 _ (Kd.reads_of_C HR0.out)))
                    have HC109 := Aside0.mk hC20
                    clear hA20 hC20 hi020 hsz20
                    have hcv21 := Kd.C_string (P := Try.prog) (A := A20) (c := (c0 - a1.toNat)) Try.underlying22 Try.underlying5 Try.underlying9 HR109.out
                    (try (have hcvs21_ := hcv21; rw [(show ((l0.take ((wrap64 (a1 + 2)) : Int).toNat).drop (a1 : Int).toNat).length = ((wrap64 (a1 + 2)) : Int).toNat - (a1 : Int).toNat from by rw [List.length_drop, List.length_take, Nat.min_eq_left (by have h_ : (wrap64 (a1 + 2)) ≤ (l0.length : Int) := (by first | (with_reducible assumption) | assumption | omega | exact of_decide_eq_true (by first | (with_reducible assumption) | assumption)); omega)])] at hcvs21_))
                    (try (have hcvd21_ := fun m_ : Nat => Kd.C_string (P := Try.prog) (A := A20) (c := (c0 - a1.toNat)) Try.underlying22 Try.underlying5 Try.underlying9 (Kd.C_below HR109.out (pw_below_drewN (Below.refl _ _) m_)); rw [(show ((l0.take ((wrap64 (a1 + 2)) : Int).toNat).drop (a1 : Int).toNat).length = ((wrap64 (a1 + 2)) : Int).toNat - (a1 : Int).toNat from by rw [List.length_drop, List.length_take, Nat.min_eq_left (by have h_ : (wrap64 (a1 + 2)) ≤ (l0.length : Int) := (by first | (with_reducible assumption) | assumption | omega | exact of_decide_eq_true (by first | (with_reducible assumption) | assumption)); omega)])] at hcvd21_))
                    go_wp2
                    go_meet
                    case rel => exact ⟨_, H', ⟨by first | omega | exact Nat.le_refl _⟩, by repeat (first | exact Drawn0.refl _ | apply Drawn0.step)⟩
          · rw [if_neg c7] at H
            exact absurd H (by simp)
        · rw [if_neg c6] at H
          exact absurd H (by simp)
      · rw [if_neg c5] at H
        exact absurd H (by simp)
    · rw [if_neg c4] at H
      have c4b0 : decide ((wrap64 (a1 + 1)) < (l0.length : Int)) = false := decide_eq_false c4
      clear c4
      (first | rw [c4b0] | (simp only [i64_w, i32_w]; rw [c4b0]) | skip)
      have H' := Aside0.mk H
      clear H
      go_wp2
      go_meet
      case rel => exact ⟨_, H', ⟨by first | omega | exact Nat.le_refl _⟩, by repeat (first | exact Drawn0.refl _ | apply Drawn0.step)⟩
  case rest =>
    clear HC3
    try clear c1
    try clear hcv1
    try clear p2
    try clear hcv2
    try clear c3
    try clear c4
    try clear c4b0
    try clear c5
    try clear c5b0
    try clear c5b1
    try clear c6
    try clear c6b0
    try clear c6b1
    try clear p6
    try clear c7
    try clear c7b0
    try clear c7b1
    try clear c8
    try clear c8b0
    try clear c8b1
    try clear hcv10
    try clear c11
    try clear c11b0
    try clear c11b1
    try clear hcv13
    try clear c14
    try clear c14b0
    try clear c14b1
    try clear hcv16
    try clear c17
    try clear c17b0
    try clear c17b1
    try clear hcv19
    try clear hcv21
    obtain ⟨kq, HA, HJ2, ⟨mc2, rfl⟩⟩ := hcut
    cases kq with
    | zero => exact absurd HA.out (by simp [lex_sign.j0])
    | succ kj2 =>
      have H := HA.out
      clear HA
      simp only [lex_sign.j0] at H
      by_cases c22 : 0 ≤ a1
      · rw [if_pos c22] at H
        have c22b0 : decide (0 ≤ a1) = true := decide_eq_true c22
        clear c22
        by_cases c23 : a1 < (l0.length : Int)
        · rw [if_pos c23] at H
          have c23b0 : decide (a1 < (l0.length : Int)) = true := decide_eq_true c23
          clear c23
          by_cases c24 : (rd l0 a1) = 40
          · rw [if_pos c24] at H
            have c24b0 : ((rd l0 a1) == 40) = true := beq_iff_eq.mpr c24
            have c24b1 : ((rd l0 a1) != 40) = false := bne_eq_false_iff_eq.mpr c24
            clear c24
            obtain rfl := Option.some.inj H
            have p110 : 0 ≤ (a1 : Int) := of_decide_eq_true (by first | (with_reducible assumption) | assumption)
            have q110 : a1 < (l0.length : Int) := of_decide_eq_true (by first | (with_reducible assumption) | assumption)
            obtain ⟨ad110, e110, hx110_0⟩ := Kd.at_int HR0.out a1 p110 q110
            cases e110
            replace p110 := eq_true p110
            replace q110 := eq_true q110
            go_wp2
            go_ret
            exact ⟨by first | rfl | (simp; done) | (simp [*]; done), by repeat (first | exact Drawn0.refl _ | apply Drawn0.step)⟩
          · rw [if_neg c24] at H
            have c24b0 : ((rd l0 a1) == 40) = false := beq_eq_false_iff_ne.mpr c24
            have c24b1 : ((rd l0 a1) != 40) = true := bne_iff_ne.mpr c24
            by_cases c25 : (rd l0 a1) = 41
            · rw [if_pos c25] at H
              have c25b0 : ((rd l0 a1) == 41) = true := beq_iff_eq.mpr c25
              have c25b1 : ((rd l0 a1) != 41) = false := bne_eq_false_iff_eq.mpr c25
              clear c25
              obtain rfl := Option.some.inj H
              have p110 : 0 ≤ (a1 : Int) := of_decide_eq_true (by first | (with_reducible assumption) | assumption)
              have q110 : a1 < (l0.length : Int) := of_decide_eq_true (by first | (with_reducible assumption) | assumption)
              obtain ⟨ad110, e110, hx110_0⟩ := Kd.at_int HR0.out a1 p110 q110
              cases e110
              replace p110 := eq_true p110
              replace q110 := eq_true q110
              go_wp2
              go_ret
              exact ⟨by first | rfl | (simp; done) | (simp [*]; done), by repeat (first | exact Drawn0.refl _ | apply Drawn0.step)⟩
            · rw [if_neg c25] at H
              have c25b0 : ((rd l0 a1) == 41) = false := beq_eq_false_iff_ne.mpr c25
              have c25b1 : ((rd l0 a1) != 41) = true := bne_iff_ne.mpr c25
              by_cases c26 : (rd l0 a1) = 123
              · rw [if_pos c26] at H
                have c26b0 : ((rd l0 a1) == 123) = true := beq_iff_eq.mpr c26
                have c26b1 : ((rd l0 a1) != 123) = false := bne_eq_false_iff_eq.mpr c26
                clear c26
                obtain rfl := Option.some.inj H
                have p110 : 0 ≤ (a1 : Int) := of_decide_eq_true (by first | (with_reducible assumption) | assumption)
                have q110 : a1 < (l0.length : Int) := of_decide_eq_true (by first | (with_reducible assumption) | assumption)
                obtain ⟨ad110, e110, hx110_0⟩ := Kd.at_int HR0.out a1 p110 q110
                cases e110
                replace p110 := eq_true p110
                replace q110 := eq_true q110
                go_wp2
                go_ret
                exact ⟨by first | rfl | (simp; done) | (simp [*]; done), by repeat (first | exact Drawn0.refl _ | apply Drawn0.step)⟩
              · rw [if_neg c26] at H
                have c26b0 : ((rd l0 a1) == 123) = false := beq_eq_false_iff_ne.mpr c26
                have c26b1 : ((rd l0 a1) != 123) = true := bne_iff_ne.mpr c26
                by_cases c27 : (rd l0 a1) = 125
                · rw [if_pos c27] at H
                  have c27b0 : ((rd l0 a1) == 125) = true := beq_iff_eq.mpr c27
                  have c27b1 : ((rd l0 a1) != 125) = false := bne_eq_false_iff_eq.mpr c27
                  clear c27
                  obtain rfl := Option.some.inj H
                  have p110 : 0 ≤ (a1 : Int) := of_decide_eq_true (by first | (with_reducible assumption) | assumption)
                  have q110 : a1 < (l0.length : Int) := of_decide_eq_true (by first | (with_reducible assumption) | assumption)
                  obtain ⟨ad110, e110, hx110_0⟩ := Kd.at_int HR0.out a1 p110 q110
                  cases e110
                  replace p110 := eq_true p110
                  replace q110 := eq_true q110
                  go_wp2
                  go_ret
                  exact ⟨by first | rfl | (simp; done) | (simp [*]; done), by repeat (first | exact Drawn0.refl _ | apply Drawn0.step)⟩
                · rw [if_neg c27] at H
                  have c27b0 : ((rd l0 a1) == 125) = false := beq_eq_false_iff_ne.mpr c27
                  have c27b1 : ((rd l0 a1) != 125) = true := bne_iff_ne.mpr c27
                  by_cases c28 : (rd l0 a1) = 44
                  · rw [if_pos c28] at H
                    have c28b0 : ((rd l0 a1) == 44) = true := beq_iff_eq.mpr c28
                    have c28b1 : ((rd l0 a1) != 44) = false := bne_eq_false_iff_eq.mpr c28
                    clear c28
                    obtain rfl := Option.some.inj H
                    have p110 : 0 ≤ (a1 : Int) := of_decide_eq_true (by first | (with_reducible assumption) | assumption)
                    have q110 : a1 < (l0.length : Int) := of_decide_eq_true (by first | (with_reducible assumption) | assumption)
                    obtain ⟨ad110, e110, hx110_0⟩ := Kd.at_int HR0.out a1 p110 q110
                    cases e110
                    replace p110 := eq_true p110
                    replace q110 := eq_true q110
                    go_wp2
                    go_ret
                    exact ⟨by first | rfl | (simp; done) | (simp [*]; done), by repeat (first | exact Drawn0.refl _ | apply Drawn0.step)⟩
                  · rw [if_neg c28] at H
                    have c28b0 : ((rd l0 a1) == 44) = false := beq_eq_false_iff_ne.mpr c28
                    have c28b1 : ((rd l0 a1) != 44) = true := bne_iff_ne.mpr c28
                    by_cases c29 : (rd l0 a1) = 58
                    · rw [if_pos c29] at H
                      have c29b0 : ((rd l0 a1) == 58) = true := beq_iff_eq.mpr c29
                      have c29b1 : ((rd l0 a1) != 58) = false := bne_eq_false_iff_eq.mpr c29
                      clear c29
                      obtain rfl := Option.some.inj H
                      have p110 : 0 ≤ (a1 : Int) := of_decide_eq_true (by first | (with_reducible assumption) | assumption)
                      have q110 : a1 < (l0.length : Int) := of_decide_eq_true (by first | (with_reducible assumption) | assumption)
                      obtain ⟨ad110, e110, hx110_0⟩ := Kd.at_int HR0.out a1 p110 q110
                      cases e110
                      replace p110 := eq_true p110
                      replace q110 := eq_true q110
                      go_wp2
                      go_ret
                      exact ⟨by first | rfl | (simp; done) | (simp [*]; done), by repeat (first | exact Drawn0.refl _ | apply Drawn0.step)⟩
                    · rw [if_neg c29] at H
                      have c29b0 : ((rd l0 a1) == 58) = false := beq_eq_false_iff_ne.mpr c29
                      have c29b1 : ((rd l0 a1) != 58) = true := bne_iff_ne.mpr c29
                      by_cases c30 : (rd l0 a1) = 61
                      · rw [if_pos c30] at H
                        have c30b0 : ((rd l0 a1) == 61) = true := beq_iff_eq.mpr c30
                        have c30b1 : ((rd l0 a1) != 61) = false := bne_eq_false_iff_eq.mpr c30
                        clear c30
                        obtain rfl := Option.some.inj H
                        have p110 : 0 ≤ (a1 : Int) := of_decide_eq_true (by first | (with_reducible assumption) | assumption)
                        have q110 : a1 < (l0.length : Int) := of_decide_eq_true (by first | (with_reducible assumption) | assumption)
                        obtain ⟨ad110, e110, hx110_0⟩ := Kd.at_int HR0.out a1 p110 q110
                        cases e110
                        replace p110 := eq_true p110
                        replace q110 := eq_true q110
                        go_wp2
                        go_ret
                        exact ⟨by first | rfl | (simp; done) | (simp [*]; done), by repeat (first | exact Drawn0.refl _ | apply Drawn0.step)⟩
                      · rw [if_neg c30] at H
                        have c30b0 : ((rd l0 a1) == 61) = false := beq_eq_false_iff_ne.mpr c30
                        have c30b1 : ((rd l0 a1) != 61) = true := bne_iff_ne.mpr c30
                        by_cases c31 : (rd l0 a1) = 59
                        · rw [if_pos c31] at H
                          have c31b0 : ((rd l0 a1) == 59) = true := beq_iff_eq.mpr c31
                          have c31b1 : ((rd l0 a1) != 59) = false := bne_eq_false_iff_eq.mpr c31
                          clear c31
                          obtain rfl := Option.some.inj H
                          have p110 : 0 ≤ (a1 : Int) := of_decide_eq_true (by first | (with_reducible assumption) | assumption)
                          have q110 : a1 < (l0.length : Int) := of_decide_eq_true (by first | (with_reducible assumption) | assumption)
                          obtain ⟨ad110, e110, hx110_0⟩ := Kd.at_int HR0.out a1 p110 q110
                          cases e110
                          replace p110 := eq_true p110
                          replace q110 := eq_true q110
                          go_wp2
                          go_ret
                          exact ⟨by first | rfl | (simp; done) | (simp [*]; done), by repeat (first | exact Drawn0.refl _ | apply Drawn0.step)⟩
                        · rw [if_neg c31] at H
                          have c31b0 : ((rd l0 a1) == 59) = false := beq_eq_false_iff_ne.mpr c31
                          have c31b1 : ((rd l0 a1) != 59) = true := bne_iff_ne.mpr c31
                          by_cases c32 : (rd l0 a1) = 43
                          · rw [if_pos c32] at H
                            have c32b0 : ((rd l0 a1) == 43) = true := beq_iff_eq.mpr c32
                            have c32b1 : ((rd l0 a1) != 43) = false := bne_eq_false_iff_eq.mpr c32
                            clear c32
                            obtain rfl := Option.some.inj H
                            have p110 : 0 ≤ (a1 : Int) := of_decide_eq_true (by first | (with_reducible assumption) | assumption)
                            have q110 : a1 < (l0.length : Int) := of_decide_eq_true (by first | (with_reducible assumption) | assumption)
                            obtain ⟨ad110, e110, hx110_0⟩ := Kd.at_int HR0.out a1 p110 q110
                            cases e110
                            replace p110 := eq_true p110
                            replace q110 := eq_true q110
                            go_wp2
                            go_ret
                            exact ⟨by first | rfl | (simp; done) | (simp [*]; done), by repeat (first | exact Drawn0.refl _ | apply Drawn0.step)⟩
                          · rw [if_neg c32] at H
                            have c32b0 : ((rd l0 a1) == 43) = false := beq_eq_false_iff_ne.mpr c32
                            have c32b1 : ((rd l0 a1) != 43) = true := bne_iff_ne.mpr c32
                            by_cases c33 : (rd l0 a1) = 45
                            · rw [if_pos c33] at H
                              have c33b0 : ((rd l0 a1) == 45) = true := beq_iff_eq.mpr c33
                              have c33b1 : ((rd l0 a1) != 45) = false := bne_eq_false_iff_eq.mpr c33
                              clear c33
                              obtain rfl := Option.some.inj H
                              have p110 : 0 ≤ (a1 : Int) := of_decide_eq_true (by first | (with_reducible assumption) | assumption)
                              have q110 : a1 < (l0.length : Int) := of_decide_eq_true (by first | (with_reducible assumption) | assumption)
                              obtain ⟨ad110, e110, hx110_0⟩ := Kd.at_int HR0.out a1 p110 q110
                              cases e110
                              replace p110 := eq_true p110
                              replace q110 := eq_true q110
                              go_wp2
                              go_ret
                              exact ⟨by first | rfl | (simp; done) | (simp [*]; done), by repeat (first | exact Drawn0.refl _ | apply Drawn0.step)⟩
                            · rw [if_neg c33] at H
                              have c33b0 : ((rd l0 a1) == 45) = false := beq_eq_false_iff_ne.mpr c33
                              have c33b1 : ((rd l0 a1) != 45) = true := bne_iff_ne.mpr c33
                              by_cases c34 : (rd l0 a1) = 42
                              · rw [if_pos c34] at H
                                have c34b0 : ((rd l0 a1) == 42) = true := beq_iff_eq.mpr c34
                                have c34b1 : ((rd l0 a1) != 42) = false := bne_eq_false_iff_eq.mpr c34
                                clear c34
                                obtain rfl := Option.some.inj H
                                have p110 : 0 ≤ (a1 : Int) := of_decide_eq_true (by first | (with_reducible assumption) | assumption)
                                have q110 : a1 < (l0.length : Int) := of_decide_eq_true (by first | (with_reducible assumption) | assumption)
                                obtain ⟨ad110, e110, hx110_0⟩ := Kd.at_int HR0.out a1 p110 q110
                                cases e110
                                replace p110 := eq_true p110
                                replace q110 := eq_true q110
                                go_wp2
                                go_ret
                                exact ⟨by first | rfl | (simp; done) | (simp [*]; done), by repeat (first | exact Drawn0.refl _ | apply Drawn0.step)⟩
                              · rw [if_neg c34] at H
                                have c34b0 : ((rd l0 a1) == 42) = false := beq_eq_false_iff_ne.mpr c34
                                have c34b1 : ((rd l0 a1) != 42) = true := bne_iff_ne.mpr c34
                                by_cases c35 : (rd l0 a1) = 47
                                · rw [if_pos c35] at H
                                  have c35b0 : ((rd l0 a1) == 47) = true := beq_iff_eq.mpr c35
                                  have c35b1 : ((rd l0 a1) != 47) = false := bne_eq_false_iff_eq.mpr c35
                                  clear c35
                                  obtain rfl := Option.some.inj H
                                  have p110 : 0 ≤ (a1 : Int) := of_decide_eq_true (by first | (with_reducible assumption) | assumption)
                                  have q110 : a1 < (l0.length : Int) := of_decide_eq_true (by first | (with_reducible assumption) | assumption)
                                  obtain ⟨ad110, e110, hx110_0⟩ := Kd.at_int HR0.out a1 p110 q110
                                  cases e110
                                  replace p110 := eq_true p110
                                  replace q110 := eq_true q110
                                  go_wp2
                                  go_ret
                                  exact ⟨by first | rfl | (simp; done) | (simp [*]; done), by repeat (first | exact Drawn0.refl _ | apply Drawn0.step)⟩
                                · rw [if_neg c35] at H
                                  have c35b0 : ((rd l0 a1) == 47) = false := beq_eq_false_iff_ne.mpr c35
                                  have c35b1 : ((rd l0 a1) != 47) = true := bne_iff_ne.mpr c35
                                  by_cases c36 : (rd l0 a1) = 37
                                  · rw [if_pos c36] at H
                                    have c36b0 : ((rd l0 a1) == 37) = true := beq_iff_eq.mpr c36
                                    have c36b1 : ((rd l0 a1) != 37) = false := bne_eq_false_iff_eq.mpr c36
                                    clear c36
                                    obtain rfl := Option.some.inj H
                                    have p110 : 0 ≤ (a1 : Int) := of_decide_eq_true (by first | (with_reducible assumption) | assumption)
                                    have q110 : a1 < (l0.length : Int) := of_decide_eq_true (by first | (with_reducible assumption) | assumption)
                                    obtain ⟨ad110, e110, hx110_0⟩ := Kd.at_int HR0.out a1 p110 q110
                                    cases e110
                                    replace p110 := eq_true p110
                                    replace q110 := eq_true q110
                                    go_wp2
                                    go_ret
                                    exact ⟨by first | rfl | (simp; done) | (simp [*]; done), by repeat (first | exact Drawn0.refl _ | apply Drawn0.step)⟩
                                  · rw [if_neg c36] at H
                                    have c36b0 : ((rd l0 a1) == 37) = false := beq_eq_false_iff_ne.mpr c36
                                    have c36b1 : ((rd l0 a1) != 37) = true := bne_iff_ne.mpr c36
                                    by_cases c37 : (rd l0 a1) = 60
                                    · rw [if_pos c37] at H
                                      have c37b0 : ((rd l0 a1) == 60) = true := beq_iff_eq.mpr c37
                                      have c37b1 : ((rd l0 a1) != 60) = false := bne_eq_false_iff_eq.mpr c37
                                      clear c37
                                      obtain rfl := Option.some.inj H
                                      have p110 : 0 ≤ (a1 : Int) := of_decide_eq_true (by first | (with_reducible assumption) | assumption)
                                      have q110 : a1 < (l0.length : Int) := of_decide_eq_true (by first | (with_reducible assumption) | assumption)
                                      obtain ⟨ad110, e110, hx110_0⟩ := Kd.at_int HR0.out a1 p110 q110
                                      cases e110
                                      replace p110 := eq_true p110
                                      replace q110 := eq_true q110
                                      go_wp2
                                      go_ret
                                      exact ⟨by first | rfl | (simp; done) | (simp [*]; done), by repeat (first | exact Drawn0.refl _ | apply Drawn0.step)⟩
                                    · rw [if_neg c37] at H
                                      have c37b0 : ((rd l0 a1) == 60) = false := beq_eq_false_iff_ne.mpr c37
                                      have c37b1 : ((rd l0 a1) != 60) = true := bne_iff_ne.mpr c37
                                      by_cases c38 : (rd l0 a1) = 62
                                      · rw [if_pos c38] at H
                                        have c38b0 : ((rd l0 a1) == 62) = true := beq_iff_eq.mpr c38
                                        have c38b1 : ((rd l0 a1) != 62) = false := bne_eq_false_iff_eq.mpr c38
                                        clear c38
                                        obtain rfl := Option.some.inj H
                                        have p110 : 0 ≤ (a1 : Int) := of_decide_eq_true (by first | (with_reducible assumption) | assumption)
                                        have q110 : a1 < (l0.length : Int) := of_decide_eq_true (by first | (with_reducible assumption) | assumption)
                                        obtain ⟨ad110, e110, hx110_0⟩ := Kd.at_int HR0.out a1 p110 q110
                                        cases e110
                                        replace p110 := eq_true p110
                                        replace q110 := eq_true q110
                                        go_wp2
                                        go_ret
                                        exact ⟨by first | rfl | (simp; done) | (simp [*]; done), by repeat (first | exact Drawn0.refl _ | apply Drawn0.step)⟩
                                      · rw [if_neg c38] at H
                                        have c38b0 : ((rd l0 a1) == 62) = false := beq_eq_false_iff_ne.mpr c38
                                        have c38b1 : ((rd l0 a1) != 62) = true := bne_iff_ne.mpr c38
                                        obtain rfl := Option.some.inj H
                                        have p110 : 0 ≤ (a1 : Int) := of_decide_eq_true (by first | (with_reducible assumption) | assumption)
                                        have q110 : a1 < (l0.length : Int) := of_decide_eq_true (by first | (with_reducible assumption) | assumption)
                                        obtain ⟨ad110, e110, hx110_0⟩ := Kd.at_int HR0.out a1 p110 q110
                                        cases e110
                                        replace p110 := eq_true p110
                                        replace q110 := eq_true q110
                                        go_wp2
                                        go_ret
                                        exact ⟨by first | rfl | (simp; done) | (simp [*]; done), by repeat (first | exact Drawn0.refl _ | apply Drawn0.step)⟩
        · rw [if_neg c23] at H
          exact absurd H (by simp)
      · rw [if_neg c22] at H
        exact absurd H (by simp)

end Go.Proofs.Ytkngkfjjgkfcnaa.QLexBlanks
